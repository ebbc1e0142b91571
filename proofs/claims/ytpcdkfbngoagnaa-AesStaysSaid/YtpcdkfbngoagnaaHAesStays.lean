import Derived.Test.YtpcdkfbngoagnaaHKeysShape
import Derived.Test.YtpcdkfbngoagnaaCx18
namespace Go.Proofs.Ytpcdkfbngoagnaa.C
open Go.RowKit Go.Proofs.YtpcdkfbngoagnaaW.PrintWords Go.Proofs.YtpcdkfbngoagnaaW.PrintLast Go.Proofs.YtpcdkfbngoagnaaW.PrintMore
set_option linter.unusedVariables false
set_option linter.unusedSimpArgs false
theorem str_sizeS (xs : List Int) : (strOfNums xs).size = xs.length := by simp [strOfNums, ByteArray.size]
theorem RowOK.of_st {W : World} {g : Nat} {s : List Int} (h : StAt W g s) (hr : ∀ i, 0 ≤ s.getD i 0 ∧ s.getD i 0 < 256) : ∃ cs : Array Value, W.heap[g]? = some (.cells cs 55 (0, 0)) ∧ ∀ j, j < 16 → ∃ v : Int, cs[j]? = some (.int .u8 v) ∧ 0 ≤ v ∧ v < 256 :=
  ⟨_, h, fun j hj => ⟨_, arrV_get 16 .u8 s j hj, hr j⟩⟩
/-- A state's block that may be written. -/
def StOK (W : World) (g : Nat) : Prop := ∃ s : List Int, StAt W g s ∧ s.length = 16
theorem StOK.kept {W W' : World} {g : Nat} (h : StOK W g) (hk : W'.heap[g]? = W.heap[g]?) : StOK W' g := by
  obtain ⟨s, h1, h2⟩ := h
  exact ⟨s, hk.trans h1, h2⟩
theorem StOK.lt {W : World} {g : Nat} (h : StOK W g) : g < W.heap.size := by
  obtain ⟨s, h1, _⟩ := h
  exact blk_lt h1
theorem StOK.cell {W : World} {g : Nat} (h : StOK W g) (j : Nat) (hj : j < 16) : ∃ v : Int, W.cell? ⟨g, j, none⟩ = some (.int .u8 v) := by
  obtain ⟨s, h1, _⟩ := h
  exact ⟨_, h1.cell j hj⟩
theorem StOK.frozen {W : World} {g : Nat} (h : StOK W g) (j : Nat) : W.frozen? ⟨g, j, none⟩ = false := by
  obtain ⟨s, h1, _⟩ := h
  exact blk_frozen h1 j
theorem StOK.set {W : World} {g : Nat} (h : StOK W g) (i : Nat) (hi : i < 16) (v : Int) : StOK (W.setCell ⟨g, i, none⟩ (.int .u8 v)) g := by
  obtain ⟨s, h1, h2⟩ := h
  exact ⟨_, h1.set i v (by omega), by simp [h2]⟩
/-- The keys' rows behind a store into a state's block. -/
theorem OutOK.setSt {W : World} {base : Nat} {v : Value} {n : Nat} (h : OutOK W base v n) {g : Nat} (hg : StOK W g) (i : Nat) (x : Value) : OutOK (W.setCell ⟨g, i, none⟩ x) base v n := by
  obtain ⟨vs, ho, hl, hv⟩ := h
  obtain ⟨s, hb, _⟩ := hg
  have hne : v.ownBlock = none ∨ v.ownBlock ≠ some g := by
    rcases ho.2 with ⟨rfl, _⟩ | ⟨G, cap, cur, rfl, _, hG, _⟩
    · exact .inl rfl
    · refine .inr fun e => ?_
      obtain rfl : G = g := by simpa [Value.ownBlock] using e
      rw [StAt, hG] at hb
      cases hb
  refine ⟨vs, ho.kept (row := some g) ⟨rfl, rfl, rfl, by simp [World.setCell], fun k _ hk => Below.heap_setCell W _ _ k (fun e => hk (by rw [e]))⟩ hne, hl, fun r hr => ?_⟩
  obtain ⟨g', c, h1', h2, h3, h4⟩ := hv r hr
  refine ⟨g', c, h1', h2, h3, h4.kept (Below.heap_setCell W _ _ g' (fun e => ?_))⟩
  simp only at e
  subst e
  obtain ⟨cs, hc, _⟩ := h4
  rw [StAt, hc] at hb
  cases hb
theorem keys_callS (K : List Int) (hK : K.length = 16) (hb : ∀ x ∈ K, 0 ≤ x ∧ x < 256) (A0 : Option Addr) (c0 : Nat) (W : World) (hr : Kd.C (Kd.int .u8) W A0 K.length K) (hc : K.length ≤ c0) :
    Calls Try.prog 17 #[.slice A0 K.length c0] W fun e w' => ∃ G cap, e = .returned (.tuple #[.slice (some ⟨G, 0, none⟩) 11 cap, .nilIface]) ∧ Aside0 (OutOK w' W.heap.size (.slice (some ⟨G, 0, none⟩) 11 cap) 11) ∧ Below W.heap.size W w' := by
  rw [hK] at hr hc ⊢
  refine (keys_shape A0 c0 K W hr hc hb).mono ?_
  rintro e w' ⟨v, rfl, hO, hB⟩
  have hO' := hO
  obtain ⟨vs, hown, _, _⟩ := hO'
  obtain ⟨G, cap, rfl⟩ := ownsRow_succ (k := 10) hown
  exact ⟨G, cap, rfl, ⟨hO⟩, hB⟩
theorem keys_errS (k : Nat) (K : List Int) (h : aes_Keys.f k K = some ([], some 1)) (A0 : Option Addr) (c0 : Nat) (W : World) (hr : Kd.C (Kd.int .u8) W A0 K.length K) (hc : K.length ≤ c0) :
    Calls Try.prog 17 #[.slice A0 K.length c0] W fun e w' => ∃ A c, e = .returned (.tuple #[.slice A 0 c, .iface 31 (.int .i64 1)]) ∧ Below W.heap.size W w' := by
  refine (aes_Keys.calls k A0 c0 K [] (some 1) W hr hc h).mono ?_
  rintro e w' ⟨v, rfl, hN, hB⟩
  obtain ⟨A, c, rfl⟩ := Kd.N_slice hN
  exact ⟨A, c, rfl, hB⟩

def aesStays.T19 : Bool × List (List Nat × List Nat) := (true, [([], []), ([], []), ([0, 1], [0, 1]), ([2], [2]), ([], []), ([], []), ([], []), ([5, 6], [5, 6]), ([7], [7]), ([], []), ([8, 9], [8, 9]), ([10], [10]), ([11], [11]), ([3, 4, 0, 1, 2, 3, 4, 5, 6, 7, 8, 9, 10, 11, 12], [3, 4]), ([13, 12, 0, 1, 2, 3, 4, 5, 6, 7, 8, 9, 10, 11, 12], [12, 13])])
def aesStays.B19 : List Nat := [0, 0, 3, 7, 0, 0, 0, 96, 224, 0, 992, 2016, 4064, 8191, 16383]
theorem aesStays.tab19 : rtab .any (opsOf Try.f8 19) = aesStays.T19 := by kernel_rfl
theorem aesStays.bits19 : waitsOk aesStays.T19.2 aesStays.B19 = true := by kernel_rfl

theorem Kd.C_nilS (W : World) : Kd.C (Kd.int .u8) W none 0 [] := by
  refine Kd.C_of_reads (enc := Value.int .u8) (d := 0) (h1 := fun _ => rfl) ⟨rfl, by omega, fun h => absurd h (by simp)⟩
theorem decL_lenS (ks : List (List Int)) (s : List Int) (hs : s.length = 16) : (decL ks s).length = 16 := by
  rw [decL, xorS_length]
  exact decR_length ks s hs 10

set_option maxHeartbeats 8000000 in
set_option maxRecDepth 100000 in
theorem aesStays_ok (k : Nat) (K Bl : List Int) (ks : List (List Int)) (hbK : ∀ x ∈ K, 0 ≤ x ∧ x < 256) (A0 A1 : Option Addr) (c0 c1 : Nat) (w : World)
    (hr0 : Kd.C (Kd.int .u8) w A0 K.length K) (hc0 : K.length ≤ c0) (hr1 : Kd.C (Kd.int .u8) w A1 Bl.length Bl) (hc1 : Bl.length ≤ c1) (hn0 : K.length ≤ 140737488351232) (hn1 : Bl.length ≤ 140737488351232)
    (hup : charterlaw03_up.f k = some true) (hks : aes_Keys.f k K = some (ks, none)) (hK : K.length = 16) (hok : okK ks = true) (hBl : Bl.length = 16) :
    Calls Try.prog 8 #[.slice A0 K.length c0, .slice A1 Bl.length c1] w fun e w' => e = .returned (.bool true) ∧ Below w.heap.size w w' := by
  have hl16 : ((K.length : Int) == 16) = true := by simp; omega
  have HR := Aside0.mk (And.intro hr0 (And.intro hc0 (And.intro hr1 hc1)))
  have HN := Aside0.mk (And.intro hn0 hn1)
  have HU := Aside0.mk hup
  have HKS := Aside0.mk hks
  have HbK := Aside0.mk hbK
  have HKl := Aside0.mk hK
  have HOK := Aside0.mk hok
  have HBl := Aside0.mk hBl
  clear hr0 hc0 hr1 hc1 hn0 hn1 hup hks hbK hK hok hBl
  obtain ⟨X, hX⟩ : ∃ X, X = encR ks Bl 10 := ⟨_, rfl⟩
  obtain ⟨Y, hY⟩ : ∃ Y, Y = decL ks Bl := ⟨_, rfl⟩
  have HXY := Aside0.mk (show X = encR ks Bl 10 ∧ Y = decL ks Bl ∧ X.length = 16 ∧ Y.length = 16 from ⟨hX, hY, by rw [hX]; exact encR_length _ _ HBl.out _, by rw [hY]; exact decL_lenS _ _ HBl.out⟩)
  clear hX hY
  obtain ⟨sX, hsX⟩ : ∃ s, s = strOfNums X := ⟨_, rfl⟩
  obtain ⟨sY, hsY⟩ : ∃ s, s = strOfNums Y := ⟨_, rfl⟩
  have hzX : sX.size = 16 := by rw [hsX, str_sizeS]; exact HXY.out.2.2.1
  have hzY : sY.size = 16 := by rw [hsY, str_sizeS]; exact HXY.out.2.2.2
  have hcat1 : ¬ (9223372036854775807 < sX.size + sY.size) := by omega
  have HSS := Aside0.mk (And.intro hsX hsY)
  clear hsX hsY hzX hzY
  obtain ⟨sK, hsK⟩ : ∃ s, s = strOfNums K := ⟨_, rfl⟩
  obtain ⟨sB, hsB⟩ : ∃ s, s = strOfNums Bl := ⟨_, rfl⟩
  have HSK := Aside0.mk (And.intro hsK hsB)
  clear hsK hsB
  have hu28 := Try.underlying28
  have hu31 := Try.underlying31
  go_enter Try.func8, Try.ntmps8
  go_wp2_with fail
  refine (charterlaw03_up.calls k true _ HU.out).mono ?_
  rintro e w1 ⟨rfl, hb⟩
  have HB1 := Aside0.mk hb
  have S1 := Aside0.mk (And.intro (Kd.C_below HR.out.1 hb) (Kd.C_below HR.out.2.2.1 hb))
  clear hb
  go_upto_region 3 with (first
    | ((with_reducible refine gate_dst (N := 24) rfl ?_); refine Kd.R_lit (Kd.int .u8) _ 5 ?hg (N := 24) ?hd (xs := ([] : List Int)) (inner := []) (ok := fun _ => True) (okp := fun _ => True) ?hr ?hp (fun _ hk => hk) trivial (Below.refl _ _) (Nat.le_refl _) (by simp) ?_; (case hd => rfl); (case hg => rfl); (case hr => first | (go_simp; done) | (go_simp; rfl)); (case hp => exact (Reps.none _ _)); intro v3 w3 ho4 hb hg_ hnew_; clear hg_ hnew_; have HL3 := Aside0.mk ho4; have HB3 := Aside0.mk hb; clear hb ho4)
    | ((with_reducible refine gate_builtin (b := .append) (xs := #[.tmp 24, .tmp 25]) rfl ?_); at_builtin; refine Kd.R_append_rows (Kd.int .u8) (w0 := w1) w1.heap.size rfl (.tmp 24) (.tmp 25) 25 5 (.int .u8 0) 1 rfl Try.underlying25 info5 rfl (by decide) (by omega) v3 [] K _ _ _ (fun _ => True) (fun _ => False) rfl rfl ?aO ?aR (fun _ _ h => h) (fun _ h => h.elim) ?aF ?aB ?aS ?aL ?_; (case aR => exact Kd.C_below S1.out.1 HB3.out); (case aB => exact HB3.out); (case aF => exact (fun _ _ => trivial)); (case aO => exact HL3.out); (case aS => exact HB3.out.size); (case aL => have := HN.out.1; simp only [List.length_nil]; omega); intro v4 w4 ho hb hg hat; have HO4 := Aside0.mk (show Kd.R (Kd.int .u8) 5 w4 w1.heap.size (fun _ => True) v4 K from ho); have HB4 := Aside0.mk hb; clear ho hb hg hat))
  clear HL3 HB3
  obtain ⟨kA, kc, rfl⟩ := Kd.R_slice HO4.out
  have S4 := Aside0.mk (And.intro (Kd.C_below S1.out.1 HB4.out) (And.intro (Kd.C_below S1.out.2 HB4.out) (And.intro (below_step HB1.out HB4.out) (Kd.R_reads' HO4.out))))
  clear HO4 HB4 HB1 S1
  go_upto_region 4 with (first
    | ((with_reducible refine gate_dst (N := 27) rfl ?_); refine Kd.R_lit (Kd.int .u8) _ 5 ?hg (N := 27) ?hd (xs := ([] : List Int)) (inner := []) (ok := fun _ => True) (okp := fun _ => True) ?hr ?hp (fun _ hk => hk) trivial (Below.refl _ _) (Nat.le_refl _) (by simp) ?_; (case hd => rfl); (case hg => rfl); (case hr => first | (go_simp; done) | (go_simp; rfl)); (case hp => exact (Reps.none _ _)); intro v3 w3 ho4 hb hg_ hnew_; clear hg_ hnew_; have HL3 := Aside0.mk ho4; have HB3 := Aside0.mk hb; clear hb ho4)
    | ((with_reducible refine gate_builtin (b := .append) (xs := #[.tmp 27, .tmp 28]) rfl ?_); at_builtin; refine Kd.R_append_rows (Kd.int .u8) (w0 := w4) w4.heap.size rfl (.tmp 27) (.tmp 28) 25 5 (.int .u8 0) 1 rfl Try.underlying25 info5 rfl (by decide) (by omega) v3 [] Bl _ _ _ (fun _ => True) (fun _ => False) rfl rfl ?aO ?aR (fun _ _ h => h) (fun _ h => h.elim) ?aF ?aB ?aS ?aL ?_; (case aR => exact Kd.C_below S4.out.2.1 HB3.out); (case aB => exact HB3.out); (case aF => exact (fun _ _ => trivial)); (case aO => exact HL3.out); (case aS => exact HB3.out.size); (case aL => have := HN.out.2; simp only [List.length_nil]; omega); intro v6 w6 ho hb hg hat; have HO6 := Aside0.mk (show Kd.R (Kd.int .u8) 5 w6 w4.heap.size (fun _ => True) v6 Bl from ho); have HB6 := Aside0.mk hb; clear ho hb hg hat))
  clear HL3 HB3
  obtain ⟨bA, bc, rfl⟩ := Kd.R_slice HO6.out
  have S6 := Aside0.mk (And.intro (Kd.C_below S4.out.1 HB6.out) (And.intro (Kd.C_below S4.out.2.1 HB6.out) (And.intro (below_step S4.out.2.2.1 HB6.out) (And.intro (And.intro S4.out.2.2.2.2.1 (Kd.C_below S4.out.2.2.2.2.2 HB6.out)) (Kd.R_reads' HO6.out).2))))
  clear HO6 HB6 S4
  go_wp2_with fail
  refine (encrypt_st k kA kc K bA bc Bl ks w6 S6.out.2.2.2.1.2 S6.out.2.2.2.1.1 S6.out.2.2.2.2.2 S6.out.2.2.2.2.1 HKS.out HBl.out HOK.out).mono ?_
  rintro e w7 ⟨gx, rfl, hgx, hSX, hb7⟩
  rw [← HXY.out.1] at hSX
  have HX7 := Aside0.mk hSX
  have HGX := Aside0.mk hgx
  clear hSX hgx
  have HB7 := Aside0.mk hb7
  clear hb7
  go_wp2_with fail
  refine (decrypt_st k kA kc K bA bc Bl ks w7 (Kd.C_below S6.out.2.2.2.1.2 HB7.out) S6.out.2.2.2.1.1 (Kd.C_below S6.out.2.2.2.2.2 HB7.out) S6.out.2.2.2.2.1 HKS.out HBl.out HOK.out).mono ?_
  rintro e w8 ⟨gy, rfl, hgy, hSY, hb8⟩
  rw [← HXY.out.2.1] at hSY
  have HY8 := Aside0.mk hSY
  have HX8 := Aside0.mk (blk_below HX7.out hb8)
  clear hSY hgy HX7
  have HB8 := Aside0.mk (below_step HB7.out hb8)
  clear hb8 HB7
  go_wp2_with fail
  refine (keys_callS K HKl.out HbK.out kA kc w8 (Kd.C_below S6.out.2.2.2.1.2 HB8.out) S6.out.2.2.2.1.1).mono ?_
  rintro e w9 ⟨G, cap, rfl, HL9, hb9⟩
  have HB9 := Aside0.mk (below_step HB8.out hb9)
  have HW8 := Aside0.mk HB8.out.size
  have HX9 := Aside0.mk (show StAt w9 gx X from blk_below HX8.out hb9)
  have HY9 := Aside0.mk (show StAt w9 gy Y from blk_below HY8.out hb9)
  clear HX8 HY8
  clear hb9 HB8
  have hsk := Kd.C_string (P := Try.prog) (c := kc) Try.underlying25 Try.underlying5 Try.underlying9 (Kd.C_below S6.out.2.2.2.1.2 HB9.out)
  have hsk0 := Kd.C_string (P := Try.prog) (c := c0) Try.underlying25 Try.underlying5 Try.underlying9 (Kd.C_below S6.out.1 HB9.out)
  have hsb := Kd.C_string (P := Try.prog) (c := bc) Try.underlying25 Try.underlying5 Try.underlying9 (Kd.C_below S6.out.2.2.2.2.2 HB9.out)
  have hsb0 := Kd.C_string (P := Try.prog) (c := c1) Try.underlying25 Try.underlying5 Try.underlying9 (Kd.C_below S6.out.2.1 HB9.out)
  rw [← HSK.out.1] at hsk hsk0
  rw [← HSK.out.2] at hsb hsb0
  have hsx := Kd.C_string (P := Try.prog) (n := 16) (c := 16) Try.underlying25 Try.underlying5 Try.underlying9 (show Kd.C (Kd.int .u8) w9 (some ⟨gx, 0, none⟩) 16 X by have h := StAt.C (W := w9) (g := gx) (s := X) HX9.out HXY.out.2.2.1; rw [HXY.out.2.2.1] at h; exact h)
  have hsy := Kd.C_string (P := Try.prog) (n := 16) (c := 16) Try.underlying25 Try.underlying5 Try.underlying9 (show Kd.C (Kd.int .u8) w9 (some ⟨gy, 0, none⟩) 16 Y by have h := StAt.C (W := w9) (g := gy) (s := Y) HY9.out HXY.out.2.2.2; rw [HXY.out.2.2.2] at h; exact h)
  rw [← HSS.out.1] at hsx
  rw [← HSS.out.2] at hsy
  go_wp2_with fail
  clear hsk hsk0 hsb hsb0 hsx hsy
  go_loopw [16] (fun i wr => ∃ q : Nat, q ≤ 16 ∧ i = .int .i64 q ∧ Aside0 (StOK wr gx) ∧ Aside0 (OutOK wr w8.heap.size (.slice (some ⟨G, 0, none⟩) 11 cap) 11) ∧ Aside0 (Below w6.heap.size w6 wr)) (fun i _ => 16 - (intOf i).toNat)
  case atStart => exact ⟨0, by omega, rfl, ⟨⟨X, HX9.out, HXY.out.2.2.1⟩⟩, HL9, HB9⟩
  case round =>
    clear HB9 HX9 HY9 HL9
    obtain ⟨q, hq, rfl, HX, HO, HBr⟩ := hrel
    by_cases hq16 : q < 16
    · have hq16' : ((q : Int) < 16) = True := eq_true (by omega)
      have hq0' : (0 ≤ (q : Int)) = True := eq_true (by omega)
      obtain ⟨vv, hvv⟩ := HX.out.cell q hq16
      have hfv := HX.out.frozen q
      go_wp2_with fail
      go_roundw
      case measure => simp [intOf]; omega
      case rel => exact ⟨q + 1, by omega, by go_num, ⟨HX.out.set q hq16 _⟩, ⟨HO.out.setSt HX.out q _⟩, ⟨below_set_ HBr.out HGX.out _ _⟩⟩
    · obtain rfl : q = 16 := by omega
      clear hq16 hq HX
      go_wp2_with fail
      go_loopw [17] (fun i wr => ∃ r : Nat, r ≤ 11 ∧ i = .int .i64 r ∧ Aside0 (OutOK wr w8.heap.size (.slice (some ⟨G, 0, none⟩) 11 cap) 11) ∧ Aside0 (Below w6.heap.size w6 wr)) (fun i _ => 11 - (intOf i).toNat)
      case atStart => exact ⟨0, by omega, rfl, HO, HBr⟩
      case round =>
        clear HBr HO
        obtain ⟨r, hr, rfl, HO, HBr⟩ := hrel
        by_cases hr11 : r < 11
        · have hr11' : ((r : Int) < 11) = True := eq_true (by omega)
          have hr0' : (0 ≤ (r : Int)) = True := eq_true (by omega)
          go_wp2_with fail
          go_loopw [18] (fun i wr => ∃ q : Nat, q ≤ 16 ∧ i = .int .i64 q ∧ Aside0 (OutOK wr w8.heap.size (.slice (some ⟨G, 0, none⟩) 11 cap) 11) ∧ Aside0 (Below w6.heap.size w6 wr)) (fun i _ => 16 - (intOf i).toNat)
          case atStart => exact ⟨0, by omega, rfl, HO, HBr⟩
          case round =>
            clear HBr HO
            obtain ⟨q, hq, rfl, HO, HBr⟩ := hrel
            obtain ⟨vs, hown, hvl, hvs⟩ := HO.out
            obtain ⟨g, c, hg1, hg2, hg3, hg4⟩ := hvs r (by omega)
            have hcell := hown.cells (g := G) rfl r _ hg1
            rw [add_plain] at hcell
            have HRG := Aside0.mk hg4
            have HG3 := Aside0.mk hg3
            clear hown hvl hvs hg1 hg2 hg3 hg4
            by_cases hq16 : q < 16
            · have hq16' : ((q : Int) < 16) = True := eq_true (by omega)
              have hq0' : (0 ≤ (q : Int)) = True := eq_true (by omega)
              obtain ⟨vv, hvv, hvv2⟩ := HRG.out.cell q hq16
              clear hvv2
              go_wp2_with fail
              refine start_ (n := 15) (S := fun w' => w'.cell? ⟨G, r, none⟩ = some (.slice (some ⟨g, 0, none⟩) 16 c) ∧ w'.cell? ⟨g, q, none⟩ = some (.int .u8 vv)) (ds := [14]) #[false, false, false, false, false, false, false, false, false, false, false, false, false, false, false] (by kernel_rfl) rfl rfl ⟨hcell, hvv⟩ (fun hHeld => ?_); refine with_tabW aesStays.tab19 aesStays.bits19 (fun HT_ HW_ => ?_)
              obtain ⟨wd, hwd⟩ : ∃ wd, wd = wr.drew := ⟨_, rfl⟩
              rw [← hwd] at hHeld ⊢
              have HO := Aside0.mk (show OutOK wd w8.heap.size (.slice (some ⟨G, 0, none⟩) 11 cap) 11 by rw [hwd]; exact HO.out.drew)
              have HRG := Aside0.mk (show RowOK wd g by rw [hwd]; exact HRG.out.kept rfl)
              have HBr := Aside0.mk (show Below w6.heap.size w6 wd by rw [hwd]; exact HBr.out.drew)
              clear hwd
              obtain ⟨vz, hvz, hvz2⟩ := HRG.out.cell q hq16
              have hfz := HRG.out.frozen q
              clear hvz2
              refine pure_ (i := 0) (N := some 93) (v := ?_) (a' := ?_) #[true, false, false, false, false, false, false, false, false, false, false, false, false, false, false] rfl rfl (any_of HT_.out (by kernel_rfl)) (fun _ _ _ h => h) (Or.inl ⟨by rfl, ?_⟩) ?_ ?_
              rotate_left
              · intro w'
                go_simp
                with_reducible rfl
              rotate_left
              · simp only [Act.put, List.setIfInBounds_toArray, List.set_cons_zero, List.set_cons_succ, i64_w, i32_w]
                rfl
              refine pure_ (i := 1) (N := some 94) (v := ?_) (a' := ?_) #[true, true, false, false, false, false, false, false, false, false, false, false, false, false, false] rfl rfl (any_of HT_.out (by kernel_rfl)) (fun _ _ _ h => h) (Or.inl ⟨by rfl, ?_⟩) ?_ ?_
              rotate_left
              · intro w'
                go_simp
                with_reducible rfl
              rotate_left
              · simp only [Act.put, List.setIfInBounds_toArray, List.set_cons_zero, List.set_cons_succ, i64_w, i32_w]
                rfl
              refine pure_ (i := 2) (N := some 95) (v := ?_) (a' := ?_) #[true, true, true, false, false, false, false, false, false, false, false, false, false, false, false] rfl rfl (any_of HT_.out (by kernel_rfl)) (fun _ _ _ h => h) (Or.inl ⟨by rfl, ?_⟩) ?_ ?_
              rotate_left
              · intro w'
                go_simp
                with_reducible rfl
              rotate_left
              · simp only [Act.put, List.setIfInBounds_toArray, List.set_cons_zero, List.set_cons_succ, i64_w, i32_w]
                rfl
              refine pure_ (i := 4) (N := some 97) (v := ?_) (a' := ?_) #[true, true, true, false, true, false, false, false, false, false, false, false, false, false, false] rfl rfl (any_of HT_.out (by kernel_rfl)) (fun _ _ _ h => h) (Or.inl ⟨by rfl, ?_⟩) ?_ ?_
              rotate_left
              · intro w'
                go_simp
                with_reducible rfl
              rotate_left
              · simp only [Act.put, List.setIfInBounds_toArray, List.set_cons_zero, List.set_cons_succ, i64_w, i32_w]
                rfl
              refine pure_ (i := 5) (N := some 98) (v := ?_) (a' := ?_) #[true, true, true, false, true, true, false, false, false, false, false, false, false, false, false] rfl rfl (any_of HT_.out (by kernel_rfl)) (fun _ _ _ h => h) (Or.inl ⟨by rfl, ?_⟩) ?_ ?_
              rotate_left
              · intro w'
                go_simp
                with_reducible rfl
              rotate_left
              · simp only [Act.put, List.setIfInBounds_toArray, List.set_cons_zero, List.set_cons_succ, i64_w, i32_w]
                rfl
              refine pure_ (i := 6) (N := some 99) (v := ?_) (a' := ?_) #[true, true, true, false, true, true, true, false, false, false, false, false, false, false, false] rfl rfl (any_of HT_.out (by kernel_rfl)) (fun _ _ _ h => h) (Or.inl ⟨by rfl, ?_⟩) ?_ ?_
              rotate_left
              · intro w'
                go_simp
                with_reducible rfl
              rotate_left
              · simp only [Act.put, List.setIfInBounds_toArray, List.set_cons_zero, List.set_cons_succ, i64_w, i32_w]
                rfl
              refine pure_ (i := 7) (N := some 100) (v := ?_) (a' := ?_) #[true, true, true, false, true, true, true, true, false, false, false, false, false, false, false] rfl rfl (any_of HT_.out (by kernel_rfl)) (fun _ _ _ h => h) (Or.inl ⟨by rfl, ?_⟩) ?_ ?_
              rotate_left
              · intro w'
                go_simp
                with_reducible rfl
              rotate_left
              · simp only [Act.put, List.setIfInBounds_toArray, List.set_cons_zero, List.set_cons_succ, i64_w, i32_w]
                rfl
              refine pure_ (i := 9) (N := some 102) (v := ?_) (a' := ?_) #[true, true, true, false, true, true, true, true, false, true, false, false, false, false, false] rfl rfl (any_of HT_.out (by kernel_rfl)) (fun _ _ _ h => h) (Or.inl ⟨by rfl, ?_⟩) ?_ ?_
              rotate_left
              · intro w'
                go_simp
                with_reducible rfl
              rotate_left
              · simp only [Act.put, List.setIfInBounds_toArray, List.set_cons_zero, List.set_cons_succ, i64_w, i32_w]
                rfl
              refine take_ (i := 3) (N := some 96) (v := ?_) (a' := ?_) #[true, true, true, true, true, true, true, true, false, true, false, false, false, false, false] rfl rfl (take_ofW HT_.out HW_.out (by kernel_rfl)) (fun _ _ _ h => h) (Or.inl ⟨by rfl, ?_⟩) hHeld ?_ ?_
              rotate_left
              · rintro w' ⟨s0, s1⟩
                go_simp
                with_reducible rfl
              rotate_left
              · simp only [Act.put, List.setIfInBounds_toArray, List.set_cons_zero, List.set_cons_succ, i64_w, i32_w]
                rfl
              refine take_ (i := 8) (N := some 101) (v := ?_) (a' := ?_) #[true, true, true, true, true, true, true, true, true, true, false, false, false, false, false] rfl rfl (take_ofW HT_.out HW_.out (by kernel_rfl)) (fun _ _ _ h => h) (Or.inl ⟨by rfl, ?_⟩) hHeld ?_ ?_
              rotate_left
              · rintro w' ⟨s0, s1⟩
                go_simp
                with_reducible rfl
              rotate_left
              · simp only [Act.put, List.setIfInBounds_toArray, List.set_cons_zero, List.set_cons_succ, i64_w, i32_w]
                rfl
              refine pure_ (i := 10) (N := some 103) (v := ?_) (a' := ?_) #[true, true, true, true, true, true, true, true, true, true, true, false, false, false, false] rfl rfl (any_of HT_.out (by kernel_rfl)) (fun _ _ _ h => h) (Or.inl ⟨by rfl, ?_⟩) ?_ ?_
              rotate_left
              · intro w'
                go_simp
                with_reducible rfl
              rotate_left
              · simp only [Act.put, List.setIfInBounds_toArray, List.set_cons_zero, List.set_cons_succ, i64_w, i32_w]
                rfl
              refine take_ (i := 11) (N := some 104) (v := ?_) (a' := ?_) #[true, true, true, true, true, true, true, true, true, true, true, true, false, false, false] rfl rfl (take_ofW HT_.out HW_.out (by kernel_rfl)) (fun _ _ _ h => h) (Or.inl ⟨by rfl, ?_⟩) hHeld ?_ ?_
              rotate_left
              · rintro w' ⟨s0, s1⟩
                go_simp
                with_reducible rfl
              rotate_left
              · simp only [Act.put, List.setIfInBounds_toArray, List.set_cons_zero, List.set_cons_succ, i64_w, i32_w]
                rfl
              refine pure_ (i := 12) (N := some 105) (v := ?_) (a' := ?_) #[true, true, true, true, true, true, true, true, true, true, true, true, true, false, false] rfl rfl (any_of HT_.out (by kernel_rfl)) (fun _ _ _ h => h) (Or.inl ⟨by rfl, ?_⟩) ?_ ?_
              rotate_left
              · intro w'
                go_simp
                with_reducible rfl
              rotate_left
              · simp only [Act.put, List.setIfInBounds_toArray, List.set_cons_zero, List.set_cons_succ, i64_w, i32_w]
                rfl
              refine pure_ (i := 13) (N := some 106) (v := ?_) (a' := ?_) #[true, true, true, true, true, true, true, true, true, true, true, true, true, true, false] rfl rfl (any_of HT_.out (by kernel_rfl)) (fun _ _ _ h => h) (Or.inl ⟨by rfl, ?_⟩) ?_ ?_
              rotate_left
              · intro w'
                go_simp
                with_reducible rfl
              rotate_left
              · simp only [Act.put, List.setIfInBounds_toArray, List.set_cons_zero, List.set_cons_succ, i64_w, i32_w]
                rfl
              refine last_ (i := 14) (N := none) #[true, true, true, true, true, true, true, true, true, true, true, true, true, true, true] rfl rfl (one_of HT_.out (by kernel_rfl)) (by decide) (fun K hK => ?_)
              refine skip_ (w1 := ?_) (by rfl) rfl ?_ ?_
              rotate_left
              · go_simp
                rfl
              refine hK.out _ _ ?_
              clear hK K
              refine done_ (done_of HT_.out (by kernel_rfl)) ?_
              try go_wp2
              go_roundw
              case measure => simp [intOf]; omega
              case rel => exact ⟨q + 1, by omega, by go_num, ⟨HO.out.set HRG.out q _ (by omega) (by omega)⟩, ⟨below_set_ HBr.out (Nat.le_trans HW8.out HG3.out) _ _⟩⟩
            · obtain rfl : q = 16 := by omega
              clear hq16 hq HRG HG3
              go_wp2_with fail
              go_roundw
              case measure => simp [intOf]; omega
              case rel => exact ⟨r + 1, by omega, by go_num, HO, HBr⟩
        · obtain rfl : r = 11 := by omega
          clear hr11 hr HO
          go_wp2_with fail
          have S9 := Aside0.mk (And.intro (Kd.C_below S6.out.1 HBr.out) (And.intro (Kd.C_below S6.out.2.1 HBr.out) (And.intro (below_step S6.out.2.2.1 HBr.out) (Kd.C_below S6.out.2.2.2.1.2 HBr.out))))
          clear HBr
          refine (encrypt_st k A0 c0 K A1 c1 Bl ks _ S9.out.1 HR.out.2.1 S9.out.2.1 HR.out.2.2.2 HKS.out HBl.out HOK.out).mono ?_
          rintro e w10 ⟨gu, rfl, hgu, hSU, hb10⟩
          rw [← HXY.out.1] at hSU
          have HU10 := Aside0.mk hSU
          clear hSU hgu
          have S10 := Aside0.mk (And.intro (Kd.C_below S9.out.1 hb10) (And.intro (Kd.C_below S9.out.2.1 hb10) (And.intro (below_step S9.out.2.2.1 hb10) (Kd.C_below S9.out.2.2.2 hb10))))
          clear hb10 S9
          go_wp2_with fail
          refine (decrypt_st k A0 c0 K A1 c1 Bl ks _ S10.out.1 HR.out.2.1 S10.out.2.1 HR.out.2.2.2 HKS.out HBl.out HOK.out).mono ?_
          rintro e w11 ⟨gv, rfl, hgv, hSV, hb11⟩
          rw [← HXY.out.2.1] at hSV
          have HV11 := Aside0.mk hSV
          have HU11 := Aside0.mk (show StAt w11 gu X from blk_below HU10.out hb11)
          clear hSV hgv HU10
          have S11 := Aside0.mk (And.intro (Kd.C_below S10.out.1 hb11) (And.intro (below_step S10.out.2.2.1 hb11) (Kd.C_below S10.out.2.2.2 hb11)))
          clear hb11 S10
          go_wp2_with fail
          have hsk := fun (n_ : Nat) => Kd.C_string (P := Try.prog) (c := kc) Try.underlying25 Try.underlying5 Try.underlying9 (Kd.C_drewN S11.out.2.2 n_)
          have hsk0 := fun (n_ : Nat) => Kd.C_string (P := Try.prog) (c := c0) Try.underlying25 Try.underlying5 Try.underlying9 (Kd.C_drewN S11.out.1 n_)
          rw [← HSK.out.1] at hsk hsk0
          have hsx := fun (n_ : Nat) => Kd.C_string (P := Try.prog) (n := 16) (c := 16) Try.underlying25 Try.underlying5 Try.underlying9 (show Kd.C (Kd.int .u8) (w11.drewN n_) (some ⟨gu, 0, none⟩) 16 X by have h := StAt.C (W := w11) (g := gu) (s := X) HU11.out HXY.out.2.2.1; rw [HXY.out.2.2.1] at h; exact Kd.C_drewN h n_)
          have hsy := fun (n_ : Nat) => Kd.C_string (P := Try.prog) (n := 16) (c := 16) Try.underlying25 Try.underlying5 Try.underlying9 (show Kd.C (Kd.int .u8) (w11.drewN n_) (some ⟨gv, 0, none⟩) 16 Y by have h := StAt.C (W := w11) (g := gv) (s := Y) HV11.out HXY.out.2.2.2; rw [HXY.out.2.2.2] at h; exact Kd.C_drewN h n_)
          rw [← HSS.out.1] at hsx
          rw [← HSS.out.2] at hsy
          refine wp_region_quiet_lit (by kernel_rfl) (by kernel_rfl) ?_
          repeat (quiet_step (fail))
          refine wpQuiet_nil ?_
          intro _ hw'
          obtain ⟨nq, hw''⟩ := hw'
          subst hw''
          go_wp2
          go_ret
          exact ⟨by first | rfl | simp, pw_below_drewN S11.out.2.1 nq⟩
set_option maxHeartbeats 8000000 in
set_option maxRecDepth 100000 in
theorem aesStays_mid (k : Nat) (K Bl : List Int) (ks : List (List Int)) (hbK : ∀ x ∈ K, 0 ≤ x ∧ x < 256) (A0 A1 : Option Addr) (c0 c1 : Nat) (w : World)
    (hr0 : Kd.C (Kd.int .u8) w A0 K.length K) (hc0 : K.length ≤ c0) (hr1 : Kd.C (Kd.int .u8) w A1 Bl.length Bl) (hc1 : Bl.length ≤ c1) (hn0 : K.length ≤ 140737488351232) (hn1 : Bl.length ≤ 140737488351232)
    (hup : charterlaw03_up.f k = some true) (hks : aes_Keys.f k K = some (ks, none)) (hK : K.length = 16) (hBl : Bl.length ≠ 16) :
    Calls Try.prog 8 #[.slice A0 K.length c0, .slice A1 Bl.length c1] w fun e w' => e = .returned (.bool true) ∧ Below w.heap.size w w' := by
  have hl16 : ((K.length : Int) == 16) = true := by simp; omega
  have HR := Aside0.mk (And.intro hr0 (And.intro hc0 (And.intro hr1 hc1)))
  have HN := Aside0.mk (And.intro hn0 hn1)
  have HU := Aside0.mk hup
  have HKS := Aside0.mk hks
  have HbK := Aside0.mk hbK
  have HKl := Aside0.mk hK
  have HBl := Aside0.mk hBl
  clear hr0 hc0 hr1 hc1 hn0 hn1 hup hks hbK hK hBl
  obtain ⟨sK, hsK⟩ : ∃ s, s = strOfNums K := ⟨_, rfl⟩
  obtain ⟨sB, hsB⟩ : ∃ s, s = strOfNums Bl := ⟨_, rfl⟩
  have HSK := Aside0.mk (And.intro hsK hsB)
  clear hsK hsB
  have hu28 := Try.underlying28
  have hu31 := Try.underlying31
  go_enter Try.func8, Try.ntmps8
  go_wp2_with fail
  refine (charterlaw03_up.calls k true _ HU.out).mono ?_
  rintro e w1 ⟨rfl, hb⟩
  have HB1 := Aside0.mk hb
  have S1 := Aside0.mk (And.intro (Kd.C_below HR.out.1 hb) (Kd.C_below HR.out.2.2.1 hb))
  clear hb
  go_upto_region 3 with (first
    | ((with_reducible refine gate_dst (N := 24) rfl ?_); refine Kd.R_lit (Kd.int .u8) _ 5 ?hg (N := 24) ?hd (xs := ([] : List Int)) (inner := []) (ok := fun _ => True) (okp := fun _ => True) ?hr ?hp (fun _ hk => hk) trivial (Below.refl _ _) (Nat.le_refl _) (by simp) ?_; (case hd => rfl); (case hg => rfl); (case hr => first | (go_simp; done) | (go_simp; rfl)); (case hp => exact (Reps.none _ _)); intro v3 w3 ho4 hb hg_ hnew_; clear hg_ hnew_; have HL3 := Aside0.mk ho4; have HB3 := Aside0.mk hb; clear hb ho4)
    | ((with_reducible refine gate_builtin (b := .append) (xs := #[.tmp 24, .tmp 25]) rfl ?_); at_builtin; refine Kd.R_append_rows (Kd.int .u8) (w0 := w1) w1.heap.size rfl (.tmp 24) (.tmp 25) 25 5 (.int .u8 0) 1 rfl Try.underlying25 info5 rfl (by decide) (by omega) v3 [] K _ _ _ (fun _ => True) (fun _ => False) rfl rfl ?aO ?aR (fun _ _ h => h) (fun _ h => h.elim) ?aF ?aB ?aS ?aL ?_; (case aR => exact Kd.C_below S1.out.1 HB3.out); (case aB => exact HB3.out); (case aF => exact (fun _ _ => trivial)); (case aO => exact HL3.out); (case aS => exact HB3.out.size); (case aL => have := HN.out.1; simp only [List.length_nil]; omega); intro v4 w4 ho hb hg hat; have HO4 := Aside0.mk (show Kd.R (Kd.int .u8) 5 w4 w1.heap.size (fun _ => True) v4 K from ho); have HB4 := Aside0.mk hb; clear ho hb hg hat))
  clear HL3 HB3
  obtain ⟨kA, kc, rfl⟩ := Kd.R_slice HO4.out
  have S4 := Aside0.mk (And.intro (Kd.C_below S1.out.1 HB4.out) (And.intro (Kd.C_below S1.out.2 HB4.out) (And.intro (below_step HB1.out HB4.out) (Kd.R_reads' HO4.out))))
  clear HO4 HB4 HB1 S1
  go_upto_region 4 with (first
    | ((with_reducible refine gate_dst (N := 27) rfl ?_); refine Kd.R_lit (Kd.int .u8) _ 5 ?hg (N := 27) ?hd (xs := ([] : List Int)) (inner := []) (ok := fun _ => True) (okp := fun _ => True) ?hr ?hp (fun _ hk => hk) trivial (Below.refl _ _) (Nat.le_refl _) (by simp) ?_; (case hd => rfl); (case hg => rfl); (case hr => first | (go_simp; done) | (go_simp; rfl)); (case hp => exact (Reps.none _ _)); intro v3 w3 ho4 hb hg_ hnew_; clear hg_ hnew_; have HL3 := Aside0.mk ho4; have HB3 := Aside0.mk hb; clear hb ho4)
    | ((with_reducible refine gate_builtin (b := .append) (xs := #[.tmp 27, .tmp 28]) rfl ?_); at_builtin; refine Kd.R_append_rows (Kd.int .u8) (w0 := w4) w4.heap.size rfl (.tmp 27) (.tmp 28) 25 5 (.int .u8 0) 1 rfl Try.underlying25 info5 rfl (by decide) (by omega) v3 [] Bl _ _ _ (fun _ => True) (fun _ => False) rfl rfl ?aO ?aR (fun _ _ h => h) (fun _ h => h.elim) ?aF ?aB ?aS ?aL ?_; (case aR => exact Kd.C_below S4.out.2.1 HB3.out); (case aB => exact HB3.out); (case aF => exact (fun _ _ => trivial)); (case aO => exact HL3.out); (case aS => exact HB3.out.size); (case aL => have := HN.out.2; simp only [List.length_nil]; omega); intro v6 w6 ho hb hg hat; have HO6 := Aside0.mk (show Kd.R (Kd.int .u8) 5 w6 w4.heap.size (fun _ => True) v6 Bl from ho); have HB6 := Aside0.mk hb; clear ho hb hg hat))
  clear HL3 HB3
  obtain ⟨bA, bc, rfl⟩ := Kd.R_slice HO6.out
  have S6 := Aside0.mk (And.intro (Kd.C_below S4.out.1 HB6.out) (And.intro (Kd.C_below S4.out.2.1 HB6.out) (And.intro (below_step S4.out.2.2.1 HB6.out) (And.intro (And.intro S4.out.2.2.2.2.1 (Kd.C_below S4.out.2.2.2.2.2 HB6.out)) (Kd.R_reads' HO6.out).2))))
  clear HO6 HB6 S4
  go_wp2_with fail
  refine (encrypt_err k kA kc K bA bc Bl ks none w6 S6.out.2.2.2.1.2 S6.out.2.2.2.1.1 HKS.out (fun _ => HBl.out)).mono ?_
  rintro e w7 ⟨rfl, hb7⟩
  have HB7 := Aside0.mk hb7
  clear hb7
  go_wp2_with fail
  refine (decrypt_err k kA kc K bA bc Bl ks none w7 (Kd.C_below S6.out.2.2.2.1.2 HB7.out) S6.out.2.2.2.1.1 HKS.out (fun _ => HBl.out)).mono ?_
  rintro e w8 ⟨rfl, hb8⟩
  have HB8 := Aside0.mk (below_step HB7.out hb8)
  clear hb8 HB7
  go_wp2_with fail
  refine (keys_callS K HKl.out HbK.out kA kc w8 (Kd.C_below S6.out.2.2.2.1.2 HB8.out) S6.out.2.2.2.1.1).mono ?_
  rintro e w9 ⟨G, cap, rfl, HL9, hb9⟩
  have HB9 := Aside0.mk (below_step HB8.out hb9)
  have HW8 := Aside0.mk HB8.out.size
  clear hb9 HB8
  have hsk := Kd.C_string (P := Try.prog) (c := kc) Try.underlying25 Try.underlying5 Try.underlying9 (Kd.C_below S6.out.2.2.2.1.2 HB9.out)
  have hsk0 := Kd.C_string (P := Try.prog) (c := c0) Try.underlying25 Try.underlying5 Try.underlying9 (Kd.C_below S6.out.1 HB9.out)
  have hsb := Kd.C_string (P := Try.prog) (c := bc) Try.underlying25 Try.underlying5 Try.underlying9 (Kd.C_below S6.out.2.2.2.2.2 HB9.out)
  have hsb0 := Kd.C_string (P := Try.prog) (c := c1) Try.underlying25 Try.underlying5 Try.underlying9 (Kd.C_below S6.out.2.1 HB9.out)
  rw [← HSK.out.1] at hsk hsk0
  rw [← HSK.out.2] at hsb hsb0
  have hsn := Kd.C_string (P := Try.prog) (w := w9) (A := none) (n := 0) (c := 0) (xs := []) Try.underlying25 Try.underlying5 Try.underlying9 (Kd.C_nilS w9)
  rw [show strOfNums [] = (⟨#[]⟩ : ByteArray) from by rfl] at hsn
  go_wp2_with fail
  clear hsk hsk0 hsb hsb0 hsn
  go_loopw [16] (fun i wr => ∃ q : Nat, q ≤ 0 ∧ i = .int .i64 q ∧ Aside0 (OutOK wr w8.heap.size (.slice (some ⟨G, 0, none⟩) 11 cap) 11) ∧ Aside0 (Below w6.heap.size w6 wr)) (fun i _ => 0 - (intOf i).toNat)
  case atStart => exact ⟨0, by omega, rfl, HL9, HB9⟩
  case round =>
    clear HB9 HL9
    obtain ⟨q, hq, rfl, HO, HBr⟩ := hrel
    obtain rfl : q = 0 := by omega
    clear hq
    go_wp2_with fail
    go_loopw [17] (fun i wr => ∃ r : Nat, r ≤ 11 ∧ i = .int .i64 r ∧ Aside0 (OutOK wr w8.heap.size (.slice (some ⟨G, 0, none⟩) 11 cap) 11) ∧ Aside0 (Below w6.heap.size w6 wr)) (fun i _ => 11 - (intOf i).toNat)
    case atStart => exact ⟨0, by omega, rfl, HO, HBr⟩
    case round =>
      clear HBr HO
      obtain ⟨r, hr, rfl, HO, HBr⟩ := hrel
      by_cases hr11 : r < 11
      · have hr11' : ((r : Int) < 11) = True := eq_true (by omega)
        have hr0' : (0 ≤ (r : Int)) = True := eq_true (by omega)
        go_wp2_with fail
        go_loopw [18] (fun i wr => ∃ q : Nat, q ≤ 16 ∧ i = .int .i64 q ∧ Aside0 (OutOK wr w8.heap.size (.slice (some ⟨G, 0, none⟩) 11 cap) 11) ∧ Aside0 (Below w6.heap.size w6 wr)) (fun i _ => 16 - (intOf i).toNat)
        case atStart => exact ⟨0, by omega, rfl, HO, HBr⟩
        case round =>
          clear HBr HO
          obtain ⟨q, hq, rfl, HO, HBr⟩ := hrel
          obtain ⟨vs, hown, hvl, hvs⟩ := HO.out
          obtain ⟨g, c, hg1, hg2, hg3, hg4⟩ := hvs r (by omega)
          have hcell := hown.cells (g := G) rfl r _ hg1
          rw [add_plain] at hcell
          have HRG := Aside0.mk hg4
          have HG3 := Aside0.mk hg3
          clear hown hvl hvs hg1 hg2 hg3 hg4
          by_cases hq16 : q < 16
          · have hq16' : ((q : Int) < 16) = True := eq_true (by omega)
            have hq0' : (0 ≤ (q : Int)) = True := eq_true (by omega)
            obtain ⟨vv, hvv, hvv2⟩ := HRG.out.cell q hq16
            clear hvv2
            go_wp2_with fail
            refine start_ (n := 15) (S := fun w' => w'.cell? ⟨G, r, none⟩ = some (.slice (some ⟨g, 0, none⟩) 16 c) ∧ w'.cell? ⟨g, q, none⟩ = some (.int .u8 vv)) (ds := [14]) #[false, false, false, false, false, false, false, false, false, false, false, false, false, false, false] (by kernel_rfl) rfl rfl ⟨hcell, hvv⟩ (fun hHeld => ?_); refine with_tabW aesStays.tab19 aesStays.bits19 (fun HT_ HW_ => ?_)
            obtain ⟨wd, hwd⟩ : ∃ wd, wd = wr.drew := ⟨_, rfl⟩
            rw [← hwd] at hHeld ⊢
            have HO := Aside0.mk (show OutOK wd w8.heap.size (.slice (some ⟨G, 0, none⟩) 11 cap) 11 by rw [hwd]; exact HO.out.drew)
            have HRG := Aside0.mk (show RowOK wd g by rw [hwd]; exact HRG.out.kept rfl)
            have HBr := Aside0.mk (show Below w6.heap.size w6 wd by rw [hwd]; exact HBr.out.drew)
            clear hwd
            obtain ⟨vz, hvz, hvz2⟩ := HRG.out.cell q hq16
            have hfz := HRG.out.frozen q
            clear hvz2
            refine pure_ (i := 0) (N := some 93) (v := ?_) (a' := ?_) #[true, false, false, false, false, false, false, false, false, false, false, false, false, false, false] rfl rfl (any_of HT_.out (by kernel_rfl)) (fun _ _ _ h => h) (Or.inl ⟨by rfl, ?_⟩) ?_ ?_
            rotate_left
            · intro w'
              go_simp
              with_reducible rfl
            rotate_left
            · simp only [Act.put, List.setIfInBounds_toArray, List.set_cons_zero, List.set_cons_succ, i64_w, i32_w]
              rfl
            refine pure_ (i := 1) (N := some 94) (v := ?_) (a' := ?_) #[true, true, false, false, false, false, false, false, false, false, false, false, false, false, false] rfl rfl (any_of HT_.out (by kernel_rfl)) (fun _ _ _ h => h) (Or.inl ⟨by rfl, ?_⟩) ?_ ?_
            rotate_left
            · intro w'
              go_simp
              with_reducible rfl
            rotate_left
            · simp only [Act.put, List.setIfInBounds_toArray, List.set_cons_zero, List.set_cons_succ, i64_w, i32_w]
              rfl
            refine pure_ (i := 2) (N := some 95) (v := ?_) (a' := ?_) #[true, true, true, false, false, false, false, false, false, false, false, false, false, false, false] rfl rfl (any_of HT_.out (by kernel_rfl)) (fun _ _ _ h => h) (Or.inl ⟨by rfl, ?_⟩) ?_ ?_
            rotate_left
            · intro w'
              go_simp
              with_reducible rfl
            rotate_left
            · simp only [Act.put, List.setIfInBounds_toArray, List.set_cons_zero, List.set_cons_succ, i64_w, i32_w]
              rfl
            refine pure_ (i := 4) (N := some 97) (v := ?_) (a' := ?_) #[true, true, true, false, true, false, false, false, false, false, false, false, false, false, false] rfl rfl (any_of HT_.out (by kernel_rfl)) (fun _ _ _ h => h) (Or.inl ⟨by rfl, ?_⟩) ?_ ?_
            rotate_left
            · intro w'
              go_simp
              with_reducible rfl
            rotate_left
            · simp only [Act.put, List.setIfInBounds_toArray, List.set_cons_zero, List.set_cons_succ, i64_w, i32_w]
              rfl
            refine pure_ (i := 5) (N := some 98) (v := ?_) (a' := ?_) #[true, true, true, false, true, true, false, false, false, false, false, false, false, false, false] rfl rfl (any_of HT_.out (by kernel_rfl)) (fun _ _ _ h => h) (Or.inl ⟨by rfl, ?_⟩) ?_ ?_
            rotate_left
            · intro w'
              go_simp
              with_reducible rfl
            rotate_left
            · simp only [Act.put, List.setIfInBounds_toArray, List.set_cons_zero, List.set_cons_succ, i64_w, i32_w]
              rfl
            refine pure_ (i := 6) (N := some 99) (v := ?_) (a' := ?_) #[true, true, true, false, true, true, true, false, false, false, false, false, false, false, false] rfl rfl (any_of HT_.out (by kernel_rfl)) (fun _ _ _ h => h) (Or.inl ⟨by rfl, ?_⟩) ?_ ?_
            rotate_left
            · intro w'
              go_simp
              with_reducible rfl
            rotate_left
            · simp only [Act.put, List.setIfInBounds_toArray, List.set_cons_zero, List.set_cons_succ, i64_w, i32_w]
              rfl
            refine pure_ (i := 7) (N := some 100) (v := ?_) (a' := ?_) #[true, true, true, false, true, true, true, true, false, false, false, false, false, false, false] rfl rfl (any_of HT_.out (by kernel_rfl)) (fun _ _ _ h => h) (Or.inl ⟨by rfl, ?_⟩) ?_ ?_
            rotate_left
            · intro w'
              go_simp
              with_reducible rfl
            rotate_left
            · simp only [Act.put, List.setIfInBounds_toArray, List.set_cons_zero, List.set_cons_succ, i64_w, i32_w]
              rfl
            refine pure_ (i := 9) (N := some 102) (v := ?_) (a' := ?_) #[true, true, true, false, true, true, true, true, false, true, false, false, false, false, false] rfl rfl (any_of HT_.out (by kernel_rfl)) (fun _ _ _ h => h) (Or.inl ⟨by rfl, ?_⟩) ?_ ?_
            rotate_left
            · intro w'
              go_simp
              with_reducible rfl
            rotate_left
            · simp only [Act.put, List.setIfInBounds_toArray, List.set_cons_zero, List.set_cons_succ, i64_w, i32_w]
              rfl
            refine take_ (i := 3) (N := some 96) (v := ?_) (a' := ?_) #[true, true, true, true, true, true, true, true, false, true, false, false, false, false, false] rfl rfl (take_ofW HT_.out HW_.out (by kernel_rfl)) (fun _ _ _ h => h) (Or.inl ⟨by rfl, ?_⟩) hHeld ?_ ?_
            rotate_left
            · rintro w' ⟨s0, s1⟩
              go_simp
              with_reducible rfl
            rotate_left
            · simp only [Act.put, List.setIfInBounds_toArray, List.set_cons_zero, List.set_cons_succ, i64_w, i32_w]
              rfl
            refine take_ (i := 8) (N := some 101) (v := ?_) (a' := ?_) #[true, true, true, true, true, true, true, true, true, true, false, false, false, false, false] rfl rfl (take_ofW HT_.out HW_.out (by kernel_rfl)) (fun _ _ _ h => h) (Or.inl ⟨by rfl, ?_⟩) hHeld ?_ ?_
            rotate_left
            · rintro w' ⟨s0, s1⟩
              go_simp
              with_reducible rfl
            rotate_left
            · simp only [Act.put, List.setIfInBounds_toArray, List.set_cons_zero, List.set_cons_succ, i64_w, i32_w]
              rfl
            refine pure_ (i := 10) (N := some 103) (v := ?_) (a' := ?_) #[true, true, true, true, true, true, true, true, true, true, true, false, false, false, false] rfl rfl (any_of HT_.out (by kernel_rfl)) (fun _ _ _ h => h) (Or.inl ⟨by rfl, ?_⟩) ?_ ?_
            rotate_left
            · intro w'
              go_simp
              with_reducible rfl
            rotate_left
            · simp only [Act.put, List.setIfInBounds_toArray, List.set_cons_zero, List.set_cons_succ, i64_w, i32_w]
              rfl
            refine take_ (i := 11) (N := some 104) (v := ?_) (a' := ?_) #[true, true, true, true, true, true, true, true, true, true, true, true, false, false, false] rfl rfl (take_ofW HT_.out HW_.out (by kernel_rfl)) (fun _ _ _ h => h) (Or.inl ⟨by rfl, ?_⟩) hHeld ?_ ?_
            rotate_left
            · rintro w' ⟨s0, s1⟩
              go_simp
              with_reducible rfl
            rotate_left
            · simp only [Act.put, List.setIfInBounds_toArray, List.set_cons_zero, List.set_cons_succ, i64_w, i32_w]
              rfl
            refine pure_ (i := 12) (N := some 105) (v := ?_) (a' := ?_) #[true, true, true, true, true, true, true, true, true, true, true, true, true, false, false] rfl rfl (any_of HT_.out (by kernel_rfl)) (fun _ _ _ h => h) (Or.inl ⟨by rfl, ?_⟩) ?_ ?_
            rotate_left
            · intro w'
              go_simp
              with_reducible rfl
            rotate_left
            · simp only [Act.put, List.setIfInBounds_toArray, List.set_cons_zero, List.set_cons_succ, i64_w, i32_w]
              rfl
            refine pure_ (i := 13) (N := some 106) (v := ?_) (a' := ?_) #[true, true, true, true, true, true, true, true, true, true, true, true, true, true, false] rfl rfl (any_of HT_.out (by kernel_rfl)) (fun _ _ _ h => h) (Or.inl ⟨by rfl, ?_⟩) ?_ ?_
            rotate_left
            · intro w'
              go_simp
              with_reducible rfl
            rotate_left
            · simp only [Act.put, List.setIfInBounds_toArray, List.set_cons_zero, List.set_cons_succ, i64_w, i32_w]
              rfl
            refine last_ (i := 14) (N := none) #[true, true, true, true, true, true, true, true, true, true, true, true, true, true, true] rfl rfl (one_of HT_.out (by kernel_rfl)) (by decide) (fun K hK => ?_)
            refine skip_ (w1 := ?_) (by rfl) rfl ?_ ?_
            rotate_left
            · go_simp
              rfl
            refine hK.out _ _ ?_
            clear hK K
            refine done_ (done_of HT_.out (by kernel_rfl)) ?_
            try go_wp2
            go_roundw
            case measure => simp [intOf]; omega
            case rel => exact ⟨q + 1, by omega, by go_num, ⟨HO.out.set HRG.out q _ (by omega) (by omega)⟩, ⟨below_set_ HBr.out (Nat.le_trans HW8.out HG3.out) _ _⟩⟩
          · obtain rfl : q = 16 := by omega
            clear hq16 hq HRG HG3
            go_wp2_with fail
            go_roundw
            case measure => simp [intOf]; omega
            case rel => exact ⟨r + 1, by omega, by go_num, HO, HBr⟩
      · obtain rfl : r = 11 := by omega
        clear hr11 hr HO
        go_wp2_with fail
        have S9 := Aside0.mk (And.intro (Kd.C_below S6.out.1 HBr.out) (And.intro (Kd.C_below S6.out.2.1 HBr.out) (And.intro (below_step S6.out.2.2.1 HBr.out) (Kd.C_below S6.out.2.2.2.1.2 HBr.out))))
        clear HBr
        refine (encrypt_err k A0 c0 K A1 c1 Bl ks none _ S9.out.1 HR.out.2.1 HKS.out (fun _ => HBl.out)).mono ?_
        rintro e w10 ⟨rfl, hb10⟩
        have S10 := Aside0.mk (And.intro (Kd.C_below S9.out.1 hb10) (And.intro (Kd.C_below S9.out.2.1 hb10) (And.intro (below_step S9.out.2.2.1 hb10) (Kd.C_below S9.out.2.2.2 hb10))))
        clear hb10 S9
        go_wp2_with fail
        refine (decrypt_err k A0 c0 K A1 c1 Bl ks none _ S10.out.1 HR.out.2.1 HKS.out (fun _ => HBl.out)).mono ?_
        rintro e w11 ⟨rfl, hb11⟩
        have S11 := Aside0.mk (And.intro (Kd.C_below S10.out.1 hb11) (And.intro (below_step S10.out.2.2.1 hb11) (Kd.C_below S10.out.2.2.2 hb11)))
        clear hb11 S10
        go_wp2_with fail
        have hsk := fun (n_ : Nat) => Kd.C_string (P := Try.prog) (c := kc) Try.underlying25 Try.underlying5 Try.underlying9 (Kd.C_drewN S11.out.2.2 n_)
        have hsk0 := fun (n_ : Nat) => Kd.C_string (P := Try.prog) (c := c0) Try.underlying25 Try.underlying5 Try.underlying9 (Kd.C_drewN S11.out.1 n_)
        rw [← HSK.out.1] at hsk hsk0
        have hsn := fun (n_ : Nat) => Kd.C_string (P := Try.prog) (w := w11.drewN n_) (A := none) (n := 0) (c := 0) (xs := []) Try.underlying25 Try.underlying5 Try.underlying9 (Kd.C_nilS _)
        rw [show strOfNums [] = (⟨#[]⟩ : ByteArray) from by rfl] at hsn
        refine wp_region_quiet_lit (by kernel_rfl) (by kernel_rfl) ?_
        repeat (quiet_step (fail))
        refine wpQuiet_nil ?_
        intro _ hw'
        obtain ⟨nq, hw''⟩ := hw'
        subst hw''
        go_wp2
        go_ret
        exact ⟨by first | rfl | simp, pw_below_drewN S11.out.2.1 nq⟩
set_option maxHeartbeats 8000000 in
set_option maxRecDepth 100000 in
theorem aesStays_err (k : Nat) (K Bl : List Int) (ks : List (List Int)) (hbK : ∀ x ∈ K, 0 ≤ x ∧ x < 256) (A0 A1 : Option Addr) (c0 c1 : Nat) (w : World)
    (hr0 : Kd.C (Kd.int .u8) w A0 K.length K) (hc0 : K.length ≤ c0) (hr1 : Kd.C (Kd.int .u8) w A1 Bl.length Bl) (hc1 : Bl.length ≤ c1) (hn0 : K.length ≤ 140737488351232) (hn1 : Bl.length ≤ 140737488351232)
    (hup : charterlaw03_up.f k = some true) (hks : aes_Keys.f k K = some ([], some 1)) (hK : K.length ≠ 16) :
    Calls Try.prog 8 #[.slice A0 K.length c0, .slice A1 Bl.length c1] w fun e w' => e = .returned (.bool true) ∧ Below w.heap.size w w' := by
  have hl16 : ((K.length : Int) == 16) = false := by simp; omega
  have HR := Aside0.mk (And.intro hr0 (And.intro hc0 (And.intro hr1 hc1)))
  have HN := Aside0.mk (And.intro hn0 hn1)
  have HU := Aside0.mk hup
  have HKS := Aside0.mk hks
  have HbK := Aside0.mk hbK
  have HKl := Aside0.mk hK
  clear hr0 hc0 hr1 hc1 hn0 hn1 hup hks hbK hK
  obtain ⟨sK, hsK⟩ : ∃ s, s = strOfNums K := ⟨_, rfl⟩
  obtain ⟨sB, hsB⟩ : ∃ s, s = strOfNums Bl := ⟨_, rfl⟩
  have HSK := Aside0.mk (And.intro hsK hsB)
  clear hsK hsB
  have hu28 := Try.underlying28
  have hu31 := Try.underlying31
  go_enter Try.func8, Try.ntmps8
  go_wp2_with fail
  refine (charterlaw03_up.calls k true _ HU.out).mono ?_
  rintro e w1 ⟨rfl, hb⟩
  have HB1 := Aside0.mk hb
  have S1 := Aside0.mk (And.intro (Kd.C_below HR.out.1 hb) (Kd.C_below HR.out.2.2.1 hb))
  clear hb
  go_upto_region 3 with (first
    | ((with_reducible refine gate_dst (N := 24) rfl ?_); refine Kd.R_lit (Kd.int .u8) _ 5 ?hg (N := 24) ?hd (xs := ([] : List Int)) (inner := []) (ok := fun _ => True) (okp := fun _ => True) ?hr ?hp (fun _ hk => hk) trivial (Below.refl _ _) (Nat.le_refl _) (by simp) ?_; (case hd => rfl); (case hg => rfl); (case hr => first | (go_simp; done) | (go_simp; rfl)); (case hp => exact (Reps.none _ _)); intro v3 w3 ho4 hb hg_ hnew_; clear hg_ hnew_; have HL3 := Aside0.mk ho4; have HB3 := Aside0.mk hb; clear hb ho4)
    | ((with_reducible refine gate_builtin (b := .append) (xs := #[.tmp 24, .tmp 25]) rfl ?_); at_builtin; refine Kd.R_append_rows (Kd.int .u8) (w0 := w1) w1.heap.size rfl (.tmp 24) (.tmp 25) 25 5 (.int .u8 0) 1 rfl Try.underlying25 info5 rfl (by decide) (by omega) v3 [] K _ _ _ (fun _ => True) (fun _ => False) rfl rfl ?aO ?aR (fun _ _ h => h) (fun _ h => h.elim) ?aF ?aB ?aS ?aL ?_; (case aR => exact Kd.C_below S1.out.1 HB3.out); (case aB => exact HB3.out); (case aF => exact (fun _ _ => trivial)); (case aO => exact HL3.out); (case aS => exact HB3.out.size); (case aL => have := HN.out.1; simp only [List.length_nil]; omega); intro v4 w4 ho hb hg hat; have HO4 := Aside0.mk (show Kd.R (Kd.int .u8) 5 w4 w1.heap.size (fun _ => True) v4 K from ho); have HB4 := Aside0.mk hb; clear ho hb hg hat))
  clear HL3 HB3
  obtain ⟨kA, kc, rfl⟩ := Kd.R_slice HO4.out
  have S4 := Aside0.mk (And.intro (Kd.C_below S1.out.1 HB4.out) (And.intro (Kd.C_below S1.out.2 HB4.out) (And.intro (below_step HB1.out HB4.out) (Kd.R_reads' HO4.out))))
  clear HO4 HB4 HB1 S1
  go_upto_region 4 with (first
    | ((with_reducible refine gate_dst (N := 27) rfl ?_); refine Kd.R_lit (Kd.int .u8) _ 5 ?hg (N := 27) ?hd (xs := ([] : List Int)) (inner := []) (ok := fun _ => True) (okp := fun _ => True) ?hr ?hp (fun _ hk => hk) trivial (Below.refl _ _) (Nat.le_refl _) (by simp) ?_; (case hd => rfl); (case hg => rfl); (case hr => first | (go_simp; done) | (go_simp; rfl)); (case hp => exact (Reps.none _ _)); intro v3 w3 ho4 hb hg_ hnew_; clear hg_ hnew_; have HL3 := Aside0.mk ho4; have HB3 := Aside0.mk hb; clear hb ho4)
    | ((with_reducible refine gate_builtin (b := .append) (xs := #[.tmp 27, .tmp 28]) rfl ?_); at_builtin; refine Kd.R_append_rows (Kd.int .u8) (w0 := w4) w4.heap.size rfl (.tmp 27) (.tmp 28) 25 5 (.int .u8 0) 1 rfl Try.underlying25 info5 rfl (by decide) (by omega) v3 [] Bl _ _ _ (fun _ => True) (fun _ => False) rfl rfl ?aO ?aR (fun _ _ h => h) (fun _ h => h.elim) ?aF ?aB ?aS ?aL ?_; (case aR => exact Kd.C_below S4.out.2.1 HB3.out); (case aB => exact HB3.out); (case aF => exact (fun _ _ => trivial)); (case aO => exact HL3.out); (case aS => exact HB3.out.size); (case aL => have := HN.out.2; simp only [List.length_nil]; omega); intro v6 w6 ho hb hg hat; have HO6 := Aside0.mk (show Kd.R (Kd.int .u8) 5 w6 w4.heap.size (fun _ => True) v6 Bl from ho); have HB6 := Aside0.mk hb; clear ho hb hg hat))
  clear HL3 HB3
  obtain ⟨bA, bc, rfl⟩ := Kd.R_slice HO6.out
  have S6 := Aside0.mk (And.intro (Kd.C_below S4.out.1 HB6.out) (And.intro (Kd.C_below S4.out.2.1 HB6.out) (And.intro (below_step S4.out.2.2.1 HB6.out) (And.intro (And.intro S4.out.2.2.2.2.1 (Kd.C_below S4.out.2.2.2.2.2 HB6.out)) (Kd.R_reads' HO6.out).2))))
  clear HO6 HB6 S4
  go_wp2_with fail
  refine (encrypt_err k kA kc K bA bc Bl [] (some 1) w6 S6.out.2.2.2.1.2 S6.out.2.2.2.1.1 HKS.out (fun h => by cases h)).mono ?_
  rintro e w7 ⟨rfl, hb7⟩
  have HB7 := Aside0.mk hb7
  clear hb7
  go_wp2_with fail
  refine (decrypt_err k kA kc K bA bc Bl [] (some 1) w7 (Kd.C_below S6.out.2.2.2.1.2 HB7.out) S6.out.2.2.2.1.1 HKS.out (fun h => by cases h)).mono ?_
  rintro e w8 ⟨rfl, hb8⟩
  have HB8 := Aside0.mk (below_step HB7.out hb8)
  clear hb8 HB7
  go_wp2_with fail
  refine (keys_errS k K HKS.out kA kc w8 (Kd.C_below S6.out.2.2.2.1.2 HB8.out) S6.out.2.2.2.1.1).mono ?_
  rintro e w9 ⟨G, cap, rfl, hb9⟩
  have HB9 := Aside0.mk (below_step HB8.out hb9)
  have HW8 := Aside0.mk HB8.out.size
  clear hb9 HB8
  have hsk := Kd.C_string (P := Try.prog) (c := kc) Try.underlying25 Try.underlying5 Try.underlying9 (Kd.C_below S6.out.2.2.2.1.2 HB9.out)
  have hsk0 := Kd.C_string (P := Try.prog) (c := c0) Try.underlying25 Try.underlying5 Try.underlying9 (Kd.C_below S6.out.1 HB9.out)
  have hsb := Kd.C_string (P := Try.prog) (c := bc) Try.underlying25 Try.underlying5 Try.underlying9 (Kd.C_below S6.out.2.2.2.2.2 HB9.out)
  have hsb0 := Kd.C_string (P := Try.prog) (c := c1) Try.underlying25 Try.underlying5 Try.underlying9 (Kd.C_below S6.out.2.1 HB9.out)
  rw [← HSK.out.1] at hsk hsk0
  rw [← HSK.out.2] at hsb hsb0
  have hsn := Kd.C_string (P := Try.prog) (w := w9) (A := none) (n := 0) (c := 0) (xs := []) Try.underlying25 Try.underlying5 Try.underlying9 (Kd.C_nilS w9)
  rw [show strOfNums [] = (⟨#[]⟩ : ByteArray) from by rfl] at hsn
  go_wp2_with fail
  clear hsk hsk0 hsb hsb0 hsn
  go_loopw [16] (fun i wr => ∃ q : Nat, q ≤ 0 ∧ i = .int .i64 q ∧ Aside0 (Below w6.heap.size w6 wr)) (fun i _ => 0 - (intOf i).toNat)
  case atStart => exact ⟨0, by omega, rfl, HB9⟩
  case round =>
    clear HB9
    obtain ⟨q, hq, rfl, HBr⟩ := hrel
    obtain rfl : q = 0 := by omega
    clear hq
    go_wp2_with fail
    go_loopw [17] (fun i wr => ∃ r : Nat, r ≤ 0 ∧ i = .int .i64 r ∧ Aside0 (Below w6.heap.size w6 wr)) (fun i _ => 0 - (intOf i).toNat)
    case atStart => exact ⟨0, by omega, rfl, HBr⟩
    case round =>
      clear HBr
      obtain ⟨r, hr, rfl, HBr⟩ := hrel
      obtain rfl : r = 0 := by omega
      clear hr
      go_wp2_with fail
      have S9 := Aside0.mk (And.intro (Kd.C_below S6.out.1 HBr.out) (And.intro (Kd.C_below S6.out.2.1 HBr.out) (And.intro (below_step S6.out.2.2.1 HBr.out) (Kd.C_below S6.out.2.2.2.1.2 HBr.out))))
      clear HBr
      refine (encrypt_err k A0 c0 K A1 c1 Bl [] (some 1) _ S9.out.1 HR.out.2.1 HKS.out (fun h => by cases h)).mono ?_
      rintro e w10 ⟨rfl, hb10⟩
      have S10 := Aside0.mk (And.intro (Kd.C_below S9.out.1 hb10) (And.intro (Kd.C_below S9.out.2.1 hb10) (And.intro (below_step S9.out.2.2.1 hb10) (Kd.C_below S9.out.2.2.2 hb10))))
      clear hb10 S9
      go_wp2_with fail
      refine (decrypt_err k A0 c0 K A1 c1 Bl [] (some 1) _ S10.out.1 HR.out.2.1 HKS.out (fun h => by cases h)).mono ?_
      rintro e w11 ⟨rfl, hb11⟩
      have S11 := Aside0.mk (And.intro (Kd.C_below S10.out.1 hb11) (And.intro (below_step S10.out.2.2.1 hb11) (Kd.C_below S10.out.2.2.2 hb11)))
      clear hb11 S10
      go_wp2_with fail
      have hsk := fun (n_ : Nat) => Kd.C_string (P := Try.prog) (c := kc) Try.underlying25 Try.underlying5 Try.underlying9 (Kd.C_drewN S11.out.2.2 n_)
      have hsk0 := fun (n_ : Nat) => Kd.C_string (P := Try.prog) (c := c0) Try.underlying25 Try.underlying5 Try.underlying9 (Kd.C_drewN S11.out.1 n_)
      rw [← HSK.out.1] at hsk hsk0
      have hsn := fun (n_ : Nat) => Kd.C_string (P := Try.prog) (w := w11.drewN n_) (A := none) (n := 0) (c := 0) (xs := []) Try.underlying25 Try.underlying5 Try.underlying9 (Kd.C_nilS _)
      rw [show strOfNums [] = (⟨#[]⟩ : ByteArray) from by rfl] at hsn
      refine wp_region_quiet_lit (by kernel_rfl) (by kernel_rfl) ?_
      repeat (quiet_step (fail))
      refine wpQuiet_nil ?_
      intro _ hw'
      obtain ⟨nq, hw''⟩ := hw'
      subst hw''
      go_wp2
      go_ret
      exact ⟨by first | rfl | simp, pw_below_drewN S11.out.2.1 nq⟩
end Go.Proofs.Ytpcdkfbngoagnaa.C
