import Derived.Test.YtpcdkfbngoagnaaHKeys
namespace Go.Proofs.Ytpcdkfbngoagnaa.C
open Go.RowKit Go.Proofs.YtpcdkfbngoagnaaW.PrintWords Go.Proofs.YtpcdkfbngoagnaaW.PrintLast Go.Proofs.YtpcdkfbngoagnaaW.PrintMore
set_option linter.unusedVariables false
set_option linter.unusedSimpArgs false
/-- The keys' rows: the call's own, each of sixteen bytes, each to be written. -/
def OutOK (W : World) (base : Nat) (v : Value) (n : Nat) : Prop := ∃ vs : List Value, W.ownsRow base 25 1 v n vs ∧ vs.length = n ∧ ∀ r, r < n → ∃ g c, vs[r]? = some (.slice (some ⟨g, 0, none⟩) 16 c) ∧ 16 ≤ c ∧ base ≤ g ∧ RowOK W g
theorem OutOK.below {W W' : World} {base : Nat} {v : Value} {n : Nat} (h : OutOK W base v n) (hb : Below W.heap.size W W') : OutOK W' base v n := by
  obtain ⟨vs, ho, hl, hv⟩ := h
  refine ⟨vs, pw_own_below ho hb, hl, fun r hr => ?_⟩
  obtain ⟨g, c, h1, h2, h3, h4⟩ := hv r hr
  exact ⟨g, c, h1, h2, h3, h4.kept (hb.block g h4.lt)⟩
theorem OutOK.drew {W : World} {base : Nat} {v : Value} {n : Nat} (h : OutOK W base v n) : OutOK W.drew base v n := h.below ((Below.refl _ W).drew)
theorem OutOK.set {W : World} {base : Nat} {v : Value} {n : Nat} (h : OutOK W base v n) {g : Nat} (hg : RowOK W g) (i : Nat) (x : Int) (h0 : 0 ≤ x) (h1 : x < 256) : OutOK (W.setCell ⟨g, i, none⟩ (.int .u8 x)) base v n := by
  obtain ⟨vs, ho, hl, hv⟩ := h
  obtain ⟨cs, hb, _⟩ := hg
  have hne : v.ownBlock = none ∨ v.ownBlock ≠ some g := by
    rcases ho.2 with ⟨rfl, _⟩ | ⟨G, cap, cur, rfl, _, hG, _⟩
    · exact .inl rfl
    · refine .inr fun e => ?_
      obtain rfl : G = g := by simpa [Value.ownBlock] using e
      rw [hG] at hb
      cases hb
  refine ⟨vs, ho.kept (row := some g) ⟨rfl, rfl, rfl, by simp [World.setCell], fun k _ hk => Below.heap_setCell W _ _ k (fun e => hk (by rw [e]))⟩ hne, hl, fun r hr => ?_⟩
  obtain ⟨g', c, h1', h2, h3, h4⟩ := hv r hr
  exact ⟨g', c, h1', h2, h3, h4.set g i x h0 h1⟩
theorem below_set_ {w W : World} {B g : Nat} (h : Below B w W) (hg : B ≤ g) (i : Nat) (v : Value) : Below B w (W.setCell ⟨g, i, none⟩ v) := h.setCell (p := ⟨g, i, none⟩) hg v
theorem ownsRow_base {W : World} {base e size G n m cap : Nat} {xs : List Value} (h : W.ownsRow base e size (.slice (some ⟨G, 0, none⟩) n cap) m xs) : base ≤ G := by
  rcases h.2 with ⟨h0, _⟩ | ⟨G', cap', cur, h0, hb, _⟩
  · cases h0
  · injection h0 with h0 _ _
    injection h0 with h0
    injection h0 with h0 _ _
    subst h0
    exact hb
theorem OutOK.append {W W2 : World} {base G j cap g2 d2 : Nat} {v : Value} (vs : List Value) (hvl : vs.length = j + 1) (hvs : ∀ r, r < j + 1 → ∃ g c, vs[r]? = some (.slice (some ⟨g, 0, none⟩) 16 c) ∧ 16 ≤ c ∧ base ≤ g ∧ RowOK W g) (hown : W.ownsRow base 25 1 (.slice (some ⟨G, 0, none⟩) (j + 1) cap) (j + 1) vs) (hk : RowOK W g2) (hd : 16 ≤ d2) (hg2 : base ≤ g2)
    (hown2 : W2.ownsRow base 25 1 v (j + 1 + 1) (vs ++ [.slice (some ⟨g2, 0, none⟩) 16 d2])) (hgr : W.grownBy W2 (some G)) : OutOK W2 base v (j + 1 + 1) := by
  have hne : ∀ g, RowOK W g → g ≠ G := by
    intro g ⟨cs, hb, _⟩ e
    subst e
    rcases hown.2 with ⟨h0, _⟩ | ⟨G', cap', cur, h0, _, hG, _⟩
    · cases h0
    · injection h0 with h0 _ _
      injection h0 with h0
      injection h0 with h0 _ _
      subst h0
      rw [hG] at hb
      cases hb
  have hkp : ∀ g, RowOK W g → RowOK W2 g := fun g h => h.kept (hgr.block g h.lt (fun e => hne g h (Option.some.inj e)))
  refine ⟨_, hown2, by simp [hvl], fun r hr => ?_⟩
  by_cases hr2 : r < j + 1
  · obtain ⟨g, c, h1, h2, h3, h4⟩ := hvs r hr2
    exact ⟨g, c, by rw [List.getElem?_append_left (by omega)]; exact h1, h2, h3, hkp g h4⟩
  · obtain rfl : r = j + 1 := by omega
    exact ⟨g2, d2, by rw [List.getElem?_append_right (by omega), hvl]; simp, hd, hg2, hkp g2 hk⟩
set_option maxHeartbeats 8000000 in
set_option maxRecDepth 100000 in
theorem keys_shape (A0 : Option Addr) (c0 : Nat) (l0 : List Int) (w : World) (hr0 : Kd.C (Kd.int .u8) w A0 16 l0) (hc0 : 16 ≤ c0) (hb0 : ∀ x ∈ l0, 0 ≤ x ∧ x < 256) :
    Calls Try.prog 17 #[.slice A0 16 c0] w fun e w' => ∃ v, e = .returned (.tuple #[v, .nilIface]) ∧ OutOK w' w.heap.size v 11 ∧ Below w.heap.size w w' := by
  have hl0 : l0.length = 16 := hr0.1
  have hcl := slices_Clone_byte_byte.calls A0 c0 l0 l0 w (by rw [hl0]; exact hr0) (by rw [hl0]; exact hc0) (by unfold slices_Clone_byte_byte.f; rw [if_pos (by omega)])
  rw [hl0] at hcl
  have HL := Aside0.mk (And.intro hl0 hb0)
  clear hl0 hb0 hr0 hc0
  go_enter Try.func17, Try.ntmps17
  go_wp2_with fail
  refine hcl.mono ?_
  rintro e w1 ⟨v1, rfl, hR1, hb1⟩
  obtain ⟨g1, d1, rfl, hd1, hg1, hk1⟩ := RowOK.of_R hR1 HL.out.1 HL.out.2
  have H1 := Aside0.mk (And.intro hd1 (And.intro hg1 (And.intro hk1 hb1)))
  clear hcl hR1 hd1 hg1 hk1 hb1
  go_wp2_with fail
  have HO1 := Aside0.mk (show OutOK (w1.alloc (.cells #[.slice (some ⟨g1, 0, none⟩) 16 d1] 25)) w.heap.size (.slice (some ⟨w1.heap.size, 0, none⟩) 1 1) 1 from by
    have h := World.ownsRow_lit (base := w.heap.size) (e := 25) (size := 1) w1 #[Value.slice (some ⟨g1, 0, none⟩) 16 d1] 1 H1.out.2.2.2.size (by decide) (by simp)
    refine ⟨_, h, by simp, fun r hr => ?_⟩
    obtain rfl : r = 0 := by omega
    exact ⟨g1, d1, by simp, H1.out.1, H1.out.2.1, H1.out.2.2.1.kept (Below.heap_alloc _ _ _ H1.out.2.2.1.lt)⟩)
  have HB1 := Aside0.mk (H1.out.2.2.2.alloc H1.out.2.2.2.size (.cells #[.slice (some ⟨g1, 0, none⟩) 16 d1] 25))
  go_loopw [16, 4, 5] (fun i o nb wr => ∃ (j : Nat) (x : Int), j ≤ 10 ∧ i = .int .i64 j ∧ nb = .int .u8 x ∧ Aside0 (OutOK wr w.heap.size o (j + 1)) ∧ Aside0 (Below w.heap.size w wr)) (fun i _ _ _ => 10 - (intOf i).toNat)
  case atStart => exact ⟨0, 1, by omega, rfl, rfl, HO1, HB1⟩
  case round =>
    obtain ⟨j, x, hj, rfl, rfl, HO, HB⟩ := hrel
    obtain ⟨vs, hown, hvl, hvs⟩ := HO.out
    obtain ⟨G, cap, rfl⟩ := ownsRow_succ hown
    by_cases hlt : j < 10
    · obtain ⟨g, c, hg1, hg2, hg3, hg4⟩ := hvs j (by omega)
      have hcell := hown.cells (g := G) rfl j _ hg1
      rw [add_plain] at hcell
      have hlt' : (j : Int) < 10 := by omega
      have hj10 : j < 10 := hlt
      have hjlt : (j : Int) < (j : Int) + 1 := by omega
      obtain ⟨lr, hlr, hbr, hCr⟩ := hg4.read
      have hcl := slices_Clone_byte_byte.calls (some ⟨g, 0, none⟩) c lr lr wr (by rw [hlr]; exact hCr) (by rw [hlr]; exact hg2) (by unfold slices_Clone_byte_byte.f; rw [if_pos (by omega)])
      rw [hlr] at hcl
      have HCL := Aside0.mk hcl
      have HLR := Aside0.mk (And.intro hlr hbr)
      have HR := Aside0.mk (And.intro hg2 (And.intro hg3 hg4))
      clear hcl hlr hbr hCr hg1 hg2 hg3 hg4 hvs hvl hown
      go_wp2_with fail
      refine HCL.out.mono ?_
      rintro e w2 ⟨v2, rfl, hR2, hb2⟩
      obtain ⟨g2, d2, rfl, hd2, hg2, hk2⟩ := RowOK.of_R hR2 HLR.out.1 HLR.out.2
      have HO2 := Aside0.mk (HO.out.below hb2)
      have HB2 := Aside0.mk (below_step HB.out hb2)
      have HK2 := Aside0.mk hk2
      have HG2 := Aside0.mk (And.intro hd2 (Nat.le_trans HB.out.size hg2))
      clear hR2 hb2 hd2 hg2 hk2 HCL HLR HR HO HB hcell
      go_wp2_with fail
      go_loopw [26] (fun i wr => ∃ q : Nat, q ≤ 16 ∧ i = .int .i64 q ∧ Aside0 (OutOK wr w.heap.size (.slice (some ⟨G, 0, none⟩) (j + 1) cap) (j + 1)) ∧ Aside0 (RowOK wr g2) ∧ Aside0 (Below w.heap.size w wr)) (fun i _ => 16 - (intOf i).toNat)
      case atStart => exact ⟨0, by omega, rfl, HO2, HK2, HB2⟩
      case round =>
        clear HO2 HB2 HK2
        obtain ⟨q, hq, rfl, HO, HK, HB⟩ := hrel
        by_cases hq16 : q < 16
        · have hq16' : ((q : Int) < 16) = True := eq_true (by omega)
          have hq0' : (0 ≤ (q : Int)) = True := eq_true (by omega)
          have hj0' : (0 ≤ (j : Int)) = True := eq_true (by omega)
          have hj11' : ((j : Int) < (j : Int) + 1) = True := eq_true (by omega)
          obtain ⟨vs, hown, hvl, hvs⟩ := HO.out
          obtain ⟨g, c, hg1, hg2, hg3, hg4⟩ := hvs j (by omega)
          have hcell := hown.cells (g := G) rfl j _ hg1
          rw [add_plain] at hcell
          obtain ⟨vr, hvr, hvr2⟩ := HK.out.cell q hq16
          have HVR := Aside0.mk hvr2
          clear hvr2 hown hvl hvs hg1
          have HRG := Aside0.mk hg4
          have HC16 := Aside0.mk hg2
          clear hg2 hg3 hg4
          obtain ⟨ts, hts⟩ : ∃ ts, aes_substitutes.f = some ts := ⟨_, rfl⟩
          have HTS := Aside0.mk hts
          clear hts
          by_cases hz : q = 0
          · have hzb : ((q : Int) == 0) = true := by simp [hz]
            clear hz
            obtain ⟨vu, hvu, hvu2⟩ := HRG.out.cell 13 (by omega)
            have hvu0 : (0 ≤ vu) = True := eq_true hvu2.1
            have hvu1 : (vu < 256) = True := eq_true hvu2.2
            have hxs := run_index_ar51 ts vu hvu2.1 hvu2.2
            clear hvu2 HRG
            go_wp2_with fail
            refine start_ (n := 17) (S := fun w' => w'.cell? ⟨g2, q, none⟩ = some (.int .u8 vr) ∧ w'.cell? ⟨G, j, none⟩ = some (.slice (some ⟨g, 0, none⟩) 16 c) ∧ w'.cell? ⟨g, 13, none⟩ = some (.int .u8 vu)) (ds := [16]) #[false, false, false, false, false, false, false, false, false, false, false, false, false, false, false, false, false] (by kernel_rfl) rfl rfl ⟨hvr, hcell, hvu⟩ (fun hHeld => ?_); refine with_tabW aes_Keys.tab14 aes_Keys.bits14 (fun HT_ HW_ => ?_)
            obtain ⟨wd, hwd⟩ : ∃ wd, wd = wr.drew := ⟨_, rfl⟩
            rw [← hwd] at hHeld ⊢
            have HO := Aside0.mk (show OutOK wd w.heap.size (.slice (some ⟨G, 0, none⟩) (j + 1) cap) (j + 1) by rw [hwd]; exact HO.out.drew)
            have HK := Aside0.mk (show RowOK wd g2 by rw [hwd]; exact HK.out.kept rfl)
            have HB := Aside0.mk (show Below w.heap.size w wd by rw [hwd]; exact HB.out.drew)
            clear hwd
            refine pure_ (i := 0) (N := some 43) (v := ?_) (a' := ?_) #[true, false, false, false, false, false, false, false, false, false, false, false, false, false, false, false, false] rfl rfl (any_of HT_.out (by kernel_rfl)) (fun _ _ _ h => h) (Or.inl ⟨by rfl, ?_⟩) ?_ ?_
            rotate_left
            · intro w'
              go_simp
              with_reducible rfl
            rotate_left
            · simp only [Act.put, List.setIfInBounds_toArray, List.set_cons_zero, List.set_cons_succ, i64_w, i32_w]
              rfl
            refine pure_ (i := 1) (N := some 44) (v := ?_) (a' := ?_) #[true, true, false, false, false, false, false, false, false, false, false, false, false, false, false, false, false] rfl rfl (any_of HT_.out (by kernel_rfl)) (fun _ _ _ h => h) (Or.inl ⟨by rfl, ?_⟩) ?_ ?_
            rotate_left
            · intro w'
              go_simp
              with_reducible rfl
            rotate_left
            · simp only [Act.put, List.setIfInBounds_toArray, List.set_cons_zero, List.set_cons_succ, i64_w, i32_w]
              rfl
            refine pure_ (i := 2) (N := some 45) (v := ?_) (a' := ?_) #[true, true, true, false, false, false, false, false, false, false, false, false, false, false, false, false, false] rfl rfl (any_of HT_.out (by kernel_rfl)) (fun _ _ _ h => h) (Or.inl ⟨by rfl, ?_⟩) ?_ ?_
            rotate_left
            · intro w'
              go_simp
              with_reducible rfl
            rotate_left
            · simp only [Act.put, List.setIfInBounds_toArray, List.set_cons_zero, List.set_cons_succ, i64_w, i32_w]
              rfl
            refine pure_ (i := 5) (N := some 48) (v := ?_) (a' := ?_) #[true, true, true, false, false, true, false, false, false, false, false, false, false, false, false, false, false] rfl rfl (any_of HT_.out (by kernel_rfl)) (fun _ _ _ h => h) (Or.inl ⟨by rfl, ?_⟩) ?_ ?_
            rotate_left
            · intro w'
              go_simp
              with_reducible rfl
            rotate_left
            · simp only [Act.put, List.setIfInBounds_toArray, List.set_cons_zero, List.set_cons_succ, i64_w, i32_w]
              rfl
            refine pure_ (i := 6) (N := some 49) (v := ?_) (a' := ?_) #[true, true, true, false, false, true, true, false, false, false, false, false, false, false, false, false, false] rfl rfl (any_of HT_.out (by kernel_rfl)) (fun _ _ _ h => h) (Or.inl ⟨by rfl, ?_⟩) ?_ ?_
            rotate_left
            · intro w'
              go_simp
              with_reducible rfl
            rotate_left
            · simp only [Act.put, List.setIfInBounds_toArray, List.set_cons_zero, List.set_cons_succ, i64_w, i32_w]
              rfl
            refine pure_ (i := 7) (N := some 50) (v := ?_) (a' := ?_) #[true, true, true, false, false, true, true, true, false, false, false, false, false, false, false, false, false] rfl rfl (any_of HT_.out (by kernel_rfl)) (fun _ _ _ h => h) (Or.inl ⟨by rfl, ?_⟩) ?_ ?_
            rotate_left
            · intro w'
              go_simp
              with_reducible rfl
            rotate_left
            · simp only [Act.put, List.setIfInBounds_toArray, List.set_cons_zero, List.set_cons_succ, i64_w, i32_w]
              rfl
            refine pure_ (i := 12) (N := some 55) (v := ?_) (a' := ?_) #[true, true, true, false, false, true, true, true, false, false, false, false, true, false, false, false, false] rfl rfl (any_of HT_.out (by kernel_rfl)) (fun _ _ _ h => h) (Or.inl ⟨by rfl, ?_⟩) ?_ ?_
            rotate_left
            · intro w'
              go_simp
              with_reducible rfl
            rotate_left
            · simp only [Act.put, List.setIfInBounds_toArray, List.set_cons_zero, List.set_cons_succ, i64_w, i32_w]
              rfl
            refine take_ (i := 3) (N := some 46) (v := ?_) (a' := ?_) #[true, true, true, true, false, true, true, true, false, false, false, false, true, false, false, false, false] rfl rfl (take_ofW HT_.out HW_.out (by kernel_rfl)) (fun _ _ _ h => h) (Or.inl ⟨by rfl, ?_⟩) hHeld ?_ ?_
            rotate_left
            · rintro w' ⟨s0, s1, s2⟩
              go_simp
              with_reducible rfl
            rotate_left
            · simp only [Act.put, List.setIfInBounds_toArray, List.set_cons_zero, List.set_cons_succ, i64_w, i32_w]
              rfl
            refine take_ (i := 8) (N := some 51) (v := ?_) (a' := ?_) #[true, true, true, true, false, true, true, true, true, false, false, false, true, false, false, false, false] rfl rfl (take_ofW HT_.out HW_.out (by kernel_rfl)) (fun _ _ _ h => h) (Or.inl ⟨by rfl, ?_⟩) hHeld ?_ ?_
            rotate_left
            · rintro w' ⟨s0, s1, s2⟩
              go_simp
              with_reducible rfl
            rotate_left
            · simp only [Act.put, List.setIfInBounds_toArray, List.set_cons_zero, List.set_cons_succ, i64_w, i32_w]
              rfl
            refine pure_ (i := 9) (N := some 52) (v := ?_) (a' := ?_) #[true, true, true, true, false, true, true, true, true, true, false, false, true, false, false, false, false] rfl rfl (any_of HT_.out (by kernel_rfl)) (fun _ _ _ h => h) (Or.inl ⟨by rfl, ?_⟩) ?_ ?_
            rotate_left
            · intro w'
              go_simp
              with_reducible rfl
            rotate_left
            · simp only [Act.put, List.setIfInBounds_toArray, List.set_cons_zero, List.set_cons_succ, i64_w, i32_w]
              rfl
            refine take_ (i := 10) (N := some 53) (v := ?_) (a' := ?_) #[true, true, true, true, false, true, true, true, true, true, true, false, true, false, false, false, false] rfl rfl (take_ofW HT_.out HW_.out (by kernel_rfl)) (fun _ _ _ h => h) (Or.inl ⟨by rfl, ?_⟩) hHeld ?_ ?_
            rotate_left
            · rintro w' ⟨s0, s1, s2⟩
              go_simp
              with_reducible rfl
            rotate_left
            · simp only [Act.put, List.setIfInBounds_toArray, List.set_cons_zero, List.set_cons_succ, i64_w, i32_w]
              rfl
            refine one_ (i := 4) (N := some 47) #[true, true, true, true, true, true, true, true, true, true, true, false, true, false, false, false, false] rfl rfl (one_of HT_.out (by kernel_rfl)) (by decide) (fun K hK => ?_)
            refine goes_ Try.func30 (by kernel_rfl) rfl #[] (by rfl) rfl rfl (by (try simp only [List.map_toArray, List.map_cons, List.map_nil]); first | done | rfl | (simp only [List.length_drop, List.length_take]; rfl)) ?_
            with_reducible refine (aes_substitutes.calls ts _ HTS.out).mono ?_
            rintro e w28 ⟨rfl, hb⟩
            have HS0_ := (hb.cell (World.block_lt_of_cell? _ _ (hHeld.1))).trans (hHeld.1)
            have HS1_ := (hb.cell (World.block_lt_of_cell? _ _ (hHeld.2.1))).trans (hHeld.2.1)
            have HS2_ := (hb.cell (World.block_lt_of_cell? _ _ (hHeld.2.2))).trans (hHeld.2.2)
            refine ⟨_, rfl, ?_⟩
            have HO := Aside0.mk (HO.out.below hb)
            have HK := Aside0.mk (HK.out.kept (hb.block g2 HK.out.lt))
            have HB := Aside0.mk (below_step HB.out hb)
            clear hb
            obtain ⟨vk, hvk, hvk2⟩ := HK.out.cell q hq16
            have hfk := HK.out.frozen q
            have HVK := Aside0.mk hvk2
            clear hvk2
            refine hK.out _ _ ⟨HS0_, HS1_, HS2_⟩ (fun hHeld => ?_)
            clear hK K
            refine norm_ (a' := ?_) ?_ ?_
            rotate_left
            · show Act.put _ (some 47) _ = _
              simp only [Act.put, List.setIfInBounds_toArray, List.set_cons_zero, List.set_cons_succ, i64_w, i32_w]
              rfl
            refine take_ (i := 11) (N := some 54) (v := ?_) (a' := ?_) #[true, true, true, true, true, true, true, true, true, true, true, true, true, false, false, false, false] rfl rfl (take_ofW HT_.out HW_.out (by kernel_rfl)) (fun _ _ _ h => h) (Or.inl ⟨by rfl, ?_⟩) hHeld ?_ ?_
            rotate_left
            · rintro w' ⟨s0, s1, s2⟩
              go_simp
              with_reducible rfl
            rotate_left
            · simp only [Act.put, List.setIfInBounds_toArray, List.set_cons_zero, List.set_cons_succ, i64_w, i32_w]
              rfl
            refine pure_ (i := 13) (N := some 56) (v := ?_) (a' := ?_) #[true, true, true, true, true, true, true, true, true, true, true, true, true, true, false, false, false] rfl rfl (any_of HT_.out (by kernel_rfl)) (fun _ _ _ h => h) (Or.inl ⟨by rfl, ?_⟩) ?_ ?_
            rotate_left
            · intro w'
              go_simp
              with_reducible rfl
            rotate_left
            · simp only [Act.put, List.setIfInBounds_toArray, List.set_cons_zero, List.set_cons_succ, i64_w, i32_w]
              rfl
            refine pure_ (i := 14) (N := some 57) (v := ?_) (a' := ?_) #[true, true, true, true, true, true, true, true, true, true, true, true, true, true, true, false, false] rfl rfl (any_of HT_.out (by kernel_rfl)) (fun _ _ _ h => h) (Or.inl ⟨by rfl, ?_⟩) ?_ ?_
            rotate_left
            · intro w'
              go_simp
              with_reducible rfl
            rotate_left
            · simp only [Act.put, List.setIfInBounds_toArray, List.set_cons_zero, List.set_cons_succ, i64_w, i32_w]
              rfl
            refine pure_ (i := 15) (N := some 58) (v := ?_) (a' := ?_) #[true, true, true, true, true, true, true, true, true, true, true, true, true, true, true, true, false] rfl rfl (any_of HT_.out (by kernel_rfl)) (fun _ _ _ h => h) (Or.inl ⟨by rfl, ?_⟩) ?_ ?_
            rotate_left
            · intro w'
              go_simp
              with_reducible rfl
            rotate_left
            · simp only [Act.put, List.setIfInBounds_toArray, List.set_cons_zero, List.set_cons_succ, i64_w, i32_w]
              rfl
            refine last_ (i := 16) (N := none) #[true, true, true, true, true, true, true, true, true, true, true, true, true, true, true, true, true] rfl rfl (one_of HT_.out (by kernel_rfl)) (by decide) (fun K hK => ?_)
            refine skip_ (w1 := ?_) (by rfl) rfl ?_ ?_
            rotate_left
            · go_simp
              rfl
            refine hK.out _ _ ?_
            clear hK K
            refine done_ (done_of HT_.out (by kernel_rfl)) ?_
            try go_wp2
            go_roundw
            case measure => simp [intOf]; omega
            case rel => exact ⟨q + 1, by omega, by go_num, ⟨HO.out.set HK.out q _ (bits_u8_rng _ _ _).1 (bits_u8_rng _ _ _).2⟩, ⟨HK.out.set g2 q _ (bits_u8_rng _ _ _).1 (bits_u8_rng _ _ _).2⟩, ⟨below_set_ HB.out HG2.out.2 _ _⟩⟩
          · have hzb : ((q : Int) == 0) = false := by simp [hz]
            clear hz
            by_cases h4 : (q : Int) < 4
            · have h4b : decide ((q : Int) < 4) = true := decide_eq_true h4
              clear h4
              obtain ⟨ji, hji⟩ : ∃ ji : Int, IntKind.i64.wrap (12 + Int.tmod (IntKind.i64.wrap ((q : Int) + 1)) 4) = ji := ⟨_, rfl⟩
              have hjr : 12 ≤ ji ∧ ji < 16 := by rw [← hji, IntKind.wrap_i64, IntKind.wrap_i64, Int.tmod_eq_emod_of_nonneg (by omega)]; omega
              have hji' : wrap64 (12 + Int.tmod (wrap64 ((q : Int) + 1)) 4) = ji := by rw [← hji, i64_w, i64_w]
              obtain ⟨vu, hvu, hvu2⟩ := HRG.out.cell ji.toNat (by omega)
              have hvu0 : (0 ≤ vu) = True := eq_true hvu2.1
              have hvu1 : (vu < 256) = True := eq_true hvu2.2
              have hxs := run_index_ar51 ts vu hvu2.1 hvu2.2
              have hj0 : (0 ≤ ji) = True := eq_true (by omega)
              have hj1 : (ji < 16) = True := eq_true hjr.2
              clear hjr hvu2 HRG
              go_wp2_with fail
              refine start_ (n := 19) (S := fun w' => w'.cell? ⟨g2, q, none⟩ = some (.int .u8 vr) ∧ w'.cell? ⟨G, j, none⟩ = some (.slice (some ⟨g, 0, none⟩) 16 c) ∧ w'.cell? ⟨g, ji.toNat, none⟩ = some (.int .u8 vu)) (ds := [18]) #[false, false, false, false, false, false, false, false, false, false, false, false, false, false, false, false, false, false, false] (by kernel_rfl) rfl rfl ⟨hvr, hcell, hvu⟩ (fun hHeld => ?_); refine with_tabW aes_Keys.tab16 aes_Keys.bits16 (fun HT_ HW_ => ?_)
              obtain ⟨wd, hwd⟩ : ∃ wd, wd = wr.drew := ⟨_, rfl⟩
              rw [← hwd] at hHeld ⊢
              have HO := Aside0.mk (show OutOK wd w.heap.size (.slice (some ⟨G, 0, none⟩) (j + 1) cap) (j + 1) by rw [hwd]; exact HO.out.drew)
              have HK := Aside0.mk (show RowOK wd g2 by rw [hwd]; exact HK.out.kept rfl)
              have HB := Aside0.mk (show Below w.heap.size w wd by rw [hwd]; exact HB.out.drew)
              clear hwd
              refine pure_ (i := 0) (N := some 62) (v := ?_) (a' := ?_) #[true, false, false, false, false, false, false, false, false, false, false, false, false, false, false, false, false, false, false] rfl rfl (any_of HT_.out (by kernel_rfl)) (fun _ _ _ h => h) (Or.inl ⟨by rfl, ?_⟩) ?_ ?_
              rotate_left
              · intro w'
                go_simp
                with_reducible rfl
              rotate_left
              · simp only [Act.put, List.setIfInBounds_toArray, List.set_cons_zero, List.set_cons_succ, i64_w, i32_w]
                rfl
              refine pure_ (i := 1) (N := some 63) (v := ?_) (a' := ?_) #[true, true, false, false, false, false, false, false, false, false, false, false, false, false, false, false, false, false, false] rfl rfl (any_of HT_.out (by kernel_rfl)) (fun _ _ _ h => h) (Or.inl ⟨by rfl, ?_⟩) ?_ ?_
              rotate_left
              · intro w'
                go_simp
                with_reducible rfl
              rotate_left
              · simp only [Act.put, List.setIfInBounds_toArray, List.set_cons_zero, List.set_cons_succ, i64_w, i32_w]
                rfl
              refine pure_ (i := 2) (N := some 64) (v := ?_) (a' := ?_) #[true, true, true, false, false, false, false, false, false, false, false, false, false, false, false, false, false, false, false] rfl rfl (any_of HT_.out (by kernel_rfl)) (fun _ _ _ h => h) (Or.inl ⟨by rfl, ?_⟩) ?_ ?_
              rotate_left
              · intro w'
                go_simp
                with_reducible rfl
              rotate_left
              · simp only [Act.put, List.setIfInBounds_toArray, List.set_cons_zero, List.set_cons_succ, i64_w, i32_w]
                rfl
              refine pure_ (i := 5) (N := some 67) (v := ?_) (a' := ?_) #[true, true, true, false, false, true, false, false, false, false, false, false, false, false, false, false, false, false, false] rfl rfl (any_of HT_.out (by kernel_rfl)) (fun _ _ _ h => h) (Or.inl ⟨by rfl, ?_⟩) ?_ ?_
              rotate_left
              · intro w'
                go_simp
                with_reducible rfl
              rotate_left
              · simp only [Act.put, List.setIfInBounds_toArray, List.set_cons_zero, List.set_cons_succ, i64_w, i32_w]
                rfl
              refine pure_ (i := 6) (N := some 68) (v := ?_) (a' := ?_) #[true, true, true, false, false, true, true, false, false, false, false, false, false, false, false, false, false, false, false] rfl rfl (any_of HT_.out (by kernel_rfl)) (fun _ _ _ h => h) (Or.inl ⟨by rfl, ?_⟩) ?_ ?_
              rotate_left
              · intro w'
                go_simp
                with_reducible rfl
              rotate_left
              · simp only [Act.put, List.setIfInBounds_toArray, List.set_cons_zero, List.set_cons_succ, i64_w, i32_w]
                rfl
              refine pure_ (i := 7) (N := some 69) (v := ?_) (a' := ?_) #[true, true, true, false, false, true, true, true, false, false, false, false, false, false, false, false, false, false, false] rfl rfl (any_of HT_.out (by kernel_rfl)) (fun _ _ _ h => h) (Or.inl ⟨by rfl, ?_⟩) ?_ ?_
              rotate_left
              · intro w'
                go_simp
                with_reducible rfl
              rotate_left
              · simp only [Act.put, List.setIfInBounds_toArray, List.set_cons_zero, List.set_cons_succ, i64_w, i32_w]
                rfl
              refine pure_ (i := 9) (N := some 71) (v := ?_) (a' := ?_) #[true, true, true, false, false, true, true, true, false, true, false, false, false, false, false, false, false, false, false] rfl rfl (any_of HT_.out (by kernel_rfl)) (fun _ _ _ h => h) (Or.inl ⟨by rfl, ?_⟩) ?_ ?_
              rotate_left
              · intro w'
                go_simp
                with_reducible rfl
              rotate_left
              · simp only [Act.put, List.setIfInBounds_toArray, List.set_cons_zero, List.set_cons_succ, i64_w, i32_w]
                rfl
              refine pure_ (i := 10) (N := some 72) (v := ?_) (a' := ?_) #[true, true, true, false, false, true, true, true, false, true, true, false, false, false, false, false, false, false, false] rfl rfl (any_of HT_.out (by kernel_rfl)) (fun _ _ _ h => h) (Or.inl ⟨by rfl, ?_⟩) ?_ ?_
              rotate_left
              · intro w'
                go_simp
                with_reducible rfl
              rotate_left
              · simp only [Act.put, List.setIfInBounds_toArray, List.set_cons_zero, List.set_cons_succ, i64_w, i32_w]
                rfl
              refine pure_ (i := 11) (N := some 73) (v := ?_) (a' := ?_) #[true, true, true, false, false, true, true, true, false, true, true, true, false, false, false, false, false, false, false] rfl rfl (any_of HT_.out (by kernel_rfl)) (fun _ _ _ h => h) (Or.inl ⟨by rfl, ?_⟩) ?_ ?_
              rotate_left
              · intro w'
                go_simp
                with_reducible rfl
              rotate_left
              · simp only [Act.put, List.setIfInBounds_toArray, List.set_cons_zero, List.set_cons_succ, i64_w, i32_w]
                rfl
              refine pure_ (i := 12) (N := some 74) (v := ?_) (a' := ?_) #[true, true, true, false, false, true, true, true, false, true, true, true, true, false, false, false, false, false, false] rfl rfl (any_of HT_.out (by kernel_rfl)) (fun _ _ _ h => h) (Or.inl ⟨by rfl, ?_⟩) ?_ ?_
              rotate_left
              · intro w'
                go_simp
                with_reducible rfl
              rotate_left
              · simp only [Act.put, List.setIfInBounds_toArray, List.set_cons_zero, List.set_cons_succ, i64_w, i32_w]
                rfl
              refine take_ (i := 3) (N := some 65) (v := ?_) (a' := ?_) #[true, true, true, true, false, true, true, true, false, true, true, true, true, false, false, false, false, false, false] rfl rfl (take_ofW HT_.out HW_.out (by kernel_rfl)) (fun _ _ _ h => h) (Or.inl ⟨by rfl, ?_⟩) hHeld ?_ ?_
              rotate_left
              · rintro w' ⟨s0, s1, s2⟩
                go_simp
                with_reducible rfl
              rotate_left
              · simp only [Act.put, List.setIfInBounds_toArray, List.set_cons_zero, List.set_cons_succ, i64_w, i32_w]
                rfl
              refine take_ (i := 8) (N := some 70) (v := ?_) (a' := ?_) #[true, true, true, true, false, true, true, true, true, true, true, true, true, false, false, false, false, false, false] rfl rfl (take_ofW HT_.out HW_.out (by kernel_rfl)) (fun _ _ _ h => h) (Or.inl ⟨by rfl, ?_⟩) hHeld ?_ ?_
              rotate_left
              · rintro w' ⟨s0, s1, s2⟩
                go_simp
                with_reducible rfl
              rotate_left
              · simp only [Act.put, List.setIfInBounds_toArray, List.set_cons_zero, List.set_cons_succ, i64_w, i32_w]
                rfl
              refine pure_ (i := 13) (N := some 75) (v := ?_) (a' := ?_) #[true, true, true, true, false, true, true, true, true, true, true, true, true, true, false, false, false, false, false] rfl rfl (any_of HT_.out (by kernel_rfl)) (fun _ _ _ h => h) (Or.inl ⟨by rfl, ?_⟩) ?_ ?_
              rotate_left
              · intro w'
                go_simp
                with_reducible rfl
              rotate_left
              · simp only [Act.put, List.setIfInBounds_toArray, List.set_cons_zero, List.set_cons_succ, i64_w, i32_w]
                rfl
              refine take_ (i := 14) (N := some 76) (v := ?_) (a' := ?_) #[true, true, true, true, false, true, true, true, true, true, true, true, true, true, true, false, false, false, false] rfl rfl (take_ofW HT_.out HW_.out (by kernel_rfl)) (fun _ _ _ h => h) (Or.inl ⟨by rfl, ?_⟩) hHeld ?_ ?_
              rotate_left
              · rintro w' ⟨s0, s1, s2⟩
                go_simp
                with_reducible rfl
              rotate_left
              · simp only [Act.put, List.setIfInBounds_toArray, List.set_cons_zero, List.set_cons_succ, i64_w, i32_w]
                rfl
              refine one_ (i := 4) (N := some 66) #[true, true, true, true, true, true, true, true, true, true, true, true, true, true, true, false, false, false, false] rfl rfl (one_of HT_.out (by kernel_rfl)) (by decide) (fun K hK => ?_)
              refine goes_ Try.func30 (by kernel_rfl) rfl #[] (by rfl) rfl rfl (by (try simp only [List.map_toArray, List.map_cons, List.map_nil]); first | done | rfl | (simp only [List.length_drop, List.length_take]; rfl)) ?_
              with_reducible refine (aes_substitutes.calls ts _ HTS.out).mono ?_
              rintro e w28 ⟨rfl, hb⟩
              have HS0_ := (hb.cell (World.block_lt_of_cell? _ _ (hHeld.1))).trans (hHeld.1)
              have HS1_ := (hb.cell (World.block_lt_of_cell? _ _ (hHeld.2.1))).trans (hHeld.2.1)
              have HS2_ := (hb.cell (World.block_lt_of_cell? _ _ (hHeld.2.2))).trans (hHeld.2.2)
              refine ⟨_, rfl, ?_⟩
              have HO := Aside0.mk (HO.out.below hb)
              have HK := Aside0.mk (HK.out.kept (hb.block g2 HK.out.lt))
              have HB := Aside0.mk (below_step HB.out hb)
              clear hb
              obtain ⟨vk, hvk, hvk2⟩ := HK.out.cell q hq16
              have hfk := HK.out.frozen q
              have HVK := Aside0.mk hvk2
              clear hvk2
              refine hK.out _ _ ⟨HS0_, HS1_, HS2_⟩ (fun hHeld => ?_)
              clear hK K
              refine norm_ (a' := ?_) ?_ ?_
              rotate_left
              · show Act.put _ (some 66) _ = _
                simp only [Act.put, List.setIfInBounds_toArray, List.set_cons_zero, List.set_cons_succ, i64_w, i32_w]
                rfl
              refine take_ (i := 15) (N := some 77) (v := ?_) (a' := ?_) #[true, true, true, true, true, true, true, true, true, true, true, true, true, true, true, true, false, false, false] rfl rfl (take_ofW HT_.out HW_.out (by kernel_rfl)) (fun _ _ _ h => h) (Or.inl ⟨by rfl, ?_⟩) hHeld ?_ ?_
              rotate_left
              · rintro w' ⟨s0, s1, s2⟩
                go_simp
                with_reducible rfl
              rotate_left
              · simp only [Act.put, List.setIfInBounds_toArray, List.set_cons_zero, List.set_cons_succ, i64_w, i32_w]
                rfl
              refine pure_ (i := 16) (N := some 78) (v := ?_) (a' := ?_) #[true, true, true, true, true, true, true, true, true, true, true, true, true, true, true, true, true, false, false] rfl rfl (any_of HT_.out (by kernel_rfl)) (fun _ _ _ h => h) (Or.inl ⟨by rfl, ?_⟩) ?_ ?_
              rotate_left
              · intro w'
                go_simp
                with_reducible rfl
              rotate_left
              · simp only [Act.put, List.setIfInBounds_toArray, List.set_cons_zero, List.set_cons_succ, i64_w, i32_w]
                rfl
              refine pure_ (i := 17) (N := some 79) (v := ?_) (a' := ?_) #[true, true, true, true, true, true, true, true, true, true, true, true, true, true, true, true, true, true, false] rfl rfl (any_of HT_.out (by kernel_rfl)) (fun _ _ _ h => h) (Or.inl ⟨by rfl, ?_⟩) ?_ ?_
              rotate_left
              · intro w'
                go_simp
                with_reducible rfl
              rotate_left
              · simp only [Act.put, List.setIfInBounds_toArray, List.set_cons_zero, List.set_cons_succ, i64_w, i32_w]
                rfl
              refine last_ (i := 18) (N := none) #[true, true, true, true, true, true, true, true, true, true, true, true, true, true, true, true, true, true, true] rfl rfl (one_of HT_.out (by kernel_rfl)) (by decide) (fun K hK => ?_)
              refine skip_ (w1 := ?_) (by rfl) rfl ?_ ?_
              rotate_left
              · go_simp
                rfl
              refine hK.out _ _ ?_
              clear hK K
              refine done_ (done_of HT_.out (by kernel_rfl)) ?_
              try go_wp2
              go_roundw
              case measure => simp [intOf]; omega
              case rel => exact ⟨q + 1, by omega, by go_num, ⟨HO.out.set HK.out q _ (bits_u8_rng _ _ _).1 (bits_u8_rng _ _ _).2⟩, ⟨HK.out.set g2 q _ (bits_u8_rng _ _ _).1 (bits_u8_rng _ _ _).2⟩, ⟨below_set_ HB.out HG2.out.2 _ _⟩⟩
            · have h4b : decide ((q : Int) < 4) = false := decide_eq_false h4
              obtain ⟨ji, hji⟩ : ∃ ji : Int, IntKind.i64.wrap ((q : Int) - 4) = ji := ⟨_, rfl⟩
              have hjr : 0 ≤ ji ∧ ji < 16 := by rw [← hji, IntKind.wrap_i64]; omega
              have hji' : wrap64 ((q : Int) - 4) = ji := by rw [← hji, i64_w]
              clear h4
              obtain ⟨vu, hvu, hvu2⟩ := HK.out.cell ji.toNat (by omega)
              have hj0 : (0 ≤ ji) = True := eq_true hjr.1
              have hj1 : (ji < 16) = True := eq_true hjr.2
              clear hjr hvu2 HRG
              go_wp2_with fail
              refine start_ (n := 12) (S := fun w' => w'.cell? ⟨g2, q, none⟩ = some (.int .u8 vr) ∧ w'.cell? ⟨g2, ji.toNat, none⟩ = some (.int .u8 vu)) (ds := [11]) #[false, false, false, false, false, false, false, false, false, false, false, false] (by kernel_rfl) rfl rfl ⟨hvr, hvu⟩ (fun hHeld => ?_); refine with_tabW aes_Keys.tab12 aes_Keys.bits12 (fun HT_ HW_ => ?_)
              obtain ⟨wd, hwd⟩ : ∃ wd, wd = wr.drew := ⟨_, rfl⟩
              rw [← hwd] at hHeld ⊢
              have HO := Aside0.mk (show OutOK wd w.heap.size (.slice (some ⟨G, 0, none⟩) (j + 1) cap) (j + 1) by rw [hwd]; exact HO.out.drew)
              have HK := Aside0.mk (show RowOK wd g2 by rw [hwd]; exact HK.out.kept rfl)
              have HB := Aside0.mk (show Below w.heap.size w wd by rw [hwd]; exact HB.out.drew)
              clear hwd
              have hfk := HK.out.frozen q
              obtain ⟨vk, hvk, hvk2⟩ := HK.out.cell q hq16
              have HVK := Aside0.mk hvk2
              clear hvk2
              refine pure_ (i := 0) (N := some 29) (v := ?_) (a' := ?_) #[true, false, false, false, false, false, false, false, false, false, false, false] rfl rfl (any_of HT_.out (by kernel_rfl)) (fun _ _ _ h => h) (Or.inl ⟨by rfl, ?_⟩) ?_ ?_
              rotate_left
              · intro w'
                go_simp
                with_reducible rfl
              rotate_left
              · simp only [Act.put, List.setIfInBounds_toArray, List.set_cons_zero, List.set_cons_succ, i64_w, i32_w]
                rfl
              refine pure_ (i := 1) (N := some 30) (v := ?_) (a' := ?_) #[true, true, false, false, false, false, false, false, false, false, false, false] rfl rfl (any_of HT_.out (by kernel_rfl)) (fun _ _ _ h => h) (Or.inl ⟨by rfl, ?_⟩) ?_ ?_
              rotate_left
              · intro w'
                go_simp
                with_reducible rfl
              rotate_left
              · simp only [Act.put, List.setIfInBounds_toArray, List.set_cons_zero, List.set_cons_succ, i64_w, i32_w]
                rfl
              refine pure_ (i := 2) (N := some 31) (v := ?_) (a' := ?_) #[true, true, true, false, false, false, false, false, false, false, false, false] rfl rfl (any_of HT_.out (by kernel_rfl)) (fun _ _ _ h => h) (Or.inl ⟨by rfl, ?_⟩) ?_ ?_
              rotate_left
              · intro w'
                go_simp
                with_reducible rfl
              rotate_left
              · simp only [Act.put, List.setIfInBounds_toArray, List.set_cons_zero, List.set_cons_succ, i64_w, i32_w]
                rfl
              refine pure_ (i := 4) (N := some 33) (v := ?_) (a' := ?_) #[true, true, true, false, true, false, false, false, false, false, false, false] rfl rfl (any_of HT_.out (by kernel_rfl)) (fun _ _ _ h => h) (Or.inl ⟨by rfl, ?_⟩) ?_ ?_
              rotate_left
              · intro w'
                go_simp
                with_reducible rfl
              rotate_left
              · simp only [Act.put, List.setIfInBounds_toArray, List.set_cons_zero, List.set_cons_succ, i64_w, i32_w]
                rfl
              refine pure_ (i := 5) (N := some 34) (v := ?_) (a' := ?_) #[true, true, true, false, true, true, false, false, false, false, false, false] rfl rfl (any_of HT_.out (by kernel_rfl)) (fun _ _ _ h => h) (Or.inl ⟨by rfl, ?_⟩) ?_ ?_
              rotate_left
              · intro w'
                go_simp
                with_reducible rfl
              rotate_left
              · simp only [Act.put, List.setIfInBounds_toArray, List.set_cons_zero, List.set_cons_succ, i64_w, i32_w]
                rfl
              refine pure_ (i := 6) (N := some 35) (v := ?_) (a' := ?_) #[true, true, true, false, true, true, true, false, false, false, false, false] rfl rfl (any_of HT_.out (by kernel_rfl)) (fun _ _ _ h => h) (Or.inl ⟨by rfl, ?_⟩) ?_ ?_
              rotate_left
              · intro w'
                go_simp
                with_reducible rfl
              rotate_left
              · simp only [Act.put, List.setIfInBounds_toArray, List.set_cons_zero, List.set_cons_succ, i64_w, i32_w]
                rfl
              refine pure_ (i := 7) (N := some 36) (v := ?_) (a' := ?_) #[true, true, true, false, true, true, true, true, false, false, false, false] rfl rfl (any_of HT_.out (by kernel_rfl)) (fun _ _ _ h => h) (Or.inl ⟨by rfl, ?_⟩) ?_ ?_
              rotate_left
              · intro w'
                go_simp
                with_reducible rfl
              rotate_left
              · simp only [Act.put, List.setIfInBounds_toArray, List.set_cons_zero, List.set_cons_succ, i64_w, i32_w]
                rfl
              refine take_ (i := 3) (N := some 32) (v := ?_) (a' := ?_) #[true, true, true, true, true, true, true, true, false, false, false, false] rfl rfl (take_ofW HT_.out HW_.out (by kernel_rfl)) (fun _ _ _ h => h) (Or.inl ⟨by rfl, ?_⟩) hHeld ?_ ?_
              rotate_left
              · rintro w' ⟨s0, s1⟩
                go_simp
                with_reducible rfl
              rotate_left
              · simp only [Act.put, List.setIfInBounds_toArray, List.set_cons_zero, List.set_cons_succ, i64_w, i32_w]
                rfl
              refine take_ (i := 8) (N := some 37) (v := ?_) (a' := ?_) #[true, true, true, true, true, true, true, true, true, false, false, false] rfl rfl (take_ofW HT_.out HW_.out (by kernel_rfl)) (fun _ _ _ h => h) (Or.inl ⟨by rfl, ?_⟩) hHeld ?_ ?_
              rotate_left
              · rintro w' ⟨s0, s1⟩
                go_simp
                with_reducible rfl
              rotate_left
              · simp only [Act.put, List.setIfInBounds_toArray, List.set_cons_zero, List.set_cons_succ, i64_w, i32_w]
                rfl
              refine pure_ (i := 9) (N := some 38) (v := ?_) (a' := ?_) #[true, true, true, true, true, true, true, true, true, true, false, false] rfl rfl (any_of HT_.out (by kernel_rfl)) (fun _ _ _ h => h) (Or.inl ⟨by rfl, ?_⟩) ?_ ?_
              rotate_left
              · intro w'
                go_simp
                with_reducible rfl
              rotate_left
              · simp only [Act.put, List.setIfInBounds_toArray, List.set_cons_zero, List.set_cons_succ, i64_w, i32_w]
                rfl
              refine pure_ (i := 10) (N := some 39) (v := ?_) (a' := ?_) #[true, true, true, true, true, true, true, true, true, true, true, false] rfl rfl (any_of HT_.out (by kernel_rfl)) (fun _ _ _ h => h) (Or.inl ⟨by rfl, ?_⟩) ?_ ?_
              rotate_left
              · intro w'
                go_simp
                with_reducible rfl
              rotate_left
              · simp only [Act.put, List.setIfInBounds_toArray, List.set_cons_zero, List.set_cons_succ, i64_w, i32_w]
                rfl
              refine last_ (i := 11) (N := none) #[true, true, true, true, true, true, true, true, true, true, true, true] rfl rfl (one_of HT_.out (by kernel_rfl)) (by decide) (fun K hK => ?_)
              refine skip_ (w1 := ?_) (by rfl) rfl ?_ ?_
              rotate_left
              · go_simp
                rfl
              refine hK.out _ _ ?_
              clear hK K
              refine done_ (done_of HT_.out (by kernel_rfl)) ?_
              try go_wp2
              go_roundw
              case measure => simp [intOf]; omega
              case rel => exact ⟨q + 1, by omega, by go_num, ⟨HO.out.set HK.out q _ (bits_u8_rng _ _ _).1 (bits_u8_rng _ _ _).2⟩, ⟨HK.out.set g2 q _ (bits_u8_rng _ _ _).1 (bits_u8_rng _ _ _).2⟩, ⟨below_set_ HB.out HG2.out.2 _ _⟩⟩
        · obtain rfl : q = 16 := by omega
          clear hq16 hq
          obtain ⟨vs, hown, hvl, hvs⟩ := HO.out
          have hsz := HB.out.size
          have hB2 : Below wr.heap.size wr (wr.alloc (.cells #[.slice (some ⟨g2, 0, none⟩) 16 d2] 25)) := (Below.refl _ _).alloc (Nat.le_refl _) _
          have HOW := Aside0.mk (pw_own_below hown hB2)
          have HVS := Aside0.mk (show vs.length = j + 1 ∧ ∀ r, r < j + 1 → ∃ g c, vs[r]? = some (.slice (some ⟨g, 0, none⟩) 16 c) ∧ 16 ≤ c ∧ w.heap.size ≤ g ∧ RowOK (wr.alloc (.cells #[.slice (some ⟨g2, 0, none⟩) 16 d2] 25)) g from ⟨hvl, fun r hr => by
            obtain ⟨g, c, h1, h2, h3, h4⟩ := hvs r hr
            exact ⟨g, c, h1, h2, h3, h4.kept (hB2.block g h4.lt)⟩⟩)
          have HK2 := Aside0.mk (show RowOK (wr.alloc (.cells #[.slice (some ⟨g2, 0, none⟩) 16 d2] 25)) g2 from HK.out.kept (hB2.block g2 HK.out.lt))
          have HBW := Aside0.mk (show Below w.heap.size w (wr.alloc (.cells #[.slice (some ⟨g2, 0, none⟩) 16 d2] 25)) from HB.out.alloc hsz _)
          have HSZ := Aside0.mk hsz
          have HGB := Aside0.mk (ownsRow_base hown)
          clear hown hvl hvs hB2 HO HK HB hsz
          obtain ⟨rt, hrt⟩ : ∃ rt, aes_twice.f x = some rt := ⟨_, rfl⟩
          have HRT := Aside0.mk hrt
          clear hrt
          obtain ⟨i0, hi⟩ : ∃ i, Try.prog.info? 25 = some i := ⟨_, rfl⟩
          have h25 := info25
          rw [hi] at h25
          simp only [Option.map_some, Option.some.injEq, Prod.mk.injEq] at h25
          have HI := Aside0.mk hi
          have HZ := Aside0.mk h25
          have HJ := Aside0.mk hlt
          clear hi h25
          go_wp2_with (at_builtin; refine wpList_append_own _ rfl _ _ 26 rfl w.heap.size 25 i0 (.slice none 0 0) 1 24 Try.underlying26 HI.out HZ.out.1 HZ.out.2.1 HZ.out.2.2 rfl (by decide) _ _ vs rfl HOW.out ⟨wr.heap.size, 0, none⟩ 1 1 [.slice (some ⟨g2, 0, none⟩) 16 d2] rfl rfl ?hn (by simp [Value.oneCell']) (by have := HJ.out; simp only [maxLen]; omega) (by have := HJ.out; omega) HBW.out.size ?_; (case hn => (intro q_ u_ hq_; cases q_ with | zero => (simp at hq_; subst hq_; exact blk_cell (heap_alloc_last wr _) 0) | succ q_ => simp at hq_)); intro v' w4 hown' hgrow hnil; have HO4 := Aside0.mk (OutOK.append vs HVS.out.1 HVS.out.2 HOW.out HK2.out HG2.out.1 HG2.out.2 hown' hgrow); have HB4 := Aside0.mk (pw_below_grown HBW.out (some G) HBW.out.size hgrow (fun k_ hk_ => by cases hk_; exact HGB.out)); clear hown' hgrow hnil)
          refine (aes_twice.calls x rt _ HRT.out).mono ?_
          rintro e w5 ⟨rfl, ⟨nd, rfl⟩⟩
          go_wp2
          go_roundw
          case measure => have := HJ.out; simp [intOf]; omega
          case rel => exact ⟨j + 1, rt, by have := HJ.out; omega, by go_num, rfl, ⟨HO4.out.below (pw_below_drewN (Below.refl _ _) nd)⟩, ⟨pw_below_drewN HB4.out nd⟩⟩
    · obtain rfl : j = 10 := by omega
      clear hvs hvl hown
      go_wp2_with fail
      go_ret2
      exact ⟨_, rfl, HO.out, HB.out⟩
end Go.Proofs.Ytpcdkfbngoagnaa.C
