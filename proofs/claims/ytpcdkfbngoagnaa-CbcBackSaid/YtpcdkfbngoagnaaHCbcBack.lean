import Derived.Test.YtpcdkfbngoagnaaCx20
import Derived.Test.YtpcdkfbngoagnaaCx22
import Derived.Test.YtpcdkfbngoagnaaCx25
namespace Go.Proofs.Ytpcdkfbngoagnaa.C
open Go.RowKit Go.Proofs.YtpcdkfbngoagnaaW.PrintWords Go.Proofs.YtpcdkfbngoagnaaW.PrintLast Go.Proofs.YtpcdkfbngoagnaaW.PrintMore
set_option linter.unusedVariables false
set_option linter.unusedSimpArgs false

/-- What a block of sixteen bytes holds, read as a slice. -/
theorem blkC4 {W : World} {g : Nat} {t : TypeId} {s : List Int} (h : W.heap[g]? = some (.cells (arrV 16 .u8 s) t (0, 0))) (hs : s.length = 16) : Kd.C (Kd.int .u8) W (some ⟨g, 0, none⟩) s.length s := by
  refine Kd.C_of_reads (enc := Value.int .u8) (d := 0) (h1 := fun _ => rfl) ⟨rfl, by omega, fun _ => ⟨_, rfl, fun j hj => ?_⟩⟩
  rw [Addr.add_mid, Nat.zero_add]
  exact (blk_cell h j).trans (arrV_get 16 .u8 s j (by omega))
theorem run_load39 (W : World) (ad : Addr) (l : List Int) (hl : l.length = 16) (hc : Kd.C (Kd.int .u8) W (some ad) l.length l) : (Instr.loadAt 39 (.pointer (some ad))).run Try.prog W = .ok (.agg (arrV 16 .u8 l)) W := by
  have h0 := run_loadCells_list (P := Try.prog) W ad (arrV 16 .u8 l).toList (fun j v hj => by
    have hj16 : j < 16 := by
      rcases Nat.lt_or_ge j 16 with h | h
      · exact h
      · rw [List.getElem?_eq_none (by simp [arrV]; omega)] at hj
        cases hj
    rw [Array.getElem?_toList, arrV_get 16 .u8 l j hj16] at hj
    obtain ⟨a2, e2, h2⟩ := Kd.at_int hc (j : Int) (by omega) (by omega)
    injection e2 with e2
    subst e2
    simp only [Int.toNat_natCast, rd] at h2
    rw [h2]
    exact hj)
  have hn : (arrV 16 .u8 l).toList.length = 16 := by simp [arrV]
  rw [hn] at h0
  have hs : (sizeOf 39).run Try.prog W = .ok 16 W := by kernel_rfl
  have ha : (isAgg 39).run Try.prog W = .ok true W := by kernel_rfl
  simp only [Array.toArray_toList] at h0
  simp [Instr.loadAt, Instr.sureAddr, loadVar, Sem.run_bind, ha, hs, h0]
theorem cut_call (l2 : List Int) (L : List Int) (n : Nat) (hL : L = l2.take n) (A2 : Option Addr) (c2 : Nat) (w : World) (hr2 : Kd.C (Kd.int .u8) w A2 l2.length l2) (hc2 : l2.length ≤ c2) (W : World) (hB : Below w.heap.size w W) :
    Calls Try.prog 24 #[.slice A2 l2.length c2, .int .i64 n] W fun e w' => ∃ A c, e = .returned (.slice A L.length c) ∧ Aside0 (L.length ≤ c) ∧ Aside0 (Kd.C (Kd.int .u8) w' A L.length L) ∧ Below W.heap.size W w' := by
  have hf : charterlaw04_cut.f l2 n = some L := by
    unfold charterlaw04_cut.f
    by_cases h : (l2.length : Int) > n
    · rw [if_pos h, if_pos (by omega), if_pos (by omega), hL]
      rfl
    · rw [if_neg h, hL, List.take_of_length_le (by omega)]
  refine (charterlaw04_cut.calls (fun k => k < W.heap.size) A2 c2 l2 n L W (Kd.V_mk hc2 (Kd.C_F (Kd.heap_int .u8) (Kd.C_below hr2 hB))) hf).mono ?_
  rintro e w' ⟨v, rfl, hV, hb⟩
  obtain ⟨A, c, rfl⟩ := Kd.V_slice hV
  exact ⟨A, c, rfl, ⟨(Kd.V_reads' hV).2.1⟩, ⟨(Kd.V_reads' hV).2.2⟩, hb⟩
theorem seal_call (k : Nat) (K B T X : List Int) (h : cbc_Seal.f k K B T = some (X, none)) (W : World) (a0 a1 a2 : Option Addr) (c0 c1 c2 n0 n1 n2 : Nat) (e0 : n0 = K.length) (e1 : n1 = B.length) (e2 : n2 = T.length)
    (ha : Kd.C (Kd.int .u8) W a0 K.length K) (hb : Kd.C (Kd.int .u8) W a1 B.length B) (ht : Kd.C (Kd.int .u8) W a2 T.length T) (hc0 : n0 ≤ c0) (hc1 : n1 ≤ c1) (hc2 : n2 ≤ c2) :
    Calls Try.prog 25 #[.slice a0 n0 c0, .slice a1 n1 c1, .slice a2 n2 c2] W fun e w' => ∃ a' c', e = .returned (.tuple #[.slice a' X.length c', .nilIface]) ∧ Aside0 (X.length ≤ c') ∧ Aside0 (Kd.C (Kd.int .u8) w' a' X.length X) ∧ Below W.heap.size W w' := by
  subst e0 e1 e2
  refine (cbc_Seal.calls k a0 c0 K a1 c1 B a2 c2 T X none W ha hc0 hb hc1 ht hc2 h).mono ?_
  rintro e w' ⟨v, rfl, hV, hB⟩
  obtain ⟨a', c', rfl⟩ := Kd.R_slice hV
  exact ⟨a', c', rfl, ⟨(Kd.R_reads' hV).2.1⟩, ⟨(Kd.R_reads' hV).2.2⟩, hB⟩
theorem open_call (k : Nat) (K B T X : List Int) (h : cbc_Open.f k K B T = some (X, none)) (W : World) (a0 a1 a2 : Option Addr) (c0 c1 c2 n0 n1 n2 : Nat) (e0 : n0 = K.length) (e1 : n1 = B.length) (e2 : n2 = T.length)
    (ha : Kd.C (Kd.int .u8) W a0 K.length K) (hb : Kd.C (Kd.int .u8) W a1 B.length B) (ht : Kd.C (Kd.int .u8) W a2 T.length T) (hc0 : n0 ≤ c0) (hc1 : n1 ≤ c1) (hc2 : n2 ≤ c2) :
    Calls Try.prog 27 #[.slice a0 n0 c0, .slice a1 n1 c1, .slice a2 n2 c2] W fun e w' => ∃ a' c', e = .returned (.tuple #[.slice a' X.length c', .nilIface]) ∧ Aside0 (X.length ≤ c') ∧ Aside0 (Kd.C (Kd.int .u8) w' a' X.length X) ∧ Below W.heap.size W w' := by
  subst e0 e1 e2
  refine (cbc_Open.calls k a0 c0 K a1 c1 B a2 c2 T X none W ha hc0 hb hc1 ht hc2 h).mono ?_
  rintro e w' ⟨v, rfl, hV, hB⟩
  obtain ⟨a', c', rfl⟩ := Kd.R_slice hV
  exact ⟨a', c', rfl, ⟨(Kd.R_reads' hV).2.1⟩, ⟨(Kd.R_reads' hV).2.2⟩, hB⟩
theorem blk_put39 {W : World} {g : Nat} {s : List Int} {t : TypeId} (h : W.heap[g]? = some (.cells (arrV 16 .u8 s) t (0, 0))) (i : Nat) (v : Int) (hi : i < s.length) : (W.setCell ⟨g, i, none⟩ (.int .u8 v)).heap[g]? = some (.cells (arrV 16 .u8 (s.set i v)) t (0, 0)) := by
  refine blk_put h i _ ?_
  apply Array.ext
  · simp [arrV]
  · intro j h1 h2
    have hj : j < 16 := by simpa [arrV] using h2
    simp only [arrV, Array.getElem_ofFn]
    rw [Array.getElem_setIfInBounds (by simpa [arrV] using hj)]
    by_cases e : i = j
    · subst e
      simp [List.getD_eq_getElem?_getD, List.getElem?_set, hi]
    · simp [List.getD_eq_getElem?_getD, List.getElem?_set, e]
theorem zero39 (W : World) : (zeroValue 39).run Try.prog W = .ok (.agg (arrV 16 .u8 [])) W := by kernel_rfl
/-- A block behind a call that keeps what stood. -/
theorem blk_kept4 {W w' : World} {g : Nat} {o : Obj} (h : W.heap[g]? = some o) (hB : Below W.heap.size W w') : w'.heap[g]? = some o := blk_below h hB

set_option maxHeartbeats 4000000 in
set_option maxRecDepth 100000 in
theorem back_head (k : Nat) (K Bg a b a2 b2 X Y : List Int) (hK : K.length = 16) (hBg : Bg.length = 16) (at_ by_ : Int) (A2 : Option Addr) (c2 : Nat) (A3 : Option Addr) (c3 : Nat) (w : World)
    (hr2 : Kd.C (Kd.int .u8) w A2 a.length a) (hc2 : a.length ≤ c2) (hr3 : Kd.C (Kd.int .u8) w A3 b.length b) (hc3 : b.length ≤ c3) (ha : a2 = a.take 300) (hb : b2 = b.take 300)
    (hup : charterlaw04_up.f k = some true) (h1 : cbc_Seal.f k K Bg a2 = some (X, none)) (h2 : cbc_Seal.f k K Bg b2 = some (Y, none)) (h3 : cbc_Open.f k K Bg X = some (a2, none))
    (hxy : ((strOfNums X).toList == (strOfNums Y).toList) = ((strOfNums a2).toList == (strOfNums b2).toList))
    (hat : ¬ (0 ≤ at_ ∧ at_ ≤ 15 ∧ 16 ≤ a2.length) ∨ (∃ j : Nat, at_ = j ∧ j < 16 ∧ 16 ≤ a2.length ∧ a2.length ≤ 300 ∧ cbc_Open.f k K (Bg.set j (Go.bits .xor .u8 (Bg.getD j 0) by_)) X = some (a2.set j (Go.bits .xor .u8 (a2.getD j 0) by_), none))) :
    Calls Try.prog 12 #[.agg (arrV 16 .u8 K), .agg (arrV 16 .u8 Bg), .slice A2 a.length c2, .slice A3 b.length c3, .int .i64 at_, .int .u8 by_] w fun e w' => e = .returned (.bool true) ∧ Below w.heap.size w w' := by
  have HR := Aside0.mk (And.intro hr2 (And.intro hc2 (And.intro hr3 hc3)))
  have HAB := Aside0.mk (And.intro ha hb)
  have HU := Aside0.mk hup
  have H1 := Aside0.mk h1
  have H2 := Aside0.mk h2
  have H3 := Aside0.mk h3
  have HK := Aside0.mk hK
  have HBg := Aside0.mk hBg
  have HXY := Aside0.mk hxy
  have HAT := Aside0.mk hat
  clear hr2 hc2 hr3 hc3 ha hb hup h1 h2 h3 hK hBg hxy hat
  go_enter Try.func12, Try.ntmps12
  go_wp2_with fail
  refine (charterlaw04_up.calls k true _ HU.out).mono ?_
  rintro e w1 ⟨rfl, hb⟩
  have hk0 : ((w.alloc (.cells (arrV 16 .u8 K) 39)).alloc (.cells (arrV 16 .u8 Bg) 39)).heap[w.heap.size]? = some (.cells (arrV 16 .u8 K) 39 (0, 0)) := blk_alloc (heap_alloc_last w _) _
  have hb0 : ((w.alloc (.cells (arrV 16 .u8 K) 39)).alloc (.cells (arrV 16 .u8 Bg) 39)).heap[w.heap.size + 1]? = some (.cells (arrV 16 .u8 Bg) 39 (0, 0)) := by
    have h := heap_alloc_last (w.alloc (.cells (arrV 16 .u8 K) 39)) (.cells (arrV 16 .u8 Bg) 39)
    rw [World.size_alloc] at h
    exact h
  have hB0 : Below w.heap.size w ((w.alloc (.cells (arrV 16 .u8 K) 39)).alloc (.cells (arrV 16 .u8 Bg) 39)) := ((Below.refl _ _).alloc (Nat.le_refl _) _).alloc (by simp) _
  have GK := Aside0.mk (blk_kept4 hk0 hb)
  have GB := Aside0.mk (blk_kept4 hb0 hb)
  have BB := Aside0.mk (below_step hB0 hb)
  clear hk0 hb0 hB0 hb
  go_wp2_with fail
  refine (cut_call a a2 300 HAB.out.1 A2 c2 w HR.out.1 HR.out.2.1 w1 BB.out).mono ?_
  rintro e w2 ⟨aa, ca, rfl, LA, CA, hb2⟩
  have GK2 := Aside0.mk (blk_kept4 GK.out hb2)
  have GB2 := Aside0.mk (blk_kept4 GB.out hb2)
  have BB2 := Aside0.mk (below_step BB.out hb2)
  clear hb2 GK GB BB
  go_wp2_with fail
  refine (cut_call b b2 300 HAB.out.2 A3 c3 w HR.out.2.2.1 HR.out.2.2.2 w2 BB2.out).mono ?_
  rintro e w3 ⟨ab, cb, rfl, LB, CB, hb3⟩
  have GK3 := Aside0.mk (blk_kept4 GK2.out hb3)
  have GB3 := Aside0.mk (blk_kept4 GB2.out hb3)
  have BB3 := Aside0.mk (below_step BB2.out hb3)
  have CA3 := Aside0.mk (Kd.C_below CA.out hb3)
  clear hb3 GK2 GB2 BB2 CA
  go_wp2_with fail
  go_region_with (go_at_call 25; refine (seal_call k K Bg a2 X H1.out _ _ _ _ _ _ _ _ _ _ HK.out.symm HBg.out.symm rfl (by first | exact blkC4 GK3.out HK.out | exact Kd.C_drew (blkC4 GK3.out HK.out)) (by first | exact blkC4 GB3.out HBg.out | exact Kd.C_drew (blkC4 GB3.out HBg.out)) (by first | exact CA3.out | exact Kd.C_drew CA3.out) (by decide) (by decide) LA.out).mono ?_; rintro e w4 ⟨ax, cx, rfl, LX, CX, hb4⟩)
  have GK4 := Aside0.mk (blk_kept4 (W := w3.drew) GK3.out hb4)
  have GB4 := Aside0.mk (blk_kept4 (W := w3.drew) GB3.out hb4)
  have BB4 := Aside0.mk (below_step (below_drew1 BB3.out) hb4)
  have CA4 := Aside0.mk (Kd.C_below (Kd.C_drew CA3.out) hb4)
  have CB4 := Aside0.mk (Kd.C_below (Kd.C_drew CB.out) hb4)
  clear hb4 GK3 GB3 BB3 CA3 CB
  try go_wp2_with fail
  go_region_with (go_at_call 25; refine (seal_call k K Bg b2 Y H2.out _ _ _ _ _ _ _ _ _ _ HK.out.symm HBg.out.symm rfl (by first | exact blkC4 GK4.out HK.out | exact Kd.C_drew (blkC4 GK4.out HK.out)) (by first | exact blkC4 GB4.out HBg.out | exact Kd.C_drew (blkC4 GB4.out HBg.out)) (by first | exact CB4.out | exact Kd.C_drew CB4.out) (by decide) (by decide) LB.out).mono ?_; rintro e w5 ⟨ay, cy, rfl, LY, CY, hb5⟩)
  have GK5 := Aside0.mk (blk_kept4 (W := w4.drew) GK4.out hb5)
  have GB5 := Aside0.mk (blk_kept4 (W := w4.drew) GB4.out hb5)
  have BB5 := Aside0.mk (below_step (below_drew1 BB4.out) hb5)
  have CA5 := Aside0.mk (Kd.C_below (Kd.C_drew CA4.out) hb5)
  have CB5 := Aside0.mk (Kd.C_below (Kd.C_drew CB4.out) hb5)
  have CX5 := Aside0.mk (Kd.C_below (Kd.C_drew CX.out) hb5)
  clear hb5 GK4 GB4 BB4 CA4 CB4 CX
  try go_wp2_with fail
  go_region_with (go_at_call 27; refine (open_call k K Bg X a2 H3.out _ _ _ _ _ _ _ _ _ _ HK.out.symm HBg.out.symm rfl (by first | exact blkC4 GK5.out HK.out | exact Kd.C_drew (blkC4 GK5.out HK.out)) (by first | exact blkC4 GB5.out HBg.out | exact Kd.C_drew (blkC4 GB5.out HBg.out)) (by first | exact CX5.out | exact Kd.C_drew CX5.out) (by decide) (by decide) LX.out).mono ?_; rintro e w6 ⟨at2, ct, rfl, LT, CT, hb6⟩)
  have GK6 := Aside0.mk (blk_kept4 (W := w5.drew) GK5.out hb6)
  have GB6 := Aside0.mk (blk_kept4 (W := w5.drew) GB5.out hb6)
  have BB6 := Aside0.mk (below_step (below_drew1 BB5.out) hb6)
  have CA6 := Aside0.mk (Kd.C_below (Kd.C_drew CA5.out) hb6)
  have CB6 := Aside0.mk (Kd.C_below (Kd.C_drew CB5.out) hb6)
  have CX6 := Aside0.mk (Kd.C_below (Kd.C_drew CX5.out) hb6)
  have CY6 := Aside0.mk (Kd.C_below (Kd.C_drew CY.out) hb6)
  clear hb6 GK5 GB5 BB5 CA5 CB5 CX5 CY
  have ht := Kd.C_string (P := Try.prog) (c := ct) Try.underlying25 Try.underlying5 Try.underlying9 CT.out
  have ha := Kd.C_string (P := Try.prog) (c := ca) Try.underlying25 Try.underlying5 Try.underlying9 CA6.out
  have hb := Kd.C_string (P := Try.prog) (c := cb) Try.underlying25 Try.underlying5 Try.underlying9 CB6.out
  have hx := Kd.C_string (P := Try.prog) (c := cx) Try.underlying25 Try.underlying5 Try.underlying9 CX6.out
  have hy := Kd.C_string (P := Try.prog) (c := cy) Try.underlying25 Try.underlying5 Try.underlying9 CY6.out
  have hbx := HXY.out
  rcases HAT.out with hno | ⟨j, rfl, hj, h16, h300, h4⟩
  · have hcases : (at_ < 0) ∨ (¬ at_ < 0 ∧ at_ > 15) ∨ (¬ at_ < 0 ∧ ¬ at_ > 15 ∧ (a2.length : Int) < 16) := by omega
    rcases hcases with h | ⟨h, h'⟩ | ⟨h, h', h''⟩
    all_goals (
      go_wp2
      go_ret
      exact ⟨rfl, BB6.out⟩)
  · have HJ := Aside0.mk (And.intro hj (And.intro h16 (And.intro h300 h4)))
    have g1 : ¬ ((j : Int) < 0) := by omega
    have g2 : ¬ ((j : Int) > 15) := by omega
    have g3 : ¬ ((a2.length : Int) < 16) := by omega
    clear hj h16 h300 h4
    go_upto_region 11 with fail
    clear ht ha hb hx hy hbx g1 g2 g3
    obtain ⟨W7, hW7⟩ : ∃ W, W = w6.alloc (.cells (arrV 16 .u8 Bg) 39) := ⟨_, rfl⟩
    have hO := Aside0.mk (show W7.heap[w6.heap.size]? = some (.cells (arrV 16 .u8 Bg) 39 (0, 0)) by rw [hW7]; exact heap_alloc_last w6 _)
    have hb7 : Below w6.heap.size w6 W7 := by rw [hW7]; exact (Below.refl _ _).alloc (Nat.le_refl _) _
    have HW7 := Aside0.mk hW7
    have HB67 := Aside0.mk hb7
    clear hW7
    have GK7 := Aside0.mk (blk_kept4 GK6.out hb7)
    have BB7 := Aside0.mk (below_step BB6.out hb7)
    have CA7 := Aside0.mk (Kd.C_below CA6.out hb7)
    have CX7 := Aside0.mk (Kd.C_below CX6.out hb7)
    have GB6' := GB6
    have hz39 := zero39
    have HLT := Aside0.mk (show w.heap.size ≤ w6.heap.size ∧ w.heap.size < w6.heap.size from ⟨BB6.out.size, blk_lt GK6.out⟩)
    have HO6 := Aside0.mk (And.intro GK6.out (And.intro BB6.out (And.intro CA6.out CX6.out)))
    clear hb7 GK6 GB6 BB6 CA6 CB6 CX6 CY6 CT GK7 BB7 CA7 CX7
    go_upto_region 12 with (first | (refine wpList_load_row rfl 39 _ rfl (w.heap.size + 1) rfl 39 _ (0, 0) _ GB6'.out Try.underlying39 rfl (by kernel_rfl) ?_) | (refine wpList_store_rowTo rfl 39 _ _ rfl rfl w6.heap.size (arrV 16 .u8 Bg) rfl rfl 39 _ (heap_alloc_last w6 _) (by kernel_rfl) (by simp [arrV_size]) (arrV_one _ _ _) ?_; rw [World.setRow_alloc_new, ← HW7.out]))
    clear GB6'
    obtain ⟨g, hg⟩ : ∃ g, g = w6.heap.size := ⟨_, rfl⟩
    rw [← hg] at hO HLT ⊢
    have HGG := Aside0.mk hg
    clear hg HW7
    have hc1 : W7.cell? ⟨g, j, none⟩ = some (.int .u8 (Bg.getD j 0)) := (blk_cell hO.out j).trans (arrV_get 16 .u8 Bg j HJ.out.1)
    have hf1 := blk_frozen hO.out j
    have hj16 := HJ.out.1
    obtain ⟨v, hv⟩ : ∃ v, v = Bg.getD j 0 := ⟨_, rfl⟩
    rw [← hv] at hc1
    have HV := Aside0.mk hv
    clear hv
    go_upto_region 13 with fail
    obtain ⟨W8, hW8⟩ : ∃ W, W = W7.setCell ⟨g, j, none⟩ (.int .u8 (Go.bits .xor .u8 v by_)) := ⟨_, rfl⟩
    first | rw [← hW8] | (have hW8' := hW8; simp only [] at hW8'; rw [← hW8'])
    have hb8 : Below w6.heap.size w6 W8 := by rw [hW8]; exact HB67.out.setCell (p := ⟨g, j, none⟩) (by simp only; have := HGG.out; omega) _
    obtain ⟨B2, hB2⟩ : ∃ B2, B2 = Bg.set j (Go.bits .xor .u8 (Bg.getD j 0) by_) := ⟨_, rfl⟩
    have HB2l := Aside0.mk (show B2.length = 16 by rw [hB2, List.length_set]; exact HBg.out)
    have GO8 := Aside0.mk (show W8.heap[g]? = some (.cells (arrV 16 .u8 B2) 39 (0, 0)) by
      rw [hW8, HV.out, hB2]
      exact blk_put39 hO.out j _ (by rw [HBg.out]; exact hj16))
    obtain ⟨T2, hT2⟩ : ∃ T2, T2 = a2.set j (Go.bits .xor .u8 (a2.getD j 0) by_) := ⟨_, rfl⟩
    have H4 := Aside0.mk (show cbc_Open.f k K B2 X = some (T2, none) by rw [hB2, hT2]; exact HJ.out.2.2.2)
    have GK8 := Aside0.mk (blk_kept4 HO6.out.1 hb8)
    have BB8 := Aside0.mk (below_step HO6.out.2.1 hb8)
    have CA8 := Aside0.mk (Kd.C_below HO6.out.2.2.1 hb8)
    have CX8 := Aside0.mk (Kd.C_below HO6.out.2.2.2 hb8)
    have HT2 := Aside0.mk hT2
    clear hW8 hb8 hB2 hT2 HB67 hO hc1 hf1 HO6 HV
    go_region_with (go_at_call 27; refine (open_call k K B2 X T2 H4.out _ _ _ _ _ _ _ _ _ _ HK.out.symm HB2l.out.symm rfl (by first | exact blkC4 GK8.out HK.out | exact Kd.C_drew (blkC4 GK8.out HK.out)) (by first | exact blkC4 GO8.out HB2l.out | exact Kd.C_drew (blkC4 GO8.out HB2l.out)) (by first | exact CX8.out | exact Kd.C_drew CX8.out) (by decide) (by decide) LX.out).mono ?_; rintro e w9 ⟨au, cu, rfl, LU, CU, hb9⟩)
    have BB9 := Aside0.mk (below_step (below_drew1 BB8.out) hb9)
    have CA9 := Aside0.mk (Kd.C_below (Kd.C_drew CA8.out) hb9)
    clear hb9 GK8 BB8 CA8 CX8 GO8
    try simp only [Exit.then]
    go_upto_region 15 with (first
      | ((with_reducible refine gate_dst (N := 107) rfl ?_); refine Kd.R_lit (Kd.int .u8) _ 5 ?hg (N := 107) ?hd (xs := ([] : List Int)) (inner := []) (ok := fun _ => True) (okp := fun _ => True) ?hr ?hp (fun _ hk => hk) trivial (Below.refl _ _) (Nat.le_refl _) (by simp) ?_; (case hd => rfl); (case hg => rfl); (case hr => first | (go_simp; done) | (go_simp; rfl)); (case hp => exact (Reps.none _ _)); intro v10 w10 ho4 hb hg_ hnew_; clear hg_ hnew_; have HL10 := Aside0.mk ho4; have HB10 := Aside0.mk hb; clear hb ho4)
      | ((with_reducible refine gate_builtin (b := .append) (xs := #[.tmp 107, .tmp 108]) rfl ?_); at_builtin; refine Kd.R_append_rows (Kd.int .u8) (w0 := w9) w9.heap.size rfl (.tmp 107) (.tmp 108) 25 5 (.int .u8 0) 1 rfl Try.underlying25 info5 rfl (by decide) (by omega) v10 [] a2 _ _ _ (fun _ => True) (fun _ => False) rfl rfl ?aO ?aR (fun _ _ h => h) (fun _ h => h.elim) ?aF ?aB ?aS ?aL ?_; (case aR => exact Kd.C_below CA9.out HB10.out); (case aB => exact HB10.out); (case aF => exact (fun _ _ => trivial)); (case aO => exact HL10.out); (case aS => exact HB10.out.size); (case aL => have := HJ.out.2.2.1; simp only [List.length_nil]; omega); intro v11 w11 ho hb hg hat; have HO11 := Aside0.mk ho; have HB11 := Aside0.mk hb; clear ho hb hg hat))
    have hO := HO11.out
    rw [List.nil_append] at hO
    have hown := Kd.own_of_R hO
    obtain ⟨lm, hlm⟩ : ∃ lm, a2.length = lm + 1 := ⟨a2.length - 1, by have := HJ.out.2.1; omega⟩
    rw [hlm] at hown
    obtain ⟨gw, cw, rfl⟩ := ownsRow_succ hown
    rw [← hlm] at hown ⊢
    have hat_ := own_at (k := .u8) (xs := a2) hown (j : Int) (by omega) (by have := HJ.out.1; have := HJ.out.2.1; omega)
    have hpu := Kd.R_put (enc := Value.int .u8) (h1 := fun _ => rfl) (by rw [← hlm] at hO; exact hO) (j : Int) (Go.bits .xor .u8 (a2.getD j 0) by_)
    simp only [Int.toNat_natCast, rd] at hat_ hpu
    obtain ⟨x, hx⟩ : ∃ x, x = a2.getD j 0 := ⟨_, rfl⟩
    rw [← hx] at hat_ hpu
    have hc1 := hat_.1
    have hf1 := hat_.2
    have hjl : (j : Int) < a2.length := by have := HJ.out.1; have := HJ.out.2.1; omega
    have hjn : j < a2.length := by omega
    have HPU := Aside0.mk (show Kd.R (Kd.int .u8) 5 (w11.setCell ⟨gw, j, none⟩ (.int .u8 (Go.bits .xor .u8 x by_))) w9.heap.size (fun _ => True) (.slice (some ⟨gw, 0, none⟩) a2.length cw) T2 by rw [HT2.out, ← hx]; exact hpu.1)
    have HW := Aside0.mk (Kd.R_base HO11.out gw (by simp [Value.ownBlock]))
    clear hat_ hpu hO hown hlm hx HO11 HL10 HB10
    go_upto_region 16 with fail
    obtain ⟨W12, hW12⟩ : ∃ W, W = w11.setCell ⟨gw, j, none⟩ (.int .u8 (Go.bits .xor .u8 x by_)) := ⟨_, rfl⟩
    rw [← hW12]
    have hb12 : Below w9.heap.size w9 W12 := by rw [hW12]; exact HB11.out.setCell (p := ⟨gw, j, none⟩) (by simp only; exact HW.out) _
    have hRR := HPU.out
    rw [← hW12] at hRR
    have BB12 := Aside0.mk (below_step BB9.out hb12)
    have hu := Kd.C_string (P := Try.prog) (c := cu) Try.underlying25 Try.underlying5 Try.underlying9 (Kd.C_below CU.out hb12)
    have hT2l := Aside0.mk (show T2.length = a2.length by rw [HT2.out, List.length_set])
    have hwn := Kd.C_string (P := Try.prog) (c := cw) Try.underlying25 Try.underlying5 Try.underlying9 (Kd.R_reads' hRR).2.2
    rw [hT2l.out] at hwn
    clear hb12 hRR hc1 hf1 hW12 hjl hjn
    go_wp2
    go_ret
    exact ⟨by first | rfl | simp, BB12.out⟩
end Go.Proofs.Ytpcdkfbngoagnaa.C
