-- PRINTED by print.py (a twelfth state) out of the translation. Not trusted: Lean checks it.
import Derived.Test.YtpcdkfbngoagnaaCx0
import Derived.Test.YtpcdkfbngoagnaaCx1
import Derived.Test.YtpcdkfbngoagnaaCx8
namespace Go.Proofs.Ytpcdkfbngoagnaa.C
open Go.RowKit Go.Proofs.YtpcdkfbngoagnaaW.PrintWords Go.Proofs.YtpcdkfbngoagnaaW.PrintLast Go.Proofs.YtpcdkfbngoagnaaW.PrintMore
attribute [local go_sem] max2_int min2_int max_two min_two max_three min_three max_four min_four   -- for this text's walks alone
set_option linter.unusedVariables false
set_option linter.unusedSimpArgs false

-- OWN FILE
/-! ### aes_state_turn: function 36 -/
def turnF (s : List Int) (i : Nat) : Int := rd aes_substitutes_L (s.getD (4 * ((i / 4 + i % 4) % 4) + i % 4) 0)
def turnB (s : List Int) (i : Nat) : Int := rd aes_origins_L (s.getD (4 * ((i / 4 + 4 - i % 4) % 4) + i % 4) 0)
theorem turnF_at (s : List Int) (c r : Nat) (hr : r < 4) : turnF s (4 * c + r) = rd aes_substitutes_L (s.getD (4 * ((c + r) % 4) + r) 0) := by
 unfold turnF
 rw [show (4 * c + r) / 4 = c from by omega, show (4 * c + r) % 4 = r from by omega]
theorem turnB_at (s : List Int) (c r : Nat) (hr : r < 4) : turnB s (4 * c + r) = rd aes_origins_L (s.getD (4 * ((c + 4 - r) % 4) + r) 0) := by
 unfold turnB
 rw [show (4 * c + r) / 4 = c from by omega, show (4 * c + r) % 4 = r from by omega]
set_option maxHeartbeats 1000000 in
theorem state_turn (g : Nat) (s : List Int) (w0 w : World) (hs : s.length = 16) (hg : w0.heap.size ≤ g) (hrng : ∀ i, 0 ≤ s.getD i 0 ∧ s.getD i 0 < 256)
 (hst : StAt w g s) (hB : Below w0.heap.size w0 w) :
 Calls Try.prog 36 #[.pointer (some ⟨g, 0, none⟩), .bool false] w fun e w' => e = .returned (.tuple #[]) ∧ StAt w' g (partL (turnF s) 16) ∧ Below w0.heap.size w0 w' ∧ KeepBut w w' g none := by
 have HS0 := Aside0.mk hst
 have HB0 := Aside0.mk hB
 have HR := Aside0.mk hrng
 have HS := Aside0.mk hs
 have HG := Aside0.mk hg
 clear hrng hst hB hs hg
 have hz55 := zero55
 go_enter Try.func36, Try.ntmps36
 go_wp2
 go_loopw [7] (fun i wr => ∃ c : Nat, c ≤ 4 ∧ i = .int .i64 c ∧ Aside0 (StAt wr w.heap.size (partL (turnF s) (4 * c))) ∧ Aside0 (Below w.heap.size w wr)) (fun i _ => 4 - (intOf i).toNat)
 case atStart => exact ⟨0, by omega, rfl, ⟨by
  have h2 := heap_alloc_last w (.cells (arrV 16 .u8 []) 55)
  rw [← arrV_part0 (turnF s)] at h2
  exact h2⟩, ⟨(Below.refl _ _).alloc (Nat.le_refl _) _⟩⟩
 case round =>
  obtain ⟨c, hc, rfl, HSr, HBr⟩ := hrel
  obtain ⟨wo, rfl⟩ : ∃ wo : World, wo = wr := ⟨_, rfl⟩
  by_cases hlt : c < 4
  · have hcd : decide ((c : Int) < 4) = true := decide_eq_true (by omega)
    go_wp2
    go_loopw [10] (fun i wr => ∃ r : Nat, r ≤ 4 ∧ i = .int .i64 r ∧ Aside0 (StAt wr w.heap.size (partL (turnF s) (4 * c + r))) ∧ Aside0 (Below w.heap.size w wr)) (fun i _ => 4 - (intOf i).toNat)
    case atStart => exact ⟨0, by omega, rfl, HSr, HBr⟩
    case round =>
     clear HSr HBr
     obtain ⟨r, hr, rfl, HSr, HBr⟩ := hrel
     by_cases hlt2 : r < 4
     · have hrd : decide ((r : Int) < 4) = true := decide_eq_true (by omega)
       have hc1 := (StAt.cell (blk_below HS0.out HBr.out) (4 * ((c + r) % 4) + r) (by omega))
       have hv := HR.out (4 * ((c + r) % 4) + r)
       obtain ⟨v, hvq⟩ : ∃ v, v = s.getD (4 * ((c + r) % 4) + r) 0 := ⟨_, rfl⟩
       rw [← hvq] at hc1 hv
       have HV := Aside0.mk hvq
       clear hvq
       have hix := run_index_ar51 aes_substitutes_L v hv.1 hv.2
       go_wp2
       have hq1 : 4 * (((c : Int) + (r : Int)) % 4) + (r : Int) < 16 := by omega
       have hq2 : 0 ≤ 4 * (((c : Int) + (r : Int)) % 4) + (r : Int) := by omega
       have e1 : IntKind.i64.wrap ((c : Int) + (r : Int)) = (c : Int) + (r : Int) := IntWalk.i64_in _ (by omega)
       have e2 : ((c : Int) + (r : Int)).tmod 4 = ((c : Int) + (r : Int)) % 4 := by rw [Int.tmod_eq_emod_of_nonneg (by omega)]
       have e3 : IntKind.i64.wrap (4 * (((c : Int) + (r : Int)) % 4)) = 4 * (((c : Int) + (r : Int)) % 4) := IntWalk.i64_in _ (by omega)
       have e4 : IntKind.i64.wrap (4 * (((c : Int) + (r : Int)) % 4) + (r : Int)) = 4 * (((c : Int) + (r : Int)) % 4) + (r : Int) := IntWalk.i64_in _ (by omega)
       have e5 : IntKind.i64.wrap (4 * (c : Int)) = 4 * (c : Int) := IntWalk.i64_in _ (by omega)
       have e6 : IntKind.i64.wrap (4 * (c : Int) + (r : Int)) = 4 * (c : Int) + (r : Int) := IntWalk.i64_in _ (by omega)
       have hq4 : 4 * (c : Int) + (r : Int) < 16 := by omega
       have hq5 : 0 ≤ 4 * (c : Int) + (r : Int) := by omega
       have hq6 : (4 * (c : Int) + (r : Int)).toNat = 4 * c + r := by omega
       have hq3 : (4 * (((c : Int) + (r : Int)) % 4) + (r : Int)).toNat = 4 * ((c + r) % 4) + r := by omega
       have hd : wr.cell? ⟨w.heap.size, 4 * c + r, none⟩ = some (.int .u8 ((partL (turnF s) (4 * c + r)).getD (4 * c + r) 0)) := HSr.out.cell (4 * c + r) (by omega)
       have hfd := blk_frozen HSr.out (4 * c + r)
       have hb0 := wr.block_lt_of_cell? _ hd
       have hb1 := wr.block_lt_of_cell? _ hc1
       go_region_with (go_at_call 30; refine (aes_substitutes.calls _ _ rfl).mono ?_; rintro e w1 ⟨rfl, hbw⟩; have hc1' := (hbw.cell (p := ⟨g, 4 * ((c + r) % 4) + r, none⟩) hb1).trans hc1; have hd' := (hbw.cell (p := ⟨w.heap.size, 4 * c + r, none⟩) hb0).trans hd; have hfd' := (hbw.frozen (p := ⟨w.heap.size, 4 * c + r, none⟩) hb0).trans hfd)
       all_goals
        clear e1 e2 e3 e4 e5 e6 hq1 hq2 hq3 hq4 hq5 hq6 hix
        have HT := Aside0.mk (turnF_at s c r hlt2)
        go_wp2
        go_roundw
        case rel => exact ⟨r + 1, by omega, by go_num, ⟨by
         have h2 := StAt.set (blk_below (w := wr.drew) HSr.out hbw) (4 * c + r) (turnF s (4 * c + r)) (by rw [partL_length]; omega)
         rw [partL_set _ _ (by omega), HT.out, ← HV.out] at h2
         exact h2⟩, ⟨(below_then HBr.out.drew HBr.out.size hbw).setCell (Nat.le_refl _) _⟩⟩
        case measure => simp [intOf]; omega
     · have hrd : decide ((r : Int) < 4) = false := decide_eq_false (by omega)
       have HE := Aside0.mk (show r = 4 by omega)
       go_wp2
       go_roundw
       case rel => exact ⟨c + 1, by omega, by go_num, ⟨by have h2 := HSr.out; rw [HE.out] at h2; exact h2⟩, HBr⟩
       case measure => simp [intOf]; omega
  · have hcd : decide ((c : Int) < 4) = false := decide_eq_false (by omega)
    have HE := Aside0.mk (show c = 4 by omega)
    go_wp2_with (first | (refine wpList_load_row rfl 55 _ rfl w.heap.size rfl 55 _ (0, 0) _ HSr.out Try.underlying55 rfl (by kernel_rfl) ?_) | (refine wpList_store_rowTo rfl 55 _ _ rfl rfl g (arrV 16 .u8 (partL (turnF s) (4 * c))) rfl rfl 55 _ (blk_below HS0.out HBr.out) (by kernel_rfl) (by simp [arrV_size]) (arrV_one _ _ _) ?_))
    go_end0
    rw [HE.out]
    exact ⟨rfl, setRow_heap _ _ _ _ _ _ (blk_below HS0.out HBr.out), below_setRow (below_then HB0.out HB0.out.size HBr.out) HG.out _, keep_setRow (KeepBut.of_below HBr.out g none) _⟩
set_option maxHeartbeats 1000000 in
theorem state_turnB (g : Nat) (s : List Int) (w0 w : World) (hs : s.length = 16) (hg : w0.heap.size ≤ g) (hrng : ∀ i, 0 ≤ s.getD i 0 ∧ s.getD i 0 < 256)
 (hst : StAt w g s) (hB : Below w0.heap.size w0 w) :
 Calls Try.prog 36 #[.pointer (some ⟨g, 0, none⟩), .bool true] w fun e w' => e = .returned (.tuple #[]) ∧ StAt w' g (partL (turnB s) 16) ∧ Below w0.heap.size w0 w' ∧ KeepBut w w' g none := by
 have HS0 := Aside0.mk hst
 have HB0 := Aside0.mk hB
 have HR := Aside0.mk hrng
 have HS := Aside0.mk hs
 have HG := Aside0.mk hg
 clear hrng hst hB hs hg
 have hz55 := zero55
 go_enter Try.func36, Try.ntmps36
 go_wp2
 go_loopw [7] (fun i wr => ∃ c : Nat, c ≤ 4 ∧ i = .int .i64 c ∧ Aside0 (StAt wr w.heap.size (partL (turnB s) (4 * c))) ∧ Aside0 (Below w.heap.size w wr)) (fun i _ => 4 - (intOf i).toNat)
 case atStart => exact ⟨0, by omega, rfl, ⟨by
  have h2 := heap_alloc_last w (.cells (arrV 16 .u8 []) 55)
  rw [← arrV_part0 (turnB s)] at h2
  exact h2⟩, ⟨(Below.refl _ _).alloc (Nat.le_refl _) _⟩⟩
 case round =>
  obtain ⟨c, hc, rfl, HSr, HBr⟩ := hrel
  obtain ⟨wo, rfl⟩ : ∃ wo : World, wo = wr := ⟨_, rfl⟩
  by_cases hlt : c < 4
  · have hcd : decide ((c : Int) < 4) = true := decide_eq_true (by omega)
    go_wp2
    go_loopw [10] (fun i wr => ∃ r : Nat, r ≤ 4 ∧ i = .int .i64 r ∧ Aside0 (StAt wr w.heap.size (partL (turnB s) (4 * c + r))) ∧ Aside0 (Below w.heap.size w wr)) (fun i _ => 4 - (intOf i).toNat)
    case atStart => exact ⟨0, by omega, rfl, HSr, HBr⟩
    case round =>
     clear HSr HBr
     obtain ⟨r, hr, rfl, HSr, HBr⟩ := hrel
     by_cases hlt2 : r < 4
     · have hrd : decide ((r : Int) < 4) = true := decide_eq_true (by omega)
       have hc1 := (StAt.cell (blk_below HS0.out HBr.out) (4 * ((c + 4 - r) % 4) + r) (by omega))
       have hv := HR.out (4 * ((c + 4 - r) % 4) + r)
       obtain ⟨v, hvq⟩ : ∃ v, v = s.getD (4 * ((c + 4 - r) % 4) + r) 0 := ⟨_, rfl⟩
       rw [← hvq] at hc1 hv
       have HV := Aside0.mk hvq
       clear hvq
       have hix := run_index_ar51 aes_origins_L v hv.1 hv.2
       go_wp2
       have hq1 : 4 * (((c : Int) + 4 - (r : Int)) % 4) + (r : Int) < 16 := by omega
       have hq2 : 0 ≤ 4 * (((c : Int) + 4 - (r : Int)) % 4) + (r : Int) := by omega
       have e1 : IntKind.i64.wrap ((c : Int) + 4) = (c : Int) + 4 := IntWalk.i64_in _ (by omega)
       have e1b : IntKind.i64.wrap ((c : Int) + 4 - (r : Int)) = (c : Int) + 4 - (r : Int) := IntWalk.i64_in _ (by omega)
       have e2 : ((c : Int) + 4 - (r : Int)).tmod 4 = ((c : Int) + 4 - (r : Int)) % 4 := by rw [Int.tmod_eq_emod_of_nonneg (by omega)]
       have e3 : IntKind.i64.wrap (4 * (((c : Int) + 4 - (r : Int)) % 4)) = 4 * (((c : Int) + 4 - (r : Int)) % 4) := IntWalk.i64_in _ (by omega)
       have e4 : IntKind.i64.wrap (4 * (((c : Int) + 4 - (r : Int)) % 4) + (r : Int)) = 4 * (((c : Int) + 4 - (r : Int)) % 4) + (r : Int) := IntWalk.i64_in _ (by omega)
       have e5 : IntKind.i64.wrap (4 * (c : Int)) = 4 * (c : Int) := IntWalk.i64_in _ (by omega)
       have e6 : IntKind.i64.wrap (4 * (c : Int) + (r : Int)) = 4 * (c : Int) + (r : Int) := IntWalk.i64_in _ (by omega)
       have hq4 : 4 * (c : Int) + (r : Int) < 16 := by omega
       have hq5 : 0 ≤ 4 * (c : Int) + (r : Int) := by omega
       have hq6 : (4 * (c : Int) + (r : Int)).toNat = 4 * c + r := by omega
       have hq3 : (4 * (((c : Int) + 4 - (r : Int)) % 4) + (r : Int)).toNat = 4 * ((c + 4 - r) % 4) + r := by omega
       have hd : wr.cell? ⟨w.heap.size, 4 * c + r, none⟩ = some (.int .u8 ((partL (turnB s) (4 * c + r)).getD (4 * c + r) 0)) := HSr.out.cell (4 * c + r) (by omega)
       have hfd := blk_frozen HSr.out (4 * c + r)
       have hb0 := wr.block_lt_of_cell? _ hd
       have hb1 := wr.block_lt_of_cell? _ hc1
       go_region_with (go_at_call 42; refine (aes_origins.calls _ _ rfl).mono ?_; rintro e w1 ⟨rfl, hbw⟩; have hc1' := (hbw.cell (p := ⟨g, 4 * ((c + 4 - r) % 4) + r, none⟩) hb1).trans hc1; have hd' := (hbw.cell (p := ⟨w.heap.size, 4 * c + r, none⟩) hb0).trans hd; have hfd' := (hbw.frozen (p := ⟨w.heap.size, 4 * c + r, none⟩) hb0).trans hfd)
       all_goals
        clear e1 e1b e2 e3 e4 e5 e6 hq1 hq2 hq3 hq4 hq5 hq6 hix
        have HT := Aside0.mk (turnB_at s c r hlt2)
        go_wp2
        go_roundw
        case rel => exact ⟨r + 1, by omega, by go_num, ⟨by
         have h2 := StAt.set (blk_below (w := wr.drew) HSr.out hbw) (4 * c + r) (turnB s (4 * c + r)) (by rw [partL_length]; omega)
         rw [partL_set _ _ (by omega), HT.out, ← HV.out] at h2
         exact h2⟩, ⟨(below_then HBr.out.drew HBr.out.size hbw).setCell (Nat.le_refl _) _⟩⟩
        case measure => simp [intOf]; omega
     · have hrd : decide ((r : Int) < 4) = false := decide_eq_false (by omega)
       have HE := Aside0.mk (show r = 4 by omega)
       go_wp2
       go_roundw
       case rel => exact ⟨c + 1, by omega, by go_num, ⟨by have h2 := HSr.out; rw [HE.out] at h2; exact h2⟩, HBr⟩
       case measure => simp [intOf]; omega
  · have hcd : decide ((c : Int) < 4) = false := decide_eq_false (by omega)
    have HE := Aside0.mk (show c = 4 by omega)
    go_wp2_with (first | (refine wpList_load_row rfl 55 _ rfl w.heap.size rfl 55 _ (0, 0) _ HSr.out Try.underlying55 rfl (by kernel_rfl) ?_) | (refine wpList_store_rowTo rfl 55 _ _ rfl rfl g (arrV 16 .u8 (partL (turnB s) (4 * c))) rfl rfl 55 _ (blk_below HS0.out HBr.out) (by kernel_rfl) (by simp [arrV_size]) (arrV_one _ _ _) ?_))
    go_end0
    rw [HE.out]
    exact ⟨rfl, setRow_heap _ _ _ _ _ _ (blk_below HS0.out HBr.out), below_setRow (below_then HB0.out HB0.out.size HBr.out) HG.out _, keep_setRow (KeepBut.of_below HBr.out g none) _⟩

end Go.Proofs.Ytpcdkfbngoagnaa.C

-- LEAN
