-- PRINTED by print.py (a twelfth state) out of the translation. Not trusted: Lean checks it.
import Derived.Test.YtpcdkfbngoagnaaCx0
import Derived.Test.YtpcdkfbngoagnaaCx4
import Derived.Test.YtpcdkfbngoagnaaCx10
namespace Go.Proofs.Ytpcdkfbngoagnaa.C
open Go.RowKit Go.Proofs.YtpcdkfbngoagnaaW.PrintWords Go.Proofs.YtpcdkfbngoagnaaW.PrintLast Go.Proofs.YtpcdkfbngoagnaaW.PrintMore
attribute [local go_sem] max2_int min2_int max_two min_two max_three min_three max_four min_four   -- for this text's walks alone
set_option linter.unusedVariables false
set_option linter.unusedSimpArgs false

-- OWN FILE
/-! ### aes_state_mix: function 37 -/
/-! The product of two bytes, in nine rounds. -/
def tm (a b : Int) : Int := (aes_times.f 9 a b).getD 0
theorem times_l0_some (n : Nat) : ∀ (x b y : Int), 0 ≤ b → b < 2 ^ n → ∃ r, aes_times.l0 (n + 1) x b y = some r := by
 induction n with
 | zero =>
  intro x b y h0 h1
  have hb : ¬ b > 0 := by simp at h1; omega
  exact ⟨y, by simp only [aes_times.l0]; rw [if_neg hb]⟩
 | succ n ih =>
  intro x b y h0 h1
  by_cases hb : b > 0
  · obtain ⟨r, hr⟩ := ih (Go.bits .xor .u8 ((x * 2) % 256) (((x / 128) * 27) % 256)) (b / 2) (Go.bits .xor .u8 y ((x * (Go.bits .and .u8 b 1)) % 256)) (by omega) (by rw [Int.pow_succ] at h1; omega)
    refine ⟨r, ?_⟩
    rw [aes_times.l0, if_pos hb]
    simp only [aes_twice.f, Option.bind_some]
    exact hr
  · exact ⟨y, by rw [aes_times.l0, if_neg hb]⟩
theorem times_some (a b : Int) (h0 : 0 ≤ b) (h1 : b < 256) : aes_times.f 9 a b = some (tm a b) := by
 obtain ⟨r, hr⟩ := times_l0_some 8 a b 0 h0 (by simpa using h1)
 have : aes_times.f 9 a b = some r := hr
 unfold tm
 rw [this]
 rfl
def accF (s b : List Int) (c r : Nat) : Nat → Int
 | 0 => 0
 | n + 1 => Go.bits .xor .u8 (accF s b c r n) (tm (s.getD (4 * c + (r + n) % 4) 0) (b.getD n 0))
def mixF (b s : List Int) (i : Nat) : Int := accF s b (i / 4) (i % 4) 4
theorem mixF_at (b s : List Int) (c r : Nat) (hr : r < 4) : mixF b s (4 * c + r) = accF s b c r 4 := by
 unfold mixF
 rw [show (4 * c + r) / 4 = c from by omega, show (4 * c + r) % 4 = r from by omega]
theorem zero61 (W : World) : (zeroValue 61).run Try.prog W = .ok (.agg (arrV 4 .u8 [])) W := by kernel_rfl
theorem run_index_ar61 (l : List Int) (j : Int) (h0 : 0 ≤ j) (h1 : j < (4 : Nat)) (k' : IntKind) (W : World) : (Instr.index 61 (.agg (arrV 4 .u8 l)) (.int k' j)).run Try.prog W = .ok (.int .u8 (rd l j)) W := run_index_arr Try.underlying61 Try.sizeOf5 Try.isAgg5 l j h0 h1 k' W
theorem partL_zero (f : Nat → Int) (k : Nat) (h : k < 16) : (partL f k).set k 0 = partL f k := by
 apply List.ext_getElem?
 intro i
 simp only [partL, List.getElem?_set, List.getElem?_map, List.getElem?_range, List.length_map, List.length_range]
 by_cases h1 : k = i
 · subst h1
   simp [h]
 · simp [h1]

set_option maxHeartbeats 2000000 in
theorem state_mix (g : Nat) (s b : List Int) (w0 w : World) (hs : s.length = 16) (hg : w0.heap.size ≤ g) (hb : ∀ i, 0 ≤ b.getD i 0 ∧ b.getD i 0 < 256)
 (hst : StAt w g s) (hB : Below w0.heap.size w0 w) :
 Calls Try.prog 37 #[.pointer (some ⟨g, 0, none⟩), .agg (arrV 4 .u8 b)] w fun e w' => e = .returned (.tuple #[]) ∧ StAt w' g (partL (mixF b s) 16) ∧ Below w0.heap.size w0 w' ∧ KeepBut w w' g none := by
 have HS0 := Aside0.mk hst
 have HB0 := Aside0.mk hB
 have HR := Aside0.mk hb
 have HS := Aside0.mk hs
 have HG := Aside0.mk hg
 clear hb hst hB hs hg
 have hz55 := zero55
 go_enter Try.func37, Try.ntmps37
 go_wp2
 go_loopw [9] (fun i wr => ∃ c : Nat, c ≤ 4 ∧ i = .int .i64 c ∧ Aside0 (StAt wr (w.heap.size + 1) (partL (mixF b s) (4 * c))) ∧ Aside0 (wr.heap[w.heap.size]? = some (.cells (arrV 4 .u8 b) 61 (0, 0))) ∧ Aside0 (Below w.heap.size w wr)) (fun i _ => 4 - (intOf i).toNat)
 case atStart => exact ⟨0, by omega, rfl, ⟨by
  have h2 := heap_alloc_last (w.alloc (.cells (arrV 4 .u8 b) 61)) (.cells (arrV 16 .u8 []) 55)
  rw [← arrV_part0 (mixF b s), World.size_alloc] at h2
  exact h2⟩, ⟨blk_alloc (heap_alloc_last w _) _⟩, ⟨((Below.refl _ _).alloc (Nat.le_refl _) _).alloc (by simp) _⟩⟩
 case round =>
  obtain ⟨c, hc, rfl, HSr, HY, HBr⟩ := hrel
  obtain ⟨wo, rfl⟩ : ∃ wo : World, wo = wr := ⟨_, rfl⟩
  by_cases hlt : c < 4
  · have hcd : decide ((c : Int) < 4) = true := decide_eq_true (by omega)
    go_wp2
    go_loopw [12] (fun i wr => ∃ r : Nat, r ≤ 4 ∧ i = .int .i64 r ∧ Aside0 (StAt wr (w.heap.size + 1) (partL (mixF b s) (4 * c + r))) ∧ Aside0 (wr.heap[w.heap.size]? = some (.cells (arrV 4 .u8 b) 61 (0, 0))) ∧ Aside0 (Below w.heap.size w wr)) (fun i _ => 4 - (intOf i).toNat)
    case atStart => exact ⟨0, by omega, rfl, HSr, HY, HBr⟩
    case round =>
     clear HSr HBr HY
     obtain ⟨r, hr, rfl, HSr, HY, HBr⟩ := hrel
     obtain ⟨wo2, rfl⟩ : ∃ wo : World, wo = wr := ⟨_, rfl⟩
     by_cases hlt2 : r < 4
     · have hrd : decide ((r : Int) < 4) = true := decide_eq_true (by omega)
       go_wp2_with (refine wpList_load_row rfl 61 _ rfl w.heap.size rfl 61 _ (0, 0) _ HY.out Try.underlying61 rfl (by kernel_rfl) ?_)
       go_loopw [16] (fun i wr => ∃ n : Nat, n ≤ 4 ∧ i = .int .i64 n ∧ Aside0 (StAt wr (w.heap.size + 1) ((partL (mixF b s) (4 * c + r)).set (4 * c + r) (accF s b c r n))) ∧ Aside0 (wr.heap[w.heap.size]? = some (.cells (arrV 4 .u8 b) 61 (0, 0))) ∧ Aside0 (Below w.heap.size w wr)) (fun i _ => 4 - (intOf i).toNat)
       case atStart => exact ⟨0, by omega, rfl, ⟨by rw [show accF s b c r 0 = 0 from rfl, partL_zero _ _ (by omega)]; exact HSr.out⟩, HY, HBr⟩
       case round =>
        clear HSr HBr HY
        obtain ⟨n, hn, rfl, HSr, HY, HBr⟩ := hrel
        by_cases hlt3 : n < 4
        · have hnd : decide ((n : Int) < 4) = true := decide_eq_true (by omega)
          have hc1 := (StAt.cell (blk_below HS0.out HBr.out) (4 * c + (r + n) % 4) (by omega))
          have hd := HSr.out.cell (4 * c + r) (by omega)
          have hset : ((partL (mixF b s) (4 * c + r)).set (4 * c + r) (accF s b c r n)).getD (4 * c + r) 0 = accF s b c r n := by
           rw [List.getD_eq_getElem?_getD, List.getElem?_set]
           simp [partL_length, show 4 * c + r < 16 by omega]
          rw [hset] at hd
          obtain ⟨a1, ha1⟩ : ∃ v, v = s.getD (4 * c + (r + n) % 4) 0 := ⟨_, rfl⟩
          obtain ⟨m1, hm1⟩ : ∃ v, v = b.getD n 0 := ⟨_, rfl⟩
          obtain ⟨q1, hq1⟩ : ∃ v, v = accF s b c r n := ⟨_, rfl⟩
          rw [← ha1] at hc1
          rw [← hq1] at hd
          have hm := HR.out n
          rw [← hm1] at hm
          have HT := Aside0.mk (times_some a1 m1 hm.1 hm.2)
          have HA1 := Aside0.mk ha1
          have HM1 := Aside0.mk hm1
          have HQ1 := Aside0.mk hq1
          have hrd2 : rd b (n : Int) = m1 := by simpa [rd] using hm1.symm
          clear ha1 hm1 hq1 hset hm
          have hix := run_index_ar61 b (n : Int) (by omega) (by omega)
          rw [hrd2] at hix
          clear hrd2
          have hfd := blk_frozen HSr.out (4 * c + r)
          have s1 : 4 * (c : Int) + ((r : Int) + (n : Int)) % 4 < 16 := by omega
          have s2 : 0 ≤ 4 * (c : Int) + ((r : Int) + (n : Int)) % 4 := by omega
          have e1 : IntKind.i64.wrap ((r : Int) + (n : Int)) = (r : Int) + (n : Int) := IntWalk.i64_in _ (by omega)
          have e2 : ((r : Int) + (n : Int)).tmod 4 = ((r : Int) + (n : Int)) % 4 := by rw [Int.tmod_eq_emod_of_nonneg (by omega)]
          have e4 : IntKind.i64.wrap (4 * (c : Int) + ((r : Int) + (n : Int)) % 4) = 4 * (c : Int) + ((r : Int) + (n : Int)) % 4 := IntWalk.i64_in _ (by omega)
          have e5 : IntKind.i64.wrap (4 * (c : Int)) = 4 * (c : Int) := IntWalk.i64_in _ (by omega)
          have e6 : IntKind.i64.wrap (4 * (c : Int) + (r : Int)) = 4 * (c : Int) + (r : Int) := IntWalk.i64_in _ (by omega)
          have s4 : 4 * (c : Int) + (r : Int) < 16 := by omega
          have s5 : 0 ≤ 4 * (c : Int) + (r : Int) := by omega
          have s6 : (4 * (c : Int) + (r : Int)).toNat = 4 * c + r := by omega
          have s3 : (4 * (c : Int) + ((r : Int) + (n : Int)) % 4).toNat = 4 * c + (r + n) % 4 := by omega
          go_wp2_with fail
          go_region_with (go_at_call 43; refine (aes_times.calls 9 a1 m1 _ _ HT.out).mono ?_; rintro e w1 ⟨rfl, ⟨nd, rfl⟩⟩)
          all_goals
           clear e1 e2 e4 e5 e6 s1 s2 s3 s4 s5 s6 hix
           go_wp2
           go_roundw
           case rel => exact ⟨n + 1, by omega, by go_num, ⟨by
            have h2 := StAt.set HSr.out (4 * c + r) (Go.bits .xor .u8 q1 (tm a1 m1)) (by rw [List.length_set, partL_length]; omega)
            rw [List.set_set, HQ1.out, HA1.out, HM1.out] at h2
            rw [HQ1.out, HA1.out, HM1.out]
            exact h2⟩, ⟨blk_far (w := wr) HY.out (by simp) _⟩, ⟨(pw_below_drewN HBr.out _).setCell (p := ⟨w.heap.size + 1, 4 * c + r, none⟩) (Nat.le_succ _) _⟩⟩
           case measure => simp [intOf]; omega
        · have hnd : decide ((n : Int) < 4) = false := decide_eq_false (by omega)
          have HE := Aside0.mk (show n = 4 by omega)
          have HF := Aside0.mk (mixF_at b s c r hlt2)
          go_wp2
          go_roundw
          case rel => exact ⟨r + 1, by omega, by go_num, ⟨by
           have h2 := HSr.out
           rw [HE.out, ← HF.out, partL_set _ _ (by omega)] at h2
           exact h2⟩, HY, HBr⟩
          case measure => simp [intOf]; omega
     · have hrd : decide ((r : Int) < 4) = false := decide_eq_false (by omega)
       have HE := Aside0.mk (show r = 4 by omega)
       go_wp2
       go_roundw
       case rel => exact ⟨c + 1, by omega, by go_num, ⟨by have h2 := HSr.out; rw [HE.out] at h2; exact h2⟩, HY, HBr⟩
       case measure => simp [intOf]; omega
  · have hcd : decide ((c : Int) < 4) = false := decide_eq_false (by omega)
    have HE := Aside0.mk (show c = 4 by omega)
    go_wp2_with (first | (refine wpList_load_row rfl 55 _ rfl (w.heap.size + 1) rfl 55 _ (0, 0) _ HSr.out Try.underlying55 rfl (by kernel_rfl) ?_) | (refine wpList_store_rowTo rfl 55 _ _ rfl rfl g (arrV 16 .u8 (partL (mixF b s) (4 * c))) rfl rfl 55 _ (blk_below HS0.out HBr.out) (by kernel_rfl) (by simp [arrV_size]) (arrV_one _ _ _) ?_))
    go_end0
    rw [HE.out]
    exact ⟨rfl, setRow_heap _ _ _ _ _ _ (blk_below HS0.out HBr.out), below_setRow (below_then HB0.out HB0.out.size HBr.out) HG.out _, keep_setRow (KeepBut.of_below HBr.out g none) _⟩

end Go.Proofs.Ytpcdkfbngoagnaa.C

-- LEAN
