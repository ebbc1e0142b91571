-- PRINTED by print.py (a twelfth state) out of the translation. Not trusted: Lean checks it.
import Derived.Test.YtpcdkfbngoagnaaCx0
import Derived.Test.YtpcdkfbngoagnaaCx1
import Derived.Test.YtpcdkfbngoagnaaCx3
import Derived.Test.YtpcdkfbngoagnaaCx4
namespace Go.Proofs.Ytpcdkfbngoagnaa.C
open Go.RowKit Go.Proofs.YtpcdkfbngoagnaaW.PrintWords Go.Proofs.YtpcdkfbngoagnaaW.PrintLast Go.Proofs.YtpcdkfbngoagnaaW.PrintMore
attribute [local go_sem] max2_int min2_int max_two min_two max_three min_three max_four min_four   -- for this text's walks alone
set_option linter.unusedVariables false
set_option linter.unusedSimpArgs false

/-! ### aes_Keys: function 17 -/
mutual
def aes_Keys.l0 : Nat → List (List Int) → Int → Int → Option ((List (List Int)) × Option Int)
 | 0, _, _, _ => none
 | k + 1, x4, x5, x16 => if x16 < 10 then (if 0 ≤ x16 then (if x16 < (x4.length : Int) then ((slices_Clone_byte_byte.f (rd_L1 x4 x16)).bind fun t109 => (aes_Keys.l1 k x4 x5 x16 t109 x16 (t109.length : Int) 0)) else (none)) else (none)) else (some (x4, none))
def aes_Keys.l1 : Nat → List (List Int) → Int → Int → List Int → Int → Int → Int → Option ((List (List Int)) × Option Int)
 | 0, _, _, _, _, _, _, _ => none
 | k + 1, x4, x5, x6, x7, x16, x25, x26 => if x26 < x25 then (if x26 = 0 then (if 0 ≤ x26 then (if x26 < (x7.length : Int) then ((aes_substitutes.f).bind fun t117 => (if 0 ≤ x6 then (if x6 < (x4.length : Int) then (if 13 < ((rd_L1 x4 x6).length : Int) then (if 0 ≤ (rd (rd_L1 x4 x6) 13) then (if (rd (rd_L1 x4 x6) 13) < 256 then (aes_Keys.l1 k x4 x5 x6 (x7.set (x26 : Int).toNat (Go.bits .xor .u8 (rd x7 x26) (Go.bits .xor .u8 (rd t117 (rd (rd_L1 x4 x6) 13)) x5))) x16 x25 (wrap64 (x26 + 1))) else (none)) else (none)) else (none)) else (none)) else (none))) else (none)) else (none)) else (if x26 < 4 then (if 0 ≤ x26 then (if x26 < (x7.length : Int) then ((aes_substitutes.f).bind fun t122 => (if 0 ≤ x6 then (if x6 < (x4.length : Int) then (if 0 ≤ (wrap64 (12 + (Int.tmod (wrap64 (x26 + 1)) 4))) then (if (wrap64 (12 + (Int.tmod (wrap64 (x26 + 1)) 4))) < ((rd_L1 x4 x6).length : Int) then (if 0 ≤ (rd (rd_L1 x4 x6) (wrap64 (12 + (Int.tmod (wrap64 (x26 + 1)) 4)))) then (if (rd (rd_L1 x4 x6) (wrap64 (12 + (Int.tmod (wrap64 (x26 + 1)) 4)))) < 256 then (aes_Keys.l1 k x4 x5 x6 (x7.set (x26 : Int).toNat (Go.bits .xor .u8 (rd x7 x26) (rd t122 (rd (rd_L1 x4 x6) (wrap64 (12 + (Int.tmod (wrap64 (x26 + 1)) 4))))))) x16 x25 (wrap64 (x26 + 1))) else (none)) else (none)) else (none)) else (none)) else (none)) else (none))) else (none)) else (none)) else (if 0 ≤ x26 then (if x26 < (x7.length : Int) then (if 0 ≤ (wrap64 (x26 - 4)) then (if (wrap64 (x26 - 4)) < (x7.length : Int) then (aes_Keys.l1 k x4 x5 x6 (x7.set (x26 : Int).toNat (Go.bits .xor .u8 (rd x7 x26) (rd x7 (wrap64 (x26 - 4))))) x16 x25 (wrap64 (x26 + 1))) else (none)) else (none)) else (none)) else (none)))) else (if x4.length < 5864062014805 then ((aes_twice.f x5).bind fun t115 => (aes_Keys.l0 k (x4 ++ [x7]) t115 (wrap64 (x16 + 1)))) else (none))
end
def aes_Keys.f (k : Nat) (l0 : List Int) : Option ((List (List Int)) × Option Int) := if (l0.length : Int) = 16 then ((slices_Clone_byte_byte.f l0).bind fun t102 => (aes_Keys.l0 k (([t102] : List (List Int))) 1 0)) else (some (([] : List (List Int)), some 1))
theorem aes_Keys.mono_l : ∀ k, (∀ y0 y1 y2, LeO (aes_Keys.l0 k y0 y1 y2) (aes_Keys.l0 (k + 1) y0 y1 y2)) ∧ (∀ y0 y1 y2 y3 y4 y5 y6, LeO (aes_Keys.l1 k y0 y1 y2 y3 y4 y5 y6) (aes_Keys.l1 (k + 1) y0 y1 y2 y3 y4 y5 y6))
 | 0 => ⟨fun _ _ _ r h => by simp [aes_Keys.l0] at h, fun _ _ _ _ _ _ _ r h => by simp [aes_Keys.l1] at h⟩
 | k + 1 => by
  obtain ⟨ih0, ih1⟩ := aes_Keys.mono_l k
  refine ⟨?_, ?_⟩
  · intro y0 y1 y2
    unfold aes_Keys.l0
    repeat' first
    | (with_reducible exact ih0 _ _ _)
    | (with_reducible exact ih1 _ _ _ _ _ _ _)
    | (with_reducible exact LeO.refl _)
    | (with_reducible exact LeO.none _)
    | (with_reducible refine LeO.ite ?_ ?_)
    | (with_reducible refine LeO.bind ?_ (fun _ => ?_))
    | exact ih0 _ _ _
    | exact ih1 _ _ _ _ _ _ _
    | exact LeO.none _
    | refine LeO.ite ?_ ?_
    | refine LeO.bind ?_ (fun _ => ?_)
  · intro y0 y1 y2 y3 y4 y5 y6
    unfold aes_Keys.l1
    repeat' first
    | (with_reducible exact ih0 _ _ _)
    | (with_reducible exact ih1 _ _ _ _ _ _ _)
    | (with_reducible exact LeO.refl _)
    | (with_reducible exact LeO.none _)
    | (with_reducible refine LeO.ite ?_ ?_)
    | (with_reducible refine LeO.bind ?_ (fun _ => ?_))
    | exact ih0 _ _ _
    | exact ih1 _ _ _ _ _ _ _
    | exact LeO.none _
    | refine LeO.ite ?_ ?_
    | refine LeO.bind ?_ (fun _ => ?_)
theorem aes_Keys.mono : ∀ a0 k, LeO (aes_Keys.f k a0) (aes_Keys.f (k + 1) a0) := by
 intro a0 k
 obtain ⟨ih0, ih1⟩ := aes_Keys.mono_l k
 unfold aes_Keys.f
 repeat' first
  | (with_reducible exact ih0 _ _ _)
  | (with_reducible exact ih1 _ _ _ _ _ _ _)
  | (with_reducible exact LeO.refl _)
  | (with_reducible exact LeO.none _)
  | (with_reducible refine LeO.ite ?_ ?_)
  | (with_reducible refine LeO.bind ?_ (fun _ => ?_))
  | exact ih0 _ _ _
  | exact ih1 _ _ _ _ _ _ _
  | exact LeO.none _
  | refine LeO.ite ?_ ?_
  | refine LeO.bind ?_ (fun _ => ?_)
def aes_Keys.T12 : Bool × List (List Nat × List Nat) := (true, [([], []), ([], []), ([0, 1], [0, 1]), ([2], [2]), ([], []), ([], []), ([5], [5]), ([4, 6], [4, 6]), ([7], [7]), ([3, 8], [3, 8]), ([0, 1, 0, 1, 2, 3, 4, 5, 6, 7, 8, 9], [0, 1]), ([10, 9, 0, 1, 2, 3, 4, 5, 6, 7, 8, 9], [9, 10])])
def aes_Keys.B12 : List Nat := [0, 0, 3, 7, 0, 0, 32, 112, 240, 511, 1023, 2047]
theorem aes_Keys.tab12 : rtab .any (opsOf Try.f17 12) = aes_Keys.T12 := by kernel_rfl
theorem aes_Keys.bits12 : waitsOk aes_Keys.T12.2 aes_Keys.B12 = true := by kernel_rfl
def aes_Keys.T14 : Bool × List (List Nat × List Nat) := (true, [([], []), ([], []), ([0, 1], [0, 1]), ([2], [2]), ([], []), ([], []), ([], []), ([5, 6], [5, 6]), ([7], [7]), ([8], [8]), ([9], [9]), ([4, 10], [4, 10]), ([], []), ([11, 12], [11, 12]), ([3, 13], [3, 13]), ([0, 1, 0, 1, 2, 3, 4, 5, 6, 7, 8, 9, 10, 11, 12, 13, 14], [0, 1]), ([15, 14, 4, 0, 1, 2, 3, 4, 5, 6, 7, 8, 9, 10, 11, 12, 13, 14], [14, 15])])
def aes_Keys.B14 : List Nat := [0, 0, 3, 7, 0, 0, 0, 96, 224, 480, 992, 2032, 0, 8176, 16383, 32767, 65535]
theorem aes_Keys.tab14 : rtab .any (opsOf Try.f17 14) = aes_Keys.T14 := by kernel_rfl
theorem aes_Keys.bits14 : waitsOk aes_Keys.T14.2 aes_Keys.B14 = true := by kernel_rfl
def aes_Keys.T16 : Bool × List (List Nat × List Nat) := (true, [([], []), ([], []), ([0, 1], [0, 1]), ([2], [2]), ([], []), ([], []), ([], []), ([5, 6], [5, 6]), ([7], [7]), ([], []), ([9], [9]), ([10], [10]), ([11], [11]), ([8, 12], [8, 12]), ([13], [13]), ([4, 14], [4, 14]), ([3, 15], [3, 15]), ([0, 1, 0, 1, 2, 3, 4, 5, 6, 7, 8, 9, 10, 11, 12, 13, 14, 15, 16], [0, 1]), ([17, 16, 4, 0, 1, 2, 3, 4, 5, 6, 7, 8, 9, 10, 11, 12, 13, 14, 15, 16], [16, 17])])
def aes_Keys.B16 : List Nat := [0, 0, 3, 7, 0, 0, 0, 96, 224, 0, 512, 1536, 3584, 8160, 16352, 32752, 65535, 131071, 262143]
theorem aes_Keys.tab16 : rtab .any (opsOf Try.f17 16) = aes_Keys.T16 := by kernel_rfl
theorem aes_Keys.bits16 : waitsOk aes_Keys.T16.2 aes_Keys.B16 = true := by kernel_rfl
set_option maxHeartbeats 8000000 in
set_option maxRecDepth 100000 in
theorem aes_Keys.calls (k : Nat) (A0 : Option Addr) (c0 : Nat) (l0 : List Int) (r1 : List (List Int)) (r2 : Option Int) (w : World) (hr0 : Kd.C (Kd.int .u8) w A0 l0.length l0) (hc0 : l0.length ≤ c0) (h : aes_Keys.f k l0 = some (r1, r2)) :
 Calls Try.prog 17 #[.slice A0 l0.length c0] w fun e w' => ∃ v0_ : Value, e = .returned (.tuple #[v0_, errW r2]) ∧ Kd.N (Kd.slice 5 (Kd.int .u8)) 25 w' w.heap.size (fun k_ => (w.heap.size ≤ k_)) v0_ r1 ∧ Below w.heap.size w w' := by
 have hu28 := Try.underlying28
 have hu31 := Try.underlying31
 have HR0 := Aside0.mk hr0
 have HC0 := Aside0.mk hc0
 clear hr0 hc0
 have HB := Aside0.mk (Below.refl w.heap.size w)
 have H : (if (l0.length : Int) = 16 then ((slices_Clone_byte_byte.f l0).bind fun t102 => (aes_Keys.l0 k (([t102] : List (List Int))) 1 0)) else (some (([] : List (List Int)), some 1))) = some (r1, r2) := h
 clear h
 by_cases c2 : (l0.length : Int) = 16
 · rw [if_pos c2] at H
   have c2b0 : ((l0.length : Int) == 16) = true := beq_iff_eq.mpr c2
   have c2b1 : ((l0.length : Int) != 16) = false := bne_eq_false_iff_eq.mpr c2
   clear c2
   replace H := Option.bind_eq_some_iff.mp H
   obtain ⟨t102, A30, H⟩ := H
   replace H : (aes_Keys.l0 k (([t102] : List (List Int))) 1 0) = some (r1, r2) := H
   have A3 := Aside0.mk A30
   clear A30
   obtain ⟨y105, hy105⟩ : ∃ y_ : List (List Int), y_ = (([t102] : List (List Int))) := ⟨_, rfl⟩
   replace H : (aes_Keys.l0 k y105 1 0) = some (r1, r2) := by first | (rw [hy105]; with_reducible exact H) | (have H2_ := (Option.bind_some _ _).symm.trans H; rw [hy105]; with_reducible exact H2_) | (have H2_ := (Option.bind_some _ _).symm.trans H; with_reducible exact H2_) | with_reducible exact H | (rw [hy105]; exact H) | exact H
   have Ny105 := Aside0.mk hy105
   clear hy105
   have H' := Aside0.mk H
   clear H
   go_enter Try.func17, Try.ntmps17
   go_wp2_with (first | ((with_reducible refine gate_callee (f := 32) rfl ?_); refine goesL_ (some 14) rfl rfl Try.func32 (by kernel_rfl) rfl #[.slice A0 l0.length c0] rfl (by (try simp only [List.map_toArray, List.map_cons, List.map_nil]); first | done | rfl | (simp only [List.length_drop, List.length_take]; rfl)) ?_; (with_reducible refine (slices_Clone_byte_byte.calls _ _ l0 t102 _ ?side1 ?side2 A3.out).mono ?_); (case side1 => repeat (first | exact HR0.out | (with_reducible refine Kd.C_alloc ?_ _) | (with_reducible refine Kd.C_drewN ?_ _) | (with_reducible refine Kd.C_drew ?_))); (case side2 => exact HC0.out); rintro e w4 ⟨v103, rfl, ho0, hb⟩; refine ⟨_, rfl, ?_⟩; have n0_ := Aside0.mk (Kd.R_lower (Kd.R_newM (M := fun k_ => (w.heap.size ≤ k_)) ho0 (below_size (by repeat (first | (with_reducible first | exact HB.out | apply below_alloc | apply pw_below_drewN | apply below_drew1) | exact HB.out))) (fun k_ h_ => h_)) (below_size (by repeat (first | (with_reducible first | exact HB.out | apply below_alloc | apply pw_below_drewN | apply below_drew1) | exact HB.out)))); have n1_ := Aside0.mk (below_step (by repeat (first | (with_reducible first | exact HB.out | apply below_alloc | apply pw_below_drewN | apply below_drew1) | exact HB.out)) hb); clear HB; have HO104 := n0_; have HB := n1_; clear n0_ n1_; (try clear hb); (try clear hb2); (try clear hk); (try clear hi); (try clear ho0); obtain ⟨Ao5, co5, eo5⟩ := Kd.R_slice HO104.out; subst eo5) | ((with_reducible refine gate_dst (N := 15) rfl ?_); refine Kd.N_lit (Kd.slice 5 (Kd.int .u8)) _ 25 ?hg (N' := 15) ?hd (xs := ([t102] : List (List Int))) (inner := [.slice Ao5 t102.length co5]) (ok := (fun k_ => (w.heap.size ≤ k_))) (okp := (fun k_ => (w.heap.size ≤ k_))) ?hr ?hp (fun _ hk => hk) ((show ∀ k_, w4.heap.size ≤ k_ → (fun k_ => (w.heap.size ≤ k_)) k_ from fun k_ hk => (Nat.le_trans (below_size (by repeat (first | (with_reducible first | exact HB.out | apply below_alloc | apply pw_below_drewN | apply below_drew1) | exact HB.out))) hk)) _ (Nat.le_refl _)) (Below.refl _ _) (Nat.le_refl _) (by simp) ?_; (case hd => rfl); (case hg => rfl); (case hr => first | (go_simp; done) | (go_simp; rfl)); (case hp => exact (Reps.one (show Kd.FK (Kd.slice 5 (Kd.int .u8)) _ _ t102 [.slice Ao5 t102.length co5] from (Kd.FK_slice_mk (Kd.R_reads' (Kd.R_mono (ok' := (fun k_ => (w.heap.size ≤ k_))) (HO104.out) (fun k_ hk => hk.1))).2.1 (Kd.R_F (Kd.R_mono (ok' := (fun k_ => (w.heap.size ≤ k_))) (HO104.out) (fun k_ hk => hk.1))))) (Reps.none _ _))); intro v106 w6 ho7 hb hg_ hnew_; clear hg_ hnew_; (first | rw [← Ny105.out] at ho7 | (simp only [Int.reduceToNat] at ho7; rw [← Ny105.out] at ho7)); have n0_ := Aside0.mk (Kd.N_lower ho7 (below_size (by repeat (first | (with_reducible first | exact HB.out | apply below_alloc | apply pw_below_drewN | apply below_drew1) | exact HB.out)))); have n1_ := Aside0.mk (below_step (by repeat (first | (with_reducible first | exact HB.out | apply below_alloc | apply pw_below_drewN | apply below_drew1) | exact HB.out)) hb); clear HB; clear HO104; have HO107 := n0_; have HB := n1_; clear n0_ n1_; clear hb ho7))
   go_loopg [4, 5, 16] k (fun kq v4 v5 v16 w' => ∃ (x4_1 : List (List Int)) (x5_1 : Int) (x16_1 : Int), v5 = .int .u8 x5_1 ∧ v16 = .int .i64 x16_1 ∧ Aside0 (aes_Keys.l0 kq x4_1 x5_1 x16_1 = some (r1, r2)) ∧ Aside0 (kq ≤ k) ∧ Aside0 (Kd.N (Kd.slice 5 (Kd.int .u8)) 25 w' w.heap.size (fun k_ => (w.heap.size ≤ k_)) v4 x4_1) ∧ Aside0 (Below w.heap.size w w'))
   case atStart => exact ⟨(y105), (1), (0), (by first | rfl | (simp; done) | (simp [*]; done)), (by first | rfl | (simp; done) | (simp [*]; done)), H', ⟨Nat.le_refl _⟩, ⟨by (with_reducible repeat (first | apply Kd.N_alloc | apply Kd.N_drewN | apply Kd.N_drew)); exact HO107.out⟩, ⟨by repeat (first | (with_reducible first | exact HB.out | apply below_alloc | apply pw_below_drewN | apply below_drew1) | exact HB.out)⟩⟩
   case round =>
    clear H'
    try clear c1
    try clear c2
    try clear c2b0
    try clear c2b1
    try clear p2
    try clear c3
    obtain ⟨x4_1, x5_1, x16_1, rfl, rfl, HA, HK1, HO_4, HB⟩ := hrel
    cases gk with
    | zero => exact absurd HA.out (by simp [aes_Keys.l0])
    | succ k1 =>
     have H := HA.out
     clear HA
     simp only [aes_Keys.l0] at H
     by_cases c8 : x16_1 < 10
     · rw [if_pos c8] at H
       have c8b0 : decide (x16_1 < 10) = true := decide_eq_true c8
       clear c8
       by_cases c9 : 0 ≤ x16_1
       · rw [if_pos c9] at H
         have c9b0 : decide (0 ≤ x16_1) = true := decide_eq_true c9
         clear c9
         by_cases c10 : x16_1 < (x4_1.length : Int)
         · rw [if_pos c10] at H
           have c10b0 : decide (x16_1 < (x4_1.length : Int)) = true := decide_eq_true c10
           clear c10
           replace H := Option.bind_eq_some_iff.mp H
           obtain ⟨t109, A110, H⟩ := H
           replace H : (aes_Keys.l1 k1 x4_1 x5_1 x16_1 t109 x16_1 (t109.length : Int) 0) = some (r1, r2) := H
           have A11 := Aside0.mk A110
           clear A110
           have H' := Aside0.mk H
           clear H
           obtain ⟨Ao12, co12, eo12⟩ := Kd.N_slice HO_4.out
           subst eo12
           have p108 : 0 ≤ (x16_1 : Int) := of_decide_eq_true (by first | (with_reducible assumption) | assumption)
           have q108 : x16_1 < (x4_1.length : Int) := of_decide_eq_true (by first | (with_reducible assumption) | assumption)
           obtain ⟨ad108, A108_0, c108_0, e108, hx108_0, hl108_0, hi108_0⟩ := at_L1 (Kd.N_reads' HO_4.out).2.2 x16_1 p108 q108
           cases e108
           obtain ⟨ce108, hce108, hMe108, hcc108⟩ := Kd.N_get HO_4.out [] x16_1 p108 (by first | exact q108 | exact of_decide_eq_true (by first | (with_reducible assumption) | assumption) | (have e_ := (Kd.N_reads' HO_4.out).1; omega))
           obtain ⟨ua108_0, uc108_0, rfl, ul108_0, ge108_0⟩ := Kd.FK_slice_open hMe108
           have hv108_0 := hcc108 0 _ rfl
           rw [Nat.add_zero, show ((Kd.slice 5 (Kd.int .u8))).sz = 1 from rfl, Nat.mul_one] at hv108_0
           replace hv108_0 := Option.some.inj (hv108_0.symm.trans hx108_0)
           injection hv108_0 with hva_ hvn_ hvc_
           rw [hva_] at ge108_0
           rw [hvc_] at ul108_0
           have HL108_0 := Aside0.mk (show Kd.V (Kd.int .u8) 5 _ w.heap.size _ _ (rd_L1 x4_1 x16_1) from Kd.V_mk ul108_0 ge108_0)
           clear hva_ hvn_ hvc_ ge108_0 ul108_0
           clear hcc108 hce108
           have HR108_0 := Aside0.mk hi108_0
           have HC108_0 := Aside0.mk hl108_0
           clear hi108_0 hl108_0
           replace p108 := eq_true p108
           replace q108 := eq_true q108
           go_wp2_with (first | ((with_reducible refine gate_callee (f := 32) rfl ?_); refine goesL_ (some 23) rfl rfl Try.func32 (by kernel_rfl) rfl #[.slice A108_0 (rd_L1 x4_1 x16_1).length c108_0] rfl (by (try simp only [List.map_toArray, List.map_cons, List.map_nil]); first | done | rfl | (simp only [List.length_drop, List.length_take]; rfl)) ?_; (with_reducible refine (slices_Clone_byte_byte.calls _ _ (rd_L1 x4_1 x16_1) t109 _ ?side1 ?side2 A11.out).mono ?_); (case side1 => repeat (first | exact (by repeat (first | (with_reducible exact HR108_0.out) | (with_reducible refine Kd.C_alloc ?_ _) | (with_reducible refine Kd.C_drewN ?_ _) | (with_reducible refine Kd.C_drew ?_) | exact HR108_0.out)) | (with_reducible refine Kd.C_alloc ?_ _) | (with_reducible refine Kd.C_drewN ?_ _) | (with_reducible refine Kd.C_drew ?_))); (case side2 => exact HC108_0.out); rintro e w13 ⟨v110, rfl, ho0, hb⟩; refine ⟨_, rfl, ?_⟩; have n0_ := Aside0.mk (Kd.N_elder' (by (with_reducible repeat (first | apply Kd.N_alloc | apply Kd.N_drewN | apply Kd.N_drew)); exact HO_4.out) (Kd.R_base ho0) hb); have n1_ := Aside0.mk (Kd.V_elder' (by (with_reducible repeat (first | apply Kd.V_alloc | apply Kd.V_drewN | apply Kd.V_drew)); exact HL108_0.out) (Kd.R_base ho0) hb); have n2_ := Aside0.mk (Kd.R_lower (Kd.R_newM (M := fun k_ => (w.heap.size ≤ k_)) ho0 (below_size (by repeat (first | (with_reducible first | exact HB.out | apply below_alloc | apply pw_below_drewN | apply below_drew1) | exact HB.out))) (fun k_ h_ => h_)) (below_size (by repeat (first | (with_reducible first | exact HB.out | apply below_alloc | apply pw_below_drewN | apply below_drew1) | exact HB.out)))); have n3_ := Aside0.mk (Kd.C_below (by repeat (first | (with_reducible exact HR108_0.out) | (with_reducible refine Kd.C_alloc ?_ _) | (with_reducible refine Kd.C_drewN ?_ _) | (with_reducible refine Kd.C_drew ?_) | exact HR108_0.out)) hb); have n4_ := Aside0.mk (below_step (by repeat (first | (with_reducible first | exact HB.out | apply below_alloc | apply pw_below_drewN | apply below_drew1) | exact HB.out)) hb); clear HO_4; clear HL108_0; clear HR108_0; clear HB; have HO_4 := n0_; have HL108_0 := n1_; have HO111 := n2_; have HR108_0 := n3_; have HB := n4_; clear n0_ n1_ n2_ n3_ n4_; (try clear hb); (try clear hb2); (try clear hk); (try clear hi); (try clear ho0); obtain ⟨Ao14, co14, eo14⟩ := Kd.R_slice HO111.out; subst eo14))
           go_loopg [26] k1 (fun kq v26 w' => ∃ (x7_2 : List Int) (x26_2 : Int), v26 = .int .i64 x26_2 ∧ Aside0 (aes_Keys.l1 kq x4_1 x5_1 x16_1 x7_2 x16_1 (t109.length : Int) x26_2 = some (r1, r2)) ∧ Aside0 (kq ≤ k1) ∧ Aside0 (Kd.N (Kd.slice 5 (Kd.int .u8)) 25 w' w.heap.size (fun k_ => (w.heap.size ≤ k_) ∧ some k_ ≠ ((.slice Ao14 t109.length co14) : Value).ownBlock) (.slice (some ad108) x4_1.length co12) x4_1) ∧ Aside0 (Kd.R (Kd.int .u8) 5 w' w.heap.size (fun k_ => (w.heap.size ≤ k_)) (.slice Ao14 t109.length co14) x7_2) ∧ Aside0 (Below w.heap.size w w'))
           case atStart => exact ⟨(t109), (0), (by first | rfl | (simp; done) | (simp [*]; done)), H', ⟨Nat.le_refl _⟩, ⟨by (with_reducible repeat (first | apply Kd.N_alloc | apply Kd.N_drewN | apply Kd.N_drew)); exact HO_4.out⟩, ⟨by (with_reducible repeat (first | apply Kd.R_alloc | apply Kd.R_drewN | apply Kd.R_drew)); exact Kd.R_mono HO111.out (fun _ hk => hk.1)⟩, ⟨by repeat (first | (with_reducible first | exact HB.out | apply below_alloc | apply pw_below_drewN | apply below_drew1) | exact HB.out)⟩⟩
           case round =>
            clear H'
            try clear c1
            try clear p1
            try clear q1
            try clear hx1
            try clear c2
            try clear c2b0
            try clear c2b1
            try clear p2
            try clear c3
            try clear c8
            try clear c8b0
            try clear c9
            try clear c9b0
            try clear c10
            try clear c10b0
            try clear p10
            try clear q10
            try clear hx10
            try clear hx108_0
            try clear p108
            try clear p2
            try clear q108
            obtain ⟨x7_2, x26_2, rfl, HA, HK2, HO_4, HO_7, HB⟩ := hrel
            have hl7_2 := (Kd.R_reads' HO_7.out).1
            rw [hl7_2] at HO_7
            (try simp only [hl7_2])
            (try simp only [hl7_2] at HO_4)
            cases gk with
            | zero => exact absurd HA.out (by simp [aes_Keys.l1])
            | succ k2 =>
             have H := HA.out
             clear HA
             simp only [aes_Keys.l1] at H
             by_cases c15 : x26_2 < (t109.length : Int)
             · rw [if_pos c15] at H
               have c15b0 : decide (x26_2 < (t109.length : Int)) = true := decide_eq_true c15
               clear c15
               (try (have c15h0 := c15b0; simp only [hl7_2] at c15h0))
               (try (have c15h1 := c15b0; simp only [← hl7_2] at c15h1))
               by_cases c16 : x26_2 = 0
               · rw [if_pos c16] at H
                 have c16b0 : (x26_2 == 0) = true := beq_iff_eq.mpr c16
                 have c16b1 : (x26_2 != 0) = false := bne_eq_false_iff_eq.mpr c16
                 clear c16
                 by_cases c17 : 0 ≤ x26_2
                 · rw [if_pos c17] at H
                   have c17b0 : decide (0 ≤ x26_2) = true := decide_eq_true c17
                   clear c17
                   by_cases c18 : x26_2 < (x7_2.length : Int)
                   · rw [if_pos c18] at H
                     have c18b0 : decide (x26_2 < (x7_2.length : Int)) = true := decide_eq_true c18
                     clear c18
                     (try (have c18h0 := c18b0; simp only [hl7_2] at c18h0))
                     (try (have c18h1 := c18b0; simp only [← hl7_2] at c18h1))
                     replace H := Option.bind_eq_some_iff.mp H
                     obtain ⟨t117, A190, H⟩ := H
                     replace H : (if 0 ≤ x16_1 then (if x16_1 < (x4_1.length : Int) then (if 13 < ((rd_L1 x4_1 x16_1).length : Int) then (if 0 ≤ (rd (rd_L1 x4_1 x16_1) 13) then (if (rd (rd_L1 x4_1 x16_1) 13) < 256 then (aes_Keys.l1 k2 x4_1 x5_1 x16_1 (x7_2.set (x26_2 : Int).toNat (Go.bits .xor .u8 (rd x7_2 x26_2) (Go.bits .xor .u8 (rd t117 (rd (rd_L1 x4_1 x16_1) 13)) x5_1))) x16_1 (t109.length : Int) (wrap64 (x26_2 + 1))) else (none)) else (none)) else (none)) else (none)) else (none)) = some (r1, r2) := H
                     have A19 := Aside0.mk A190
                     clear A190
                     by_cases c20 : 0 ≤ x16_1
                     · rw [if_pos c20] at H
                       have c20b0 : decide (0 ≤ x16_1) = true := decide_eq_true c20
                       clear c20
                       by_cases c21 : x16_1 < (x4_1.length : Int)
                       · rw [if_pos c21] at H
                         have c21b0 : decide (x16_1 < (x4_1.length : Int)) = true := decide_eq_true c21
                         clear c21
                         (try (have c21h0 := c21b0; simp only [hl7_2] at c21h0))
                         (try (have c21h1 := c21b0; simp only [← hl7_2] at c21h1))
                         by_cases c22 : 13 < ((rd_L1 x4_1 x16_1).length : Int)
                         · rw [if_pos c22] at H
                           have c22b0 : decide (13 < ((rd_L1 x4_1 x16_1).length : Int)) = true := decide_eq_true c22
                           have c22b1 : decide (13 < (rd_L1 x4_1 x16_1).length) = true := decide_eq_true (by omega)
                           clear c22
                           (try (have c22h0 := c22b0; simp only [hl7_2] at c22h0))
                           (try (have c22h1 := c22b0; simp only [← hl7_2] at c22h1))
                           by_cases c23 : 0 ≤ (rd (rd_L1 x4_1 x16_1) 13)
                           · rw [if_pos c23] at H
                             have c23b0 : decide (0 ≤ (rd (rd_L1 x4_1 x16_1) 13)) = true := decide_eq_true c23
                             clear c23
                             by_cases c24 : (rd (rd_L1 x4_1 x16_1) 13) < 256
                             · rw [if_pos c24] at H
                               have c24b0 : decide ((rd (rd_L1 x4_1 x16_1) 13) < 256) = true := decide_eq_true c24
                               clear c24
                               obtain ⟨y120, hy120⟩ : ∃ y_ : List Int, y_ = (x7_2.set (x26_2 : Int).toNat (Go.bits .xor .u8 (rd x7_2 x26_2) (Go.bits .xor .u8 (rd t117 (rd (rd_L1 x4_1 x16_1) 13)) x5_1))) := ⟨_, rfl⟩
                               replace H : (aes_Keys.l1 k2 x4_1 x5_1 x16_1 y120 x16_1 (t109.length : Int) (wrap64 (x26_2 + 1))) = some (r1, r2) := by first | (rw [hy120]; with_reducible exact H) | (have H2_ := (Option.bind_some _ _).symm.trans H; rw [hy120]; with_reducible exact H2_) | (have H2_ := (Option.bind_some _ _).symm.trans H; with_reducible exact H2_) | with_reducible exact H | (rw [hy120]; exact H) | exact H
                               have Ny120 := Aside0.mk hy120
                               clear hy120
                               have H' := Aside0.mk H
                               clear H
                               try go_wp2
                               have n0_ := Aside0.mk (Kd.N_drew HO_4.out)
                               have n1_ := Aside0.mk (Kd.R_drew HO_7.out)
                               have n2_ := Aside0.mk (below_drew1 HB.out)
                               clear HO_4
                               clear HO_7
                               clear HB
                               have HO_4 := n0_
                               have HO_7 := n1_
                               have HB := n2_
                               clear n0_ n1_ n2_
                               have p116 : 0 ≤ (x26_2 : Int) := of_decide_eq_true (by first | (with_reducible assumption) | assumption)
                               have q116 : x26_2 < (x7_2.length : Int) := of_decide_eq_true (by first | (with_reducible assumption) | assumption)
                               obtain ⟨ad116, e116, hx116_0⟩ := Kd.at_int (Kd.R_reads' HO_7.out).2.2 x26_2 p116 q116
                               cases e116
                               replace p116 := eq_true p116
                               replace q116 := eq_true q116
                               have p118 : 0 ≤ (x16_1 : Int) := of_decide_eq_true (by first | (with_reducible assumption) | assumption)
                               have q118 : x16_1 < (x4_1.length : Int) := of_decide_eq_true (by first | (with_reducible assumption) | assumption)
                               obtain ⟨ad118, A118_0, c118_0, e118, hx118_0, hl118_0, hi118_0⟩ := at_L1 (Kd.N_reads' HO_4.out).2.2 x16_1 p118 q118
                               obtain rfl : ad108 = ad118 := (by injection e118)
                               obtain ⟨ce118, hce118, hMe118, hcc118⟩ := Kd.N_get HO_4.out [] x16_1 p118 (by first | exact q118 | exact of_decide_eq_true (by first | (with_reducible assumption) | assumption) | (have e_ := (Kd.N_reads' HO_4.out).1; omega))
                               obtain ⟨ua118_0, uc118_0, rfl, ul118_0, ge118_0⟩ := Kd.FK_slice_open hMe118
                               have hv118_0 := hcc118 0 _ rfl
                               rw [Nat.add_zero, show ((Kd.slice 5 (Kd.int .u8))).sz = 1 from rfl, Nat.mul_one] at hv118_0
                               replace hv118_0 := Option.some.inj (hv118_0.symm.trans hx118_0)
                               injection hv118_0 with hva_ hvn_ hvc_
                               rw [hva_] at ge118_0
                               rw [hvc_] at ul118_0
                               have HL118_0 := Aside0.mk (show Kd.V (Kd.int .u8) 5 _ w.heap.size _ _ (rd_L1 x4_1 x16_1) from Kd.V_mk ul118_0 ge118_0)
                               clear hva_ hvn_ hvc_ ge118_0 ul118_0
                               clear hcc118 hce118
                               have HR118_0 := Aside0.mk hi118_0
                               have HC118_0 := Aside0.mk hl118_0
                               clear hi118_0 hl118_0
                               replace p118 := eq_true p118
                               replace q118 := eq_true q118
                               have p119 : 0 ≤ (13 : Int) := (by omega)
                               have q119 : 13 < ((rd_L1 x4_1 x16_1).length : Int) := of_decide_eq_true (by first | (with_reducible assumption) | assumption)
                               obtain ⟨ad119, e119, hx119_0⟩ := Kd.at_int (by repeat (first | (with_reducible exact HR118_0.out) | (with_reducible refine Kd.C_alloc ?_ _) | (with_reducible refine Kd.C_drewN ?_ _) | (with_reducible refine Kd.C_drew ?_) | exact HR118_0.out)) 13 p119 q119
                               cases e119
                               (try simp only [show (13 : Int).toNat = 13 from rfl, Nat.reduceMul, Nat.reduceEqDiff, Go.Addr.add, ↓reduceIte] at hx119_0)
                               have qi119 : (13 < (rd_L1 x4_1 x16_1).length) = True := eq_true (by omega)
                               (try rw [show ((13 : Int)).toNat = 13 from rfl] at hx119_0)
                               replace p119 := eq_true p119
                               replace q119 := eq_true q119
                               refine start_ (n := 17) (S := fun w' => w'.cell? (ad116.add (x26_2).toNat) = some (.int .u8 (rd x7_2 x26_2)) ∧ w'.cell? (ad108.add (x16_1).toNat) = some (.slice (some ad119) (rd_L1 x4_1 x16_1).length c118_0) ∧ w'.cell? ⟨ad119.block, ad119.off + 13, none⟩ = some (.int .u8 (rd (rd_L1 x4_1 x16_1) 13))) (ds := [16]) #[false, false, false, false, false, false, false, false, false, false, false, false, false, false, false, false, false] (by kernel_rfl) rfl rfl ⟨hx116_0, hx118_0, hx119_0⟩ (fun hHeld => ?_); refine with_tabW aes_Keys.tab14 aes_Keys.bits14 (fun HT_ HW_ => ?_)
                               generalize wr.drew = w27 at HO_4 HO_7 HB HL118_0 HR118_0 hx116_0 hx118_0 hx119_0 hHeld ⊢
                               refine pure_ (i := 0) (N := some 43) (v := ?_) (a' := ?_) #[true, false, false, false, false, false, false, false, false, false, false, false, false, false, false, false, false] rfl rfl (any_of HT_.out (by kernel_rfl)) (fun _ _ _ h => h) (Or.inl ⟨by rfl, ?_⟩) ?_ ?_
                               rotate_left
                               · intro w'
                                 go_simp
                                 with_reducible rfl
                               rotate_left
                               · simp only [Act.put, List.setIfInBounds_toArray, List.set_cons_zero, List.set_cons_succ, i64_w, i32_w]
                                 rfl
                               refine pure_ (i := 1) (N := some 44) (v := ?_) (a' := ?_) #[true, true, false, false, false, false, false, false, false, false, false, false, false, false, false, false, false] rfl rfl (any_of HT_.out (by kernel_rfl)) (fun _ _ _ h => h) (Or.inl ⟨by rfl, ?_⟩) ?_ ?_
                               rotate_left
                               · intro w'
                                 go_simp
                                 with_reducible rfl
                               rotate_left
                               · simp only [Act.put, List.setIfInBounds_toArray, List.set_cons_zero, List.set_cons_succ, i64_w, i32_w]
                                 rfl
                               refine pure_ (i := 2) (N := some 45) (v := ?_) (a' := ?_) #[true, true, true, false, false, false, false, false, false, false, false, false, false, false, false, false, false] rfl rfl (any_of HT_.out (by kernel_rfl)) (fun _ _ _ h => h) (Or.inl ⟨by rfl, ?_⟩) ?_ ?_
                               rotate_left
                               · intro w'
                                 go_simp
                                 with_reducible rfl
                               rotate_left
                               · simp only [Act.put, List.setIfInBounds_toArray, List.set_cons_zero, List.set_cons_succ, i64_w, i32_w]
                                 rfl
                               refine pure_ (i := 5) (N := some 48) (v := ?_) (a' := ?_) #[true, true, true, false, false, true, false, false, false, false, false, false, false, false, false, false, false] rfl rfl (any_of HT_.out (by kernel_rfl)) (fun _ _ _ h => h) (Or.inl ⟨by rfl, ?_⟩) ?_ ?_
                               rotate_left
                               · intro w'
                                 go_simp
                                 with_reducible rfl
                               rotate_left
                               · simp only [Act.put, List.setIfInBounds_toArray, List.set_cons_zero, List.set_cons_succ, i64_w, i32_w]
                                 rfl
                               refine pure_ (i := 6) (N := some 49) (v := ?_) (a' := ?_) #[true, true, true, false, false, true, true, false, false, false, false, false, false, false, false, false, false] rfl rfl (any_of HT_.out (by kernel_rfl)) (fun _ _ _ h => h) (Or.inl ⟨by rfl, ?_⟩) ?_ ?_
                               rotate_left
                               · intro w'
                                 go_simp
                                 with_reducible rfl
                               rotate_left
                               · simp only [Act.put, List.setIfInBounds_toArray, List.set_cons_zero, List.set_cons_succ, i64_w, i32_w]
                                 rfl
                               refine pure_ (i := 7) (N := some 50) (v := ?_) (a' := ?_) #[true, true, true, false, false, true, true, true, false, false, false, false, false, false, false, false, false] rfl rfl (any_of HT_.out (by kernel_rfl)) (fun _ _ _ h => h) (Or.inl ⟨by rfl, ?_⟩) ?_ ?_
                               rotate_left
                               · intro w'
                                 go_simp
                                 with_reducible rfl
                               rotate_left
                               · simp only [Act.put, List.setIfInBounds_toArray, List.set_cons_zero, List.set_cons_succ, i64_w, i32_w]
                                 rfl
                               refine pure_ (i := 12) (N := some 55) (v := ?_) (a' := ?_) #[true, true, true, false, false, true, true, true, false, false, false, false, true, false, false, false, false] rfl rfl (any_of HT_.out (by kernel_rfl)) (fun _ _ _ h => h) (Or.inl ⟨by rfl, ?_⟩) ?_ ?_
                               rotate_left
                               · intro w'
                                 go_simp
                                 with_reducible rfl
                               rotate_left
                               · simp only [Act.put, List.setIfInBounds_toArray, List.set_cons_zero, List.set_cons_succ, i64_w, i32_w]
                                 rfl
                               refine take_ (i := 3) (N := some 46) (v := ?_) (a' := ?_) #[true, true, true, true, false, true, true, true, false, false, false, false, true, false, false, false, false] rfl rfl (take_ofW HT_.out HW_.out (by kernel_rfl)) (fun _ _ _ h => h) (Or.inl ⟨by rfl, ?_⟩) hHeld ?_ ?_
                               rotate_left
                               · rintro w' ⟨s0, s1, s2⟩
                                 go_simp
                                 with_reducible rfl
                               rotate_left
                               · simp only [Act.put, List.setIfInBounds_toArray, List.set_cons_zero, List.set_cons_succ, i64_w, i32_w]
                                 rfl
                               refine take_ (i := 8) (N := some 51) (v := ?_) (a' := ?_) #[true, true, true, true, false, true, true, true, true, false, false, false, true, false, false, false, false] rfl rfl (take_ofW HT_.out HW_.out (by kernel_rfl)) (fun _ _ _ h => h) (Or.inl ⟨by rfl, ?_⟩) hHeld ?_ ?_
                               rotate_left
                               · rintro w' ⟨s0, s1, s2⟩
                                 go_simp
                                 with_reducible rfl
                               rotate_left
                               · simp only [Act.put, List.setIfInBounds_toArray, List.set_cons_zero, List.set_cons_succ, i64_w, i32_w]
                                 rfl
                               refine pure_ (i := 9) (N := some 52) (v := ?_) (a' := ?_) #[true, true, true, true, false, true, true, true, true, true, false, false, true, false, false, false, false] rfl rfl (any_of HT_.out (by kernel_rfl)) (fun _ _ _ h => h) (Or.inl ⟨by rfl, ?_⟩) ?_ ?_
                               rotate_left
                               · intro w'
                                 go_simp
                                 with_reducible rfl
                               rotate_left
                               · simp only [Act.put, List.setIfInBounds_toArray, List.set_cons_zero, List.set_cons_succ, i64_w, i32_w]
                                 rfl
                               refine take_ (i := 10) (N := some 53) (v := ?_) (a' := ?_) #[true, true, true, true, false, true, true, true, true, true, true, false, true, false, false, false, false] rfl rfl (take_ofW HT_.out HW_.out (by kernel_rfl)) (fun _ _ _ h => h) (Or.inl ⟨by rfl, ?_⟩) hHeld ?_ ?_
                               rotate_left
                               · rintro w' ⟨s0, s1, s2⟩
                                 go_simp
                                 with_reducible rfl
                               rotate_left
                               · simp only [Act.put, List.setIfInBounds_toArray, List.set_cons_zero, List.set_cons_succ, i64_w, i32_w]
                                 rfl
                               refine one_ (i := 4) (N := some 47) #[true, true, true, true, true, true, true, true, true, true, true, false, true, false, false, false, false] rfl rfl (one_of HT_.out (by kernel_rfl)) (by decide) (fun K hK => ?_)
                               refine goes_ Try.func30 (by kernel_rfl) rfl #[] (by rfl) rfl rfl (by (try simp only [List.map_toArray, List.map_cons, List.map_nil]); first | done | rfl | (simp only [List.length_drop, List.length_take]; rfl)) ?_
                               with_reducible refine (aes_substitutes.calls  t117 _ A19.out).mono ?_
                               rintro e w28 ⟨rfl, hb⟩
                               have HS0_ := (hb.cell (World.block_lt_of_cell? _ _ (hHeld.1))).trans (hHeld.1)
                               have HS1_ := (hb.cell (World.block_lt_of_cell? _ _ (hHeld.2.1))).trans (hHeld.2.1)
                               have HS2_ := (hb.cell (World.block_lt_of_cell? _ _ (hHeld.2.2))).trans (hHeld.2.2)
                               refine ⟨_, rfl, ?_⟩
                               have n0_ := Aside0.mk (Kd.N_below (by (with_reducible repeat (first | apply Kd.N_alloc | apply Kd.N_drewN | apply Kd.N_drew)); exact HO_4.out) hb)
                               have n1_ := Aside0.mk (Kd.R_below (by (with_reducible repeat (first | apply Kd.R_alloc | apply Kd.R_drewN | apply Kd.R_drew)); exact HO_7.out) hb)
                               have n2_ := Aside0.mk (Kd.V_below (by (with_reducible repeat (first | apply Kd.V_alloc | apply Kd.V_drewN | apply Kd.V_drew)); exact HL118_0.out) hb)
                               have n3_ := Aside0.mk (Kd.C_below (by repeat (first | (with_reducible exact HR118_0.out) | (with_reducible refine Kd.C_alloc ?_ _) | (with_reducible refine Kd.C_drewN ?_ _) | (with_reducible refine Kd.C_drew ?_) | exact HR118_0.out)) hb)
                               have n4_ := Aside0.mk (below_step (by repeat (first | (with_reducible first | exact HB.out | apply below_alloc | apply pw_below_drewN | apply below_drew1) | exact HB.out)) hb)
                               clear HO_4
                               clear HO_7
                               clear HL118_0
                               clear HR118_0
                               clear HB
                               have HO_4 := n0_
                               have HO_7 := n1_
                               have HL118_0 := n2_
                               have HR118_0 := n3_
                               have HB := n4_
                               clear n0_ n1_ n2_ n3_ n4_
                               (try clear hb)
                               (try clear hb2)
                               (try clear hk)
                               (try clear hi)
                               have p25 : 0 ≤ ((rd (rd_L1 x4_1 x16_1) 13) : Int) := of_decide_eq_true (by first | (with_reducible assumption) | assumption)
                               have q25 : ((rd (rd_L1 x4_1 x16_1) 13) : Int) < 256 := of_decide_eq_true (by first | (with_reducible assumption) | assumption)
                               have hx25 := run_index_ar51 t117 (rd (rd_L1 x4_1 x16_1) 13) p25 q25
                               replace p25 := eq_true p25
                               replace q25 := eq_true q25
                               have p26 : 0 ≤ (x26_2 : Int) := of_decide_eq_true (by first | (with_reducible assumption) | assumption)
                               have q26 : (x26_2 : Int) < ((x7_2.length : Int) : Int) := of_decide_eq_true (by first | (with_reducible assumption) | assumption)
                               obtain ⟨go26, co26, eo26, gb26, gl26, cl26, HG26⟩ := Kd.R_form HO_7.out (by omega)
                               (first | cases eo26 | (injection eo26 with ea_ en_ ec_; (first | subst ea_ | (injection ea_ with ea_; subst ea_)); subst ec_; clear en_))
                               have GB26 := Aside0.mk gb26
                               have GG26 := Aside0.mk HG26
                               clear gb26 gl26 HG26
                               (first | simp only [add_plain] at hx116_0 | skip)
                               obtain ⟨hx26_0, hf26_0⟩ := Kd.R_celln 0 HO_7.out (x26_2 : Int) p26 q26
                               replace p26 := eq_true p26
                               replace q26 := eq_true q26
                               have HP29 := Kd.R_putn HO_7.out (x26_2 : Int) (Go.bits .xor .u8 (rd x7_2 x26_2) (Go.bits .xor .u8 (rd t117 (rd (rd_L1 x4_1 x16_1) 13)) x5_1))
                               rw [← Ny120.out] at HP29
                               have HQ29 := Aside0.mk HP29
                               clear HP29
                               refine hK.out _ _ ⟨HS0_, HS1_, HS2_⟩ (fun hHeld => ?_)
                               clear hK K
                               refine norm_ (a' := ?_) ?_ ?_
                               rotate_left
                               · show Act.put _ (some 47) _ = _
                                 simp only [Act.put, List.setIfInBounds_toArray, List.set_cons_zero, List.set_cons_succ, i64_w, i32_w]
                                 rfl
                               refine take_ (i := 11) (N := some 54) (v := ?_) (a' := ?_) #[true, true, true, true, true, true, true, true, true, true, true, true, true, false, false, false, false] rfl rfl (take_ofW HT_.out HW_.out (by kernel_rfl)) (fun _ _ _ h => h) (Or.inl ⟨by rfl, ?_⟩) hHeld ?_ ?_
                               rotate_left
                               · rintro w' ⟨s0, s1, s2⟩
                                 go_simp
                                 with_reducible rfl
                               rotate_left
                               · simp only [Act.put, List.setIfInBounds_toArray, List.set_cons_zero, List.set_cons_succ, i64_w, i32_w]
                                 rfl
                               refine pure_ (i := 13) (N := some 56) (v := ?_) (a' := ?_) #[true, true, true, true, true, true, true, true, true, true, true, true, true, true, false, false, false] rfl rfl (any_of HT_.out (by kernel_rfl)) (fun _ _ _ h => h) (Or.inl ⟨by rfl, ?_⟩) ?_ ?_
                               rotate_left
                               · intro w'
                                 go_simp
                                 with_reducible rfl
                               rotate_left
                               · simp only [Act.put, List.setIfInBounds_toArray, List.set_cons_zero, List.set_cons_succ, i64_w, i32_w]
                                 rfl
                               refine pure_ (i := 14) (N := some 57) (v := ?_) (a' := ?_) #[true, true, true, true, true, true, true, true, true, true, true, true, true, true, true, false, false] rfl rfl (any_of HT_.out (by kernel_rfl)) (fun _ _ _ h => h) (Or.inl ⟨by rfl, ?_⟩) ?_ ?_
                               rotate_left
                               · intro w'
                                 go_simp
                                 with_reducible rfl
                               rotate_left
                               · simp only [Act.put, List.setIfInBounds_toArray, List.set_cons_zero, List.set_cons_succ, i64_w, i32_w]
                                 rfl
                               refine pure_ (i := 15) (N := some 58) (v := ?_) (a' := ?_) #[true, true, true, true, true, true, true, true, true, true, true, true, true, true, true, true, false] rfl rfl (any_of HT_.out (by kernel_rfl)) (fun _ _ _ h => h) (Or.inl ⟨by rfl, ?_⟩) ?_ ?_
                               rotate_left
                               · intro w'
                                 go_simp
                                 with_reducible rfl
                               rotate_left
                               · simp only [Act.put, List.setIfInBounds_toArray, List.set_cons_zero, List.set_cons_succ, i64_w, i32_w]
                                 rfl
                               refine last_ (i := 16) (N := none) #[true, true, true, true, true, true, true, true, true, true, true, true, true, true, true, true, true] rfl rfl (one_of HT_.out (by kernel_rfl)) (by decide) (fun K hK => ?_)
                               refine skip_ (w1 := ?_) (by rfl) rfl ?_ ?_
                               rotate_left
                               · go_simp
                                 rfl
                               refine hK.out _ _ ?_
                               clear hK K
                               refine done_ (done_of HT_.out (by kernel_rfl)) ?_
                               try go_wp2
                               (try simp only [← hl7_2])
                               go_roundg k2
                               case measure => have := HK1.out; have := HK2.out; omega
                               case rel => exact ⟨(y120), (wrap64 (x26_2 + 1)), (by first | rfl | (simp; done) | (simp [*]; done)), H', ⟨by have := HK1.out; have := HK2.out; omega⟩, ⟨by (try simp only [hl7_2]); (with_reducible repeat (first | apply Kd.N_alloc | apply Kd.N_drewN | apply Kd.N_drew)); exact Kd.N_mono (Kd.N_far (p := ⟨go26, (x26_2 : Int).toNat, none⟩) (Kd.N_mono HO_4.out (fun k_ hk => (⟨hk, fun e_ => hk.2 (by rw [e_]; rfl)⟩ : _ ∧ k_ ≠ go26))) (fun _ hk => hk.2) (.int .u8 (Go.bits .xor .u8 (rd x7_2 x26_2) (Go.bits .xor .u8 (rd t117 (rd (rd_L1 x4_1 x16_1) 13)) x5_1)))) (fun _ hk => ⟨hk.1.1, hk.1.2⟩)⟩, ⟨by (try simp only [hl7_2]); (with_reducible repeat (first | apply Kd.R_alloc | apply Kd.R_drewN | apply Kd.R_drew)); exact HQ29.out⟩, ⟨by repeat (first | (with_reducible first | exact HB.out | apply below_alloc | apply pw_below_drewN | apply below_drew1 | refine below_set ?_ GB26.out) | exact HB.out)⟩⟩
                             · rw [if_neg c24] at H
                               exact absurd H (by simp)
                           · rw [if_neg c23] at H
                             exact absurd H (by simp)
                         · rw [if_neg c22] at H
                           exact absurd H (by simp)
                       · rw [if_neg c21] at H
                         exact absurd H (by simp)
                     · rw [if_neg c20] at H
                       exact absurd H (by simp)
                   · rw [if_neg c18] at H
                     exact absurd H (by simp)
                 · rw [if_neg c17] at H
                   exact absurd H (by simp)
               · rw [if_neg c16] at H
                 have c16b0 : (x26_2 == 0) = false := beq_eq_false_iff_ne.mpr c16
                 have c16b1 : (x26_2 != 0) = true := bne_iff_ne.mpr c16
                 by_cases c30 : x26_2 < 4
                 · rw [if_pos c30] at H
                   have c30b0 : decide (x26_2 < 4) = true := decide_eq_true c30
                   clear c30
                   by_cases c31 : 0 ≤ x26_2
                   · rw [if_pos c31] at H
                     have c31b0 : decide (0 ≤ x26_2) = true := decide_eq_true c31
                     clear c31
                     by_cases c32 : x26_2 < (x7_2.length : Int)
                     · rw [if_pos c32] at H
                       have c32b0 : decide (x26_2 < (x7_2.length : Int)) = true := decide_eq_true c32
                       clear c32
                       (try (have c32h0 := c32b0; simp only [hl7_2] at c32h0))
                       (try (have c32h1 := c32b0; simp only [← hl7_2] at c32h1))
                       replace H := Option.bind_eq_some_iff.mp H
                       obtain ⟨t122, A330, H⟩ := H
                       replace H : (if 0 ≤ x16_1 then (if x16_1 < (x4_1.length : Int) then (if 0 ≤ (wrap64 (12 + (Int.tmod (wrap64 (x26_2 + 1)) 4))) then (if (wrap64 (12 + (Int.tmod (wrap64 (x26_2 + 1)) 4))) < ((rd_L1 x4_1 x16_1).length : Int) then (if 0 ≤ (rd (rd_L1 x4_1 x16_1) (wrap64 (12 + (Int.tmod (wrap64 (x26_2 + 1)) 4)))) then (if (rd (rd_L1 x4_1 x16_1) (wrap64 (12 + (Int.tmod (wrap64 (x26_2 + 1)) 4)))) < 256 then (aes_Keys.l1 k2 x4_1 x5_1 x16_1 (x7_2.set (x26_2 : Int).toNat (Go.bits .xor .u8 (rd x7_2 x26_2) (rd t122 (rd (rd_L1 x4_1 x16_1) (wrap64 (12 + (Int.tmod (wrap64 (x26_2 + 1)) 4))))))) x16_1 (t109.length : Int) (wrap64 (x26_2 + 1))) else (none)) else (none)) else (none)) else (none)) else (none)) else (none)) = some (r1, r2) := H
                       have A33 := Aside0.mk A330
                       clear A330
                       by_cases c34 : 0 ≤ x16_1
                       · rw [if_pos c34] at H
                         have c34b0 : decide (0 ≤ x16_1) = true := decide_eq_true c34
                         clear c34
                         by_cases c35 : x16_1 < (x4_1.length : Int)
                         · rw [if_pos c35] at H
                           have c35b0 : decide (x16_1 < (x4_1.length : Int)) = true := decide_eq_true c35
                           clear c35
                           (try (have c35h0 := c35b0; simp only [hl7_2] at c35h0))
                           (try (have c35h1 := c35b0; simp only [← hl7_2] at c35h1))
                           obtain ⟨ji36, hji36⟩ : ∃ j_ : Int, (wrap64 (12 + (Int.tmod (wrap64 (x26_2 + 1)) 4))) = j_ := ⟨_, rfl⟩
                           replace H : (if 0 ≤ (ji36) then (if (ji36) < ((rd_L1 x4_1 x16_1).length : Int) then (if 0 ≤ (rd (rd_L1 x4_1 x16_1) (ji36)) then (if (rd (rd_L1 x4_1 x16_1) (ji36)) < 256 then (aes_Keys.l1 k2 x4_1 x5_1 x16_1 (x7_2.set (x26_2 : Int).toNat (Go.bits .xor .u8 (rd x7_2 x26_2) (rd t122 (rd (rd_L1 x4_1 x16_1) (ji36))))) x16_1 (t109.length : Int) (wrap64 (x26_2 + 1))) else (none)) else (none)) else (none)) else (none)) = some (r1, r2) := by first | (rw [hji36] at H; exact H) | (simp only [hji36] at H ⊢; exact H)
                           (try rw [hji36] at A33)
                           have hji36w : (IntKind.i64.wrap (12 + (Int.tmod (wrap64 (x26_2 + 1)) 4))) = ji36 := (i64_w _).trans hji36
                           by_cases c37 : 0 ≤ (ji36)
                           · rw [if_pos c37] at H
                             have c37b0 : decide (0 ≤ (ji36)) = true := decide_eq_true c37
                             clear c37
                             by_cases c38 : (ji36) < ((rd_L1 x4_1 x16_1).length : Int)
                             · rw [if_pos c38] at H
                               have c38b0 : decide ((ji36) < ((rd_L1 x4_1 x16_1).length : Int)) = true := decide_eq_true c38
                               clear c38
                               (try (have c38h0 := c38b0; simp only [hl7_2] at c38h0))
                               (try (have c38h1 := c38b0; simp only [← hl7_2] at c38h1))
                               by_cases c39 : 0 ≤ (rd (rd_L1 x4_1 x16_1) (ji36))
                               · rw [if_pos c39] at H
                                 have c39b0 : decide (0 ≤ (rd (rd_L1 x4_1 x16_1) (ji36))) = true := decide_eq_true c39
                                 clear c39
                                 by_cases c40 : (rd (rd_L1 x4_1 x16_1) (ji36)) < 256
                                 · rw [if_pos c40] at H
                                   have c40b0 : decide ((rd (rd_L1 x4_1 x16_1) (ji36)) < 256) = true := decide_eq_true c40
                                   clear c40
                                   obtain ⟨y125, hy125⟩ : ∃ y_ : List Int, y_ = (x7_2.set (x26_2 : Int).toNat (Go.bits .xor .u8 (rd x7_2 x26_2) (rd t122 (rd (rd_L1 x4_1 x16_1) (ji36))))) := ⟨_, rfl⟩
                                   replace H : (aes_Keys.l1 k2 x4_1 x5_1 x16_1 y125 x16_1 (t109.length : Int) (wrap64 (x26_2 + 1))) = some (r1, r2) := by first | (rw [hy125]; with_reducible exact H) | (have H2_ := (Option.bind_some _ _).symm.trans H; rw [hy125]; with_reducible exact H2_) | (have H2_ := (Option.bind_some _ _).symm.trans H; with_reducible exact H2_) | with_reducible exact H | (rw [hy125]; exact H) | exact H
                                   have Ny125 := Aside0.mk hy125
                                   clear hy125
                                   have H' := Aside0.mk H
                                   clear H
                                   try go_wp2
                                   have n0_ := Aside0.mk (Kd.N_drew HO_4.out)
                                   have n1_ := Aside0.mk (Kd.R_drew HO_7.out)
                                   have n2_ := Aside0.mk (below_drew1 HB.out)
                                   clear HO_4
                                   clear HO_7
                                   clear HB
                                   have HO_4 := n0_
                                   have HO_7 := n1_
                                   have HB := n2_
                                   clear n0_ n1_ n2_
                                   have p121 : 0 ≤ (x26_2 : Int) := of_decide_eq_true (by first | (with_reducible assumption) | assumption)
                                   have q121 : x26_2 < (x7_2.length : Int) := of_decide_eq_true (by first | (with_reducible assumption) | assumption)
                                   obtain ⟨ad121, e121, hx121_0⟩ := Kd.at_int (Kd.R_reads' HO_7.out).2.2 x26_2 p121 q121
                                   cases e121
                                   replace p121 := eq_true p121
                                   replace q121 := eq_true q121
                                   have p123 : 0 ≤ (x16_1 : Int) := of_decide_eq_true (by first | (with_reducible assumption) | assumption)
                                   have q123 : x16_1 < (x4_1.length : Int) := of_decide_eq_true (by first | (with_reducible assumption) | assumption)
                                   obtain ⟨ad123, A123_0, c123_0, e123, hx123_0, hl123_0, hi123_0⟩ := at_L1 (Kd.N_reads' HO_4.out).2.2 x16_1 p123 q123
                                   obtain rfl : ad108 = ad123 := (by injection e123)
                                   obtain ⟨ce123, hce123, hMe123, hcc123⟩ := Kd.N_get HO_4.out [] x16_1 p123 (by first | exact q123 | exact of_decide_eq_true (by first | (with_reducible assumption) | assumption) | (have e_ := (Kd.N_reads' HO_4.out).1; omega))
                                   obtain ⟨ua123_0, uc123_0, rfl, ul123_0, ge123_0⟩ := Kd.FK_slice_open hMe123
                                   have hv123_0 := hcc123 0 _ rfl
                                   rw [Nat.add_zero, show ((Kd.slice 5 (Kd.int .u8))).sz = 1 from rfl, Nat.mul_one] at hv123_0
                                   replace hv123_0 := Option.some.inj (hv123_0.symm.trans hx123_0)
                                   injection hv123_0 with hva_ hvn_ hvc_
                                   rw [hva_] at ge123_0
                                   rw [hvc_] at ul123_0
                                   have HL123_0 := Aside0.mk (show Kd.V (Kd.int .u8) 5 _ w.heap.size _ _ (rd_L1 x4_1 x16_1) from Kd.V_mk ul123_0 ge123_0)
                                   clear hva_ hvn_ hvc_ ge123_0 ul123_0
                                   clear hcc123 hce123
                                   have HR123_0 := Aside0.mk hi123_0
                                   have HC123_0 := Aside0.mk hl123_0
                                   clear hi123_0 hl123_0
                                   replace p123 := eq_true p123
                                   replace q123 := eq_true q123
                                   have p124 : 0 ≤ ((ji36) : Int) := of_decide_eq_true (by first | (with_reducible assumption) | assumption)
                                   have q124 : (ji36) < ((rd_L1 x4_1 x16_1).length : Int) := of_decide_eq_true (by first | (with_reducible assumption) | assumption)
                                   obtain ⟨ad124, e124, hx124_0⟩ := Kd.at_int (by repeat (first | (with_reducible exact HR123_0.out) | (with_reducible refine Kd.C_alloc ?_ _) | (with_reducible refine Kd.C_drewN ?_ _) | (with_reducible refine Kd.C_drew ?_) | exact HR123_0.out)) (ji36) p124 q124
                                   cases e124
                                   replace p124 := eq_true p124
                                   replace q124 := eq_true q124
                                   refine start_ (n := 19) (S := fun w' => w'.cell? (ad121.add (x26_2).toNat) = some (.int .u8 (rd x7_2 x26_2)) ∧ w'.cell? (ad108.add (x16_1).toNat) = some (.slice (some ad124) (rd_L1 x4_1 x16_1).length c123_0) ∧ w'.cell? (ad124.add ((ji36)).toNat) = some (.int .u8 (rd (rd_L1 x4_1 x16_1) (ji36)))) (ds := [18]) #[false, false, false, false, false, false, false, false, false, false, false, false, false, false, false, false, false, false, false] (by kernel_rfl) rfl rfl ⟨hx121_0, hx123_0, hx124_0⟩ (fun hHeld => ?_); refine with_tabW aes_Keys.tab16 aes_Keys.bits16 (fun HT_ HW_ => ?_)
                                   generalize wr.drew = w43 at HO_4 HO_7 HB HL123_0 HR123_0 hx121_0 hx123_0 hx124_0 hHeld ⊢
                                   refine pure_ (i := 0) (N := some 62) (v := ?_) (a' := ?_) #[true, false, false, false, false, false, false, false, false, false, false, false, false, false, false, false, false, false, false] rfl rfl (any_of HT_.out (by kernel_rfl)) (fun _ _ _ h => h) (Or.inl ⟨by rfl, ?_⟩) ?_ ?_
                                   rotate_left
                                   · intro w'
                                     go_simp
                                     with_reducible rfl
                                   rotate_left
                                   · simp only [Act.put, List.setIfInBounds_toArray, List.set_cons_zero, List.set_cons_succ, i64_w, i32_w]
                                     rfl
                                   refine pure_ (i := 1) (N := some 63) (v := ?_) (a' := ?_) #[true, true, false, false, false, false, false, false, false, false, false, false, false, false, false, false, false, false, false] rfl rfl (any_of HT_.out (by kernel_rfl)) (fun _ _ _ h => h) (Or.inl ⟨by rfl, ?_⟩) ?_ ?_
                                   rotate_left
                                   · intro w'
                                     go_simp
                                     with_reducible rfl
                                   rotate_left
                                   · simp only [Act.put, List.setIfInBounds_toArray, List.set_cons_zero, List.set_cons_succ, i64_w, i32_w]
                                     rfl
                                   refine pure_ (i := 2) (N := some 64) (v := ?_) (a' := ?_) #[true, true, true, false, false, false, false, false, false, false, false, false, false, false, false, false, false, false, false] rfl rfl (any_of HT_.out (by kernel_rfl)) (fun _ _ _ h => h) (Or.inl ⟨by rfl, ?_⟩) ?_ ?_
                                   rotate_left
                                   · intro w'
                                     go_simp
                                     with_reducible rfl
                                   rotate_left
                                   · simp only [Act.put, List.setIfInBounds_toArray, List.set_cons_zero, List.set_cons_succ, i64_w, i32_w]
                                     rfl
                                   refine pure_ (i := 5) (N := some 67) (v := ?_) (a' := ?_) #[true, true, true, false, false, true, false, false, false, false, false, false, false, false, false, false, false, false, false] rfl rfl (any_of HT_.out (by kernel_rfl)) (fun _ _ _ h => h) (Or.inl ⟨by rfl, ?_⟩) ?_ ?_
                                   rotate_left
                                   · intro w'
                                     go_simp
                                     with_reducible rfl
                                   rotate_left
                                   · simp only [Act.put, List.setIfInBounds_toArray, List.set_cons_zero, List.set_cons_succ, i64_w, i32_w]
                                     rfl
                                   refine pure_ (i := 6) (N := some 68) (v := ?_) (a' := ?_) #[true, true, true, false, false, true, true, false, false, false, false, false, false, false, false, false, false, false, false] rfl rfl (any_of HT_.out (by kernel_rfl)) (fun _ _ _ h => h) (Or.inl ⟨by rfl, ?_⟩) ?_ ?_
                                   rotate_left
                                   · intro w'
                                     go_simp
                                     with_reducible rfl
                                   rotate_left
                                   · simp only [Act.put, List.setIfInBounds_toArray, List.set_cons_zero, List.set_cons_succ, i64_w, i32_w]
                                     rfl
                                   refine pure_ (i := 7) (N := some 69) (v := ?_) (a' := ?_) #[true, true, true, false, false, true, true, true, false, false, false, false, false, false, false, false, false, false, false] rfl rfl (any_of HT_.out (by kernel_rfl)) (fun _ _ _ h => h) (Or.inl ⟨by rfl, ?_⟩) ?_ ?_
                                   rotate_left
                                   · intro w'
                                     go_simp
                                     with_reducible rfl
                                   rotate_left
                                   · simp only [Act.put, List.setIfInBounds_toArray, List.set_cons_zero, List.set_cons_succ, i64_w, i32_w]
                                     rfl
                                   refine pure_ (i := 9) (N := some 71) (v := ?_) (a' := ?_) #[true, true, true, false, false, true, true, true, false, true, false, false, false, false, false, false, false, false, false] rfl rfl (any_of HT_.out (by kernel_rfl)) (fun _ _ _ h => h) (Or.inl ⟨by rfl, ?_⟩) ?_ ?_
                                   rotate_left
                                   · intro w'
                                     go_simp
                                     with_reducible rfl
                                   rotate_left
                                   · simp only [Act.put, List.setIfInBounds_toArray, List.set_cons_zero, List.set_cons_succ, i64_w, i32_w]
                                     rfl
                                   refine pure_ (i := 10) (N := some 72) (v := ?_) (a' := ?_) #[true, true, true, false, false, true, true, true, false, true, true, false, false, false, false, false, false, false, false] rfl rfl (any_of HT_.out (by kernel_rfl)) (fun _ _ _ h => h) (Or.inl ⟨by rfl, ?_⟩) ?_ ?_
                                   rotate_left
                                   · intro w'
                                     go_simp
                                     with_reducible rfl
                                   rotate_left
                                   · simp only [Act.put, List.setIfInBounds_toArray, List.set_cons_zero, List.set_cons_succ, i64_w, i32_w]
                                     rfl
                                   refine pure_ (i := 11) (N := some 73) (v := ?_) (a' := ?_) #[true, true, true, false, false, true, true, true, false, true, true, true, false, false, false, false, false, false, false] rfl rfl (any_of HT_.out (by kernel_rfl)) (fun _ _ _ h => h) (Or.inl ⟨by rfl, ?_⟩) ?_ ?_
                                   rotate_left
                                   · intro w'
                                     go_simp
                                     with_reducible rfl
                                   rotate_left
                                   · simp only [Act.put, List.setIfInBounds_toArray, List.set_cons_zero, List.set_cons_succ, i64_w, i32_w]
                                     rfl
                                   refine pure_ (i := 12) (N := some 74) (v := ?_) (a' := ?_) #[true, true, true, false, false, true, true, true, false, true, true, true, true, false, false, false, false, false, false] rfl rfl (any_of HT_.out (by kernel_rfl)) (fun _ _ _ h => h) (Or.inl ⟨by rfl, ?_⟩) ?_ ?_
                                   rotate_left
                                   · intro w'
                                     go_simp
                                     with_reducible rfl
                                   rotate_left
                                   · simp only [Act.put, List.setIfInBounds_toArray, List.set_cons_zero, List.set_cons_succ, i64_w, i32_w]
                                     rfl
                                   refine take_ (i := 3) (N := some 65) (v := ?_) (a' := ?_) #[true, true, true, true, false, true, true, true, false, true, true, true, true, false, false, false, false, false, false] rfl rfl (take_ofW HT_.out HW_.out (by kernel_rfl)) (fun _ _ _ h => h) (Or.inl ⟨by rfl, ?_⟩) hHeld ?_ ?_
                                   rotate_left
                                   · rintro w' ⟨s0, s1, s2⟩
                                     go_simp
                                     with_reducible rfl
                                   rotate_left
                                   · simp only [Act.put, List.setIfInBounds_toArray, List.set_cons_zero, List.set_cons_succ, i64_w, i32_w]
                                     rfl
                                   refine take_ (i := 8) (N := some 70) (v := ?_) (a' := ?_) #[true, true, true, true, false, true, true, true, true, true, true, true, true, false, false, false, false, false, false] rfl rfl (take_ofW HT_.out HW_.out (by kernel_rfl)) (fun _ _ _ h => h) (Or.inl ⟨by rfl, ?_⟩) hHeld ?_ ?_
                                   rotate_left
                                   · rintro w' ⟨s0, s1, s2⟩
                                     go_simp
                                     with_reducible rfl
                                   rotate_left
                                   · simp only [Act.put, List.setIfInBounds_toArray, List.set_cons_zero, List.set_cons_succ, i64_w, i32_w]
                                     rfl
                                   refine pure_ (i := 13) (N := some 75) (v := ?_) (a' := ?_) #[true, true, true, true, false, true, true, true, true, true, true, true, true, true, false, false, false, false, false] rfl rfl (any_of HT_.out (by kernel_rfl)) (fun _ _ _ h => h) (Or.inl ⟨by rfl, ?_⟩) ?_ ?_
                                   rotate_left
                                   · intro w'
                                     go_simp
                                     with_reducible rfl
                                   rotate_left
                                   · simp only [Act.put, List.setIfInBounds_toArray, List.set_cons_zero, List.set_cons_succ, i64_w, i32_w]
                                     rfl
                                   refine take_ (i := 14) (N := some 76) (v := ?_) (a' := ?_) #[true, true, true, true, false, true, true, true, true, true, true, true, true, true, true, false, false, false, false] rfl rfl (take_ofW HT_.out HW_.out (by kernel_rfl)) (fun _ _ _ h => h) (Or.inl ⟨by rfl, ?_⟩) hHeld ?_ ?_
                                   rotate_left
                                   · rintro w' ⟨s0, s1, s2⟩
                                     go_simp
                                     with_reducible rfl
                                   rotate_left
                                   · simp only [Act.put, List.setIfInBounds_toArray, List.set_cons_zero, List.set_cons_succ, i64_w, i32_w]
                                     rfl
                                   refine one_ (i := 4) (N := some 66) #[true, true, true, true, true, true, true, true, true, true, true, true, true, true, true, false, false, false, false] rfl rfl (one_of HT_.out (by kernel_rfl)) (by decide) (fun K hK => ?_)
                                   refine goes_ Try.func30 (by kernel_rfl) rfl #[] (by rfl) rfl rfl (by (try simp only [List.map_toArray, List.map_cons, List.map_nil]); first | done | rfl | (simp only [List.length_drop, List.length_take]; rfl)) ?_
                                   with_reducible refine (aes_substitutes.calls  t122 _ A33.out).mono ?_
                                   rintro e w44 ⟨rfl, hb⟩
                                   have HS0_ := (hb.cell (World.block_lt_of_cell? _ _ (hHeld.1))).trans (hHeld.1)
                                   have HS1_ := (hb.cell (World.block_lt_of_cell? _ _ (hHeld.2.1))).trans (hHeld.2.1)
                                   have HS2_ := (hb.cell (World.block_lt_of_cell? _ _ (hHeld.2.2))).trans (hHeld.2.2)
                                   refine ⟨_, rfl, ?_⟩
                                   have n0_ := Aside0.mk (Kd.N_below (by (with_reducible repeat (first | apply Kd.N_alloc | apply Kd.N_drewN | apply Kd.N_drew)); exact HO_4.out) hb)
                                   have n1_ := Aside0.mk (Kd.R_below (by (with_reducible repeat (first | apply Kd.R_alloc | apply Kd.R_drewN | apply Kd.R_drew)); exact HO_7.out) hb)
                                   have n2_ := Aside0.mk (Kd.V_below (by (with_reducible repeat (first | apply Kd.V_alloc | apply Kd.V_drewN | apply Kd.V_drew)); exact HL123_0.out) hb)
                                   have n3_ := Aside0.mk (Kd.C_below (by repeat (first | (with_reducible exact HR123_0.out) | (with_reducible refine Kd.C_alloc ?_ _) | (with_reducible refine Kd.C_drewN ?_ _) | (with_reducible refine Kd.C_drew ?_) | exact HR123_0.out)) hb)
                                   have n4_ := Aside0.mk (below_step (by repeat (first | (with_reducible first | exact HB.out | apply below_alloc | apply pw_below_drewN | apply below_drew1) | exact HB.out)) hb)
                                   clear HO_4
                                   clear HO_7
                                   clear HL123_0
                                   clear HR123_0
                                   clear HB
                                   have HO_4 := n0_
                                   have HO_7 := n1_
                                   have HL123_0 := n2_
                                   have HR123_0 := n3_
                                   have HB := n4_
                                   clear n0_ n1_ n2_ n3_ n4_
                                   (try clear hb)
                                   (try clear hb2)
                                   (try clear hk)
                                   (try clear hi)
                                   have p41 : 0 ≤ ((rd (rd_L1 x4_1 x16_1) (ji36)) : Int) := of_decide_eq_true (by first | (with_reducible assumption) | assumption)
                                   have q41 : ((rd (rd_L1 x4_1 x16_1) (ji36)) : Int) < 256 := of_decide_eq_true (by first | (with_reducible assumption) | assumption)
                                   have hx41 := run_index_ar51 t122 (rd (rd_L1 x4_1 x16_1) (ji36)) p41 q41
                                   replace p41 := eq_true p41
                                   replace q41 := eq_true q41
                                   have p42 : 0 ≤ (x26_2 : Int) := of_decide_eq_true (by first | (with_reducible assumption) | assumption)
                                   have q42 : (x26_2 : Int) < ((x7_2.length : Int) : Int) := of_decide_eq_true (by first | (with_reducible assumption) | assumption)
                                   obtain ⟨go42, co42, eo42, gb42, gl42, cl42, HG42⟩ := Kd.R_form HO_7.out (by omega)
                                   (first | cases eo42 | (injection eo42 with ea_ en_ ec_; (first | subst ea_ | (injection ea_ with ea_; subst ea_)); subst ec_; clear en_))
                                   have GB42 := Aside0.mk gb42
                                   have GG42 := Aside0.mk HG42
                                   clear gb42 gl42 HG42
                                   (first | simp only [add_plain] at hx121_0 | skip)
                                   obtain ⟨hx42_0, hf42_0⟩ := Kd.R_celln 0 HO_7.out (x26_2 : Int) p42 q42
                                   replace p42 := eq_true p42
                                   replace q42 := eq_true q42
                                   have HP45 := Kd.R_putn HO_7.out (x26_2 : Int) (Go.bits .xor .u8 (rd x7_2 x26_2) (rd t122 (rd (rd_L1 x4_1 x16_1) (ji36))))
                                   rw [← Ny125.out] at HP45
                                   have HQ45 := Aside0.mk HP45
                                   clear HP45
                                   refine hK.out _ _ ⟨HS0_, HS1_, HS2_⟩ (fun hHeld => ?_)
                                   clear hK K
                                   refine norm_ (a' := ?_) ?_ ?_
                                   rotate_left
                                   · show Act.put _ (some 66) _ = _
                                     simp only [Act.put, List.setIfInBounds_toArray, List.set_cons_zero, List.set_cons_succ, i64_w, i32_w]
                                     rfl
                                   refine take_ (i := 15) (N := some 77) (v := ?_) (a' := ?_) #[true, true, true, true, true, true, true, true, true, true, true, true, true, true, true, true, false, false, false] rfl rfl (take_ofW HT_.out HW_.out (by kernel_rfl)) (fun _ _ _ h => h) (Or.inl ⟨by rfl, ?_⟩) hHeld ?_ ?_
                                   rotate_left
                                   · rintro w' ⟨s0, s1, s2⟩
                                     go_simp
                                     with_reducible rfl
                                   rotate_left
                                   · simp only [Act.put, List.setIfInBounds_toArray, List.set_cons_zero, List.set_cons_succ, i64_w, i32_w]
                                     rfl
                                   refine pure_ (i := 16) (N := some 78) (v := ?_) (a' := ?_) #[true, true, true, true, true, true, true, true, true, true, true, true, true, true, true, true, true, false, false] rfl rfl (any_of HT_.out (by kernel_rfl)) (fun _ _ _ h => h) (Or.inl ⟨by rfl, ?_⟩) ?_ ?_
                                   rotate_left
                                   · intro w'
                                     go_simp
                                     with_reducible rfl
                                   rotate_left
                                   · simp only [Act.put, List.setIfInBounds_toArray, List.set_cons_zero, List.set_cons_succ, i64_w, i32_w]
                                     rfl
                                   refine pure_ (i := 17) (N := some 79) (v := ?_) (a' := ?_) #[true, true, true, true, true, true, true, true, true, true, true, true, true, true, true, true, true, true, false] rfl rfl (any_of HT_.out (by kernel_rfl)) (fun _ _ _ h => h) (Or.inl ⟨by rfl, ?_⟩) ?_ ?_
                                   rotate_left
                                   · intro w'
                                     go_simp
                                     with_reducible rfl
                                   rotate_left
                                   · simp only [Act.put, List.setIfInBounds_toArray, List.set_cons_zero, List.set_cons_succ, i64_w, i32_w]
                                     rfl
                                   refine last_ (i := 18) (N := none) #[true, true, true, true, true, true, true, true, true, true, true, true, true, true, true, true, true, true, true] rfl rfl (one_of HT_.out (by kernel_rfl)) (by decide) (fun K hK => ?_)
                                   refine skip_ (w1 := ?_) (by rfl) rfl ?_ ?_
                                   rotate_left
                                   · go_simp
                                     rfl
                                   refine hK.out _ _ ?_
                                   clear hK K
                                   refine done_ (done_of HT_.out (by kernel_rfl)) ?_
                                   try go_wp2
                                   (try simp only [← hl7_2])
                                   go_roundg k2
                                   case measure => have := HK1.out; have := HK2.out; omega
                                   case rel => exact ⟨(y125), (wrap64 (x26_2 + 1)), (by first | rfl | (simp; done) | (simp [*]; done)), H', ⟨by have := HK1.out; have := HK2.out; omega⟩, ⟨by (try simp only [hl7_2]); (with_reducible repeat (first | apply Kd.N_alloc | apply Kd.N_drewN | apply Kd.N_drew)); exact Kd.N_mono (Kd.N_far (p := ⟨go42, (x26_2 : Int).toNat, none⟩) (Kd.N_mono HO_4.out (fun k_ hk => (⟨hk, fun e_ => hk.2 (by rw [e_]; rfl)⟩ : _ ∧ k_ ≠ go42))) (fun _ hk => hk.2) (.int .u8 (Go.bits .xor .u8 (rd x7_2 x26_2) (rd t122 (rd (rd_L1 x4_1 x16_1) (ji36)))))) (fun _ hk => ⟨hk.1.1, hk.1.2⟩)⟩, ⟨by (try simp only [hl7_2]); (with_reducible repeat (first | apply Kd.R_alloc | apply Kd.R_drewN | apply Kd.R_drew)); exact HQ45.out⟩, ⟨by repeat (first | (with_reducible first | exact HB.out | apply below_alloc | apply pw_below_drewN | apply below_drew1 | refine below_set ?_ GB42.out) | exact HB.out)⟩⟩
                                 · rw [if_neg c40] at H
                                   exact absurd H (by simp)
                               · rw [if_neg c39] at H
                                 exact absurd H (by simp)
                             · rw [if_neg c38] at H
                               exact absurd H (by simp)
                           · rw [if_neg c37] at H
                             exact absurd H (by simp)
                         · rw [if_neg c35] at H
                           exact absurd H (by simp)
                       · rw [if_neg c34] at H
                         exact absurd H (by simp)
                     · rw [if_neg c32] at H
                       exact absurd H (by simp)
                   · rw [if_neg c31] at H
                     exact absurd H (by simp)
                 · rw [if_neg c30] at H
                   have c30b0 : decide (x26_2 < 4) = false := decide_eq_false c30
                   clear c30
                   by_cases c46 : 0 ≤ x26_2
                   · rw [if_pos c46] at H
                     have c46b0 : decide (0 ≤ x26_2) = true := decide_eq_true c46
                     clear c46
                     by_cases c47 : x26_2 < (x7_2.length : Int)
                     · rw [if_pos c47] at H
                       have c47b0 : decide (x26_2 < (x7_2.length : Int)) = true := decide_eq_true c47
                       clear c47
                       (try (have c47h0 := c47b0; simp only [hl7_2] at c47h0))
                       (try (have c47h1 := c47b0; simp only [← hl7_2] at c47h1))
                       obtain ⟨ji48, hji48⟩ : ∃ j_ : Int, (wrap64 (x26_2 - 4)) = j_ := ⟨_, rfl⟩
                       replace H : (if 0 ≤ (ji48) then (if (ji48) < (x7_2.length : Int) then (aes_Keys.l1 k2 x4_1 x5_1 x16_1 (x7_2.set (x26_2 : Int).toNat (Go.bits .xor .u8 (rd x7_2 x26_2) (rd x7_2 (ji48)))) x16_1 (t109.length : Int) (wrap64 (x26_2 + 1))) else (none)) else (none)) = some (r1, r2) := by first | (rw [hji48] at H; exact H) | (simp only [hji48] at H ⊢; exact H)
                       have hji48w : (IntKind.i64.wrap (x26_2 - 4)) = ji48 := (i64_w _).trans hji48
                       by_cases c49 : 0 ≤ (ji48)
                       · rw [if_pos c49] at H
                         have c49b0 : decide (0 ≤ (ji48)) = true := decide_eq_true c49
                         clear c49
                         by_cases c50 : (ji48) < (x7_2.length : Int)
                         · rw [if_pos c50] at H
                           have c50b0 : decide ((ji48) < (x7_2.length : Int)) = true := decide_eq_true c50
                           clear c50
                           (try (have c50h0 := c50b0; simp only [hl7_2] at c50h0))
                           (try (have c50h1 := c50b0; simp only [← hl7_2] at c50h1))
                           obtain ⟨y128, hy128⟩ : ∃ y_ : List Int, y_ = (x7_2.set (x26_2 : Int).toNat (Go.bits .xor .u8 (rd x7_2 x26_2) (rd x7_2 (ji48)))) := ⟨_, rfl⟩
                           replace H : (aes_Keys.l1 k2 x4_1 x5_1 x16_1 y128 x16_1 (t109.length : Int) (wrap64 (x26_2 + 1))) = some (r1, r2) := by first | (rw [hy128]; with_reducible exact H) | (have H2_ := (Option.bind_some _ _).symm.trans H; rw [hy128]; with_reducible exact H2_) | (have H2_ := (Option.bind_some _ _).symm.trans H; with_reducible exact H2_) | with_reducible exact H | (rw [hy128]; exact H) | exact H
                           have Ny128 := Aside0.mk hy128
                           clear hy128
                           have H' := Aside0.mk H
                           clear H
                           try go_wp2
                           have n0_ := Aside0.mk (Kd.N_drew HO_4.out)
                           have n1_ := Aside0.mk (Kd.R_drew HO_7.out)
                           have n2_ := Aside0.mk (below_drew1 HB.out)
                           clear HO_4
                           clear HO_7
                           clear HB
                           have HO_4 := n0_
                           have HO_7 := n1_
                           have HB := n2_
                           clear n0_ n1_ n2_
                           have p126 : 0 ≤ (x26_2 : Int) := of_decide_eq_true (by first | (with_reducible assumption) | assumption)
                           have q126 : x26_2 < (x7_2.length : Int) := of_decide_eq_true (by first | (with_reducible assumption) | assumption)
                           obtain ⟨ad126, e126, hx126_0⟩ := Kd.at_int (Kd.R_reads' HO_7.out).2.2 x26_2 p126 q126
                           cases e126
                           replace p126 := eq_true p126
                           replace q126 := eq_true q126
                           have p127 : 0 ≤ ((ji48) : Int) := of_decide_eq_true (by first | (with_reducible assumption) | assumption)
                           have q127 : (ji48) < (x7_2.length : Int) := of_decide_eq_true (by first | (with_reducible assumption) | assumption)
                           obtain ⟨ad127, e127, hx127_0⟩ := Kd.at_int (Kd.R_reads' HO_7.out).2.2 (ji48) p127 q127
                           obtain rfl : ad126 = ad127 := (by injection e127)
                           replace p127 := eq_true p127
                           replace q127 := eq_true q127
                           have p51 : 0 ≤ (x26_2 : Int) := of_decide_eq_true (by first | (with_reducible assumption) | assumption)
                           have q51 : (x26_2 : Int) < ((x7_2.length : Int) : Int) := of_decide_eq_true (by first | (with_reducible assumption) | assumption)
                           obtain ⟨go51, co51, eo51, gb51, gl51, cl51, HG51⟩ := Kd.R_form HO_7.out (by omega)
                           (first | cases eo51 | (injection eo51 with ea_ en_ ec_; (first | subst ea_ | (injection ea_ with ea_; subst ea_)); subst ec_; clear en_))
                           have GB51 := Aside0.mk gb51
                           have GG51 := Aside0.mk HG51
                           clear gb51 gl51 HG51
                           (first | simp only [add_plain] at hx126_0 | skip)
                           (first | simp only [add_plain] at hx127_0 | skip)
                           obtain ⟨hx51_0, hf51_0⟩ := Kd.R_celln 0 HO_7.out (x26_2 : Int) p51 q51
                           replace p51 := eq_true p51
                           replace q51 := eq_true q51
                           have HP53 := Kd.R_putn HO_7.out (x26_2 : Int) (Go.bits .xor .u8 (rd x7_2 x26_2) (rd x7_2 (ji48)))
                           rw [← Ny128.out] at HP53
                           have HQ53 := Aside0.mk HP53
                           clear HP53
                           refine start_ (n := 12) (S := fun w' => w'.cell? ⟨go51, (x26_2).toNat, none⟩ = some (.int .u8 (rd x7_2 x26_2)) ∧ w'.cell? ⟨go51, ((ji48)).toNat, none⟩ = some (.int .u8 (rd x7_2 (ji48)))) (ds := [11]) #[false, false, false, false, false, false, false, false, false, false, false, false] (by kernel_rfl) rfl rfl ⟨hx126_0, hx127_0⟩ (fun hHeld => ?_); refine with_tabW aes_Keys.tab12 aes_Keys.bits12 (fun HT_ HW_ => ?_)
                           generalize wr.drew = w52 at HO_4 HO_7 HB GG51 HQ53 hf51_0 hx126_0 hx127_0 hx51_0 hHeld ⊢
                           refine pure_ (i := 0) (N := some 29) (v := ?_) (a' := ?_) #[true, false, false, false, false, false, false, false, false, false, false, false] rfl rfl (any_of HT_.out (by kernel_rfl)) (fun _ _ _ h => h) (Or.inl ⟨by rfl, ?_⟩) ?_ ?_
                           rotate_left
                           · intro w'
                             go_simp
                             with_reducible rfl
                           rotate_left
                           · simp only [Act.put, List.setIfInBounds_toArray, List.set_cons_zero, List.set_cons_succ, i64_w, i32_w]
                             rfl
                           refine pure_ (i := 1) (N := some 30) (v := ?_) (a' := ?_) #[true, true, false, false, false, false, false, false, false, false, false, false] rfl rfl (any_of HT_.out (by kernel_rfl)) (fun _ _ _ h => h) (Or.inl ⟨by rfl, ?_⟩) ?_ ?_
                           rotate_left
                           · intro w'
                             go_simp
                             with_reducible rfl
                           rotate_left
                           · simp only [Act.put, List.setIfInBounds_toArray, List.set_cons_zero, List.set_cons_succ, i64_w, i32_w]
                             rfl
                           refine pure_ (i := 2) (N := some 31) (v := ?_) (a' := ?_) #[true, true, true, false, false, false, false, false, false, false, false, false] rfl rfl (any_of HT_.out (by kernel_rfl)) (fun _ _ _ h => h) (Or.inl ⟨by rfl, ?_⟩) ?_ ?_
                           rotate_left
                           · intro w'
                             go_simp
                             with_reducible rfl
                           rotate_left
                           · simp only [Act.put, List.setIfInBounds_toArray, List.set_cons_zero, List.set_cons_succ, i64_w, i32_w]
                             rfl
                           refine pure_ (i := 4) (N := some 33) (v := ?_) (a' := ?_) #[true, true, true, false, true, false, false, false, false, false, false, false] rfl rfl (any_of HT_.out (by kernel_rfl)) (fun _ _ _ h => h) (Or.inl ⟨by rfl, ?_⟩) ?_ ?_
                           rotate_left
                           · intro w'
                             go_simp
                             with_reducible rfl
                           rotate_left
                           · simp only [Act.put, List.setIfInBounds_toArray, List.set_cons_zero, List.set_cons_succ, i64_w, i32_w]
                             rfl
                           refine pure_ (i := 5) (N := some 34) (v := ?_) (a' := ?_) #[true, true, true, false, true, true, false, false, false, false, false, false] rfl rfl (any_of HT_.out (by kernel_rfl)) (fun _ _ _ h => h) (Or.inl ⟨by rfl, ?_⟩) ?_ ?_
                           rotate_left
                           · intro w'
                             go_simp
                             with_reducible rfl
                           rotate_left
                           · simp only [Act.put, List.setIfInBounds_toArray, List.set_cons_zero, List.set_cons_succ, i64_w, i32_w]
                             rfl
                           refine pure_ (i := 6) (N := some 35) (v := ?_) (a' := ?_) #[true, true, true, false, true, true, true, false, false, false, false, false] rfl rfl (any_of HT_.out (by kernel_rfl)) (fun _ _ _ h => h) (Or.inl ⟨by rfl, ?_⟩) ?_ ?_
                           rotate_left
                           · intro w'
                             go_simp
                             with_reducible rfl
                           rotate_left
                           · simp only [Act.put, List.setIfInBounds_toArray, List.set_cons_zero, List.set_cons_succ, i64_w, i32_w]
                             rfl
                           refine pure_ (i := 7) (N := some 36) (v := ?_) (a' := ?_) #[true, true, true, false, true, true, true, true, false, false, false, false] rfl rfl (any_of HT_.out (by kernel_rfl)) (fun _ _ _ h => h) (Or.inl ⟨by rfl, ?_⟩) ?_ ?_
                           rotate_left
                           · intro w'
                             go_simp
                             with_reducible rfl
                           rotate_left
                           · simp only [Act.put, List.setIfInBounds_toArray, List.set_cons_zero, List.set_cons_succ, i64_w, i32_w]
                             rfl
                           refine take_ (i := 3) (N := some 32) (v := ?_) (a' := ?_) #[true, true, true, true, true, true, true, true, false, false, false, false] rfl rfl (take_ofW HT_.out HW_.out (by kernel_rfl)) (fun _ _ _ h => h) (Or.inl ⟨by rfl, ?_⟩) hHeld ?_ ?_
                           rotate_left
                           · rintro w' ⟨s0, s1⟩
                             go_simp
                             with_reducible rfl
                           rotate_left
                           · simp only [Act.put, List.setIfInBounds_toArray, List.set_cons_zero, List.set_cons_succ, i64_w, i32_w]
                             rfl
                           refine take_ (i := 8) (N := some 37) (v := ?_) (a' := ?_) #[true, true, true, true, true, true, true, true, true, false, false, false] rfl rfl (take_ofW HT_.out HW_.out (by kernel_rfl)) (fun _ _ _ h => h) (Or.inl ⟨by rfl, ?_⟩) hHeld ?_ ?_
                           rotate_left
                           · rintro w' ⟨s0, s1⟩
                             go_simp
                             with_reducible rfl
                           rotate_left
                           · simp only [Act.put, List.setIfInBounds_toArray, List.set_cons_zero, List.set_cons_succ, i64_w, i32_w]
                             rfl
                           refine pure_ (i := 9) (N := some 38) (v := ?_) (a' := ?_) #[true, true, true, true, true, true, true, true, true, true, false, false] rfl rfl (any_of HT_.out (by kernel_rfl)) (fun _ _ _ h => h) (Or.inl ⟨by rfl, ?_⟩) ?_ ?_
                           rotate_left
                           · intro w'
                             go_simp
                             with_reducible rfl
                           rotate_left
                           · simp only [Act.put, List.setIfInBounds_toArray, List.set_cons_zero, List.set_cons_succ, i64_w, i32_w]
                             rfl
                           refine pure_ (i := 10) (N := some 39) (v := ?_) (a' := ?_) #[true, true, true, true, true, true, true, true, true, true, true, false] rfl rfl (any_of HT_.out (by kernel_rfl)) (fun _ _ _ h => h) (Or.inl ⟨by rfl, ?_⟩) ?_ ?_
                           rotate_left
                           · intro w'
                             go_simp
                             with_reducible rfl
                           rotate_left
                           · simp only [Act.put, List.setIfInBounds_toArray, List.set_cons_zero, List.set_cons_succ, i64_w, i32_w]
                             rfl
                           refine last_ (i := 11) (N := none) #[true, true, true, true, true, true, true, true, true, true, true, true] rfl rfl (one_of HT_.out (by kernel_rfl)) (by decide) (fun K hK => ?_)
                           refine skip_ (w1 := ?_) (by rfl) rfl ?_ ?_
                           rotate_left
                           · go_simp
                             rfl
                           refine hK.out _ _ ?_
                           clear hK K
                           refine done_ (done_of HT_.out (by kernel_rfl)) ?_
                           try go_wp2
                           (try simp only [← hl7_2])
                           go_roundg k2
                           case measure => have := HK1.out; have := HK2.out; omega
                           case rel => exact ⟨(y128), (wrap64 (x26_2 + 1)), (by first | rfl | (simp; done) | (simp [*]; done)), H', ⟨by have := HK1.out; have := HK2.out; omega⟩, ⟨by (try simp only [hl7_2]); (with_reducible repeat (first | apply Kd.N_alloc | apply Kd.N_drewN | apply Kd.N_drew)); exact Kd.N_mono (Kd.N_far (p := ⟨go51, (x26_2 : Int).toNat, none⟩) (Kd.N_mono HO_4.out (fun k_ hk => (⟨hk, fun e_ => hk.2 (by rw [e_]; rfl)⟩ : _ ∧ k_ ≠ go51))) (fun _ hk => hk.2) (.int .u8 (Go.bits .xor .u8 (rd x7_2 x26_2) (rd x7_2 (ji48))))) (fun _ hk => ⟨hk.1.1, hk.1.2⟩)⟩, ⟨by (try simp only [hl7_2]); (with_reducible repeat (first | apply Kd.R_alloc | apply Kd.R_drewN | apply Kd.R_drew)); exact HQ53.out⟩, ⟨by repeat (first | (with_reducible first | exact HB.out | apply below_alloc | apply pw_below_drewN | apply below_drew1 | refine below_set ?_ GB51.out) | exact HB.out)⟩⟩
                         · rw [if_neg c50] at H
                           exact absurd H (by simp)
                       · rw [if_neg c49] at H
                         exact absurd H (by simp)
                     · rw [if_neg c47] at H
                       exact absurd H (by simp)
                   · rw [if_neg c46] at H
                     exact absurd H (by simp)
             · rw [if_neg c15] at H
               have c15b0 : decide (x26_2 < (t109.length : Int)) = false := decide_eq_false c15
               clear c15
               (try (have c15h0 := c15b0; simp only [hl7_2] at c15h0))
               (try (have c15h1 := c15b0; simp only [← hl7_2] at c15h1))
               by_cases c54 : x4_1.length < 5864062014805
               · rw [if_pos c54] at H
                 have LMc54 := Aside0.mk c54
                 clear c54
                 obtain ⟨y112, hy112⟩ : ∃ y_ : List (List Int), y_ = (x4_1 ++ [x7_2]) := ⟨_, rfl⟩
                 replace H : ((aes_twice.f x5_1).bind fun t115 => (aes_Keys.l0 k2 y112 t115 (wrap64 (x16_1 + 1)))) = some (r1, r2) := by first | (rw [hy112]; with_reducible exact H) | (have H2_ := (Option.bind_some _ _).symm.trans H; rw [hy112]; with_reducible exact H2_) | (have H2_ := (Option.bind_some _ _).symm.trans H; with_reducible exact H2_) | with_reducible exact H | (rw [hy112]; exact H) | exact H
                 have Ny112 := Aside0.mk hy112
                 clear hy112
                 replace H := Option.bind_eq_some_iff.mp H
                 obtain ⟨t115, A550, H⟩ := H
                 replace H : (aes_Keys.l0 k2 y112 t115 (wrap64 (x16_1 + 1))) = some (r1, r2) := H
                 have A55 := Aside0.mk A550
                 clear A550
                 have H' := Aside0.mk H
                 clear H
                 go_wp2_with (first | ((with_reducible refine gate_builtin (b := .append) (xs := #[.tmp 81, .tmp 83]) rfl ?_); at_builtin; refine Kd.N_append (Kd.slice 5 (Kd.int .u8)) (w0 := w) w.heap.size rfl (.tmp 81) (.tmp 83) 26 25 (.slice none 0 0) 24 rfl Try.underlying26 info25 rfl (by decide) (by omega) (.slice (some ad108) x4_1.length co12) x4_1 x7_2 [.slice Ao14 x7_2.length co14] (fun k_ => (w.heap.size ≤ k_)) (fun k_ => ((fun k_ => (w.heap.size ≤ k_))) k_ ∧ some k_ ≠ (.slice (some ad108) x4_1.length co12 : Value).ownBlock) rfl rfl ?aP (fun _ hk => hk) ?aF ?aO ?aB ?aS ?aL ?_; (case aP => exact (Kd.FK_slice_mk (Kd.R_reads' (Kd.R_mono (ok' := (fun k_ => ((fun k_ => (w.heap.size ≤ k_))) k_ ∧ some k_ ≠ (.slice (some ad108) x4_1.length co12 : Value).ownBlock)) (Kd.R_apart' (HO_7.out) (Kd.N_typed HO_4.out) (by decide)) (fun k_ hk => ⟨hk.1, hk.2⟩))).2.1 (Kd.R_F (Kd.R_mono (ok' := (fun k_ => ((fun k_ => (w.heap.size ≤ k_))) k_ ∧ some k_ ≠ (.slice (some ad108) x4_1.length co12 : Value).ownBlock)) (Kd.R_apart' (HO_7.out) (Kd.N_typed HO_4.out) (by decide)) (fun k_ hk => ⟨hk.1, hk.2⟩))))); (case aB => exact (by repeat (first | (with_reducible first | exact HB.out | apply below_alloc | apply pw_below_drewN | apply below_drew1) | exact HB.out))); (case aF => exact (fun k_ hk => (Nat.le_trans (below_size (by repeat (first | (with_reducible first | exact HB.out | apply below_alloc | apply pw_below_drewN | apply below_drew1) | exact HB.out))) hk))); (case aO => exact (by (with_reducible repeat (first | apply Kd.N_alloc | apply Kd.N_drewN | apply Kd.N_drew)); exact Kd.N_mono HO_4.out (fun _ hk => hk.1))); (case aS => exact (below_size (by repeat (first | (with_reducible first | exact HB.out | apply below_alloc | apply pw_below_drewN | apply below_drew1) | exact HB.out)))); (case aL => have := LMc54.out; omega); intro v113 w56 ho hb hg hat; rw [← Ny112.out] at ho; have n0_ := Aside0.mk (hb); have n1_ := Aside0.mk (ho); clear HB; clear HO_4; clear HO_7; have HB := n0_; have HO114 := n1_; clear n0_ n1_; clear ho hb hg hat) | ((with_reducible refine gate_callee (f := 33) rfl ?_); refine goesL_ (some 86) rfl rfl Try.func33 (by kernel_rfl) rfl #[.int .u8 x5_1] rfl (by (try simp only [List.map_toArray, List.map_cons, List.map_nil]); first | done | rfl | (simp only [List.length_drop, List.length_take]; rfl)) ?_; (with_reducible refine (aes_twice.calls x5_1 t115 _ A55.out).mono ?_); rintro e w' ⟨rfl, ⟨nd, rfl⟩⟩; refine ⟨_, rfl, ?_⟩))
                 (try simp only [← hl7_2])
                 go_roundg k2
                 case measure => have := HK1.out; have := HK2.out; omega
                 case rel => exact ⟨(y112), (t115), (wrap64 (x16_1 + 1)), (by first | rfl | (simp; done) | (simp [*]; done)), (by first | rfl | (simp; done) | (simp [*]; done)), H', ⟨by have := HK1.out; have := HK2.out; omega⟩, ⟨by (try simp only [hl7_2]); (with_reducible repeat (first | apply Kd.N_alloc | apply Kd.N_drewN | apply Kd.N_drew)); exact HO114.out⟩, ⟨by repeat (first | (with_reducible first | exact HB.out | apply below_alloc | apply pw_below_drewN | apply below_drew1) | exact HB.out)⟩⟩
               · rw [if_neg c54] at H
                 exact absurd H (by simp)
         · rw [if_neg c10] at H
           exact absurd H (by simp)
       · rw [if_neg c9] at H
         exact absurd H (by simp)
     · rw [if_neg c8] at H
       have c8b0 : decide (x16_1 < 10) = false := decide_eq_false c8
       clear c8
       simp only [Option.some.injEq, Prod.mk.injEq] at H
       obtain ⟨rfl, rfl⟩ := H
       go_wp2
       go_ret2
       exact ⟨_, by first | rfl | (simp [errW_none, errW_some] <;> rfl) | (simp [*, errW_none, errW_some] <;> rfl), by (with_reducible repeat (first | apply Kd.N_alloc | apply Kd.N_drewN | apply Kd.N_drew)); exact HO_4.out, by repeat (first | (with_reducible first | exact HB.out | apply below_alloc | apply pw_below_drewN | apply below_drew1) | exact HB.out)⟩
 · rw [if_neg c2] at H
   have c2b0 : ((l0.length : Int) == 16) = false := beq_eq_false_iff_ne.mpr c2
   have c2b1 : ((l0.length : Int) != 16) = true := bne_iff_ne.mpr c2
   simp only [Option.some.injEq, Prod.mk.injEq] at H
   obtain ⟨rfl, rfl⟩ := H
   go_enter Try.func17, Try.ntmps17
   go_wp2
   go_ret2
   exact ⟨_, by first | rfl | (simp [errW_none, errW_some] <;> rfl) | (simp [*, errW_none, errW_some] <;> rfl), by first | exact Kd.S_nil _ _ _ _ _ | exact Kd.N_nil _ _ _ _ _ | exact Kd.V_nil _ _ _ _ _ | exact Kd.Q_nil _ _ _ _ _ | exact Kd.R_nil _ _ _ _ _, by repeat (first | (with_reducible first | exact HB.out | apply below_alloc | apply pw_below_drewN | apply below_drew1) | exact HB.out)⟩

end Go.Proofs.Ytpcdkfbngoagnaa.C

-- LEAN
