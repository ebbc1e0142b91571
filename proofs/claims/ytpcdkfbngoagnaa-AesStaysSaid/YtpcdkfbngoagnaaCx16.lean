-- PRINTED by print.py (a twelfth state) out of the translation. Not trusted: Lean checks it.
import Derived.Test.YtpcdkfbngoagnaaCx0
import Derived.Test.YtpcdkfbngoagnaaCx13
import Derived.Test.YtpcdkfbngoagnaaCx14
namespace Go.Proofs.Ytpcdkfbngoagnaa.C
open Go.RowKit Go.Proofs.YtpcdkfbngoagnaaW.PrintWords Go.Proofs.YtpcdkfbngoagnaaW.PrintLast Go.Proofs.YtpcdkfbngoagnaaW.PrintMore
attribute [local go_sem] max2_int min2_int max_two min_two max_three min_three max_four min_four   -- for this text's walks alone
set_option linter.unusedVariables false
set_option linter.unusedSimpArgs false

/-! ### charterref03_Encrypt: function 21 -/
mutual
def charterref03_Encrypt.l0 : Nat → List Int → List (List Int) → List Int → Int → Option (List Int)
 | 0, _, _, _, _ => none
 | k + 1, x0, x7, x8, x9 => if x9 < 16 then (if 0 ≤ x9 then (if x9 < (x8.length : Int) then (if 0 < (x7.length : Int) then (if x9 < ((rd_L1 x7 0).length : Int) then (charterref03_Encrypt.l0 k x0 x7 (x8.set (x9 : Int).toNat (Go.bits .xor .u8 (rd x8 x9) (rd (rd_L1 x7 0) x9))) (wrap64 (x9 + 1))) else (none)) else (none)) else (none)) else (none)) else (charterref03_Encrypt.l1 k x0 x7 x8 1)
def charterref03_Encrypt.l1 : Nat → List Int → List (List Int) → List Int → Int → Option (List Int)
 | 0, _, _, _, _ => none
 | k + 1, x0, x7, x8, x10 => if x10 ≤ 10 then (if 16 ≤ 281474976710656 then (charterref03_Encrypt.l2 k x0 x7 x8 x10 (List.replicate 16 0) 0) else (none)) else (some x8)
def charterref03_Encrypt.l2 : Nat → List Int → List (List Int) → List Int → Int → List Int → Int → Option (List Int)
 | 0, _, _, _, _, _, _ => none
 | k + 1, x0, x7, x8, x10, x11, x12 => if x12 < 4 then (charterref03_Encrypt.l3 k x0 x7 x8 x10 x11 x12 0) else (charterref03_Encrypt.l4 k x0 x7 x8 x10 x11 0)
def charterref03_Encrypt.l3 : Nat → List Int → List (List Int) → List Int → Int → List Int → Int → Int → Option (List Int)
 | 0, _, _, _, _, _, _, _ => none
 | k + 1, x0, x7, x8, x10, x11, x12, x13 => if x13 < 4 then (if 0 ≤ (wrap64 ((wrap64 (4 * (Int.tmod (wrap64 (x12 + x13)) 4))) + x13)) then (if (wrap64 ((wrap64 (4 * (Int.tmod (wrap64 (x12 + x13)) 4))) + x13)) < (x8.length : Int) then (if 0 ≤ (rd x8 (wrap64 ((wrap64 (4 * (Int.tmod (wrap64 (x12 + x13)) 4))) + x13))) then (if (rd x8 (wrap64 ((wrap64 (4 * (Int.tmod (wrap64 (x12 + x13)) 4))) + x13))) < (x0.length : Int) then (if 0 ≤ (wrap64 ((wrap64 (4 * x12)) + x13)) then (if (wrap64 ((wrap64 (4 * x12)) + x13)) < (x11.length : Int) then (charterref03_Encrypt.l3 k x0 x7 x8 x10 (x11.set ((wrap64 ((wrap64 (4 * x12)) + x13)) : Int).toNat (rd x0 (rd x8 (wrap64 ((wrap64 (4 * (Int.tmod (wrap64 (x12 + x13)) 4))) + x13))))) x12 (wrap64 (x13 + 1))) else (none)) else (none)) else (none)) else (none)) else (none)) else (none)) else (charterref03_Encrypt.l2 k x0 x7 x8 x10 x11 (wrap64 (x12 + 1)))
def charterref03_Encrypt.l4 : Nat → List Int → List (List Int) → List Int → Int → List Int → Int → Option (List Int)
 | 0, _, _, _, _, _, _ => none
 | k + 1, x0, x7, x8, x10, x11, x14 => if x14 < 4 then (charterref03_Encrypt.l5 k x0 x7 x8 x10 x11 x14 0) else (charterref03_Encrypt.l1 k x0 x7 x8 (wrap64 (x10 + 1)))
def charterref03_Encrypt.l5 : Nat → List Int → List (List Int) → List Int → Int → List Int → Int → Int → Option (List Int)
 | 0, _, _, _, _, _, _, _ => none
 | k + 1, x0, x7, x8, x10, x11, x14, x15 => if x15 < 4 then (if 0 ≤ (wrap64 ((wrap64 (4 * x14)) + x15)) then (if (wrap64 ((wrap64 (4 * x14)) + x15)) < (x11.length : Int) then (if x10 < 10 then ((charterref03_Times.f k 2 (rd x11 (wrap64 ((wrap64 (4 * x14)) + x15)))).bind fun t220 => (if 0 ≤ (wrap64 ((wrap64 (4 * x14)) + (Int.tmod (wrap64 (x15 + 1)) 4))) then (if (wrap64 ((wrap64 (4 * x14)) + (Int.tmod (wrap64 (x15 + 1)) 4))) < (x11.length : Int) then ((charterref03_Times.f k 3 (rd x11 (wrap64 ((wrap64 (4 * x14)) + (Int.tmod (wrap64 (x15 + 1)) 4))))).bind fun t222 => (if 0 ≤ (wrap64 ((wrap64 (4 * x14)) + (Int.tmod (wrap64 (x15 + 2)) 4))) then (if (wrap64 ((wrap64 (4 * x14)) + (Int.tmod (wrap64 (x15 + 2)) 4))) < (x11.length : Int) then (if 0 ≤ (wrap64 ((wrap64 (4 * x14)) + (Int.tmod (wrap64 (x15 + 3)) 4))) then (if (wrap64 ((wrap64 (4 * x14)) + (Int.tmod (wrap64 (x15 + 3)) 4))) < (x11.length : Int) then (if 0 ≤ x10 then (if x10 < (x7.length : Int) then (if (wrap64 ((wrap64 (4 * x14)) + x15)) < ((rd_L1 x7 x10).length : Int) then (if (wrap64 ((wrap64 (4 * x14)) + x15)) < (x8.length : Int) then (charterref03_Encrypt.l5 k x0 x7 (x8.set ((wrap64 ((wrap64 (4 * x14)) + x15)) : Int).toNat (Go.bits .xor .u8 (Go.bits .xor .u8 (Go.bits .xor .u8 (Go.bits .xor .u8 t220 t222) (rd x11 (wrap64 ((wrap64 (4 * x14)) + (Int.tmod (wrap64 (x15 + 2)) 4))))) (rd x11 (wrap64 ((wrap64 (4 * x14)) + (Int.tmod (wrap64 (x15 + 3)) 4))))) (rd (rd_L1 x7 x10) (wrap64 ((wrap64 (4 * x14)) + x15))))) x10 x11 x14 (wrap64 (x15 + 1))) else (none)) else (none)) else (none)) else (none)) else (none)) else (none)) else (none)) else (none))) else (none)) else (none))) else (if 0 ≤ x10 then (if x10 < (x7.length : Int) then (if (wrap64 ((wrap64 (4 * x14)) + x15)) < ((rd_L1 x7 x10).length : Int) then (if (wrap64 ((wrap64 (4 * x14)) + x15)) < (x8.length : Int) then (charterref03_Encrypt.l5 k x0 x7 (x8.set ((wrap64 ((wrap64 (4 * x14)) + x15)) : Int).toNat (Go.bits .xor .u8 (rd x11 (wrap64 ((wrap64 (4 * x14)) + x15))) (rd (rd_L1 x7 x10) (wrap64 ((wrap64 (4 * x14)) + x15))))) x10 x11 x14 (wrap64 (x15 + 1))) else (none)) else (none)) else (none)) else (none))) else (none)) else (none)) else (charterref03_Encrypt.l4 k x0 x7 x8 x10 x11 (wrap64 (x14 + 1)))
end
def charterref03_Encrypt.f (k : Nat) (l0 : List Int) (l1 : List Int) (l2 : List Int) : Option (List Int) := (charterref03_Keys.f k l0 l1).bind fun t199 => ((some (([] : List Int) : List Int)).bind fun y202 => (if y202.length + l2.length < 140737488355328 then (charterref03_Encrypt.l0 k l0 t199 (y202 ++ l2) 0) else (none)))
theorem charterref03_Encrypt.mono_l : ∀ k, (∀ y0 y1 y2 y3, LeO (charterref03_Encrypt.l0 k y0 y1 y2 y3) (charterref03_Encrypt.l0 (k + 1) y0 y1 y2 y3)) ∧ (∀ y0 y1 y2 y3, LeO (charterref03_Encrypt.l1 k y0 y1 y2 y3) (charterref03_Encrypt.l1 (k + 1) y0 y1 y2 y3)) ∧ (∀ y0 y1 y2 y3 y4 y5, LeO (charterref03_Encrypt.l2 k y0 y1 y2 y3 y4 y5) (charterref03_Encrypt.l2 (k + 1) y0 y1 y2 y3 y4 y5)) ∧ (∀ y0 y1 y2 y3 y4 y5 y6, LeO (charterref03_Encrypt.l3 k y0 y1 y2 y3 y4 y5 y6) (charterref03_Encrypt.l3 (k + 1) y0 y1 y2 y3 y4 y5 y6)) ∧ (∀ y0 y1 y2 y3 y4 y5, LeO (charterref03_Encrypt.l4 k y0 y1 y2 y3 y4 y5) (charterref03_Encrypt.l4 (k + 1) y0 y1 y2 y3 y4 y5)) ∧ (∀ y0 y1 y2 y3 y4 y5 y6, LeO (charterref03_Encrypt.l5 k y0 y1 y2 y3 y4 y5 y6) (charterref03_Encrypt.l5 (k + 1) y0 y1 y2 y3 y4 y5 y6))
 | 0 => ⟨fun _ _ _ _ r h => by simp [charterref03_Encrypt.l0] at h, fun _ _ _ _ r h => by simp [charterref03_Encrypt.l1] at h, fun _ _ _ _ _ _ r h => by simp [charterref03_Encrypt.l2] at h, fun _ _ _ _ _ _ _ r h => by simp [charterref03_Encrypt.l3] at h, fun _ _ _ _ _ _ r h => by simp [charterref03_Encrypt.l4] at h, fun _ _ _ _ _ _ _ r h => by simp [charterref03_Encrypt.l5] at h⟩
 | k + 1 => by
  obtain ⟨ih0, ih1, ih2, ih3, ih4, ih5⟩ := charterref03_Encrypt.mono_l k
  refine ⟨?_, ?_, ?_, ?_, ?_, ?_⟩
  · intro y0 y1 y2 y3
    unfold charterref03_Encrypt.l0
    repeat' first
    | (with_reducible exact ih0 _ _ _ _)
    | (with_reducible exact ih1 _ _ _ _)
    | (with_reducible exact ih2 _ _ _ _ _ _)
    | (with_reducible exact ih3 _ _ _ _ _ _ _)
    | (with_reducible exact ih4 _ _ _ _ _ _)
    | (with_reducible exact ih5 _ _ _ _ _ _ _)
    | (with_reducible exact charterref03_Keys.mono _ _ _)
    | (with_reducible exact charterref03_Times.mono _ _ _)
    | (with_reducible exact LeO.refl _)
    | (with_reducible exact LeO.none _)
    | (with_reducible refine LeO.ite ?_ ?_)
    | (with_reducible refine LeO.bind ?_ (fun _ => ?_))
    | exact ih0 _ _ _ _
    | exact ih1 _ _ _ _
    | exact ih2 _ _ _ _ _ _
    | exact ih3 _ _ _ _ _ _ _
    | exact ih4 _ _ _ _ _ _
    | exact ih5 _ _ _ _ _ _ _
    | exact charterref03_Keys.mono _ _ _
    | exact charterref03_Times.mono _ _ _
    | exact LeO.none _
    | refine LeO.ite ?_ ?_
    | refine LeO.bind ?_ (fun _ => ?_)
  · intro y0 y1 y2 y3
    unfold charterref03_Encrypt.l1
    repeat' first
    | (with_reducible exact ih0 _ _ _ _)
    | (with_reducible exact ih1 _ _ _ _)
    | (with_reducible exact ih2 _ _ _ _ _ _)
    | (with_reducible exact ih3 _ _ _ _ _ _ _)
    | (with_reducible exact ih4 _ _ _ _ _ _)
    | (with_reducible exact ih5 _ _ _ _ _ _ _)
    | (with_reducible exact charterref03_Keys.mono _ _ _)
    | (with_reducible exact charterref03_Times.mono _ _ _)
    | (with_reducible exact LeO.refl _)
    | (with_reducible exact LeO.none _)
    | (with_reducible refine LeO.ite ?_ ?_)
    | (with_reducible refine LeO.bind ?_ (fun _ => ?_))
    | exact ih0 _ _ _ _
    | exact ih1 _ _ _ _
    | exact ih2 _ _ _ _ _ _
    | exact ih3 _ _ _ _ _ _ _
    | exact ih4 _ _ _ _ _ _
    | exact ih5 _ _ _ _ _ _ _
    | exact charterref03_Keys.mono _ _ _
    | exact charterref03_Times.mono _ _ _
    | exact LeO.none _
    | refine LeO.ite ?_ ?_
    | refine LeO.bind ?_ (fun _ => ?_)
  · intro y0 y1 y2 y3 y4 y5
    unfold charterref03_Encrypt.l2
    repeat' first
    | (with_reducible exact ih0 _ _ _ _)
    | (with_reducible exact ih1 _ _ _ _)
    | (with_reducible exact ih2 _ _ _ _ _ _)
    | (with_reducible exact ih3 _ _ _ _ _ _ _)
    | (with_reducible exact ih4 _ _ _ _ _ _)
    | (with_reducible exact ih5 _ _ _ _ _ _ _)
    | (with_reducible exact charterref03_Keys.mono _ _ _)
    | (with_reducible exact charterref03_Times.mono _ _ _)
    | (with_reducible exact LeO.refl _)
    | (with_reducible exact LeO.none _)
    | (with_reducible refine LeO.ite ?_ ?_)
    | (with_reducible refine LeO.bind ?_ (fun _ => ?_))
    | exact ih0 _ _ _ _
    | exact ih1 _ _ _ _
    | exact ih2 _ _ _ _ _ _
    | exact ih3 _ _ _ _ _ _ _
    | exact ih4 _ _ _ _ _ _
    | exact ih5 _ _ _ _ _ _ _
    | exact charterref03_Keys.mono _ _ _
    | exact charterref03_Times.mono _ _ _
    | exact LeO.none _
    | refine LeO.ite ?_ ?_
    | refine LeO.bind ?_ (fun _ => ?_)
  · intro y0 y1 y2 y3 y4 y5 y6
    unfold charterref03_Encrypt.l3
    repeat' first
    | (with_reducible exact ih0 _ _ _ _)
    | (with_reducible exact ih1 _ _ _ _)
    | (with_reducible exact ih2 _ _ _ _ _ _)
    | (with_reducible exact ih3 _ _ _ _ _ _ _)
    | (with_reducible exact ih4 _ _ _ _ _ _)
    | (with_reducible exact ih5 _ _ _ _ _ _ _)
    | (with_reducible exact charterref03_Keys.mono _ _ _)
    | (with_reducible exact charterref03_Times.mono _ _ _)
    | (with_reducible exact LeO.refl _)
    | (with_reducible exact LeO.none _)
    | (with_reducible refine LeO.ite ?_ ?_)
    | (with_reducible refine LeO.bind ?_ (fun _ => ?_))
    | exact ih0 _ _ _ _
    | exact ih1 _ _ _ _
    | exact ih2 _ _ _ _ _ _
    | exact ih3 _ _ _ _ _ _ _
    | exact ih4 _ _ _ _ _ _
    | exact ih5 _ _ _ _ _ _ _
    | exact charterref03_Keys.mono _ _ _
    | exact charterref03_Times.mono _ _ _
    | exact LeO.none _
    | refine LeO.ite ?_ ?_
    | refine LeO.bind ?_ (fun _ => ?_)
  · intro y0 y1 y2 y3 y4 y5
    unfold charterref03_Encrypt.l4
    repeat' first
    | (with_reducible exact ih0 _ _ _ _)
    | (with_reducible exact ih1 _ _ _ _)
    | (with_reducible exact ih2 _ _ _ _ _ _)
    | (with_reducible exact ih3 _ _ _ _ _ _ _)
    | (with_reducible exact ih4 _ _ _ _ _ _)
    | (with_reducible exact ih5 _ _ _ _ _ _ _)
    | (with_reducible exact charterref03_Keys.mono _ _ _)
    | (with_reducible exact charterref03_Times.mono _ _ _)
    | (with_reducible exact LeO.refl _)
    | (with_reducible exact LeO.none _)
    | (with_reducible refine LeO.ite ?_ ?_)
    | (with_reducible refine LeO.bind ?_ (fun _ => ?_))
    | exact ih0 _ _ _ _
    | exact ih1 _ _ _ _
    | exact ih2 _ _ _ _ _ _
    | exact ih3 _ _ _ _ _ _ _
    | exact ih4 _ _ _ _ _ _
    | exact ih5 _ _ _ _ _ _ _
    | exact charterref03_Keys.mono _ _ _
    | exact charterref03_Times.mono _ _ _
    | exact LeO.none _
    | refine LeO.ite ?_ ?_
    | refine LeO.bind ?_ (fun _ => ?_)
  · intro y0 y1 y2 y3 y4 y5 y6
    unfold charterref03_Encrypt.l5
    repeat' first
    | (with_reducible exact ih0 _ _ _ _)
    | (with_reducible exact ih1 _ _ _ _)
    | (with_reducible exact ih2 _ _ _ _ _ _)
    | (with_reducible exact ih3 _ _ _ _ _ _ _)
    | (with_reducible exact ih4 _ _ _ _ _ _)
    | (with_reducible exact ih5 _ _ _ _ _ _ _)
    | (with_reducible exact charterref03_Keys.mono _ _ _)
    | (with_reducible exact charterref03_Times.mono _ _ _)
    | (with_reducible exact LeO.refl _)
    | (with_reducible exact LeO.none _)
    | (with_reducible refine LeO.ite ?_ ?_)
    | (with_reducible refine LeO.bind ?_ (fun _ => ?_))
    | exact ih0 _ _ _ _
    | exact ih1 _ _ _ _
    | exact ih2 _ _ _ _ _ _
    | exact ih3 _ _ _ _ _ _ _
    | exact ih4 _ _ _ _ _ _
    | exact ih5 _ _ _ _ _ _ _
    | exact charterref03_Keys.mono _ _ _
    | exact charterref03_Times.mono _ _ _
    | exact LeO.none _
    | refine LeO.ite ?_ ?_
    | refine LeO.bind ?_ (fun _ => ?_)
theorem charterref03_Encrypt.mono : ∀ a0 a1 a2 k, LeO (charterref03_Encrypt.f k a0 a1 a2) (charterref03_Encrypt.f (k + 1) a0 a1 a2) := by
 intro a0 a1 a2 k
 obtain ⟨ih0, ih1, ih2, ih3, ih4, ih5⟩ := charterref03_Encrypt.mono_l k
 unfold charterref03_Encrypt.f
 repeat' first
  | (with_reducible exact ih0 _ _ _ _)
  | (with_reducible exact ih1 _ _ _ _)
  | (with_reducible exact ih2 _ _ _ _ _ _)
  | (with_reducible exact ih3 _ _ _ _ _ _ _)
  | (with_reducible exact ih4 _ _ _ _ _ _)
  | (with_reducible exact ih5 _ _ _ _ _ _ _)
  | (with_reducible exact charterref03_Keys.mono _ _ _)
  | (with_reducible exact charterref03_Times.mono _ _ _)
  | (with_reducible exact LeO.refl _)
  | (with_reducible exact LeO.none _)
  | (with_reducible refine LeO.ite ?_ ?_)
  | (with_reducible refine LeO.bind ?_ (fun _ => ?_))
  | exact ih0 _ _ _ _
  | exact ih1 _ _ _ _
  | exact ih2 _ _ _ _ _ _
  | exact ih3 _ _ _ _ _ _ _
  | exact ih4 _ _ _ _ _ _
  | exact ih5 _ _ _ _ _ _ _
  | exact charterref03_Keys.mono _ _ _
  | exact charterref03_Times.mono _ _ _
  | exact LeO.none _
  | refine LeO.ite ?_ ?_
  | refine LeO.bind ?_ (fun _ => ?_)
def charterref03_Encrypt.T6 : Bool × List (List Nat × List Nat) := (true, [([], []), ([], []), ([], []), ([], []), ([2, 3], [2, 3]), ([4], [4]), ([], []), ([6], [6]), ([7], [7]), ([], []), ([8, 9], [8, 9]), ([10], [10]), ([5, 11], [5, 11]), ([0, 1, 0, 1, 2, 3, 4, 5, 6, 7, 8, 9, 10, 11, 12], [0, 1]), ([13, 12, 0, 1, 2, 3, 4, 5, 6, 7, 8, 9, 10, 11, 12], [12, 13])])
def charterref03_Encrypt.B6 : List Nat := [0, 0, 0, 0, 12, 28, 0, 64, 192, 0, 960, 1984, 4092, 8191, 16383]
theorem charterref03_Encrypt.tab6 : rtab .any (opsOf Try.f21 6) = charterref03_Encrypt.T6 := by kernel_rfl
theorem charterref03_Encrypt.bits6 : waitsOk charterref03_Encrypt.T6.2 charterref03_Encrypt.B6 = true := by kernel_rfl
def charterref03_Encrypt.T26 : Bool × List (List Nat × List Nat) := (true, [([], []), ([], []), ([1], [1]), ([], []), ([2, 3], [2, 3]), ([0, 4], [0, 4]), ([5], [5]), ([6], [6]), ([], []), ([], []), ([9], [9]), ([], []), ([11], [11]), ([12], [12]), ([10, 13], [10, 13]), ([8, 14], [8, 14]), ([15], [15]), ([16, 7], [16]), ([7, 17], [7, 17]), ([], []), ([], []), ([20], [20]), ([], []), ([22], [22]), ([23], [23]), ([21, 24], [21, 24]), ([19, 25], [19, 25]), ([26], [26]), ([18, 27], [18, 27]), ([], []), ([], []), ([30], [30]), ([], []), ([32], [32]), ([33], [33]), ([31, 34], [31, 34]), ([29, 35], [29, 35]), ([36], [36]), ([28, 37], [28, 37]), ([38, 17, 0, 1, 2, 3, 4, 5, 6, 7, 8, 9, 10, 11, 12, 13, 14, 15, 16, 17, 18, 19, 20, 21, 22, 23, 24, 25, 26, 27, 28, 29, 30, 31, 32, 33, 34, 35, 36, 37, 38], [38])])
def charterref03_Encrypt.B26 : List Nat := [0, 0, 2, 0, 14, 31, 63, 127, 0, 0, 512, 0, 2048, 6144, 15872, 32512, 65280, 131071, 262143, 0, 0, 1048576, 0, 4194304, 12582912, 32505856, 66584576, 133693440, 268435455, 0, 0, 1073741824, 0, 4294967296, 12884901888, 33285996544, 68182605824, 136902082560, 274877906943, 549755813887]
theorem charterref03_Encrypt.tab26 : rtab .any (opsOf Try.f21 26) = charterref03_Encrypt.T26 := by kernel_rfl
theorem charterref03_Encrypt.bits26 : waitsOk charterref03_Encrypt.T26.2 charterref03_Encrypt.B26 = true := by kernel_rfl
set_option maxHeartbeats 8000000 in
set_option maxRecDepth 100000 in
theorem charterref03_Encrypt.calls (k : Nat) (A0 : Option Addr) (c0 : Nat) (l0 : List Int) (A1 : Option Addr) (c1 : Nat) (l1 : List Int) (A2 : Option Addr) (c2 : Nat) (l2 : List Int) (r : List Int) (w : World) (hr0 : Kd.C (Kd.int .u8) w A0 l0.length l0) (hc0 : l0.length ≤ c0) (hr1 : Kd.C (Kd.int .u8) w A1 l1.length l1) (hc1 : l1.length ≤ c1) (hr2 : Kd.C (Kd.int .u8) w A2 l2.length l2) (hc2 : l2.length ≤ c2) (h : charterref03_Encrypt.f k l0 l1 l2 = some r) :
 Calls Try.prog 21 #[.slice A0 l0.length c0, .slice A1 l1.length c1, .slice A2 l2.length c2] w fun e w' => ∃ v0_ : Value, e = .returned (v0_) ∧ Kd.R (Kd.int .u8) 5 w' w.heap.size (fun _ => True) v0_ r ∧ Below w.heap.size w w' := by
 have HR0 := Aside0.mk hr0
 have HC0 := Aside0.mk hc0
 clear hr0 hc0
 have HR1 := Aside0.mk hr1
 have HC1 := Aside0.mk hc1
 clear hr1 hc1
 have HR2 := Aside0.mk hr2
 have HC2 := Aside0.mk hc2
 clear hr2 hc2
 have HB := Aside0.mk (Below.refl w.heap.size w)
 have H : ((charterref03_Keys.f k l0 l1).bind fun t199 => ((some (([] : List Int) : List Int)).bind fun y202 => (if y202.length + l2.length < 140737488355328 then (charterref03_Encrypt.l0 k l0 t199 (y202 ++ l2) 0) else (none)))) = some r := h
 clear h
 replace H := Option.bind_eq_some_iff.mp H
 obtain ⟨t199, A40, H⟩ := H
 replace H : ((some (([] : List Int) : List Int)).bind fun y202 => (if y202.length + l2.length < 140737488355328 then (charterref03_Encrypt.l0 k l0 t199 (y202 ++ l2) 0) else (none))) = some r := H
 have A4 := Aside0.mk A40
 clear A40
 obtain ⟨y202, hy202⟩ : ∃ y_ : List Int, y_ = (([] : List Int)) := ⟨_, rfl⟩
 replace H : (if y202.length + l2.length < 140737488355328 then (charterref03_Encrypt.l0 k l0 t199 (y202 ++ l2) 0) else (none)) = some r := by first | (rw [hy202]; with_reducible exact H) | (have H2_ := (Option.bind_some _ _).symm.trans H; rw [hy202]; with_reducible exact H2_) | (have H2_ := (Option.bind_some _ _).symm.trans H; with_reducible exact H2_) | with_reducible exact H | (rw [hy202]; exact H) | exact H
 have Ny202 := Aside0.mk hy202
 clear hy202
 by_cases c5 : y202.length + l2.length < 140737488355328
 · rw [if_pos c5] at H
   have LMc5 := Aside0.mk c5
   clear c5
   obtain ⟨y205, hy205⟩ : ∃ y_ : List Int, y_ = (y202 ++ l2) := ⟨_, rfl⟩
   replace H : (charterref03_Encrypt.l0 k l0 t199 y205 0) = some r := by first | (rw [hy205]; with_reducible exact H) | (have H2_ := (Option.bind_some _ _).symm.trans H; rw [hy205]; with_reducible exact H2_) | (have H2_ := (Option.bind_some _ _).symm.trans H; with_reducible exact H2_) | with_reducible exact H | (rw [hy205]; exact H) | exact H
   have Ny205 := Aside0.mk hy205
   clear hy205
   have H' := Aside0.mk H
   clear H
   go_enter Try.func21, Try.ntmps21
   go_wp2_with (first | ((with_reducible refine gate_callee (f := 18) rfl ?_); refine goesL_ (some 19) rfl rfl Try.func18 (by kernel_rfl) rfl #[.slice A0 l0.length c0, .slice A1 l1.length c1] rfl (by (try simp only [List.map_toArray, List.map_cons, List.map_nil]); first | done | rfl | (simp only [List.length_drop, List.length_take]; rfl)) ?_; (with_reducible refine (charterref03_Keys.calls k _ _ l0 _ _ l1 t199 _ ?side1 ?side2 ?side3 ?side4 A4.out).mono ?_); (case side1 => repeat (first | exact HR0.out | (with_reducible refine Kd.C_alloc ?_ _) | (with_reducible refine Kd.C_drewN ?_ _) | (with_reducible refine Kd.C_drew ?_))); (case side2 => exact HC0.out); (case side3 => repeat (first | exact HR1.out | (with_reducible refine Kd.C_alloc ?_ _) | (with_reducible refine Kd.C_drewN ?_ _) | (with_reducible refine Kd.C_drew ?_))); (case side4 => exact HC1.out); rintro e w6 ⟨v200, rfl, ho0, hb⟩; refine ⟨_, rfl, ?_⟩; have n0_ := Aside0.mk (Kd.N_lower (Kd.N_mono (ok' := fun k_ => True) ho0 (fun k_ hk_ => trivial)) (below_size (by repeat (first | (with_reducible first | exact HB.out | apply below_alloc | apply pw_below_drewN | apply below_drew1) | exact HB.out)))); have n1_ := Aside0.mk (below_step (by repeat (first | (with_reducible first | exact HB.out | apply below_alloc | apply pw_below_drewN | apply below_drew1) | exact HB.out)) hb); clear HB; have HO201 := n0_; have HB := n1_; clear n0_ n1_; (try clear hb); (try clear hb2); (try clear hk); (try clear hi); (try clear ho0)) | ((with_reducible refine gate_dst (N := 20) rfl ?_); refine Kd.R_lit (Kd.int .u8) _ 5 ?hg (N := 20) ?hd (xs := ([] : List Int)) (inner := []) (ok := fun _ => True) (okp := fun _ => True) ?hr ?hp (fun _ hk => hk) trivial (Below.refl _ _) (Nat.le_refl _) (by simp) ?_; (case hd => rfl); (case hg => rfl); (case hr => first | (go_simp; done) | (go_simp; rfl)); (case hp => exact (Reps.none _ _)); intro v203 w7 ho8 hb hg_ hnew_; clear hg_ hnew_; (first | rw [← Ny202.out] at ho8 | (simp only [Int.reduceToNat] at ho8; rw [← Ny202.out] at ho8)); have n0_ := Aside0.mk (Kd.N_elder' (by (with_reducible repeat (first | apply Kd.N_alloc | apply Kd.N_drewN | apply Kd.N_drew)); exact HO201.out) (Kd.R_base ho8) hb); have n1_ := Aside0.mk (Kd.R_lower ho8 (below_size (by repeat (first | (with_reducible first | exact HB.out | apply below_alloc | apply pw_below_drewN | apply below_drew1) | exact HB.out)))); have n2_ := Aside0.mk (below_step (by repeat (first | (with_reducible first | exact HB.out | apply below_alloc | apply pw_below_drewN | apply below_drew1) | exact HB.out)) hb); clear HO201; clear HB; have HO201 := n0_; have HO204 := n1_; have HB := n2_; clear n0_ n1_ n2_; clear hb ho8) | ((with_reducible refine gate_builtin (b := .append) (xs := #[.tmp 20, .tmp 21]) rfl ?_); at_builtin; refine Kd.R_append_rows (Kd.int .u8) (w0 := w) w.heap.size rfl (.tmp 20) (.tmp 21) 25 5 (.int .u8 0) 1 rfl Try.underlying25 info5 rfl (by decide) (by omega) v203 y202 l2 _ _ _ (fun _ => True) (fun _ => False) rfl rfl ?aO ?aR (fun _ _ h => h) (fun _ h => h.elim) ?aF ?aB ?aS ?aL ?_; (case aR => repeat (first | exact (Kd.C_below HR2.out HB.out) | (with_reducible refine Kd.C_alloc ?_ _) | (with_reducible refine Kd.C_drewN ?_ _) | (with_reducible refine Kd.C_drew ?_))); (case aB => exact (by repeat (first | (with_reducible first | exact HB.out | apply below_alloc | apply pw_below_drewN | apply below_drew1) | exact HB.out))); (case aF => exact (fun _ _ => trivial)); (case aO => exact (by (with_reducible repeat (first | apply Kd.R_alloc | apply Kd.R_drewN | apply Kd.R_drew)); exact HO204.out)); (case aS => exact (below_size (by repeat (first | (with_reducible first | exact HB.out | apply below_alloc | apply pw_below_drewN | apply below_drew1) | exact HB.out)))); (case aL => have := LMc5.out; omega); intro v206 w9 ho hb hg hat; rw [← Ny205.out] at ho; have n0_ := Aside0.mk (Kd.N_afterv (ok := (fun _ => True)) (by (with_reducible repeat (first | apply Kd.N_alloc | apply Kd.N_drewN | apply Kd.N_drew)); exact HO201.out) hg hat); have n1_ := Aside0.mk (hb); have n2_ := Aside0.mk (ho); clear HO201; clear HB; clear HO204; have HO201 := n0_; have HB := n1_; have HO207 := n2_; clear n0_ n1_ n2_; clear ho hb hg hat))
   go_loopg [9] k (fun kq v9 w' => ∃ (x8_1 : List Int) (x9_1 : Int), v9 = .int .i64 x9_1 ∧ Aside0 (charterref03_Encrypt.l0 kq l0 t199 x8_1 x9_1 = some r) ∧ Aside0 (kq ≤ k) ∧ Aside0 (Kd.N (Kd.slice 5 (Kd.int .u8)) 25 w' w.heap.size (fun k_ => some k_ ≠ (v206 : Value).ownBlock) v200 t199) ∧ Aside0 (Kd.R (Kd.int .u8) 5 w' w.heap.size (fun _ => True) v206 x8_1) ∧ Aside0 (Below w.heap.size w w'))
   case atStart => exact ⟨(y205), (0), (by first | rfl | (simp; done) | (simp [*]; done)), H', ⟨Nat.le_refl _⟩, ⟨by (with_reducible repeat (first | apply Kd.N_alloc | apply Kd.N_drewN | apply Kd.N_drew)); exact Kd.N_mono HO201.out (fun _ hk => hk.2)⟩, ⟨by (with_reducible repeat (first | apply Kd.R_alloc | apply Kd.R_drewN | apply Kd.R_drew)); exact HO207.out⟩, ⟨by repeat (first | (with_reducible first | exact HB.out | apply below_alloc | apply pw_below_drewN | apply below_drew1) | exact HB.out)⟩⟩
   case round =>
    clear H'
    try clear c1
    try clear c2
    try clear p2
    try clear c5
    obtain ⟨x8_1, x9_1, rfl, HA, HK1, HO_7, HO_8, HB⟩ := hrel
    cases gk with
    | zero => exact absurd HA.out (by simp [charterref03_Encrypt.l0])
    | succ k1 =>
     have H := HA.out
     clear HA
     simp only [charterref03_Encrypt.l0] at H
     by_cases c10 : x9_1 < 16
     · rw [if_pos c10] at H
       have c10b0 : decide (x9_1 < 16) = true := decide_eq_true c10
       clear c10
       by_cases c11 : 0 ≤ x9_1
       · rw [if_pos c11] at H
         have c11b0 : decide (0 ≤ x9_1) = true := decide_eq_true c11
         clear c11
         by_cases c12 : x9_1 < (x8_1.length : Int)
         · rw [if_pos c12] at H
           have c12b0 : decide (x9_1 < (x8_1.length : Int)) = true := decide_eq_true c12
           clear c12
           by_cases c13 : 0 < (t199.length : Int)
           · rw [if_pos c13] at H
             have c13b0 : decide (0 < (t199.length : Int)) = true := decide_eq_true c13
             have c13b1 : decide (0 < t199.length) = true := decide_eq_true (by omega)
             clear c13
             by_cases c14 : x9_1 < ((rd_L1 t199 0).length : Int)
             · rw [if_pos c14] at H
               have c14b0 : decide (x9_1 < ((rd_L1 t199 0).length : Int)) = true := decide_eq_true c14
               clear c14
               obtain ⟨y211, hy211⟩ : ∃ y_ : List Int, y_ = (x8_1.set (x9_1 : Int).toNat (Go.bits .xor .u8 (rd x8_1 x9_1) (rd (rd_L1 t199 0) x9_1))) := ⟨_, rfl⟩
               replace H : (charterref03_Encrypt.l0 k1 l0 t199 y211 (wrap64 (x9_1 + 1))) = some r := by first | (rw [hy211]; with_reducible exact H) | (have H2_ := (Option.bind_some _ _).symm.trans H; rw [hy211]; with_reducible exact H2_) | (have H2_ := (Option.bind_some _ _).symm.trans H; with_reducible exact H2_) | with_reducible exact H | (rw [hy211]; exact H) | exact H
               have Ny211 := Aside0.mk hy211
               clear hy211
               have H' := Aside0.mk H
               clear H
               try go_wp2
               have n0_ := Aside0.mk (Kd.N_drew HO_7.out)
               have n1_ := Aside0.mk (Kd.R_drew HO_8.out)
               have n2_ := Aside0.mk (below_drew1 HB.out)
               clear HO_7
               clear HO_8
               clear HB
               have HO_7 := n0_
               have HO_8 := n1_
               have HB := n2_
               clear n0_ n1_ n2_
               obtain ⟨Ao17, co17, eo17⟩ := Kd.R_slice HO_8.out
               (first | subst eo17 | (injection eo17 with f1_ f2_ f3_; have f4_ := f1_.symm; have f5_ := f3_.symm; clear f1_ f2_ f3_; subst f4_; subst f5_))
               have p208 : 0 ≤ (x9_1 : Int) := of_decide_eq_true (by first | (with_reducible assumption) | assumption)
               have q208 : x9_1 < (x8_1.length : Int) := of_decide_eq_true (by first | (with_reducible assumption) | assumption)
               obtain ⟨ad208, e208, hx208_0⟩ := Kd.at_int (Kd.R_reads' HO_8.out).2.2 x9_1 p208 q208
               cases e208
               replace p208 := eq_true p208
               replace q208 := eq_true q208
               obtain ⟨Ao18, co18, eo18⟩ := Kd.N_slice HO_7.out
               (first | subst eo18 | (injection eo18 with f1_ f2_ f3_; have f4_ := f1_.symm; have f5_ := f3_.symm; clear f1_ f2_ f3_; subst f4_; subst f5_))
               have p209 : 0 ≤ (0 : Int) := (by omega)
               have q209 : 0 < (t199.length : Int) := of_decide_eq_true (by first | (with_reducible assumption) | assumption)
               obtain ⟨ad209, A209_0, c209_0, e209, hx209_0, hl209_0, hi209_0⟩ := at_L1 (Kd.N_reads' HO_7.out).2.2 0 p209 q209
               cases e209
               obtain ⟨ce209, hce209, hMe209, hcc209⟩ := Kd.N_get HO_7.out [] 0 p209 (by first | exact q209 | exact of_decide_eq_true (by first | (with_reducible assumption) | assumption) | (have e_ := (Kd.N_reads' HO_7.out).1; omega))
               obtain ⟨ua209_0, uc209_0, rfl, ul209_0, ge209_0⟩ := Kd.FK_slice_open hMe209
               have hv209_0 := hcc209 0 _ rfl
               rw [Nat.add_zero, show ((Kd.slice 5 (Kd.int .u8))).sz = 1 from rfl, Nat.mul_one] at hv209_0
               replace hv209_0 := Option.some.inj (hv209_0.symm.trans hx209_0)
               injection hv209_0 with hva_ hvn_ hvc_
               rw [hva_] at ge209_0
               rw [hvc_] at ul209_0
               have HL209_0 := Aside0.mk (show Kd.V (Kd.int .u8) 5 _ w.heap.size _ _ (rd_L1 t199 0) from Kd.V_mk ul209_0 ge209_0)
               clear hva_ hvn_ hvc_ ge209_0 ul209_0
               clear hcc209 hce209
               have qi209 : (0 < t199.length) = True := eq_true (by omega)
               (try rw [show ((0 : Int)).toNat = 0 from rfl] at hx209_0)
               (try rw [Addr.add_zero'] at hx209_0)
               have HR209_0 := Aside0.mk hi209_0
               have HC209_0 := Aside0.mk hl209_0
               clear hi209_0 hl209_0
               replace p209 := eq_true p209
               replace q209 := eq_true q209
               have p210 : 0 ≤ (x9_1 : Int) := of_decide_eq_true (by first | (with_reducible assumption) | assumption)
               have q210 : x9_1 < ((rd_L1 t199 0).length : Int) := of_decide_eq_true (by first | (with_reducible assumption) | assumption)
               obtain ⟨ad210, e210, hx210_0⟩ := Kd.at_int (by repeat (first | (with_reducible exact HR209_0.out) | (with_reducible refine Kd.C_alloc ?_ _) | (with_reducible refine Kd.C_drewN ?_ _) | (with_reducible refine Kd.C_drew ?_) | exact HR209_0.out)) x9_1 p210 q210
               cases e210
               replace p210 := eq_true p210
               replace q210 := eq_true q210
               have p15 : 0 ≤ (x9_1 : Int) := of_decide_eq_true (by first | (with_reducible assumption) | assumption)
               have q15 : (x9_1 : Int) < ((x8_1.length : Int) : Int) := of_decide_eq_true (by first | (with_reducible assumption) | assumption)
               obtain ⟨go15, co15, eo15, gb15, gl15, cl15, HG15⟩ := Kd.R_form HO_8.out (by omega)
               (first | cases eo15 | (injection eo15 with ea_ en_ ec_; (first | subst ea_ | (injection ea_ with ea_; subst ea_)); subst ec_; clear en_))
               have GB15 := Aside0.mk gb15
               have GG15 := Aside0.mk HG15
               clear gb15 gl15 HG15
               (first | simp only [add_plain] at hx208_0 | skip)
               obtain ⟨hx15_0, hf15_0⟩ := Kd.R_celln 0 HO_8.out (x9_1 : Int) p15 q15
               replace p15 := eq_true p15
               replace q15 := eq_true q15
               have HP19 := Kd.R_putn HO_8.out (x9_1 : Int) (Go.bits .xor .u8 (rd x8_1 x9_1) (rd (rd_L1 t199 0) x9_1))
               rw [← Ny211.out] at HP19
               have HQ19 := Aside0.mk HP19
               clear HP19
               refine start_ (n := 15) (S := fun w' => w'.cell? ⟨go15, (x9_1).toNat, none⟩ = some (.int .u8 (rd x8_1 x9_1)) ∧ w'.cell? ad209 = some (.slice (some ad210) (rd_L1 t199 0).length c209_0) ∧ w'.cell? (ad210.add (x9_1).toNat) = some (.int .u8 (rd (rd_L1 t199 0) x9_1))) (ds := [14]) #[false, false, false, false, false, false, false, false, false, false, false, false, false, false, false] (by kernel_rfl) rfl rfl ⟨hx208_0, hx209_0, hx210_0⟩ (fun hHeld => ?_); refine with_tabW charterref03_Encrypt.tab6 charterref03_Encrypt.bits6 (fun HT_ HW_ => ?_)
               generalize wr.drew = w16 at HO_7 HO_8 HB GG15 HL209_0 HQ19 HR209_0 hf15_0 hx15_0 hx208_0 hx209_0 hx210_0 hHeld ⊢
               refine pure_ (i := 0) (N := some 27) (v := ?_) (a' := ?_) #[true, false, false, false, false, false, false, false, false, false, false, false, false, false, false] rfl rfl (any_of HT_.out (by kernel_rfl)) (fun _ _ _ h => h) (Or.inl ⟨by rfl, ?_⟩) ?_ ?_
               rotate_left
               · intro w'
                 go_simp
                 with_reducible rfl
               rotate_left
               · simp only [Act.put, List.setIfInBounds_toArray, List.set_cons_zero, List.set_cons_succ, i64_w, i32_w]
                 rfl
               refine pure_ (i := 1) (N := some 28) (v := ?_) (a' := ?_) #[true, true, false, false, false, false, false, false, false, false, false, false, false, false, false] rfl rfl (any_of HT_.out (by kernel_rfl)) (fun _ _ _ h => h) (Or.inl ⟨by rfl, ?_⟩) ?_ ?_
               rotate_left
               · intro w'
                 go_simp
                 with_reducible rfl
               rotate_left
               · simp only [Act.put, List.setIfInBounds_toArray, List.set_cons_zero, List.set_cons_succ, i64_w, i32_w]
                 rfl
               refine pure_ (i := 2) (N := some 29) (v := ?_) (a' := ?_) #[true, true, true, false, false, false, false, false, false, false, false, false, false, false, false] rfl rfl (any_of HT_.out (by kernel_rfl)) (fun _ _ _ h => h) (Or.inl ⟨by rfl, ?_⟩) ?_ ?_
               rotate_left
               · intro w'
                 go_simp
                 with_reducible rfl
               rotate_left
               · simp only [Act.put, List.setIfInBounds_toArray, List.set_cons_zero, List.set_cons_succ, i64_w, i32_w]
                 rfl
               refine pure_ (i := 3) (N := some 30) (v := ?_) (a' := ?_) #[true, true, true, true, false, false, false, false, false, false, false, false, false, false, false] rfl rfl (any_of HT_.out (by kernel_rfl)) (fun _ _ _ h => h) (Or.inl ⟨by rfl, ?_⟩) ?_ ?_
               rotate_left
               · intro w'
                 go_simp
                 with_reducible rfl
               rotate_left
               · simp only [Act.put, List.setIfInBounds_toArray, List.set_cons_zero, List.set_cons_succ, i64_w, i32_w]
                 rfl
               refine pure_ (i := 4) (N := some 31) (v := ?_) (a' := ?_) #[true, true, true, true, true, false, false, false, false, false, false, false, false, false, false] rfl rfl (any_of HT_.out (by kernel_rfl)) (fun _ _ _ h => h) (Or.inl ⟨by rfl, ?_⟩) ?_ ?_
               rotate_left
               · intro w'
                 go_simp
                 with_reducible rfl
               rotate_left
               · simp only [Act.put, List.setIfInBounds_toArray, List.set_cons_zero, List.set_cons_succ, i64_w, i32_w]
                 rfl
               refine pure_ (i := 6) (N := some 33) (v := ?_) (a' := ?_) #[true, true, true, true, true, false, true, false, false, false, false, false, false, false, false] rfl rfl (any_of HT_.out (by kernel_rfl)) (fun _ _ _ h => h) (Or.inl ⟨by rfl, ?_⟩) ?_ ?_
               rotate_left
               · intro w'
                 go_simp
                 with_reducible rfl
               rotate_left
               · simp only [Act.put, List.setIfInBounds_toArray, List.set_cons_zero, List.set_cons_succ, i64_w, i32_w]
                 rfl
               refine pure_ (i := 7) (N := some 34) (v := ?_) (a' := ?_) #[true, true, true, true, true, false, true, true, false, false, false, false, false, false, false] rfl rfl (any_of HT_.out (by kernel_rfl)) (fun _ _ _ h => h) (Or.inl ⟨by rfl, ?_⟩) ?_ ?_
               rotate_left
               · intro w'
                 go_simp
                 with_reducible rfl
               rotate_left
               · simp only [Act.put, List.setIfInBounds_toArray, List.set_cons_zero, List.set_cons_succ, i64_w, i32_w]
                 rfl
               refine pure_ (i := 9) (N := some 36) (v := ?_) (a' := ?_) #[true, true, true, true, true, false, true, true, false, true, false, false, false, false, false] rfl rfl (any_of HT_.out (by kernel_rfl)) (fun _ _ _ h => h) (Or.inl ⟨by rfl, ?_⟩) ?_ ?_
               rotate_left
               · intro w'
                 go_simp
                 with_reducible rfl
               rotate_left
               · simp only [Act.put, List.setIfInBounds_toArray, List.set_cons_zero, List.set_cons_succ, i64_w, i32_w]
                 rfl
               refine take_ (i := 5) (N := some 32) (v := ?_) (a' := ?_) #[true, true, true, true, true, true, true, true, false, true, false, false, false, false, false] rfl rfl (take_ofW HT_.out HW_.out (by kernel_rfl)) (fun _ _ _ h => h) (Or.inl ⟨by rfl, ?_⟩) hHeld ?_ ?_
               rotate_left
               · rintro w' ⟨s0, s1, s2⟩
                 go_simp
                 with_reducible rfl
               rotate_left
               · simp only [Act.put, List.setIfInBounds_toArray, List.set_cons_zero, List.set_cons_succ, i64_w, i32_w]
                 rfl
               refine take_ (i := 8) (N := some 35) (v := ?_) (a' := ?_) #[true, true, true, true, true, true, true, true, true, true, false, false, false, false, false] rfl rfl (take_ofW HT_.out HW_.out (by kernel_rfl)) (fun _ _ _ h => h) (Or.inl ⟨by rfl, ?_⟩) hHeld ?_ ?_
               rotate_left
               · rintro w' ⟨s0, s1, s2⟩
                 go_simp
                 with_reducible rfl
               rotate_left
               · simp only [Act.put, List.setIfInBounds_toArray, List.set_cons_zero, List.set_cons_succ, i64_w, i32_w]
                 rfl
               refine pure_ (i := 10) (N := some 37) (v := ?_) (a' := ?_) #[true, true, true, true, true, true, true, true, true, true, true, false, false, false, false] rfl rfl (any_of HT_.out (by kernel_rfl)) (fun _ _ _ h => h) (Or.inl ⟨by rfl, ?_⟩) ?_ ?_
               rotate_left
               · intro w'
                 go_simp
                 with_reducible rfl
               rotate_left
               · simp only [Act.put, List.setIfInBounds_toArray, List.set_cons_zero, List.set_cons_succ, i64_w, i32_w]
                 rfl
               refine take_ (i := 11) (N := some 38) (v := ?_) (a' := ?_) #[true, true, true, true, true, true, true, true, true, true, true, true, false, false, false] rfl rfl (take_ofW HT_.out HW_.out (by kernel_rfl)) (fun _ _ _ h => h) (Or.inl ⟨by rfl, ?_⟩) hHeld ?_ ?_
               rotate_left
               · rintro w' ⟨s0, s1, s2⟩
                 go_simp
                 with_reducible rfl
               rotate_left
               · simp only [Act.put, List.setIfInBounds_toArray, List.set_cons_zero, List.set_cons_succ, i64_w, i32_w]
                 rfl
               refine pure_ (i := 12) (N := some 39) (v := ?_) (a' := ?_) #[true, true, true, true, true, true, true, true, true, true, true, true, true, false, false] rfl rfl (any_of HT_.out (by kernel_rfl)) (fun _ _ _ h => h) (Or.inl ⟨by rfl, ?_⟩) ?_ ?_
               rotate_left
               · intro w'
                 go_simp
                 with_reducible rfl
               rotate_left
               · simp only [Act.put, List.setIfInBounds_toArray, List.set_cons_zero, List.set_cons_succ, i64_w, i32_w]
                 rfl
               refine pure_ (i := 13) (N := some 40) (v := ?_) (a' := ?_) #[true, true, true, true, true, true, true, true, true, true, true, true, true, true, false] rfl rfl (any_of HT_.out (by kernel_rfl)) (fun _ _ _ h => h) (Or.inl ⟨by rfl, ?_⟩) ?_ ?_
               rotate_left
               · intro w'
                 go_simp
                 with_reducible rfl
               rotate_left
               · simp only [Act.put, List.setIfInBounds_toArray, List.set_cons_zero, List.set_cons_succ, i64_w, i32_w]
                 rfl
               refine last_ (i := 14) (N := none) #[true, true, true, true, true, true, true, true, true, true, true, true, true, true, true] rfl rfl (one_of HT_.out (by kernel_rfl)) (by decide) (fun K hK => ?_)
               refine skip_ (w1 := ?_) (by rfl) rfl ?_ ?_
               rotate_left
               · go_simp
                 rfl
               refine hK.out _ _ ?_
               clear hK K
               refine done_ (done_of HT_.out (by kernel_rfl)) ?_
               try go_wp2
               go_roundg k1
               case measure => have := HK1.out; omega
               case rel => exact ⟨(y211), (wrap64 (x9_1 + 1)), (by first | rfl | (simp; done) | (simp [*]; done)), H', ⟨by have := HK1.out; omega⟩, ⟨by (with_reducible repeat (first | apply Kd.N_alloc | apply Kd.N_drewN | apply Kd.N_drew)); exact Kd.N_mono (Kd.N_far (p := ⟨go15, (x9_1 : Int).toNat, none⟩) (Kd.N_mono HO_7.out (fun k_ hk => (⟨hk, fun e_ => hk (by rw [e_]; rfl)⟩ : _ ∧ k_ ≠ go15))) (fun _ hk => hk.2) (.int .u8 (Go.bits .xor .u8 (rd x8_1 x9_1) (rd (rd_L1 t199 0) x9_1)))) (fun _ hk => hk.1)⟩, ⟨by (with_reducible repeat (first | apply Kd.R_alloc | apply Kd.R_drewN | apply Kd.R_drew)); exact HQ19.out⟩, ⟨by repeat (first | (with_reducible first | exact HB.out | apply below_alloc | apply pw_below_drewN | apply below_drew1 | refine below_set ?_ GB15.out) | exact HB.out)⟩⟩
             · rw [if_neg c14] at H
               exact absurd H (by simp)
           · rw [if_neg c13] at H
             exact absurd H (by simp)
         · rw [if_neg c12] at H
           exact absurd H (by simp)
       · rw [if_neg c11] at H
         exact absurd H (by simp)
     · rw [if_neg c10] at H
       have c10b0 : decide (x9_1 < 16) = false := decide_eq_false c10
       clear c10
       have H' := Aside0.mk H
       clear H
       go_wp2
       go_loopg [10] k1 (fun kq v10 w' => ∃ (x8_2 : List Int) (x10_2 : Int), v10 = .int .i64 x10_2 ∧ Aside0 (charterref03_Encrypt.l1 kq l0 t199 x8_2 x10_2 = some r) ∧ Aside0 (kq ≤ k1) ∧ Aside0 (Kd.N (Kd.slice 5 (Kd.int .u8)) 25 w' w.heap.size (fun k_ => some k_ ≠ (v206 : Value).ownBlock) v200 t199) ∧ Aside0 (Kd.R (Kd.int .u8) 5 w' w.heap.size (fun _ => True) v206 x8_2) ∧ Aside0 (Below w.heap.size w w'))
       case atStart => exact ⟨(x8_1), (1), (by first | rfl | (simp; done) | (simp [*]; done)), H', ⟨Nat.le_refl _⟩, ⟨by (with_reducible repeat (first | apply Kd.N_alloc | apply Kd.N_drewN | apply Kd.N_drew)); exact HO_7.out⟩, ⟨by (with_reducible repeat (first | apply Kd.R_alloc | apply Kd.R_drewN | apply Kd.R_drew)); exact HO_8.out⟩, ⟨by repeat (first | (with_reducible first | exact HB.out | apply below_alloc | apply pw_below_drewN | apply below_drew1) | exact HB.out)⟩⟩
       case round =>
        clear H'
        try clear c1
        try clear p1
        try clear q1
        try clear hx1
        try clear c2
        try clear p2
        try clear q2
        try clear hx2
        try clear qi2
        try clear c5
        try clear p6
        try clear c10
        try clear c10b0
        try clear c11
        try clear c11b0
        try clear c12
        try clear c12b0
        try clear c13
        try clear c13b0
        try clear c13b1
        try clear c14
        try clear c14b0
        try clear p15
        try clear q15
        try clear hx15
        try clear hf15
        try clear c18
        try clear hx15_0
        try clear hx208_0
        try clear hx209_0
        try clear hx210_0
        try clear p15
        try clear p2
        try clear p208
        try clear p209
        try clear p210
        try clear q15
        try clear q208
        try clear q209
        try clear q210
        obtain ⟨x8_2, x10_2, rfl, HA, HK2, HO_7, HO_8, HB⟩ := hrel
        cases gk with
        | zero => exact absurd HA.out (by simp [charterref03_Encrypt.l1])
        | succ k2 =>
         have H := HA.out
         clear HA
         simp only [charterref03_Encrypt.l1] at H
         by_cases c20 : x10_2 ≤ 10
         · rw [if_pos c20] at H
           have c20b0 : decide (x10_2 ≤ 10) = true := decide_eq_true c20
           clear c20
           by_cases c21 : 16 ≤ 281474976710656
           · rw [if_pos c21] at H
             have c21b0 := eq_true c21
             have c21b1 : decide (16 ≤ 281474976710656) = true := decide_eq_true c21
             clear c21
             obtain ⟨y212, hy212⟩ : ∃ y_ : List Int, y_ = (List.replicate 16 0) := ⟨_, rfl⟩
             replace H : (charterref03_Encrypt.l2 k2 l0 t199 x8_2 x10_2 y212 0) = some r := by first | (rw [hy212]; with_reducible exact H) | (have H2_ := (Option.bind_some _ _).symm.trans H; rw [hy212]; with_reducible exact H2_) | (have H2_ := (Option.bind_some _ _).symm.trans H; with_reducible exact H2_) | with_reducible exact H | (rw [hy212]; exact H) | exact H
             have Ny212 := Aside0.mk hy212
             clear hy212
             have H' := Aside0.mk H
             clear H
             go_wp2_with (first | ((with_reducible refine gate_dst (N := 45) rfl ?_); refine Kd.R_make (Kd.int .u8) _ 5 rfl (N := 45) rfl 25 _ _ rfl 16 rfl rfl Try.underlying25 (.int .u8 0) 1 info5 rfl (by decide) (by omega) 0 (ok := fun _ => True) (okp := fun _ => True) rfl (fun _ hk => hk) trivial (by omega) (by omega) (Below.refl _ _) (Nat.le_refl _) ?_; intro v213 w22 ho23 hb hg_ hnew_; clear hg_ hnew_; (first | rw [← Ny212.out] at ho23 | (simp only [Int.reduceToNat] at ho23; rw [← Ny212.out] at ho23)); have n0_ := Aside0.mk (Kd.N_elder' (by (with_reducible repeat (first | apply Kd.N_alloc | apply Kd.N_drewN | apply Kd.N_drew)); exact HO_7.out) (Kd.R_base ho23) hb); have n1_ := Aside0.mk (Kd.R_elder' (by (with_reducible repeat (first | apply Kd.R_alloc | apply Kd.R_drewN | apply Kd.R_drew)); exact HO_8.out) (Kd.R_base ho23) hb); have n2_ := Aside0.mk (Kd.R_lower (Kd.R_new' ho23 (Kd.R_lt (by (with_reducible repeat (first | apply Kd.R_alloc | apply Kd.R_drewN | apply Kd.R_drew)); exact HO_8.out))) (below_size (by repeat (first | (with_reducible first | exact HB.out | apply below_alloc | apply pw_below_drewN | apply below_drew1) | exact HB.out)))); have n3_ := Aside0.mk (below_step (by repeat (first | (with_reducible first | exact HB.out | apply below_alloc | apply pw_below_drewN | apply below_drew1) | exact HB.out)) hb); clear HO_7; clear HO_8; clear HB; have HO_7 := n0_; have HO_8 := n1_; have HO214 := n2_; have HB := n3_; clear n0_ n1_ n2_ n3_; clear hb ho23))
             go_loopg [12] k2 (fun kq v12 w' => ∃ (x11_3 : List Int) (x12_3 : Int), v12 = .int .i64 x12_3 ∧ Aside0 (charterref03_Encrypt.l2 kq l0 t199 x8_2 x10_2 x11_3 x12_3 = some r) ∧ Aside0 (kq ≤ k2) ∧ Aside0 (Kd.N (Kd.slice 5 (Kd.int .u8)) 25 w' w.heap.size (fun k_ => some k_ ≠ (v206 : Value).ownBlock ∧ some k_ ≠ (v213 : Value).ownBlock) v200 t199) ∧ Aside0 (Kd.R (Kd.int .u8) 5 w' w.heap.size (fun k_ => some k_ ≠ (v213 : Value).ownBlock) v206 x8_2) ∧ Aside0 (Kd.R (Kd.int .u8) 5 w' w.heap.size (fun k_ => some k_ ≠ (v206 : Value).ownBlock) v213 x11_3) ∧ Aside0 (Below w.heap.size w w'))
             case atStart => exact ⟨(y212), (0), (by first | rfl | (simp; done) | (simp [*]; done)), H', ⟨Nat.le_refl _⟩, ⟨by (with_reducible repeat (first | apply Kd.N_alloc | apply Kd.N_drewN | apply Kd.N_drew)); exact HO_7.out⟩, ⟨by (with_reducible repeat (first | apply Kd.R_alloc | apply Kd.R_drewN | apply Kd.R_drew)); exact Kd.R_mono HO_8.out (fun _ hk => hk.2)⟩, ⟨by (with_reducible repeat (first | apply Kd.R_alloc | apply Kd.R_drewN | apply Kd.R_drew)); exact Kd.R_mono HO214.out (fun _ hk => hk.2)⟩, ⟨by repeat (first | (with_reducible first | exact HB.out | apply below_alloc | apply pw_below_drewN | apply below_drew1) | exact HB.out)⟩⟩
             case round =>
              clear H'
              try clear c1
              try clear p1
              try clear q1
              try clear hx1
              try clear c2
              try clear p2
              try clear q2
              try clear hx2
              try clear qi2
              try clear c5
              try clear p6
              try clear c10
              try clear c10b0
              try clear c11
              try clear c11b0
              try clear c12
              try clear c12b0
              try clear c13
              try clear c13b0
              try clear c13b1
              try clear c14
              try clear c14b0
              try clear p15
              try clear q15
              try clear hx15
              try clear hf15
              try clear c18
              try clear c20
              try clear c20b0
              try clear p20
              try clear q20
              try clear hx20
              try clear qi20
              try clear c21
              try clear c21b0
              try clear c21b1
              try clear p21
              try clear q21
              try clear hx21
              try clear hx15_0
              try clear hx208_0
              try clear hx209_0
              try clear hx210_0
              try clear p1
              try clear p15
              try clear p2
              try clear p208
              try clear p209
              try clear p210
              try clear p6
              try clear q1
              try clear q15
              try clear q2
              try clear q208
              try clear q209
              try clear q210
              obtain ⟨x11_3, x12_3, rfl, HA, HK3, HO_7, HO_8, HO_11, HB⟩ := hrel
              cases gk with
              | zero => exact absurd HA.out (by simp [charterref03_Encrypt.l2])
              | succ k3 =>
               have H := HA.out
               clear HA
               simp only [charterref03_Encrypt.l2] at H
               by_cases c24 : x12_3 < 4
               · rw [if_pos c24] at H
                 have c24b0 : decide (x12_3 < 4) = true := decide_eq_true c24
                 clear c24
                 have H' := Aside0.mk H
                 clear H
                 go_wp2
                 go_loopg [13] k3 (fun kq v13 w' => ∃ (x11_4 : List Int) (x13_4 : Int), v13 = .int .i64 x13_4 ∧ Aside0 (charterref03_Encrypt.l3 kq l0 t199 x8_2 x10_2 x11_4 x12_3 x13_4 = some r) ∧ Aside0 (kq ≤ k3) ∧ Aside0 (Kd.N (Kd.slice 5 (Kd.int .u8)) 25 w' w.heap.size (fun k_ => some k_ ≠ (v206 : Value).ownBlock ∧ some k_ ≠ (v213 : Value).ownBlock) v200 t199) ∧ Aside0 (Kd.R (Kd.int .u8) 5 w' w.heap.size (fun k_ => some k_ ≠ (v213 : Value).ownBlock) v206 x8_2) ∧ Aside0 (Kd.R (Kd.int .u8) 5 w' w.heap.size (fun k_ => some k_ ≠ (v206 : Value).ownBlock) v213 x11_4) ∧ Aside0 (Below w.heap.size w w'))
                 case atStart => exact ⟨(x11_3), (0), (by first | rfl | (simp; done) | (simp [*]; done)), H', ⟨Nat.le_refl _⟩, ⟨by (with_reducible repeat (first | apply Kd.N_alloc | apply Kd.N_drewN | apply Kd.N_drew)); exact HO_7.out⟩, ⟨by (with_reducible repeat (first | apply Kd.R_alloc | apply Kd.R_drewN | apply Kd.R_drew)); exact HO_8.out⟩, ⟨by (with_reducible repeat (first | apply Kd.R_alloc | apply Kd.R_drewN | apply Kd.R_drew)); exact HO_11.out⟩, ⟨by repeat (first | (with_reducible first | exact HB.out | apply below_alloc | apply pw_below_drewN | apply below_drew1) | exact HB.out)⟩⟩
                 case round =>
                  clear H'
                  try clear c1
                  try clear p1
                  try clear q1
                  try clear hx1
                  try clear c2
                  try clear p2
                  try clear q2
                  try clear hx2
                  try clear qi2
                  try clear c5
                  try clear p6
                  try clear c10
                  try clear c10b0
                  try clear c11
                  try clear c11b0
                  try clear c12
                  try clear c12b0
                  try clear c13
                  try clear c13b0
                  try clear c13b1
                  try clear c14
                  try clear c14b0
                  try clear p15
                  try clear q15
                  try clear hx15
                  try clear hf15
                  try clear c18
                  try clear c20
                  try clear c20b0
                  try clear p20
                  try clear q20
                  try clear hx20
                  try clear qi20
                  try clear c21
                  try clear c21b0
                  try clear c21b1
                  try clear p21
                  try clear q21
                  try clear hx21
                  try clear c24
                  try clear c24b0
                  try clear hx15_0
                  try clear hx208_0
                  try clear hx209_0
                  try clear hx210_0
                  try clear p1
                  try clear p15
                  try clear p2
                  try clear p20
                  try clear p208
                  try clear p209
                  try clear p21
                  try clear p210
                  try clear p6
                  try clear q1
                  try clear q15
                  try clear q2
                  try clear q20
                  try clear q208
                  try clear q209
                  try clear q21
                  try clear q210
                  obtain ⟨x11_4, x13_4, rfl, HA, HK4, HO_7, HO_8, HO_11, HB⟩ := hrel
                  cases gk with
                  | zero => exact absurd HA.out (by simp [charterref03_Encrypt.l3])
                  | succ k4 =>
                   have H := HA.out
                   clear HA
                   simp only [charterref03_Encrypt.l3] at H
                   by_cases c25 : x13_4 < 4
                   · rw [if_pos c25] at H
                     have c25b0 : decide (x13_4 < 4) = true := decide_eq_true c25
                     clear c25
                     obtain ⟨ji26, hji26⟩ : ∃ j_ : Int, (wrap64 ((wrap64 (4 * (Int.tmod (wrap64 (x12_3 + x13_4)) 4))) + x13_4)) = j_ := ⟨_, rfl⟩
                     replace H : (if 0 ≤ (ji26) then (if (ji26) < (x8_2.length : Int) then (if 0 ≤ (rd x8_2 (ji26)) then (if (rd x8_2 (ji26)) < (l0.length : Int) then (if 0 ≤ (wrap64 ((wrap64 (4 * x12_3)) + x13_4)) then (if (wrap64 ((wrap64 (4 * x12_3)) + x13_4)) < (x11_4.length : Int) then (charterref03_Encrypt.l3 k4 l0 t199 x8_2 x10_2 (x11_4.set ((wrap64 ((wrap64 (4 * x12_3)) + x13_4)) : Int).toNat (rd l0 (rd x8_2 (ji26)))) x12_3 (wrap64 (x13_4 + 1))) else (none)) else (none)) else (none)) else (none)) else (none)) else (none)) = some r := by first | (rw [hji26] at H; exact H) | (simp only [hji26] at H ⊢; exact H)
                     have hji26w : (IntKind.i64.wrap ((wrap64 (4 * (Int.tmod (wrap64 (x12_3 + x13_4)) 4))) + x13_4)) = ji26 := (i64_w _).trans hji26
                     by_cases c27 : 0 ≤ (ji26)
                     · rw [if_pos c27] at H
                       have c27b0 : decide (0 ≤ (ji26)) = true := decide_eq_true c27
                       clear c27
                       by_cases c28 : (ji26) < (x8_2.length : Int)
                       · rw [if_pos c28] at H
                         have c28b0 : decide ((ji26) < (x8_2.length : Int)) = true := decide_eq_true c28
                         clear c28
                         by_cases c29 : 0 ≤ (rd x8_2 (ji26))
                         · rw [if_pos c29] at H
                           have c29b0 : decide (0 ≤ (rd x8_2 (ji26))) = true := decide_eq_true c29
                           clear c29
                           by_cases c30 : (rd x8_2 (ji26)) < (l0.length : Int)
                           · rw [if_pos c30] at H
                             have c30b0 : decide ((rd x8_2 (ji26)) < (l0.length : Int)) = true := decide_eq_true c30
                             clear c30
                             obtain ⟨ji31, hji31⟩ : ∃ j_ : Int, (wrap64 ((wrap64 (4 * x12_3)) + x13_4)) = j_ := ⟨_, rfl⟩
                             replace H : (if 0 ≤ (ji31) then (if (ji31) < (x11_4.length : Int) then (charterref03_Encrypt.l3 k4 l0 t199 x8_2 x10_2 (x11_4.set ((ji31) : Int).toNat (rd l0 (rd x8_2 (ji26)))) x12_3 (wrap64 (x13_4 + 1))) else (none)) else (none)) = some r := by first | (rw [hji31] at H; exact H) | (simp only [hji31] at H ⊢; exact H)
                             have hji31w : (IntKind.i64.wrap ((wrap64 (4 * x12_3)) + x13_4)) = ji31 := (i64_w _).trans hji31
                             by_cases c32 : 0 ≤ (ji31)
                             · rw [if_pos c32] at H
                               have c32b0 : decide (0 ≤ (ji31)) = true := decide_eq_true c32
                               clear c32
                               by_cases c33 : (ji31) < (x11_4.length : Int)
                               · rw [if_pos c33] at H
                                 have c33b0 : decide ((ji31) < (x11_4.length : Int)) = true := decide_eq_true c33
                                 clear c33
                                 obtain ⟨y217, hy217⟩ : ∃ y_ : List Int, y_ = (x11_4.set ((ji31) : Int).toNat (rd l0 (rd x8_2 (ji26)))) := ⟨_, rfl⟩
                                 replace H : (charterref03_Encrypt.l3 k4 l0 t199 x8_2 x10_2 y217 x12_3 (wrap64 (x13_4 + 1))) = some r := by first | (rw [hy217]; with_reducible exact H) | (have H2_ := (Option.bind_some _ _).symm.trans H; rw [hy217]; with_reducible exact H2_) | (have H2_ := (Option.bind_some _ _).symm.trans H; with_reducible exact H2_) | with_reducible exact H | (rw [hy217]; exact H) | exact H
                                 have Ny217 := Aside0.mk hy217
                                 clear hy217
                                 have H' := Aside0.mk H
                                 clear H
                                 obtain ⟨Ao35, co35, eo35⟩ := Kd.R_slice HO_8.out
                                 subst eo35
                                 have p215 : 0 ≤ ((ji26) : Int) := of_decide_eq_true (by first | (with_reducible assumption) | assumption)
                                 have q215 : (ji26) < (x8_2.length : Int) := of_decide_eq_true (by first | (with_reducible assumption) | assumption)
                                 obtain ⟨ad215, e215, hx215_0⟩ := Kd.at_int (Kd.R_reads' HO_8.out).2.2 (ji26) p215 q215
                                 cases e215
                                 replace p215 := eq_true p215
                                 replace q215 := eq_true q215
                                 have p216 : 0 ≤ ((rd x8_2 (ji26)) : Int) := of_decide_eq_true (by first | (with_reducible assumption) | assumption)
                                 have q216 : (rd x8_2 (ji26)) < (l0.length : Int) := of_decide_eq_true (by first | (with_reducible assumption) | assumption)
                                 obtain ⟨ad216, e216, hx216_0⟩ := Kd.at_int HR0.out (rd x8_2 (ji26)) p216 q216
                                 cases e216
                                 first | replace hx216_0 := (HB.out.cell (World.block_lt_of_cell? w _ hx216_0)).trans hx216_0 | skip
                                 replace p216 := eq_true p216
                                 replace q216 := eq_true q216
                                 have p34 : 0 ≤ ((ji31) : Int) := of_decide_eq_true (by first | (with_reducible assumption) | assumption)
                                 have q34 : ((ji31) : Int) < ((x11_4.length : Int) : Int) := of_decide_eq_true (by first | (with_reducible assumption) | assumption)
                                 obtain ⟨go34, co34, eo34, gb34, gl34, cl34, HG34⟩ := Kd.R_form HO_11.out (by omega)
                                 (first | cases eo34 | (injection eo34 with ea_ en_ ec_; (first | subst ea_ | (injection ea_ with ea_; subst ea_)); subst ec_; clear en_))
                                 have GB34 := Aside0.mk gb34
                                 have GG34 := Aside0.mk HG34
                                 clear gb34 gl34 HG34
                                 obtain ⟨hx34_0, hf34_0⟩ := Kd.R_celln 0 HO_11.out ((ji31) : Int) p34 q34
                                 replace p34 := eq_true p34
                                 replace q34 := eq_true q34
                                 have HP36 := Kd.R_putg HO_11.out ((ji31) : Int) (rd l0 (rd x8_2 (ji26)))
                                 go_wp2_with (first | ((with_reducible refine gate_store (t := 5) (p := 72) rfl ?_); refine store_event (t := 5) (p := 72) (v := ?vo_w37) (w1 := (wr.setCell ⟨go34, ((ji31) : Int).toNat, none⟩ (.int .u8 (rd l0 (rd x8_2 (ji26)))))) ?hg ?ho ?hn ?hr ?_; (case ho => rfl); (case hg => rfl); (case hn => rfl); (case hr => first | (go_simp; done) | (go_simp; rfl)); intro w37 hw; have hg : wr.grownBy w37 (some go34) := (by rw [hw]; exact HP36.2); have hp_ : Kd.R (Kd.int .u8) 5 w37 w.heap.size (fun k_ => some k_ ≠ (.slice (some ad215) x8_2.length co35 : Value).ownBlock) (.slice (some ⟨go34, 0, none⟩) x11_4.length co34) y217 := (by rw [hw, Ny217.out]; exact HP36.1); clear HP36; have n0_ := Aside0.mk (Kd.N_afterv (v := (.slice (some ⟨go34, 0, none⟩) x11_4.length co34)) (v1 := (.slice (some ⟨go34, 0, none⟩) x11_4.length co34)) (ok := (fun k_ => some k_ ≠ (.slice (some ad215) x8_2.length co35 : Value).ownBlock)) (by (with_reducible repeat (first | apply Kd.N_alloc | apply Kd.N_drewN | apply Kd.N_drew)); exact HO_7.out) hg (.inl rfl)); have n1_ := Aside0.mk (Kd.R_after (v := (.slice (some ⟨go34, 0, none⟩) x11_4.length co34)) (v1 := (.slice (some ⟨go34, 0, none⟩) x11_4.length co34)) (ok := (fun _ => True)) (by (with_reducible repeat (first | apply Kd.R_alloc | apply Kd.R_drewN | apply Kd.R_drew)); exact Kd.R_mono HO_8.out (fun _ hk => ⟨trivial, hk⟩)) hg (.inl rfl)); have n2_ := Aside0.mk (hp_); have n3_ := Aside0.mk ((by rw [hw]; exact below_set (HB.out) GB34.out : Below w.heap.size w w37)); clear HO_7; clear HO_8; clear HO_11; clear HB; have HO_7 := n0_; have HO_8 := n1_; have HO_11 := n2_; have HB := n3_; clear n0_ n1_ n2_ n3_; clear hg hw hp_))
                                 go_roundg k4
                                 case measure => have := HK1.out; have := HK2.out; have := HK3.out; have := HK4.out; omega
                                 case rel => exact ⟨(y217), (wrap64 (x13_4 + 1)), (by first | rfl | (simp; done) | (simp [*]; done)), H', ⟨by have := HK1.out; have := HK2.out; have := HK3.out; have := HK4.out; omega⟩, ⟨by (with_reducible repeat (first | apply Kd.N_alloc | apply Kd.N_drewN | apply Kd.N_drew)); exact HO_7.out⟩, ⟨by (with_reducible repeat (first | apply Kd.R_alloc | apply Kd.R_drewN | apply Kd.R_drew)); exact Kd.R_mono HO_8.out (fun _ hk => hk.2)⟩, ⟨by (with_reducible repeat (first | apply Kd.R_alloc | apply Kd.R_drewN | apply Kd.R_drew)); exact HO_11.out⟩, ⟨by repeat (first | (with_reducible first | exact HB.out | apply below_alloc | apply pw_below_drewN | apply below_drew1) | exact HB.out)⟩⟩
                               · rw [if_neg c33] at H
                                 exact absurd H (by simp)
                             · rw [if_neg c32] at H
                               exact absurd H (by simp)
                           · rw [if_neg c30] at H
                             exact absurd H (by simp)
                         · rw [if_neg c29] at H
                           exact absurd H (by simp)
                       · rw [if_neg c28] at H
                         exact absurd H (by simp)
                     · rw [if_neg c27] at H
                       exact absurd H (by simp)
                   · rw [if_neg c25] at H
                     have c25b0 : decide (x13_4 < 4) = false := decide_eq_false c25
                     clear c25
                     have H' := Aside0.mk H
                     clear H
                     go_wp2
                     go_roundg k4
                     case measure => have := HK1.out; have := HK2.out; have := HK3.out; have := HK4.out; omega
                     case rel => exact ⟨(x11_4), (wrap64 (x12_3 + 1)), (by first | rfl | (simp; done) | (simp [*]; done)), H', ⟨by have := HK1.out; have := HK2.out; have := HK3.out; have := HK4.out; omega⟩, ⟨by (with_reducible repeat (first | apply Kd.N_alloc | apply Kd.N_drewN | apply Kd.N_drew)); exact HO_7.out⟩, ⟨by (with_reducible repeat (first | apply Kd.R_alloc | apply Kd.R_drewN | apply Kd.R_drew)); exact HO_8.out⟩, ⟨by (with_reducible repeat (first | apply Kd.R_alloc | apply Kd.R_drewN | apply Kd.R_drew)); exact HO_11.out⟩, ⟨by repeat (first | (with_reducible first | exact HB.out | apply below_alloc | apply pw_below_drewN | apply below_drew1) | exact HB.out)⟩⟩
               · rw [if_neg c24] at H
                 have c24b0 : decide (x12_3 < 4) = false := decide_eq_false c24
                 clear c24
                 have H' := Aside0.mk H
                 clear H
                 go_wp2
                 go_loopg [14] k3 (fun kq v14 w' => ∃ (x8_4 : List Int) (x14_4 : Int), v14 = .int .i64 x14_4 ∧ Aside0 (charterref03_Encrypt.l4 kq l0 t199 x8_4 x10_2 x11_3 x14_4 = some r) ∧ Aside0 (kq ≤ k3) ∧ Aside0 (Kd.N (Kd.slice 5 (Kd.int .u8)) 25 w' w.heap.size (fun k_ => some k_ ≠ (v206 : Value).ownBlock ∧ some k_ ≠ (v213 : Value).ownBlock) v200 t199) ∧ Aside0 (Kd.R (Kd.int .u8) 5 w' w.heap.size (fun k_ => some k_ ≠ (v213 : Value).ownBlock) v206 x8_4) ∧ Aside0 (Kd.R (Kd.int .u8) 5 w' w.heap.size (fun k_ => some k_ ≠ (v206 : Value).ownBlock) v213 x11_3) ∧ Aside0 (Below w.heap.size w w'))
                 case atStart => exact ⟨(x8_2), (0), (by first | rfl | (simp; done) | (simp [*]; done)), H', ⟨Nat.le_refl _⟩, ⟨by (with_reducible repeat (first | apply Kd.N_alloc | apply Kd.N_drewN | apply Kd.N_drew)); exact HO_7.out⟩, ⟨by (with_reducible repeat (first | apply Kd.R_alloc | apply Kd.R_drewN | apply Kd.R_drew)); exact HO_8.out⟩, ⟨by (with_reducible repeat (first | apply Kd.R_alloc | apply Kd.R_drewN | apply Kd.R_drew)); exact HO_11.out⟩, ⟨by repeat (first | (with_reducible first | exact HB.out | apply below_alloc | apply pw_below_drewN | apply below_drew1) | exact HB.out)⟩⟩
                 case round =>
                  clear H'
                  try clear c1
                  try clear p1
                  try clear q1
                  try clear hx1
                  try clear c2
                  try clear p2
                  try clear q2
                  try clear hx2
                  try clear qi2
                  try clear c3
                  try clear p3
                  try clear q3
                  try clear hx3
                  try clear hf3
                  try clear c5
                  try clear p6
                  try clear c10
                  try clear c10b0
                  try clear c11
                  try clear c11b0
                  try clear c12
                  try clear c12b0
                  try clear c13
                  try clear c13b0
                  try clear c13b1
                  try clear c14
                  try clear c14b0
                  try clear p15
                  try clear q15
                  try clear hx15
                  try clear hf15
                  try clear c18
                  try clear c20
                  try clear c20b0
                  try clear p20
                  try clear q20
                  try clear hx20
                  try clear qi20
                  try clear c21
                  try clear c21b0
                  try clear c21b1
                  try clear p21
                  try clear q21
                  try clear hx21
                  try clear c24
                  try clear c24b0
                  try clear c25
                  try clear c25b0
                  try clear c27
                  try clear c27b0
                  try clear c28
                  try clear c28b0
                  try clear c29
                  try clear c29b0
                  try clear c30
                  try clear c30b0
                  try clear c32
                  try clear c32b0
                  try clear c33
                  try clear c33b0
                  try clear p34
                  try clear q34
                  try clear hx34
                  try clear hf34
                  try clear hx15_0
                  try clear hx208_0
                  try clear hx209_0
                  try clear hx210_0
                  try clear hx215_0
                  try clear hx216_0
                  try clear hx34_0
                  try clear p1
                  try clear p15
                  try clear p2
                  try clear p20
                  try clear p208
                  try clear p209
                  try clear p21
                  try clear p210
                  try clear p215
                  try clear p216
                  try clear p34
                  try clear p6
                  try clear q1
                  try clear q15
                  try clear q2
                  try clear q20
                  try clear q208
                  try clear q209
                  try clear q21
                  try clear q210
                  try clear q215
                  try clear q216
                  try clear q34
                  obtain ⟨x8_4, x14_4, rfl, HA, HK4, HO_7, HO_8, HO_11, HB⟩ := hrel
                  cases gk with
                  | zero => exact absurd HA.out (by simp [charterref03_Encrypt.l4])
                  | succ k4 =>
                   have H := HA.out
                   clear HA
                   simp only [charterref03_Encrypt.l4] at H
                   by_cases c38 : x14_4 < 4
                   · rw [if_pos c38] at H
                     have c38b0 : decide (x14_4 < 4) = true := decide_eq_true c38
                     clear c38
                     have H' := Aside0.mk H
                     clear H
                     go_wp2
                     go_loopg [15] k4 (fun kq v15 w' => ∃ (x8_5 : List Int) (x15_5 : Int), v15 = .int .i64 x15_5 ∧ Aside0 (charterref03_Encrypt.l5 kq l0 t199 x8_5 x10_2 x11_3 x14_4 x15_5 = some r) ∧ Aside0 (kq ≤ k4) ∧ Aside0 (Kd.N (Kd.slice 5 (Kd.int .u8)) 25 w' w.heap.size (fun k_ => some k_ ≠ (v206 : Value).ownBlock ∧ some k_ ≠ (v213 : Value).ownBlock) v200 t199) ∧ Aside0 (Kd.R (Kd.int .u8) 5 w' w.heap.size (fun k_ => some k_ ≠ (v213 : Value).ownBlock) v206 x8_5) ∧ Aside0 (Kd.R (Kd.int .u8) 5 w' w.heap.size (fun k_ => some k_ ≠ (v206 : Value).ownBlock) v213 x11_3) ∧ Aside0 (Below w.heap.size w w'))
                     case atStart => exact ⟨(x8_4), (0), (by first | rfl | (simp; done) | (simp [*]; done)), H', ⟨Nat.le_refl _⟩, ⟨by (with_reducible repeat (first | apply Kd.N_alloc | apply Kd.N_drewN | apply Kd.N_drew)); exact HO_7.out⟩, ⟨by (with_reducible repeat (first | apply Kd.R_alloc | apply Kd.R_drewN | apply Kd.R_drew)); exact HO_8.out⟩, ⟨by (with_reducible repeat (first | apply Kd.R_alloc | apply Kd.R_drewN | apply Kd.R_drew)); exact HO_11.out⟩, ⟨by repeat (first | (with_reducible first | exact HB.out | apply below_alloc | apply pw_below_drewN | apply below_drew1) | exact HB.out)⟩⟩
                     case round =>
                      clear H'
                      try clear c1
                      try clear p1
                      try clear q1
                      try clear hx1
                      try clear c2
                      try clear p2
                      try clear q2
                      try clear hx2
                      try clear qi2
                      try clear c3
                      try clear p3
                      try clear q3
                      try clear hx3
                      try clear hf3
                      try clear c5
                      try clear p6
                      try clear c10
                      try clear c10b0
                      try clear c11
                      try clear c11b0
                      try clear c12
                      try clear c12b0
                      try clear c13
                      try clear c13b0
                      try clear c13b1
                      try clear c14
                      try clear c14b0
                      try clear p15
                      try clear q15
                      try clear hx15
                      try clear hf15
                      try clear c18
                      try clear c20
                      try clear c20b0
                      try clear p20
                      try clear q20
                      try clear hx20
                      try clear qi20
                      try clear c21
                      try clear c21b0
                      try clear c21b1
                      try clear p21
                      try clear q21
                      try clear hx21
                      try clear c24
                      try clear c24b0
                      try clear c25
                      try clear c25b0
                      try clear c27
                      try clear c27b0
                      try clear c28
                      try clear c28b0
                      try clear c29
                      try clear c29b0
                      try clear c30
                      try clear c30b0
                      try clear c32
                      try clear c32b0
                      try clear c33
                      try clear c33b0
                      try clear p34
                      try clear q34
                      try clear hx34
                      try clear hf34
                      try clear c38
                      try clear c38b0
                      try clear hx15_0
                      try clear hx208_0
                      try clear hx209_0
                      try clear hx210_0
                      try clear hx215_0
                      try clear hx216_0
                      try clear hx34_0
                      try clear p1
                      try clear p15
                      try clear p2
                      try clear p20
                      try clear p208
                      try clear p209
                      try clear p21
                      try clear p210
                      try clear p215
                      try clear p216
                      try clear p3
                      try clear p34
                      try clear p6
                      try clear q1
                      try clear q15
                      try clear q2
                      try clear q20
                      try clear q208
                      try clear q209
                      try clear q21
                      try clear q210
                      try clear q215
                      try clear q216
                      try clear q3
                      try clear q34
                      obtain ⟨x8_5, x15_5, rfl, HA, HK5, HO_7, HO_8, HO_11, HB⟩ := hrel
                      cases gk with
                      | zero => exact absurd HA.out (by simp [charterref03_Encrypt.l5])
                      | succ k5 =>
                       have H := HA.out
                       clear HA
                       simp only [charterref03_Encrypt.l5] at H
                       by_cases c39 : x15_5 < 4
                       · rw [if_pos c39] at H
                         have c39b0 : decide (x15_5 < 4) = true := decide_eq_true c39
                         clear c39
                         obtain ⟨ji40, hji40⟩ : ∃ j_ : Int, (wrap64 ((wrap64 (4 * x14_4)) + x15_5)) = j_ := ⟨_, rfl⟩
                         replace H : (if 0 ≤ (ji40) then (if (ji40) < (x11_3.length : Int) then (if x10_2 < 10 then ((charterref03_Times.f k5 2 (rd x11_3 (ji40))).bind fun t220 => (if 0 ≤ (wrap64 ((wrap64 (4 * x14_4)) + (Int.tmod (wrap64 (x15_5 + 1)) 4))) then (if (wrap64 ((wrap64 (4 * x14_4)) + (Int.tmod (wrap64 (x15_5 + 1)) 4))) < (x11_3.length : Int) then ((charterref03_Times.f k5 3 (rd x11_3 (wrap64 ((wrap64 (4 * x14_4)) + (Int.tmod (wrap64 (x15_5 + 1)) 4))))).bind fun t222 => (if 0 ≤ (wrap64 ((wrap64 (4 * x14_4)) + (Int.tmod (wrap64 (x15_5 + 2)) 4))) then (if (wrap64 ((wrap64 (4 * x14_4)) + (Int.tmod (wrap64 (x15_5 + 2)) 4))) < (x11_3.length : Int) then (if 0 ≤ (wrap64 ((wrap64 (4 * x14_4)) + (Int.tmod (wrap64 (x15_5 + 3)) 4))) then (if (wrap64 ((wrap64 (4 * x14_4)) + (Int.tmod (wrap64 (x15_5 + 3)) 4))) < (x11_3.length : Int) then (if 0 ≤ x10_2 then (if x10_2 < (t199.length : Int) then (if (ji40) < ((rd_L1 t199 x10_2).length : Int) then (if (ji40) < (x8_5.length : Int) then (charterref03_Encrypt.l5 k5 l0 t199 (x8_5.set ((ji40) : Int).toNat (Go.bits .xor .u8 (Go.bits .xor .u8 (Go.bits .xor .u8 (Go.bits .xor .u8 t220 t222) (rd x11_3 (wrap64 ((wrap64 (4 * x14_4)) + (Int.tmod (wrap64 (x15_5 + 2)) 4))))) (rd x11_3 (wrap64 ((wrap64 (4 * x14_4)) + (Int.tmod (wrap64 (x15_5 + 3)) 4))))) (rd (rd_L1 t199 x10_2) (ji40)))) x10_2 x11_3 x14_4 (wrap64 (x15_5 + 1))) else (none)) else (none)) else (none)) else (none)) else (none)) else (none)) else (none)) else (none))) else (none)) else (none))) else (if 0 ≤ x10_2 then (if x10_2 < (t199.length : Int) then (if (ji40) < ((rd_L1 t199 x10_2).length : Int) then (if (ji40) < (x8_5.length : Int) then (charterref03_Encrypt.l5 k5 l0 t199 (x8_5.set ((ji40) : Int).toNat (Go.bits .xor .u8 (rd x11_3 (ji40)) (rd (rd_L1 t199 x10_2) (ji40)))) x10_2 x11_3 x14_4 (wrap64 (x15_5 + 1))) else (none)) else (none)) else (none)) else (none))) else (none)) else (none)) = some r := by first | (rw [hji40] at H; exact H) | (simp only [hji40] at H ⊢; exact H)
                         have hji40w : (IntKind.i64.wrap ((wrap64 (4 * x14_4)) + x15_5)) = ji40 := (i64_w _).trans hji40
                         by_cases c41 : 0 ≤ (ji40)
                         · rw [if_pos c41] at H
                           have c41b0 : decide (0 ≤ (ji40)) = true := decide_eq_true c41
                           clear c41
                           by_cases c42 : (ji40) < (x11_3.length : Int)
                           · rw [if_pos c42] at H
                             have c42b0 : decide ((ji40) < (x11_3.length : Int)) = true := decide_eq_true c42
                             clear c42
                             by_cases c43 : x10_2 < 10
                             · rw [if_pos c43] at H
                               have c43b0 : decide (x10_2 < 10) = true := decide_eq_true c43
                               clear c43
                               replace H := Option.bind_eq_some_iff.mp H
                               obtain ⟨t220, A440, H⟩ := H
                               replace H : (if 0 ≤ (wrap64 ((wrap64 (4 * x14_4)) + (Int.tmod (wrap64 (x15_5 + 1)) 4))) then (if (wrap64 ((wrap64 (4 * x14_4)) + (Int.tmod (wrap64 (x15_5 + 1)) 4))) < (x11_3.length : Int) then ((charterref03_Times.f k5 3 (rd x11_3 (wrap64 ((wrap64 (4 * x14_4)) + (Int.tmod (wrap64 (x15_5 + 1)) 4))))).bind fun t222 => (if 0 ≤ (wrap64 ((wrap64 (4 * x14_4)) + (Int.tmod (wrap64 (x15_5 + 2)) 4))) then (if (wrap64 ((wrap64 (4 * x14_4)) + (Int.tmod (wrap64 (x15_5 + 2)) 4))) < (x11_3.length : Int) then (if 0 ≤ (wrap64 ((wrap64 (4 * x14_4)) + (Int.tmod (wrap64 (x15_5 + 3)) 4))) then (if (wrap64 ((wrap64 (4 * x14_4)) + (Int.tmod (wrap64 (x15_5 + 3)) 4))) < (x11_3.length : Int) then (if 0 ≤ x10_2 then (if x10_2 < (t199.length : Int) then (if (ji40) < ((rd_L1 t199 x10_2).length : Int) then (if (ji40) < (x8_5.length : Int) then (charterref03_Encrypt.l5 k5 l0 t199 (x8_5.set ((ji40) : Int).toNat (Go.bits .xor .u8 (Go.bits .xor .u8 (Go.bits .xor .u8 (Go.bits .xor .u8 t220 t222) (rd x11_3 (wrap64 ((wrap64 (4 * x14_4)) + (Int.tmod (wrap64 (x15_5 + 2)) 4))))) (rd x11_3 (wrap64 ((wrap64 (4 * x14_4)) + (Int.tmod (wrap64 (x15_5 + 3)) 4))))) (rd (rd_L1 t199 x10_2) (ji40)))) x10_2 x11_3 x14_4 (wrap64 (x15_5 + 1))) else (none)) else (none)) else (none)) else (none)) else (none)) else (none)) else (none)) else (none))) else (none)) else (none)) = some r := H
                               have A44 := Aside0.mk A440
                               clear A440
                               obtain ⟨ji45, hji45⟩ : ∃ j_ : Int, (wrap64 ((wrap64 (4 * x14_4)) + (Int.tmod (wrap64 (x15_5 + 1)) 4))) = j_ := ⟨_, rfl⟩
                               replace H : (if 0 ≤ (ji45) then (if (ji45) < (x11_3.length : Int) then ((charterref03_Times.f k5 3 (rd x11_3 (ji45))).bind fun t222 => (if 0 ≤ (wrap64 ((wrap64 (4 * x14_4)) + (Int.tmod (wrap64 (x15_5 + 2)) 4))) then (if (wrap64 ((wrap64 (4 * x14_4)) + (Int.tmod (wrap64 (x15_5 + 2)) 4))) < (x11_3.length : Int) then (if 0 ≤ (wrap64 ((wrap64 (4 * x14_4)) + (Int.tmod (wrap64 (x15_5 + 3)) 4))) then (if (wrap64 ((wrap64 (4 * x14_4)) + (Int.tmod (wrap64 (x15_5 + 3)) 4))) < (x11_3.length : Int) then (if 0 ≤ x10_2 then (if x10_2 < (t199.length : Int) then (if (ji40) < ((rd_L1 t199 x10_2).length : Int) then (if (ji40) < (x8_5.length : Int) then (charterref03_Encrypt.l5 k5 l0 t199 (x8_5.set ((ji40) : Int).toNat (Go.bits .xor .u8 (Go.bits .xor .u8 (Go.bits .xor .u8 (Go.bits .xor .u8 t220 t222) (rd x11_3 (wrap64 ((wrap64 (4 * x14_4)) + (Int.tmod (wrap64 (x15_5 + 2)) 4))))) (rd x11_3 (wrap64 ((wrap64 (4 * x14_4)) + (Int.tmod (wrap64 (x15_5 + 3)) 4))))) (rd (rd_L1 t199 x10_2) (ji40)))) x10_2 x11_3 x14_4 (wrap64 (x15_5 + 1))) else (none)) else (none)) else (none)) else (none)) else (none)) else (none)) else (none)) else (none))) else (none)) else (none)) = some r := by first | (rw [hji45] at H; exact H) | (simp only [hji45] at H ⊢; exact H)
                               (try rw [hji45] at A44)
                               have hji45w : (IntKind.i64.wrap ((wrap64 (4 * x14_4)) + (Int.tmod (wrap64 (x15_5 + 1)) 4))) = ji45 := (i64_w _).trans hji45
                               by_cases c46 : 0 ≤ (ji45)
                               · rw [if_pos c46] at H
                                 have c46b0 : decide (0 ≤ (ji45)) = true := decide_eq_true c46
                                 clear c46
                                 by_cases c47 : (ji45) < (x11_3.length : Int)
                                 · rw [if_pos c47] at H
                                   have c47b0 : decide ((ji45) < (x11_3.length : Int)) = true := decide_eq_true c47
                                   clear c47
                                   replace H := Option.bind_eq_some_iff.mp H
                                   obtain ⟨t222, A480, H⟩ := H
                                   replace H : (if 0 ≤ (wrap64 ((wrap64 (4 * x14_4)) + (Int.tmod (wrap64 (x15_5 + 2)) 4))) then (if (wrap64 ((wrap64 (4 * x14_4)) + (Int.tmod (wrap64 (x15_5 + 2)) 4))) < (x11_3.length : Int) then (if 0 ≤ (wrap64 ((wrap64 (4 * x14_4)) + (Int.tmod (wrap64 (x15_5 + 3)) 4))) then (if (wrap64 ((wrap64 (4 * x14_4)) + (Int.tmod (wrap64 (x15_5 + 3)) 4))) < (x11_3.length : Int) then (if 0 ≤ x10_2 then (if x10_2 < (t199.length : Int) then (if (ji40) < ((rd_L1 t199 x10_2).length : Int) then (if (ji40) < (x8_5.length : Int) then (charterref03_Encrypt.l5 k5 l0 t199 (x8_5.set ((ji40) : Int).toNat (Go.bits .xor .u8 (Go.bits .xor .u8 (Go.bits .xor .u8 (Go.bits .xor .u8 t220 t222) (rd x11_3 (wrap64 ((wrap64 (4 * x14_4)) + (Int.tmod (wrap64 (x15_5 + 2)) 4))))) (rd x11_3 (wrap64 ((wrap64 (4 * x14_4)) + (Int.tmod (wrap64 (x15_5 + 3)) 4))))) (rd (rd_L1 t199 x10_2) (ji40)))) x10_2 x11_3 x14_4 (wrap64 (x15_5 + 1))) else (none)) else (none)) else (none)) else (none)) else (none)) else (none)) else (none)) else (none)) = some r := H
                                   have A48 := Aside0.mk A480
                                   clear A480
                                   obtain ⟨ji49, hji49⟩ : ∃ j_ : Int, (wrap64 ((wrap64 (4 * x14_4)) + (Int.tmod (wrap64 (x15_5 + 2)) 4))) = j_ := ⟨_, rfl⟩
                                   replace H : (if 0 ≤ (ji49) then (if (ji49) < (x11_3.length : Int) then (if 0 ≤ (wrap64 ((wrap64 (4 * x14_4)) + (Int.tmod (wrap64 (x15_5 + 3)) 4))) then (if (wrap64 ((wrap64 (4 * x14_4)) + (Int.tmod (wrap64 (x15_5 + 3)) 4))) < (x11_3.length : Int) then (if 0 ≤ x10_2 then (if x10_2 < (t199.length : Int) then (if (ji40) < ((rd_L1 t199 x10_2).length : Int) then (if (ji40) < (x8_5.length : Int) then (charterref03_Encrypt.l5 k5 l0 t199 (x8_5.set ((ji40) : Int).toNat (Go.bits .xor .u8 (Go.bits .xor .u8 (Go.bits .xor .u8 (Go.bits .xor .u8 t220 t222) (rd x11_3 (ji49))) (rd x11_3 (wrap64 ((wrap64 (4 * x14_4)) + (Int.tmod (wrap64 (x15_5 + 3)) 4))))) (rd (rd_L1 t199 x10_2) (ji40)))) x10_2 x11_3 x14_4 (wrap64 (x15_5 + 1))) else (none)) else (none)) else (none)) else (none)) else (none)) else (none)) else (none)) else (none)) = some r := by first | (rw [hji49] at H; exact H) | (simp only [hji49] at H ⊢; exact H)
                                   (try rw [hji49] at A44)
                                   (try rw [hji49] at A48)
                                   have hji49w : (IntKind.i64.wrap ((wrap64 (4 * x14_4)) + (Int.tmod (wrap64 (x15_5 + 2)) 4))) = ji49 := (i64_w _).trans hji49
                                   by_cases c50 : 0 ≤ (ji49)
                                   · rw [if_pos c50] at H
                                     have c50b0 : decide (0 ≤ (ji49)) = true := decide_eq_true c50
                                     clear c50
                                     by_cases c51 : (ji49) < (x11_3.length : Int)
                                     · rw [if_pos c51] at H
                                       have c51b0 : decide ((ji49) < (x11_3.length : Int)) = true := decide_eq_true c51
                                       clear c51
                                       obtain ⟨ji52, hji52⟩ : ∃ j_ : Int, (wrap64 ((wrap64 (4 * x14_4)) + (Int.tmod (wrap64 (x15_5 + 3)) 4))) = j_ := ⟨_, rfl⟩
                                       replace H : (if 0 ≤ (ji52) then (if (ji52) < (x11_3.length : Int) then (if 0 ≤ x10_2 then (if x10_2 < (t199.length : Int) then (if (ji40) < ((rd_L1 t199 x10_2).length : Int) then (if (ji40) < (x8_5.length : Int) then (charterref03_Encrypt.l5 k5 l0 t199 (x8_5.set ((ji40) : Int).toNat (Go.bits .xor .u8 (Go.bits .xor .u8 (Go.bits .xor .u8 (Go.bits .xor .u8 t220 t222) (rd x11_3 (ji49))) (rd x11_3 (ji52))) (rd (rd_L1 t199 x10_2) (ji40)))) x10_2 x11_3 x14_4 (wrap64 (x15_5 + 1))) else (none)) else (none)) else (none)) else (none)) else (none)) else (none)) = some r := by first | (rw [hji52] at H; exact H) | (simp only [hji52] at H ⊢; exact H)
                                       (try rw [hji52] at A44)
                                       (try rw [hji52] at A48)
                                       have hji52w : (IntKind.i64.wrap ((wrap64 (4 * x14_4)) + (Int.tmod (wrap64 (x15_5 + 3)) 4))) = ji52 := (i64_w _).trans hji52
                                       by_cases c53 : 0 ≤ (ji52)
                                       · rw [if_pos c53] at H
                                         have c53b0 : decide (0 ≤ (ji52)) = true := decide_eq_true c53
                                         clear c53
                                         by_cases c54 : (ji52) < (x11_3.length : Int)
                                         · rw [if_pos c54] at H
                                           have c54b0 : decide ((ji52) < (x11_3.length : Int)) = true := decide_eq_true c54
                                           clear c54
                                           by_cases c55 : 0 ≤ x10_2
                                           · rw [if_pos c55] at H
                                             have c55b0 : decide (0 ≤ x10_2) = true := decide_eq_true c55
                                             clear c55
                                             by_cases c56 : x10_2 < (t199.length : Int)
                                             · rw [if_pos c56] at H
                                               have c56b0 : decide (x10_2 < (t199.length : Int)) = true := decide_eq_true c56
                                               clear c56
                                               by_cases c57 : (ji40) < ((rd_L1 t199 x10_2).length : Int)
                                               · rw [if_pos c57] at H
                                                 have c57b0 : decide ((ji40) < ((rd_L1 t199 x10_2).length : Int)) = true := decide_eq_true c57
                                                 clear c57
                                                 by_cases c58 : (ji40) < (x8_5.length : Int)
                                                 · rw [if_pos c58] at H
                                                   have c58b0 : decide ((ji40) < (x8_5.length : Int)) = true := decide_eq_true c58
                                                   clear c58
                                                   obtain ⟨y227, hy227⟩ : ∃ y_ : List Int, y_ = (x8_5.set ((ji40) : Int).toNat (Go.bits .xor .u8 (Go.bits .xor .u8 (Go.bits .xor .u8 (Go.bits .xor .u8 t220 t222) (rd x11_3 (ji49))) (rd x11_3 (ji52))) (rd (rd_L1 t199 x10_2) (ji40)))) := ⟨_, rfl⟩
                                                   replace H : (charterref03_Encrypt.l5 k5 l0 t199 y227 x10_2 x11_3 x14_4 (wrap64 (x15_5 + 1))) = some r := by first | (rw [hy227]; with_reducible exact H) | (have H2_ := (Option.bind_some _ _).symm.trans H; rw [hy227]; with_reducible exact H2_) | (have H2_ := (Option.bind_some _ _).symm.trans H; with_reducible exact H2_) | with_reducible exact H | (rw [hy227]; exact H) | exact H
                                                   have Ny227 := Aside0.mk hy227
                                                   clear hy227
                                                   have H' := Aside0.mk H
                                                   clear H
                                                   obtain ⟨Ao60, co60, eo60⟩ := Kd.R_slice HO_11.out
                                                   subst eo60
                                                   have p218 : 0 ≤ ((ji40) : Int) := of_decide_eq_true (by first | (with_reducible assumption) | assumption)
                                                   have q218 : (ji40) < (x11_3.length : Int) := of_decide_eq_true (by first | (with_reducible assumption) | assumption)
                                                   obtain ⟨ad218, e218, hx218_0⟩ := Kd.at_int (Kd.R_reads' HO_11.out).2.2 (ji40) p218 q218
                                                   cases e218
                                                   replace p218 := eq_true p218
                                                   replace q218 := eq_true q218
                                                   try go_wp2
                                                   have n0_ := Aside0.mk (Kd.N_drew HO_7.out)
                                                   have n1_ := Aside0.mk (Kd.R_drew HO_8.out)
                                                   have n2_ := Aside0.mk (Kd.R_drew HO_11.out)
                                                   have n3_ := Aside0.mk (below_drew1 HB.out)
                                                   clear HO_7
                                                   clear HO_8
                                                   clear HO_11
                                                   clear HB
                                                   have HO_7 := n0_
                                                   have HO_8 := n1_
                                                   have HO_11 := n2_
                                                   have HB := n3_
                                                   clear n0_ n1_ n2_ n3_
                                                   have p219 : 0 ≤ ((ji40) : Int) := of_decide_eq_true (by first | (with_reducible assumption) | assumption)
                                                   have q219 : (ji40) < (x11_3.length : Int) := of_decide_eq_true (by first | (with_reducible assumption) | assumption)
                                                   obtain ⟨ad219, e219, hx219_0⟩ := Kd.at_int (Kd.R_reads' HO_11.out).2.2 (ji40) p219 q219
                                                   obtain rfl : ad218 = ad219 := (by injection e219)
                                                   replace p219 := eq_true p219
                                                   replace q219 := eq_true q219
                                                   have p221 : 0 ≤ ((ji45) : Int) := of_decide_eq_true (by first | (with_reducible assumption) | assumption)
                                                   have q221 : (ji45) < (x11_3.length : Int) := of_decide_eq_true (by first | (with_reducible assumption) | assumption)
                                                   obtain ⟨ad221, e221, hx221_0⟩ := Kd.at_int (Kd.R_reads' HO_11.out).2.2 (ji45) p221 q221
                                                   obtain rfl : ad218 = ad221 := (by injection e221)
                                                   replace p221 := eq_true p221
                                                   replace q221 := eq_true q221
                                                   have p223 : 0 ≤ ((ji49) : Int) := of_decide_eq_true (by first | (with_reducible assumption) | assumption)
                                                   have q223 : (ji49) < (x11_3.length : Int) := of_decide_eq_true (by first | (with_reducible assumption) | assumption)
                                                   obtain ⟨ad223, e223, hx223_0⟩ := Kd.at_int (Kd.R_reads' HO_11.out).2.2 (ji49) p223 q223
                                                   obtain rfl : ad218 = ad223 := (by injection e223)
                                                   replace p223 := eq_true p223
                                                   replace q223 := eq_true q223
                                                   have p224 : 0 ≤ ((ji52) : Int) := of_decide_eq_true (by first | (with_reducible assumption) | assumption)
                                                   have q224 : (ji52) < (x11_3.length : Int) := of_decide_eq_true (by first | (with_reducible assumption) | assumption)
                                                   obtain ⟨ad224, e224, hx224_0⟩ := Kd.at_int (Kd.R_reads' HO_11.out).2.2 (ji52) p224 q224
                                                   obtain rfl : ad218 = ad224 := (by injection e224)
                                                   replace p224 := eq_true p224
                                                   replace q224 := eq_true q224
                                                   refine start_ (n := 40) (S := fun w' => w'.cell? (ad218.add ((ji40)).toNat) = some (.int .u8 (rd x11_3 (ji40))) ∧ w'.cell? (ad218.add ((ji45)).toNat) = some (.int .u8 (rd x11_3 (ji45))) ∧ w'.cell? (ad218.add ((ji49)).toNat) = some (.int .u8 (rd x11_3 (ji49))) ∧ w'.cell? (ad218.add ((ji52)).toNat) = some (.int .u8 (rd x11_3 (ji52)))) (ds := []) #[false, false, false, false, false, false, false, false, false, false, false, false, false, false, false, false, false, false, false, false, false, false, false, false, false, false, false, false, false, false, false, false, false, false, false, false, false, false, false, false] (by kernel_rfl) rfl rfl ⟨hx219_0, hx221_0, hx223_0, hx224_0⟩ (fun hHeld => ?_); refine with_tabW charterref03_Encrypt.tab26 charterref03_Encrypt.bits26 (fun HT_ HW_ => ?_)
                                                   generalize wr.drew = w61 at HO_7 HO_8 HO_11 HB hx219_0 hx221_0 hx223_0 hx224_0 hHeld ⊢
                                                   refine pure_ (i := 0) (N := some 90) (v := ?_) (a' := ?_) #[true, false, false, false, false, false, false, false, false, false, false, false, false, false, false, false, false, false, false, false, false, false, false, false, false, false, false, false, false, false, false, false, false, false, false, false, false, false, false, false] rfl rfl (any_of HT_.out (by kernel_rfl)) (fun _ _ _ h => h) (Or.inl ⟨by rfl, ?_⟩) ?_ ?_
                                                   rotate_left
                                                   · intro w'
                                                     go_simp
                                                     with_reducible rfl
                                                   rotate_left
                                                   · simp only [Act.put, List.setIfInBounds_toArray, List.set_cons_zero, List.set_cons_succ, i64_w, i32_w]
                                                     rfl
                                                   refine pure_ (i := 1) (N := some 91) (v := ?_) (a' := ?_) #[true, true, false, false, false, false, false, false, false, false, false, false, false, false, false, false, false, false, false, false, false, false, false, false, false, false, false, false, false, false, false, false, false, false, false, false, false, false, false, false] rfl rfl (any_of HT_.out (by kernel_rfl)) (fun _ _ _ h => h) (Or.inl ⟨by rfl, ?_⟩) ?_ ?_
                                                   rotate_left
                                                   · intro w'
                                                     go_simp
                                                     with_reducible rfl
                                                   rotate_left
                                                   · simp only [Act.put, List.setIfInBounds_toArray, List.set_cons_zero, List.set_cons_succ, i64_w, i32_w]
                                                     rfl
                                                   refine pure_ (i := 2) (N := some 92) (v := ?_) (a' := ?_) #[true, true, true, false, false, false, false, false, false, false, false, false, false, false, false, false, false, false, false, false, false, false, false, false, false, false, false, false, false, false, false, false, false, false, false, false, false, false, false, false] rfl rfl (any_of HT_.out (by kernel_rfl)) (fun _ _ _ h => h) (Or.inl ⟨by rfl, ?_⟩) ?_ ?_
                                                   rotate_left
                                                   · intro w'
                                                     go_simp
                                                     with_reducible rfl
                                                   rotate_left
                                                   · simp only [Act.put, List.setIfInBounds_toArray, List.set_cons_zero, List.set_cons_succ, i64_w, i32_w]
                                                     rfl
                                                   refine pure_ (i := 3) (N := some 93) (v := ?_) (a' := ?_) #[true, true, true, true, false, false, false, false, false, false, false, false, false, false, false, false, false, false, false, false, false, false, false, false, false, false, false, false, false, false, false, false, false, false, false, false, false, false, false, false] rfl rfl (any_of HT_.out (by kernel_rfl)) (fun _ _ _ h => h) (Or.inl ⟨by rfl, ?_⟩) ?_ ?_
                                                   rotate_left
                                                   · intro w'
                                                     go_simp
                                                     with_reducible rfl
                                                   rotate_left
                                                   · simp only [Act.put, List.setIfInBounds_toArray, List.set_cons_zero, List.set_cons_succ, i64_w, i32_w]
                                                     rfl
                                                   refine pure_ (i := 4) (N := some 94) (v := ?_) (a' := ?_) #[true, true, true, true, true, false, false, false, false, false, false, false, false, false, false, false, false, false, false, false, false, false, false, false, false, false, false, false, false, false, false, false, false, false, false, false, false, false, false, false] rfl rfl (any_of HT_.out (by kernel_rfl)) (fun _ _ _ h => h) (Or.inl ⟨by rfl, ?_⟩) ?_ ?_
                                                   rotate_left
                                                   · intro w'
                                                     go_simp
                                                     with_reducible rfl
                                                   rotate_left
                                                   · simp only [Act.put, List.setIfInBounds_toArray, List.set_cons_zero, List.set_cons_succ, i64_w, i32_w]
                                                     rfl
                                                   refine pure_ (i := 5) (N := some 95) (v := ?_) (a' := ?_) #[true, true, true, true, true, true, false, false, false, false, false, false, false, false, false, false, false, false, false, false, false, false, false, false, false, false, false, false, false, false, false, false, false, false, false, false, false, false, false, false] rfl rfl (any_of HT_.out (by kernel_rfl)) (fun _ _ _ h => h) (Or.inl ⟨by rfl, ?_⟩) ?_ ?_
                                                   rotate_left
                                                   · intro w'
                                                     go_simp
                                                     with_reducible rfl
                                                   rotate_left
                                                   · simp only [Act.put, List.setIfInBounds_toArray, List.set_cons_zero, List.set_cons_succ, i64_w, i32_w]
                                                     rfl
                                                   refine pure_ (i := 8) (N := some 98) (v := ?_) (a' := ?_) #[true, true, true, true, true, true, false, false, true, false, false, false, false, false, false, false, false, false, false, false, false, false, false, false, false, false, false, false, false, false, false, false, false, false, false, false, false, false, false, false] rfl rfl (any_of HT_.out (by kernel_rfl)) (fun _ _ _ h => h) (Or.inl ⟨by rfl, ?_⟩) ?_ ?_
                                                   rotate_left
                                                   · intro w'
                                                     go_simp
                                                     with_reducible rfl
                                                   rotate_left
                                                   · simp only [Act.put, List.setIfInBounds_toArray, List.set_cons_zero, List.set_cons_succ, i64_w, i32_w]
                                                     rfl
                                                   refine pure_ (i := 9) (N := some 99) (v := ?_) (a' := ?_) #[true, true, true, true, true, true, false, false, true, true, false, false, false, false, false, false, false, false, false, false, false, false, false, false, false, false, false, false, false, false, false, false, false, false, false, false, false, false, false, false] rfl rfl (any_of HT_.out (by kernel_rfl)) (fun _ _ _ h => h) (Or.inl ⟨by rfl, ?_⟩) ?_ ?_
                                                   rotate_left
                                                   · intro w'
                                                     go_simp
                                                     with_reducible rfl
                                                   rotate_left
                                                   · simp only [Act.put, List.setIfInBounds_toArray, List.set_cons_zero, List.set_cons_succ, i64_w, i32_w]
                                                     rfl
                                                   refine pure_ (i := 10) (N := some 100) (v := ?_) (a' := ?_) #[true, true, true, true, true, true, false, false, true, true, true, false, false, false, false, false, false, false, false, false, false, false, false, false, false, false, false, false, false, false, false, false, false, false, false, false, false, false, false, false] rfl rfl (any_of HT_.out (by kernel_rfl)) (fun _ _ _ h => h) (Or.inl ⟨by rfl, ?_⟩) ?_ ?_
                                                   rotate_left
                                                   · intro w'
                                                     go_simp
                                                     with_reducible rfl
                                                   rotate_left
                                                   · simp only [Act.put, List.setIfInBounds_toArray, List.set_cons_zero, List.set_cons_succ, i64_w, i32_w]
                                                     rfl
                                                   refine pure_ (i := 11) (N := some 101) (v := ?_) (a' := ?_) #[true, true, true, true, true, true, false, false, true, true, true, true, false, false, false, false, false, false, false, false, false, false, false, false, false, false, false, false, false, false, false, false, false, false, false, false, false, false, false, false] rfl rfl (any_of HT_.out (by kernel_rfl)) (fun _ _ _ h => h) (Or.inl ⟨by rfl, ?_⟩) ?_ ?_
                                                   rotate_left
                                                   · intro w'
                                                     go_simp
                                                     with_reducible rfl
                                                   rotate_left
                                                   · simp only [Act.put, List.setIfInBounds_toArray, List.set_cons_zero, List.set_cons_succ, i64_w, i32_w]
                                                     rfl
                                                   refine pure_ (i := 12) (N := some 102) (v := ?_) (a' := ?_) #[true, true, true, true, true, true, false, false, true, true, true, true, true, false, false, false, false, false, false, false, false, false, false, false, false, false, false, false, false, false, false, false, false, false, false, false, false, false, false, false] rfl rfl (any_of HT_.out (by kernel_rfl)) (fun _ _ _ h => h) (Or.inl ⟨by rfl, ?_⟩) ?_ ?_
                                                   rotate_left
                                                   · intro w'
                                                     go_simp
                                                     with_reducible rfl
                                                   rotate_left
                                                   · simp only [Act.put, List.setIfInBounds_toArray, List.set_cons_zero, List.set_cons_succ, i64_w, i32_w]
                                                     rfl
                                                   refine pure_ (i := 13) (N := some 103) (v := ?_) (a' := ?_) #[true, true, true, true, true, true, false, false, true, true, true, true, true, true, false, false, false, false, false, false, false, false, false, false, false, false, false, false, false, false, false, false, false, false, false, false, false, false, false, false] rfl rfl (any_of HT_.out (by kernel_rfl)) (fun _ _ _ h => h) (Or.inl ⟨by rfl, ?_⟩) ?_ ?_
                                                   rotate_left
                                                   · intro w'
                                                     go_simp
                                                     with_reducible rfl
                                                   rotate_left
                                                   · simp only [Act.put, List.setIfInBounds_toArray, List.set_cons_zero, List.set_cons_succ, i64_w, i32_w]
                                                     rfl
                                                   refine pure_ (i := 14) (N := some 104) (v := ?_) (a' := ?_) #[true, true, true, true, true, true, false, false, true, true, true, true, true, true, true, false, false, false, false, false, false, false, false, false, false, false, false, false, false, false, false, false, false, false, false, false, false, false, false, false] rfl rfl (any_of HT_.out (by kernel_rfl)) (fun _ _ _ h => h) (Or.inl ⟨by rfl, ?_⟩) ?_ ?_
                                                   rotate_left
                                                   · intro w'
                                                     go_simp
                                                     with_reducible rfl
                                                   rotate_left
                                                   · simp only [Act.put, List.setIfInBounds_toArray, List.set_cons_zero, List.set_cons_succ, i64_w, i32_w]
                                                     rfl
                                                   refine pure_ (i := 15) (N := some 105) (v := ?_) (a' := ?_) #[true, true, true, true, true, true, false, false, true, true, true, true, true, true, true, true, false, false, false, false, false, false, false, false, false, false, false, false, false, false, false, false, false, false, false, false, false, false, false, false] rfl rfl (any_of HT_.out (by kernel_rfl)) (fun _ _ _ h => h) (Or.inl ⟨by rfl, ?_⟩) ?_ ?_
                                                   rotate_left
                                                   · intro w'
                                                     go_simp
                                                     with_reducible rfl
                                                   rotate_left
                                                   · simp only [Act.put, List.setIfInBounds_toArray, List.set_cons_zero, List.set_cons_succ, i64_w, i32_w]
                                                     rfl
                                                   refine pure_ (i := 19) (N := some 109) (v := ?_) (a' := ?_) #[true, true, true, true, true, true, false, false, true, true, true, true, true, true, true, true, false, false, false, true, false, false, false, false, false, false, false, false, false, false, false, false, false, false, false, false, false, false, false, false] rfl rfl (any_of HT_.out (by kernel_rfl)) (fun _ _ _ h => h) (Or.inl ⟨by rfl, ?_⟩) ?_ ?_
                                                   rotate_left
                                                   · intro w'
                                                     go_simp
                                                     with_reducible rfl
                                                   rotate_left
                                                   · simp only [Act.put, List.setIfInBounds_toArray, List.set_cons_zero, List.set_cons_succ, i64_w, i32_w]
                                                     rfl
                                                   refine pure_ (i := 20) (N := some 110) (v := ?_) (a' := ?_) #[true, true, true, true, true, true, false, false, true, true, true, true, true, true, true, true, false, false, false, true, true, false, false, false, false, false, false, false, false, false, false, false, false, false, false, false, false, false, false, false] rfl rfl (any_of HT_.out (by kernel_rfl)) (fun _ _ _ h => h) (Or.inl ⟨by rfl, ?_⟩) ?_ ?_
                                                   rotate_left
                                                   · intro w'
                                                     go_simp
                                                     with_reducible rfl
                                                   rotate_left
                                                   · simp only [Act.put, List.setIfInBounds_toArray, List.set_cons_zero, List.set_cons_succ, i64_w, i32_w]
                                                     rfl
                                                   refine pure_ (i := 21) (N := some 111) (v := ?_) (a' := ?_) #[true, true, true, true, true, true, false, false, true, true, true, true, true, true, true, true, false, false, false, true, true, true, false, false, false, false, false, false, false, false, false, false, false, false, false, false, false, false, false, false] rfl rfl (any_of HT_.out (by kernel_rfl)) (fun _ _ _ h => h) (Or.inl ⟨by rfl, ?_⟩) ?_ ?_
                                                   rotate_left
                                                   · intro w'
                                                     go_simp
                                                     with_reducible rfl
                                                   rotate_left
                                                   · simp only [Act.put, List.setIfInBounds_toArray, List.set_cons_zero, List.set_cons_succ, i64_w, i32_w]
                                                     rfl
                                                   refine pure_ (i := 22) (N := some 112) (v := ?_) (a' := ?_) #[true, true, true, true, true, true, false, false, true, true, true, true, true, true, true, true, false, false, false, true, true, true, true, false, false, false, false, false, false, false, false, false, false, false, false, false, false, false, false, false] rfl rfl (any_of HT_.out (by kernel_rfl)) (fun _ _ _ h => h) (Or.inl ⟨by rfl, ?_⟩) ?_ ?_
                                                   rotate_left
                                                   · intro w'
                                                     go_simp
                                                     with_reducible rfl
                                                   rotate_left
                                                   · simp only [Act.put, List.setIfInBounds_toArray, List.set_cons_zero, List.set_cons_succ, i64_w, i32_w]
                                                     rfl
                                                   refine pure_ (i := 23) (N := some 113) (v := ?_) (a' := ?_) #[true, true, true, true, true, true, false, false, true, true, true, true, true, true, true, true, false, false, false, true, true, true, true, true, false, false, false, false, false, false, false, false, false, false, false, false, false, false, false, false] rfl rfl (any_of HT_.out (by kernel_rfl)) (fun _ _ _ h => h) (Or.inl ⟨by rfl, ?_⟩) ?_ ?_
                                                   rotate_left
                                                   · intro w'
                                                     go_simp
                                                     with_reducible rfl
                                                   rotate_left
                                                   · simp only [Act.put, List.setIfInBounds_toArray, List.set_cons_zero, List.set_cons_succ, i64_w, i32_w]
                                                     rfl
                                                   refine pure_ (i := 24) (N := some 114) (v := ?_) (a' := ?_) #[true, true, true, true, true, true, false, false, true, true, true, true, true, true, true, true, false, false, false, true, true, true, true, true, true, false, false, false, false, false, false, false, false, false, false, false, false, false, false, false] rfl rfl (any_of HT_.out (by kernel_rfl)) (fun _ _ _ h => h) (Or.inl ⟨by rfl, ?_⟩) ?_ ?_
                                                   rotate_left
                                                   · intro w'
                                                     go_simp
                                                     with_reducible rfl
                                                   rotate_left
                                                   · simp only [Act.put, List.setIfInBounds_toArray, List.set_cons_zero, List.set_cons_succ, i64_w, i32_w]
                                                     rfl
                                                   refine pure_ (i := 25) (N := some 115) (v := ?_) (a' := ?_) #[true, true, true, true, true, true, false, false, true, true, true, true, true, true, true, true, false, false, false, true, true, true, true, true, true, true, false, false, false, false, false, false, false, false, false, false, false, false, false, false] rfl rfl (any_of HT_.out (by kernel_rfl)) (fun _ _ _ h => h) (Or.inl ⟨by rfl, ?_⟩) ?_ ?_
                                                   rotate_left
                                                   · intro w'
                                                     go_simp
                                                     with_reducible rfl
                                                   rotate_left
                                                   · simp only [Act.put, List.setIfInBounds_toArray, List.set_cons_zero, List.set_cons_succ, i64_w, i32_w]
                                                     rfl
                                                   refine pure_ (i := 26) (N := some 116) (v := ?_) (a' := ?_) #[true, true, true, true, true, true, false, false, true, true, true, true, true, true, true, true, false, false, false, true, true, true, true, true, true, true, true, false, false, false, false, false, false, false, false, false, false, false, false, false] rfl rfl (any_of HT_.out (by kernel_rfl)) (fun _ _ _ h => h) (Or.inl ⟨by rfl, ?_⟩) ?_ ?_
                                                   rotate_left
                                                   · intro w'
                                                     go_simp
                                                     with_reducible rfl
                                                   rotate_left
                                                   · simp only [Act.put, List.setIfInBounds_toArray, List.set_cons_zero, List.set_cons_succ, i64_w, i32_w]
                                                     rfl
                                                   refine pure_ (i := 29) (N := some 119) (v := ?_) (a' := ?_) #[true, true, true, true, true, true, false, false, true, true, true, true, true, true, true, true, false, false, false, true, true, true, true, true, true, true, true, false, false, true, false, false, false, false, false, false, false, false, false, false] rfl rfl (any_of HT_.out (by kernel_rfl)) (fun _ _ _ h => h) (Or.inl ⟨by rfl, ?_⟩) ?_ ?_
                                                   rotate_left
                                                   · intro w'
                                                     go_simp
                                                     with_reducible rfl
                                                   rotate_left
                                                   · simp only [Act.put, List.setIfInBounds_toArray, List.set_cons_zero, List.set_cons_succ, i64_w, i32_w]
                                                     rfl
                                                   refine pure_ (i := 30) (N := some 120) (v := ?_) (a' := ?_) #[true, true, true, true, true, true, false, false, true, true, true, true, true, true, true, true, false, false, false, true, true, true, true, true, true, true, true, false, false, true, true, false, false, false, false, false, false, false, false, false] rfl rfl (any_of HT_.out (by kernel_rfl)) (fun _ _ _ h => h) (Or.inl ⟨by rfl, ?_⟩) ?_ ?_
                                                   rotate_left
                                                   · intro w'
                                                     go_simp
                                                     with_reducible rfl
                                                   rotate_left
                                                   · simp only [Act.put, List.setIfInBounds_toArray, List.set_cons_zero, List.set_cons_succ, i64_w, i32_w]
                                                     rfl
                                                   refine pure_ (i := 31) (N := some 121) (v := ?_) (a' := ?_) #[true, true, true, true, true, true, false, false, true, true, true, true, true, true, true, true, false, false, false, true, true, true, true, true, true, true, true, false, false, true, true, true, false, false, false, false, false, false, false, false] rfl rfl (any_of HT_.out (by kernel_rfl)) (fun _ _ _ h => h) (Or.inl ⟨by rfl, ?_⟩) ?_ ?_
                                                   rotate_left
                                                   · intro w'
                                                     go_simp
                                                     with_reducible rfl
                                                   rotate_left
                                                   · simp only [Act.put, List.setIfInBounds_toArray, List.set_cons_zero, List.set_cons_succ, i64_w, i32_w]
                                                     rfl
                                                   refine pure_ (i := 32) (N := some 122) (v := ?_) (a' := ?_) #[true, true, true, true, true, true, false, false, true, true, true, true, true, true, true, true, false, false, false, true, true, true, true, true, true, true, true, false, false, true, true, true, true, false, false, false, false, false, false, false] rfl rfl (any_of HT_.out (by kernel_rfl)) (fun _ _ _ h => h) (Or.inl ⟨by rfl, ?_⟩) ?_ ?_
                                                   rotate_left
                                                   · intro w'
                                                     go_simp
                                                     with_reducible rfl
                                                   rotate_left
                                                   · simp only [Act.put, List.setIfInBounds_toArray, List.set_cons_zero, List.set_cons_succ, i64_w, i32_w]
                                                     rfl
                                                   refine pure_ (i := 33) (N := some 123) (v := ?_) (a' := ?_) #[true, true, true, true, true, true, false, false, true, true, true, true, true, true, true, true, false, false, false, true, true, true, true, true, true, true, true, false, false, true, true, true, true, true, false, false, false, false, false, false] rfl rfl (any_of HT_.out (by kernel_rfl)) (fun _ _ _ h => h) (Or.inl ⟨by rfl, ?_⟩) ?_ ?_
                                                   rotate_left
                                                   · intro w'
                                                     go_simp
                                                     with_reducible rfl
                                                   rotate_left
                                                   · simp only [Act.put, List.setIfInBounds_toArray, List.set_cons_zero, List.set_cons_succ, i64_w, i32_w]
                                                     rfl
                                                   refine pure_ (i := 34) (N := some 124) (v := ?_) (a' := ?_) #[true, true, true, true, true, true, false, false, true, true, true, true, true, true, true, true, false, false, false, true, true, true, true, true, true, true, true, false, false, true, true, true, true, true, true, false, false, false, false, false] rfl rfl (any_of HT_.out (by kernel_rfl)) (fun _ _ _ h => h) (Or.inl ⟨by rfl, ?_⟩) ?_ ?_
                                                   rotate_left
                                                   · intro w'
                                                     go_simp
                                                     with_reducible rfl
                                                   rotate_left
                                                   · simp only [Act.put, List.setIfInBounds_toArray, List.set_cons_zero, List.set_cons_succ, i64_w, i32_w]
                                                     rfl
                                                   refine pure_ (i := 35) (N := some 125) (v := ?_) (a' := ?_) #[true, true, true, true, true, true, false, false, true, true, true, true, true, true, true, true, false, false, false, true, true, true, true, true, true, true, true, false, false, true, true, true, true, true, true, true, false, false, false, false] rfl rfl (any_of HT_.out (by kernel_rfl)) (fun _ _ _ h => h) (Or.inl ⟨by rfl, ?_⟩) ?_ ?_
                                                   rotate_left
                                                   · intro w'
                                                     go_simp
                                                     with_reducible rfl
                                                   rotate_left
                                                   · simp only [Act.put, List.setIfInBounds_toArray, List.set_cons_zero, List.set_cons_succ, i64_w, i32_w]
                                                     rfl
                                                   refine pure_ (i := 36) (N := some 126) (v := ?_) (a' := ?_) #[true, true, true, true, true, true, false, false, true, true, true, true, true, true, true, true, false, false, false, true, true, true, true, true, true, true, true, false, false, true, true, true, true, true, true, true, true, false, false, false] rfl rfl (any_of HT_.out (by kernel_rfl)) (fun _ _ _ h => h) (Or.inl ⟨by rfl, ?_⟩) ?_ ?_
                                                   rotate_left
                                                   · intro w'
                                                     go_simp
                                                     with_reducible rfl
                                                   rotate_left
                                                   · simp only [Act.put, List.setIfInBounds_toArray, List.set_cons_zero, List.set_cons_succ, i64_w, i32_w]
                                                     rfl
                                                   refine take_ (i := 6) (N := some 96) (v := ?_) (a' := ?_) #[true, true, true, true, true, true, true, false, true, true, true, true, true, true, true, true, false, false, false, true, true, true, true, true, true, true, true, false, false, true, true, true, true, true, true, true, true, false, false, false] rfl rfl (take_ofW HT_.out HW_.out (by kernel_rfl)) (fun _ _ _ h => h) (Or.inl ⟨by rfl, ?_⟩) hHeld ?_ ?_
                                                   rotate_left
                                                   · rintro w' ⟨s0, s1, s2, s3⟩
                                                     go_simp
                                                     with_reducible rfl
                                                   rotate_left
                                                   · simp only [Act.put, List.setIfInBounds_toArray, List.set_cons_zero, List.set_cons_succ, i64_w, i32_w]
                                                     rfl
                                                   refine take_ (i := 16) (N := some 106) (v := ?_) (a' := ?_) #[true, true, true, true, true, true, true, false, true, true, true, true, true, true, true, true, true, false, false, true, true, true, true, true, true, true, true, false, false, true, true, true, true, true, true, true, true, false, false, false] rfl rfl (take_ofW HT_.out HW_.out (by kernel_rfl)) (fun _ _ _ h => h) (Or.inl ⟨by rfl, ?_⟩) hHeld ?_ ?_
                                                   rotate_left
                                                   · rintro w' ⟨s0, s1, s2, s3⟩
                                                     go_simp
                                                     with_reducible rfl
                                                   rotate_left
                                                   · simp only [Act.put, List.setIfInBounds_toArray, List.set_cons_zero, List.set_cons_succ, i64_w, i32_w]
                                                     rfl
                                                   refine take_ (i := 27) (N := some 117) (v := ?_) (a' := ?_) #[true, true, true, true, true, true, true, false, true, true, true, true, true, true, true, true, true, false, false, true, true, true, true, true, true, true, true, true, false, true, true, true, true, true, true, true, true, false, false, false] rfl rfl (take_ofW HT_.out HW_.out (by kernel_rfl)) (fun _ _ _ h => h) (Or.inl ⟨by rfl, ?_⟩) hHeld ?_ ?_
                                                   rotate_left
                                                   · rintro w' ⟨s0, s1, s2, s3⟩
                                                     go_simp
                                                     with_reducible rfl
                                                   rotate_left
                                                   · simp only [Act.put, List.setIfInBounds_toArray, List.set_cons_zero, List.set_cons_succ, i64_w, i32_w]
                                                     rfl
                                                   refine take_ (i := 37) (N := some 127) (v := ?_) (a' := ?_) #[true, true, true, true, true, true, true, false, true, true, true, true, true, true, true, true, true, false, false, true, true, true, true, true, true, true, true, true, false, true, true, true, true, true, true, true, true, true, false, false] rfl rfl (take_ofW HT_.out HW_.out (by kernel_rfl)) (fun _ _ _ h => h) (Or.inl ⟨by rfl, ?_⟩) hHeld ?_ ?_
                                                   rotate_left
                                                   · rintro w' ⟨s0, s1, s2, s3⟩
                                                     go_simp
                                                     with_reducible rfl
                                                   rotate_left
                                                   · simp only [Act.put, List.setIfInBounds_toArray, List.set_cons_zero, List.set_cons_succ, i64_w, i32_w]
                                                     rfl
                                                   refine one_ (i := 7) (N := some 97) #[true, true, true, true, true, true, true, true, true, true, true, true, true, true, true, true, true, false, false, true, true, true, true, true, true, true, true, true, false, true, true, true, true, true, true, true, true, true, false, false] rfl rfl (one_of HT_.out (by kernel_rfl)) (by decide) (fun K hK => ?_)
                                                   refine goes_ Try.func31 (by kernel_rfl) rfl #[.int .u8 2, .int .u8 (rd x11_3 (ji40))] (by rfl) rfl rfl (by (try simp only [List.map_toArray, List.map_cons, List.map_nil]); first | done | (simp only [hji40]; rfl) | rfl | (simp only [List.length_drop, List.length_take]; rfl)) ?_
                                                   with_reducible refine (charterref03_Times.calls k5 2 (rd x11_3 (ji40)) t220 _ A44.out).mono ?_
                                                   rintro e w' ⟨rfl, ⟨nd_1, rfl⟩⟩
                                                   refine ⟨_, rfl, ?_⟩
                                                   refine hK.out _ _ ⟨hHeld.1, hHeld.2.1, hHeld.2.2.1, hHeld.2.2.2⟩ (fun hHeld => ?_)
                                                   clear hK K
                                                   refine norm_ (a' := ?_) ?_ ?_
                                                   rotate_left
                                                   · show Act.put _ (some 97) _ = _
                                                     simp only [Act.put, List.setIfInBounds_toArray, List.set_cons_zero, List.set_cons_succ, i64_w, i32_w]
                                                     rfl
                                                   refine one_ (i := 17) (N := some 107) #[true, true, true, true, true, true, true, true, true, true, true, true, true, true, true, true, true, true, false, true, true, true, true, true, true, true, true, true, false, true, true, true, true, true, true, true, true, true, false, false] rfl rfl (one_of HT_.out (by kernel_rfl)) (by decide) (fun K hK => ?_)
                                                   refine goes_ Try.func31 (by kernel_rfl) rfl #[.int .u8 3, .int .u8 (rd x11_3 (ji45))] (by rfl) rfl rfl (by (try simp only [List.map_toArray, List.map_cons, List.map_nil]); first | done | (simp only [hji45]; rfl) | rfl | (simp only [List.length_drop, List.length_take]; rfl)) ?_
                                                   with_reducible refine (charterref03_Times.calls k5 3 (rd x11_3 (ji45)) t222 _ A48.out).mono ?_
                                                   rintro e w' ⟨rfl, ⟨nd_2, rfl⟩⟩
                                                   refine ⟨_, rfl, ?_⟩
                                                   refine hK.out _ _ ⟨hHeld.1, hHeld.2.1, hHeld.2.2.1, hHeld.2.2.2⟩ (fun hHeld => ?_)
                                                   clear hK K
                                                   refine norm_ (a' := ?_) ?_ ?_
                                                   rotate_left
                                                   · show Act.put _ (some 107) _ = _
                                                     simp only [Act.put, List.setIfInBounds_toArray, List.set_cons_zero, List.set_cons_succ, i64_w, i32_w]
                                                     rfl
                                                   refine pure_ (i := 18) (N := some 108) (v := ?_) (a' := ?_) #[true, true, true, true, true, true, true, true, true, true, true, true, true, true, true, true, true, true, true, true, true, true, true, true, true, true, true, true, false, true, true, true, true, true, true, true, true, true, false, false] rfl rfl (any_of HT_.out (by kernel_rfl)) (fun _ _ _ h => h) (Or.inl ⟨by rfl, ?_⟩) ?_ ?_
                                                   rotate_left
                                                   · intro w'
                                                     go_simp
                                                     with_reducible rfl
                                                   rotate_left
                                                   · simp only [Act.put, List.setIfInBounds_toArray, List.set_cons_zero, List.set_cons_succ, i64_w, i32_w]
                                                     rfl
                                                   refine pure_ (i := 28) (N := some 118) (v := ?_) (a' := ?_) #[true, true, true, true, true, true, true, true, true, true, true, true, true, true, true, true, true, true, true, true, true, true, true, true, true, true, true, true, true, true, true, true, true, true, true, true, true, true, false, false] rfl rfl (any_of HT_.out (by kernel_rfl)) (fun _ _ _ h => h) (Or.inl ⟨by rfl, ?_⟩) ?_ ?_
                                                   rotate_left
                                                   · intro w'
                                                     go_simp
                                                     with_reducible rfl
                                                   rotate_left
                                                   · simp only [Act.put, List.setIfInBounds_toArray, List.set_cons_zero, List.set_cons_succ, i64_w, i32_w]
                                                     rfl
                                                   refine pure_ (i := 38) (N := some 128) (v := ?_) (a' := ?_) #[true, true, true, true, true, true, true, true, true, true, true, true, true, true, true, true, true, true, true, true, true, true, true, true, true, true, true, true, true, true, true, true, true, true, true, true, true, true, true, false] rfl rfl (any_of HT_.out (by kernel_rfl)) (fun _ _ _ h => h) (Or.inl ⟨by rfl, ?_⟩) ?_ ?_
                                                   rotate_left
                                                   · intro w'
                                                     go_simp
                                                     with_reducible rfl
                                                   rotate_left
                                                   · simp only [Act.put, List.setIfInBounds_toArray, List.set_cons_zero, List.set_cons_succ, i64_w, i32_w]
                                                     rfl
                                                   refine pure_ (i := 39) (N := some 16) (v := ?_) (a' := ?_) #[true, true, true, true, true, true, true, true, true, true, true, true, true, true, true, true, true, true, true, true, true, true, true, true, true, true, true, true, true, true, true, true, true, true, true, true, true, true, true, true] rfl rfl (any_of HT_.out (by kernel_rfl)) (fun _ _ _ h => h) (Or.inl ⟨by rfl, ?_⟩) ?_ ?_
                                                   rotate_left
                                                   · intro w'
                                                     go_simp
                                                     with_reducible rfl
                                                   rotate_left
                                                   · simp only [Act.put, List.setIfInBounds_toArray, List.set_cons_zero, List.set_cons_succ, i64_w, i32_w]
                                                     rfl
                                                   refine done_ (done_of HT_.out (by kernel_rfl)) ?_
                                                   (try rw [World.drewN_drewN])
                                                   generalize hq_ : World.drewN w61 (nd_1 + nd_2) = w61
                                                   first | have n0_ := Aside0.mk (Kd.N_at hq_ HO_7.out) | have n0_ := Aside0.mk (Kd.R_at hq_ HO_7.out)
                                                   first | have n1_ := Aside0.mk (Kd.N_at hq_ HO_8.out) | have n1_ := Aside0.mk (Kd.R_at hq_ HO_8.out)
                                                   first | have n2_ := Aside0.mk (Kd.N_at hq_ HO_11.out) | have n2_ := Aside0.mk (Kd.R_at hq_ HO_11.out)
                                                   have n3_ := Aside0.mk (below_at hq_ HB.out)
                                                   clear hq_ HO_7 HO_8 HO_11 HB
                                                   have HO_7 := n0_
                                                   have HO_8 := n1_
                                                   have HO_11 := n2_
                                                   have HB := n3_
                                                   clear n0_ n1_ n2_ n3_
                                                   obtain ⟨Ao62, co62, eo62⟩ := Kd.N_slice HO_7.out
                                                   subst eo62
                                                   have p225 : 0 ≤ (x10_2 : Int) := of_decide_eq_true (by first | (with_reducible assumption) | assumption)
                                                   have q225 : x10_2 < (t199.length : Int) := of_decide_eq_true (by first | (with_reducible assumption) | assumption)
                                                   obtain ⟨ad225, A225_0, c225_0, e225, hx225_0, hl225_0, hi225_0⟩ := at_L1 (Kd.N_reads' HO_7.out).2.2 x10_2 p225 q225
                                                   cases e225
                                                   obtain ⟨ce225, hce225, hMe225, hcc225⟩ := Kd.N_get HO_7.out [] x10_2 p225 (by first | exact q225 | exact of_decide_eq_true (by first | (with_reducible assumption) | assumption) | (have e_ := (Kd.N_reads' HO_7.out).1; omega))
                                                   obtain ⟨ua225_0, uc225_0, rfl, ul225_0, ge225_0⟩ := Kd.FK_slice_open hMe225
                                                   have hv225_0 := hcc225 0 _ rfl
                                                   rw [Nat.add_zero, show ((Kd.slice 5 (Kd.int .u8))).sz = 1 from rfl, Nat.mul_one] at hv225_0
                                                   replace hv225_0 := Option.some.inj (hv225_0.symm.trans hx225_0)
                                                   injection hv225_0 with hva_ hvn_ hvc_
                                                   rw [hva_] at ge225_0
                                                   rw [hvc_] at ul225_0
                                                   have HL225_0 := Aside0.mk (show Kd.V (Kd.int .u8) 5 _ w.heap.size _ _ (rd_L1 t199 x10_2) from Kd.V_mk ul225_0 ge225_0)
                                                   clear hva_ hvn_ hvc_ ge225_0 ul225_0
                                                   clear hcc225 hce225
                                                   have HR225_0 := Aside0.mk hi225_0
                                                   have HC225_0 := Aside0.mk hl225_0
                                                   clear hi225_0 hl225_0
                                                   replace p225 := eq_true p225
                                                   replace q225 := eq_true q225
                                                   have p226 : 0 ≤ ((ji40) : Int) := of_decide_eq_true (by first | (with_reducible assumption) | assumption)
                                                   have q226 : (ji40) < ((rd_L1 t199 x10_2).length : Int) := of_decide_eq_true (by first | (with_reducible assumption) | assumption)
                                                   obtain ⟨ad226, e226, hx226_0⟩ := Kd.at_int (by repeat (first | (with_reducible exact HR225_0.out) | (with_reducible refine Kd.C_alloc ?_ _) | (with_reducible refine Kd.C_drewN ?_ _) | (with_reducible refine Kd.C_drew ?_) | exact HR225_0.out)) (ji40) p226 q226
                                                   cases e226
                                                   replace p226 := eq_true p226
                                                   replace q226 := eq_true q226
                                                   have p59 : 0 ≤ ((ji40) : Int) := of_decide_eq_true (by first | (with_reducible assumption) | assumption)
                                                   have q59 : ((ji40) : Int) < ((x8_5.length : Int) : Int) := of_decide_eq_true (by first | (with_reducible assumption) | assumption)
                                                   obtain ⟨go59, co59, eo59, gb59, gl59, cl59, HG59⟩ := Kd.R_form HO_8.out (by omega)
                                                   (first | cases eo59 | (injection eo59 with ea_ en_ ec_; (first | subst ea_ | (injection ea_ with ea_; subst ea_)); subst ec_; clear en_))
                                                   have GB59 := Aside0.mk gb59
                                                   have GG59 := Aside0.mk HG59
                                                   clear gb59 gl59 HG59
                                                   obtain ⟨hx59_0, hf59_0⟩ := Kd.R_celln 0 HO_8.out ((ji40) : Int) p59 q59
                                                   replace p59 := eq_true p59
                                                   replace q59 := eq_true q59
                                                   obtain ⟨hy63_, hz63_⟩ := Kd.R_celln 0 HO_8.out ((ji40) : Int) (of_decide_eq_true (by first | (with_reducible assumption) | assumption)) (of_decide_eq_true (by first | (with_reducible assumption) | assumption))
                                                   have HP63 := Kd.R_putg HO_8.out ((ji40) : Int) (Go.bits .xor .u8 (Go.bits .xor .u8 (Go.bits .xor .u8 (Go.bits .xor .u8 t220 t222) (rd x11_3 (ji49))) (rd x11_3 (ji52))) (rd (rd_L1 t199 x10_2) (ji40)))
                                                   try go_wp2_with (first | ((with_reducible refine gate_store (t := 5) (p := 146) rfl ?_); refine store_event (t := 5) (p := 146) (v := ?vo_w64) (w1 := (w61.setCell ⟨go59, ((ji40) : Int).toNat, none⟩ (.int .u8 (Go.bits .xor .u8 (Go.bits .xor .u8 (Go.bits .xor .u8 (Go.bits .xor .u8 t220 t222) (rd x11_3 (ji49))) (rd x11_3 (ji52))) (rd (rd_L1 t199 x10_2) (ji40)))))) ?hg ?ho ?hn ?hr ?_; (case ho => rfl); (case hg => rfl); (case hn => rfl); (case hr => first | (go_simp; done) | (go_simp; rfl)); intro w64 hw; have hg : w61.grownBy w64 (some go59) := (by rw [hw]; exact HP63.2); have hp_ : Kd.R (Kd.int .u8) 5 w64 w.heap.size (fun k_ => some k_ ≠ (.slice (some ad218) x11_3.length co60 : Value).ownBlock) (.slice (some ⟨go59, 0, none⟩) x8_5.length co59) y227 := (by rw [hw, Ny227.out]; exact HP63.1); clear HP63; have n0_ := Aside0.mk (Kd.N_afterv (v := (.slice (some ⟨go59, 0, none⟩) x8_5.length co59)) (v1 := (.slice (some ⟨go59, 0, none⟩) x8_5.length co59)) (ok := (fun k_ => some k_ ≠ (.slice (some ad218) x11_3.length co60 : Value).ownBlock)) (by (with_reducible repeat (first | apply Kd.N_alloc | apply Kd.N_drewN | apply Kd.N_drew)); exact Kd.N_mono HO_7.out (fun _ hk => ⟨hk.2, hk.1⟩)) hg (.inl rfl)); have n1_ := Aside0.mk (hp_); have n2_ := Aside0.mk (Kd.R_after (v := (.slice (some ⟨go59, 0, none⟩) x8_5.length co59)) (v1 := (.slice (some ⟨go59, 0, none⟩) x8_5.length co59)) (ok := (fun _ => True)) (by (with_reducible repeat (first | apply Kd.R_alloc | apply Kd.R_drewN | apply Kd.R_drew)); exact Kd.R_mono HO_11.out (fun _ hk => ⟨trivial, hk⟩)) hg (.inl rfl)); have n3_ := Aside0.mk (Kd.V_afterv (v := (.slice (some ⟨go59, 0, none⟩) x8_5.length co59)) (v1 := (.slice (some ⟨go59, 0, none⟩) x8_5.length co59)) (ok := (fun k_ => some k_ ≠ (.slice (some ad225) t199.length co62 : Value).ownBlock ∧ some k_ ≠ (.slice (some ad218) x11_3.length co60 : Value).ownBlock)) (by (with_reducible repeat (first | apply Kd.V_alloc | apply Kd.V_drewN | apply Kd.V_drew)); exact Kd.V_mono HL225_0.out (fun _ hk => ⟨⟨hk.2, hk.1.2⟩, hk.1.1⟩)) hg (.inl rfl)); have n4_ := Aside0.mk ((by rw [hw]; exact below_set (HB.out) GB59.out : Below w.heap.size w w64)); clear HO_7; clear HO_8; clear HO_11; clear HL225_0; clear HB; have HO_7 := n0_; have HO_8 := n1_; have HO_11 := n2_; have HL225_0 := n3_; have HB := n4_; clear n0_ n1_ n2_ n3_ n4_; clear hg hw hp_))
                                                   go_roundg k5
                                                   case measure => have := HK1.out; have := HK2.out; have := HK3.out; have := HK4.out; have := HK5.out; omega
                                                   case rel => exact ⟨(y227), (wrap64 (x15_5 + 1)), (by first | rfl | (simp; done) | (simp [*]; done)), H', ⟨by have := HK1.out; have := HK2.out; have := HK3.out; have := HK4.out; have := HK5.out; omega⟩, ⟨by (with_reducible repeat (first | apply Kd.N_alloc | apply Kd.N_drewN | apply Kd.N_drew)); exact Kd.N_mono HO_7.out (fun _ hk => ⟨hk.2, hk.1⟩)⟩, ⟨by (with_reducible repeat (first | apply Kd.R_alloc | apply Kd.R_drewN | apply Kd.R_drew)); exact HO_8.out⟩, ⟨by (with_reducible repeat (first | apply Kd.R_alloc | apply Kd.R_drewN | apply Kd.R_drew)); exact Kd.R_mono HO_11.out (fun _ hk => hk.2)⟩, ⟨by repeat (first | (with_reducible first | exact HB.out | apply below_alloc | apply pw_below_drewN | apply below_drew1) | exact HB.out)⟩⟩
                                                 · rw [if_neg c58] at H
                                                   exact absurd H (by simp)
                                               · rw [if_neg c57] at H
                                                 exact absurd H (by simp)
                                             · rw [if_neg c56] at H
                                               exact absurd H (by simp)
                                           · rw [if_neg c55] at H
                                             exact absurd H (by simp)
                                         · rw [if_neg c54] at H
                                           exact absurd H (by simp)
                                       · rw [if_neg c53] at H
                                         exact absurd H (by simp)
                                     · rw [if_neg c51] at H
                                       exact absurd H (by simp)
                                   · rw [if_neg c50] at H
                                     exact absurd H (by simp)
                                 · rw [if_neg c47] at H
                                   exact absurd H (by simp)
                               · rw [if_neg c46] at H
                                 exact absurd H (by simp)
                             · rw [if_neg c43] at H
                               have c43b0 : decide (x10_2 < 10) = false := decide_eq_false c43
                               clear c43
                               by_cases c65 : 0 ≤ x10_2
                               · rw [if_pos c65] at H
                                 have c65b0 : decide (0 ≤ x10_2) = true := decide_eq_true c65
                                 clear c65
                                 by_cases c66 : x10_2 < (t199.length : Int)
                                 · rw [if_pos c66] at H
                                   have c66b0 : decide (x10_2 < (t199.length : Int)) = true := decide_eq_true c66
                                   clear c66
                                   by_cases c67 : (ji40) < ((rd_L1 t199 x10_2).length : Int)
                                   · rw [if_pos c67] at H
                                     have c67b0 : decide ((ji40) < ((rd_L1 t199 x10_2).length : Int)) = true := decide_eq_true c67
                                     clear c67
                                     by_cases c68 : (ji40) < (x8_5.length : Int)
                                     · rw [if_pos c68] at H
                                       have c68b0 : decide ((ji40) < (x8_5.length : Int)) = true := decide_eq_true c68
                                       clear c68
                                       obtain ⟨y230, hy230⟩ : ∃ y_ : List Int, y_ = (x8_5.set ((ji40) : Int).toNat (Go.bits .xor .u8 (rd x11_3 (ji40)) (rd (rd_L1 t199 x10_2) (ji40)))) := ⟨_, rfl⟩
                                       replace H : (charterref03_Encrypt.l5 k5 l0 t199 y230 x10_2 x11_3 x14_4 (wrap64 (x15_5 + 1))) = some r := by first | (rw [hy230]; with_reducible exact H) | (have H2_ := (Option.bind_some _ _).symm.trans H; rw [hy230]; with_reducible exact H2_) | (have H2_ := (Option.bind_some _ _).symm.trans H; with_reducible exact H2_) | with_reducible exact H | (rw [hy230]; exact H) | exact H
                                       have Ny230 := Aside0.mk hy230
                                       clear hy230
                                       have H' := Aside0.mk H
                                       clear H
                                       obtain ⟨Ao70, co70, eo70⟩ := Kd.R_slice HO_11.out
                                       subst eo70
                                       have p218 : 0 ≤ ((ji40) : Int) := of_decide_eq_true (by first | (with_reducible assumption) | assumption)
                                       have q218 : (ji40) < (x11_3.length : Int) := of_decide_eq_true (by first | (with_reducible assumption) | assumption)
                                       obtain ⟨ad218, e218, hx218_0⟩ := Kd.at_int (Kd.R_reads' HO_11.out).2.2 (ji40) p218 q218
                                       cases e218
                                       replace p218 := eq_true p218
                                       replace q218 := eq_true q218
                                       obtain ⟨Ao71, co71, eo71⟩ := Kd.N_slice HO_7.out
                                       subst eo71
                                       have p228 : 0 ≤ (x10_2 : Int) := of_decide_eq_true (by first | (with_reducible assumption) | assumption)
                                       have q228 : x10_2 < (t199.length : Int) := of_decide_eq_true (by first | (with_reducible assumption) | assumption)
                                       obtain ⟨ad228, A228_0, c228_0, e228, hx228_0, hl228_0, hi228_0⟩ := at_L1 (Kd.N_reads' HO_7.out).2.2 x10_2 p228 q228
                                       cases e228
                                       obtain ⟨ce228, hce228, hMe228, hcc228⟩ := Kd.N_get HO_7.out [] x10_2 p228 (by first | exact q228 | exact of_decide_eq_true (by first | (with_reducible assumption) | assumption) | (have e_ := (Kd.N_reads' HO_7.out).1; omega))
                                       obtain ⟨ua228_0, uc228_0, rfl, ul228_0, ge228_0⟩ := Kd.FK_slice_open hMe228
                                       have hv228_0 := hcc228 0 _ rfl
                                       rw [Nat.add_zero, show ((Kd.slice 5 (Kd.int .u8))).sz = 1 from rfl, Nat.mul_one] at hv228_0
                                       replace hv228_0 := Option.some.inj (hv228_0.symm.trans hx228_0)
                                       injection hv228_0 with hva_ hvn_ hvc_
                                       rw [hva_] at ge228_0
                                       rw [hvc_] at ul228_0
                                       have HL228_0 := Aside0.mk (show Kd.V (Kd.int .u8) 5 _ w.heap.size _ _ (rd_L1 t199 x10_2) from Kd.V_mk ul228_0 ge228_0)
                                       clear hva_ hvn_ hvc_ ge228_0 ul228_0
                                       clear hcc228 hce228
                                       have HR228_0 := Aside0.mk hi228_0
                                       have HC228_0 := Aside0.mk hl228_0
                                       clear hi228_0 hl228_0
                                       replace p228 := eq_true p228
                                       replace q228 := eq_true q228
                                       have p229 : 0 ≤ ((ji40) : Int) := of_decide_eq_true (by first | (with_reducible assumption) | assumption)
                                       have q229 : (ji40) < ((rd_L1 t199 x10_2).length : Int) := of_decide_eq_true (by first | (with_reducible assumption) | assumption)
                                       obtain ⟨ad229, e229, hx229_0⟩ := Kd.at_int (by repeat (first | (with_reducible exact HR228_0.out) | (with_reducible refine Kd.C_alloc ?_ _) | (with_reducible refine Kd.C_drewN ?_ _) | (with_reducible refine Kd.C_drew ?_) | exact HR228_0.out)) (ji40) p229 q229
                                       cases e229
                                       replace p229 := eq_true p229
                                       replace q229 := eq_true q229
                                       have p69 : 0 ≤ ((ji40) : Int) := of_decide_eq_true (by first | (with_reducible assumption) | assumption)
                                       have q69 : ((ji40) : Int) < ((x8_5.length : Int) : Int) := of_decide_eq_true (by first | (with_reducible assumption) | assumption)
                                       obtain ⟨go69, co69, eo69, gb69, gl69, cl69, HG69⟩ := Kd.R_form HO_8.out (by omega)
                                       (first | cases eo69 | (injection eo69 with ea_ en_ ec_; (first | subst ea_ | (injection ea_ with ea_; subst ea_)); subst ec_; clear en_))
                                       have GB69 := Aside0.mk gb69
                                       have GG69 := Aside0.mk HG69
                                       clear gb69 gl69 HG69
                                       obtain ⟨hx69_0, hf69_0⟩ := Kd.R_celln 0 HO_8.out ((ji40) : Int) p69 q69
                                       replace p69 := eq_true p69
                                       replace q69 := eq_true q69
                                       have HP72 := Kd.R_putg HO_8.out ((ji40) : Int) (Go.bits .xor .u8 (rd x11_3 (ji40)) (rd (rd_L1 t199 x10_2) (ji40)))
                                       go_wp2_with (first | ((with_reducible refine gate_store (t := 5) (p := 146) rfl ?_); refine store_event (t := 5) (p := 146) (v := ?vo_w73) (w1 := (wr.setCell ⟨go69, ((ji40) : Int).toNat, none⟩ (.int .u8 (Go.bits .xor .u8 (rd x11_3 (ji40)) (rd (rd_L1 t199 x10_2) (ji40)))))) ?hg ?ho ?hn ?hr ?_; (case ho => rfl); (case hg => rfl); (case hn => rfl); (case hr => first | (go_simp; done) | (go_simp; rfl)); intro w73 hw; have hg : wr.grownBy w73 (some go69) := (by rw [hw]; exact HP72.2); have hp_ : Kd.R (Kd.int .u8) 5 w73 w.heap.size (fun k_ => some k_ ≠ (.slice (some ad218) x11_3.length co70 : Value).ownBlock) (.slice (some ⟨go69, 0, none⟩) x8_5.length co69) y230 := (by rw [hw, Ny230.out]; exact HP72.1); clear HP72; have n0_ := Aside0.mk (Kd.N_afterv (v := (.slice (some ⟨go69, 0, none⟩) x8_5.length co69)) (v1 := (.slice (some ⟨go69, 0, none⟩) x8_5.length co69)) (ok := (fun k_ => some k_ ≠ (.slice (some ad218) x11_3.length co70 : Value).ownBlock)) (by (with_reducible repeat (first | apply Kd.N_alloc | apply Kd.N_drewN | apply Kd.N_drew)); exact Kd.N_mono HO_7.out (fun _ hk => ⟨hk.2, hk.1⟩)) hg (.inl rfl)); have n1_ := Aside0.mk (hp_); have n2_ := Aside0.mk (Kd.R_after (v := (.slice (some ⟨go69, 0, none⟩) x8_5.length co69)) (v1 := (.slice (some ⟨go69, 0, none⟩) x8_5.length co69)) (ok := (fun _ => True)) (by (with_reducible repeat (first | apply Kd.R_alloc | apply Kd.R_drewN | apply Kd.R_drew)); exact Kd.R_mono HO_11.out (fun _ hk => ⟨trivial, hk⟩)) hg (.inl rfl)); have n3_ := Aside0.mk (Kd.V_afterv (v := (.slice (some ⟨go69, 0, none⟩) x8_5.length co69)) (v1 := (.slice (some ⟨go69, 0, none⟩) x8_5.length co69)) (ok := (fun k_ => some k_ ≠ (.slice (some ad228) t199.length co71 : Value).ownBlock ∧ some k_ ≠ (.slice (some ad218) x11_3.length co70 : Value).ownBlock)) (by (with_reducible repeat (first | apply Kd.V_alloc | apply Kd.V_drewN | apply Kd.V_drew)); exact Kd.V_mono HL228_0.out (fun _ hk => ⟨⟨hk.2, hk.1.2⟩, hk.1.1⟩)) hg (.inl rfl)); have n4_ := Aside0.mk ((by rw [hw]; exact below_set (HB.out) GB69.out : Below w.heap.size w w73)); clear HO_7; clear HO_8; clear HO_11; clear HL228_0; clear HB; have HO_7 := n0_; have HO_8 := n1_; have HO_11 := n2_; have HL228_0 := n3_; have HB := n4_; clear n0_ n1_ n2_ n3_ n4_; clear hg hw hp_))
                                       go_roundg k5
                                       case measure => have := HK1.out; have := HK2.out; have := HK3.out; have := HK4.out; have := HK5.out; omega
                                       case rel => exact ⟨(y230), (wrap64 (x15_5 + 1)), (by first | rfl | (simp; done) | (simp [*]; done)), H', ⟨by have := HK1.out; have := HK2.out; have := HK3.out; have := HK4.out; have := HK5.out; omega⟩, ⟨by (with_reducible repeat (first | apply Kd.N_alloc | apply Kd.N_drewN | apply Kd.N_drew)); exact Kd.N_mono HO_7.out (fun _ hk => ⟨hk.2, hk.1⟩)⟩, ⟨by (with_reducible repeat (first | apply Kd.R_alloc | apply Kd.R_drewN | apply Kd.R_drew)); exact HO_8.out⟩, ⟨by (with_reducible repeat (first | apply Kd.R_alloc | apply Kd.R_drewN | apply Kd.R_drew)); exact Kd.R_mono HO_11.out (fun _ hk => hk.2)⟩, ⟨by repeat (first | (with_reducible first | exact HB.out | apply below_alloc | apply pw_below_drewN | apply below_drew1) | exact HB.out)⟩⟩
                                     · rw [if_neg c68] at H
                                       exact absurd H (by simp)
                                   · rw [if_neg c67] at H
                                     exact absurd H (by simp)
                                 · rw [if_neg c66] at H
                                   exact absurd H (by simp)
                               · rw [if_neg c65] at H
                                 exact absurd H (by simp)
                           · rw [if_neg c42] at H
                             exact absurd H (by simp)
                         · rw [if_neg c41] at H
                           exact absurd H (by simp)
                       · rw [if_neg c39] at H
                         have c39b0 : decide (x15_5 < 4) = false := decide_eq_false c39
                         clear c39
                         have H' := Aside0.mk H
                         clear H
                         go_wp2
                         go_roundg k5
                         case measure => have := HK1.out; have := HK2.out; have := HK3.out; have := HK4.out; have := HK5.out; omega
                         case rel => exact ⟨(x8_5), (wrap64 (x14_4 + 1)), (by first | rfl | (simp; done) | (simp [*]; done)), H', ⟨by have := HK1.out; have := HK2.out; have := HK3.out; have := HK4.out; have := HK5.out; omega⟩, ⟨by (with_reducible repeat (first | apply Kd.N_alloc | apply Kd.N_drewN | apply Kd.N_drew)); exact HO_7.out⟩, ⟨by (with_reducible repeat (first | apply Kd.R_alloc | apply Kd.R_drewN | apply Kd.R_drew)); exact HO_8.out⟩, ⟨by (with_reducible repeat (first | apply Kd.R_alloc | apply Kd.R_drewN | apply Kd.R_drew)); exact HO_11.out⟩, ⟨by repeat (first | (with_reducible first | exact HB.out | apply below_alloc | apply pw_below_drewN | apply below_drew1) | exact HB.out)⟩⟩
                   · rw [if_neg c38] at H
                     have c38b0 : decide (x14_4 < 4) = false := decide_eq_false c38
                     clear c38
                     have H' := Aside0.mk H
                     clear H
                     go_wp2
                     go_roundg k4
                     case measure => have := HK1.out; have := HK2.out; have := HK3.out; have := HK4.out; omega
                     case rel => exact ⟨(x8_4), (wrap64 (x10_2 + 1)), (by first | rfl | (simp; done) | (simp [*]; done)), H', ⟨by have := HK1.out; have := HK2.out; have := HK3.out; have := HK4.out; omega⟩, ⟨by (with_reducible repeat (first | apply Kd.N_alloc | apply Kd.N_drewN | apply Kd.N_drew)); exact Kd.N_mono HO_7.out (fun _ hk => hk.1)⟩, ⟨by (with_reducible repeat (first | apply Kd.R_alloc | apply Kd.R_drewN | apply Kd.R_drew)); exact Kd.R_mono HO_8.out (fun _ hk => trivial)⟩, ⟨by repeat (first | (with_reducible first | exact HB.out | apply below_alloc | apply pw_below_drewN | apply below_drew1) | exact HB.out)⟩⟩
           · rw [if_neg c21] at H
             exact absurd H (by simp)
         · rw [if_neg c20] at H
           have c20b0 : decide (x10_2 ≤ 10) = false := decide_eq_false c20
           clear c20
           obtain rfl := Option.some.inj H
           go_wp2
           go_ret
           exact ⟨_, by first | rfl | (simp [errW_none, errW_some] <;> rfl) | (simp [*, errW_none, errW_some] <;> rfl), by (with_reducible repeat (first | apply Kd.R_alloc | apply Kd.R_drewN | apply Kd.R_drew)); exact HO_8.out, by repeat (first | (with_reducible first | exact HB.out | apply below_alloc | apply pw_below_drewN | apply below_drew1) | exact HB.out)⟩
 · rw [if_neg c5] at H
   exact absurd H (by simp)

end Go.Proofs.Ytpcdkfbngoagnaa.C

-- LEAN
