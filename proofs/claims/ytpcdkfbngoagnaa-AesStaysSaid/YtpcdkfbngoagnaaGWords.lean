import Derived.Test.YtpcdkfbngoagnaaProg
import Derived.WalkKit
import Derived.KernelRfl
import Derived.Laws.CopyOwn
import Derived.Laws.Rows
import Derived.Laws.Tables
import Derived.Test.YtpcdkfbngoagnaaWWords
import Derived.Test.YtpcdkfbngoagnaaWMore
set_option linter.unusedSimpArgs false
set_option linter.unusedVariables false
namespace Go.Proofs.YtpcdkfbngoagnaaW.PrintMore
open Go.RowKit Go.Proofs.YtpcdkfbngoagnaaW.PrintWords

/-- An array of n whole numbers: what the list tells of it. -/
def arrV (n : Nat) (k : IntKind) (l : List Int) : Array Value := Array.ofFn (n := n) fun i => .int k (l.getD i 0)
theorem arrV_size (n : Nat) (k : IntKind) (l : List Int) : (arrV n k l).size = n := by simp [arrV]
theorem arrV_get (n : Nat) (k : IntKind) (l : List Int) (i : Nat) (h : i < n) : (arrV n k l)[i]? = some (.int k (l.getD i 0)) := by
  simp [arrV, h]
theorem run_index_arr {P : Program} {t e n : Nat} {k : IntKind} (hu : P.underlying t = some (.array n e)) (hs : ∀ W : World, (sizeOf e).run P W = .ok 1 W) (ha : ∀ W : World, (isAgg e).run P W = .ok false W)
    (l : List Int) (j : Int) (h0 : 0 ≤ j) (h1 : j < n) (k' : IntKind) (W : World) :
    (Instr.index t (.agg (arrV n k l)) (.int k' j)).run P W = .ok (.int k (rd l j)) W := by
  have h2 := arrV_get n k l j.toNat (by omega)
  simp [Instr.index, asIntOf, run_underlying hu, h0, h1, hs, ha, part, h2, rd]
theorem run_index_ar51 (l : List Int) (j : Int) (h0 : 0 ≤ j) (h1 : j < (256 : Nat)) (k' : IntKind) (W : World) : (Instr.index 51 (.agg (arrV 256 .u8 l)) (.int k' j)).run Try.prog W = .ok (.int .u8 (rd l j)) W := run_index_arr Try.underlying51 Try.sizeOf5 Try.isAgg5 l j h0 h1 k' W
theorem V_string {P : Program} {w : World} {src dst e e' base : TypeId} {ok : Nat → Prop} {v : Value} {xs : List Int} (hs : P.underlying src = some (.slice e)) (he : P.underlying e = some (.int .u8)) (hd : P.underlying dst = some .string)
    (h : Kd.V (Kd.int .u8) e' w base ok v xs) : (convert src dst v).run P w = .ok (.string (strOfNums xs)) w := by
  obtain ⟨A, c, rfl, _, hf⟩ := h
  exact Kd.C_string hs he hd (Kd.F_now hf)
/-- The block of a state holds these bytes. -/
def StAt (W : World) (g : Nat) (s : List Int) : Prop := W.heap[g]? = some (.cells (arrV 16 .u8 s) 55 (0, 0))
theorem StAt.cell {W : World} {g : Nat} {s : List Int} (h : StAt W g s) (i : Nat) (hi : i < 16) : W.cell? ⟨g, i, none⟩ = some (.int .u8 (s.getD i 0)) :=
  (blk_cell h i).trans (arrV_get 16 .u8 s i hi)
theorem StAt.set {W : World} {g : Nat} {s : List Int} (h : StAt W g s) (i : Nat) (v : Int) (hi : i < s.length) : StAt (W.setCell ⟨g, i, none⟩ (.int .u8 v)) g (s.set i v) := by
  refine blk_put h i _ ?_
  apply Array.ext
  · simp [arrV]
  · intro j h1 h2
    have hj : j < 16 := by simpa [arrV] using h2
    simp only [arrV, Array.getElem_ofFn]
    rw [Array.getElem_setIfInBounds (by simpa [arrV] using hj)]
    by_cases e : i = j
    · subst e
      simp [List.getD_eq_getElem?_getD, List.getElem?_set, hi]
    · simp [List.getD_eq_getElem?_getD, List.getElem?_set, e]
def xorS (s k : List Int) (n : Nat) : List Int := (List.range s.length).map fun i => if i < n then Go.bits .xor .u8 (s.getD i 0) (k.getD i 0) else s.getD i 0

theorem xorS_length (s k : List Int) (n : Nat) : (xorS s k n).length = s.length := by simp [xorS]
theorem xorS_get {s l : List Int} (k : Nat) (h : k < s.length) : (xorS s l k).getD k 0 = s.getD k 0 := by
  rw [List.getD_eq_getElem?_getD]
  simp [xorS, h]
theorem xorS_zero (s l : List Int) : xorS s l 0 = s := by
  apply List.ext_getElem?
  intro i
  simp only [xorS, List.getElem?_map, List.getElem?_range]
  by_cases h : i < s.length
  · simp [h]
  · simp [h]
theorem xorS_set {s l : List Int} (k : Nat) (h : k < s.length) : (xorS s l k).set k (Go.bits .xor .u8 (s.getD k 0) (l.getD k 0)) = xorS s l (k + 1) := by
  apply List.ext_getElem?
  intro i
  simp only [xorS, List.getElem?_set, List.getElem?_map, List.getElem?_range, List.length_map, List.length_range]
  by_cases h1 : k = i
  · subst h1
    simp [h]
  · by_cases h2 : i < s.length
    · have h3 : (i < k + 1) ↔ i < k := by omega
      simp [h1, h2, h3]
    · simp [h1, h2]


def partL (f : Nat → Int) (n : Nat) : List Int := (List.range 16).map fun i => if i < n then f i else 0
theorem partL_length (f : Nat → Int) (n : Nat) : (partL f n).length = 16 := by simp [partL]
theorem partL_set (f : Nat → Int) (k : Nat) (h : k < 16) : (partL f k).set k (f k) = partL f (k + 1) := by
  apply List.ext_getElem?
  intro i
  simp only [partL, List.getElem?_set, List.getElem?_map, List.getElem?_range, List.length_map, List.length_range]
  by_cases h1 : k = i
  · subst h1
    simp [h]
  · by_cases h2 : i < 16
    · have h3 : (i < k + 1) ↔ i < k := by omega
      simp [h1, h2, h3]
    · simp [h1, h2]
theorem arrV_one (n : Nat) (k : IntKind) (l : List Int) : (arrV n k l).all (·.oneCell') = true := by
  rw [Array.all_eq_true]
  intro i hi
  simp [arrV, Value.oneCell']
theorem keep_setRow {w W : World} {g : Nat} (h : KeepBut w W g none) (cs : Array Value) : KeepBut w (W.setRow g cs) g none :=
  ⟨by rw [setRow_size]; exact h.1, fun i hi hne hr => (setRow_other W g i cs hne).trans (h.2 i hi hne hr)⟩
theorem arrV_part0 (f : Nat → Int) : arrV 16 .u8 (partL f 0) = arrV 16 .u8 [] := by
  apply Array.ext
  · rfl
  · intro i h1 h2
    have hi : i < 16 := by simpa [arrV] using h1
    simp [arrV, partL, List.getD_eq_getElem?_getD, hi]
theorem zero55 (W : World) : (zeroValue 55).run Try.prog W = .ok (.agg (arrV 16 .u8 [])) W := by kernel_rfl

theorem run_loadAt_st (W : World) (ad : Addr) (l : List Int) (hl : l.length = 16) (hc : Kd.C (Kd.int .u8) W (some ad) l.length l) : (Instr.loadAt 55 (.pointer (some ad))).run Try.prog W = .ok (.agg (arrV 16 .u8 l)) W := by
  have h0 := run_loadCells_list (P := Try.prog) W ad (arrV 16 .u8 l).toList (fun j v hj => by
    have hj16 : j < 16 := by
      rcases Nat.lt_or_ge j 16 with h | h
      · exact h
      · rw [List.getElem?_eq_none (by simp [arrV]; omega)] at hj
        cases hj
    rw [Array.getElem?_toList, arrV_get 16 .u8 l j hj16] at hj
    obtain ⟨a2, e2, h2⟩ := Kd.at_int hc (j : Int) (by omega) (by omega)
    injection e2 with e2
    subst e2
    simp only [Int.toNat_natCast, rd] at h2
    rw [h2]
    exact hj)
  have hn : (arrV 16 .u8 l).toList.length = 16 := by simp [arrV]
  rw [hn] at h0
  have hs : (sizeOf 55).run Try.prog W = .ok 16 W := by kernel_rfl
  have ha : (isAgg 55).run Try.prog W = .ok true W := by kernel_rfl
  simp only [Array.toArray_toList] at h0
  simp [Instr.loadAt, Instr.sureAddr, loadVar, Sem.run_bind, ha, hs, h0]
theorem run_arrayAt_st (W : World) (ad : Option Addr) (n c : Nat) (h : 16 ≤ n) : (Instr.arrayAt 55 (.slice ad n c)).run Try.prog W = .ok (.pointer ad) W := by
  have h2 : ¬ n < 16 := by omega
  simp [Instr.arrayAt, run_underlying Try.underlying55, h2]
theorem run_storeAt_st (W : World) (g : Nat) (s l : List Int) (hs : StAt W g s) : (Instr.storeAt 55 (.pointer (some ⟨g, 0, none⟩)) (.agg (arrV 16 .u8 l))).run Try.prog W = .ok () (W.setRow g (arrV 16 .u8 l)) := by
  simp only [Instr.storeAt, Instr.sureAddr, Sem.run_bind, Sem.run_pure, Result.andThen]
  exact run_storeVar_row W g 55 55 _ _ hs (by rw [arrV_size]; kernel_rfl) (by rw [arrV_size, arrV_size]) (arrV_one _ _ _)
end Go.Proofs.YtpcdkfbngoagnaaW.PrintMore
