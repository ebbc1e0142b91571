import Derived.RangeFuncNested
import Derived.RangeFuncBox
import Derived.RangeFuncLeaves
import Derived.RangeFuncCalls
import Derived.Shelf.Abstract
import Derived.Shelf.RegionOpen
import Derived.WalkKit
import Derived.OwnWalkIn
import Derived.TacticsInMore
import Derived.LoopNIn
import Derived.LoopIn
import Derived.Maps.OwnIn
import Derived.Test.YtpcdkfbngoagnaaGWords
set_option linter.unusedSimpArgs false
set_option linter.unusedVariables false
/-! The library's iterator over the pieces of a slice; what a loop over it keeps. -/
namespace Go.Proofs.YtpcdkfbngoagnaaW.PrintMore
open Go.RowKit Go.Shelf Go.Proofs.YtpcdkfbngoagnaaW.PrintWords
section
attribute [local go_sem] Oper.semAt_some

set_option maxHeartbeats 1000000 in
/-- slices.Chunk(s, 16): the slice and the number are boxed; the function value captures the boxes. -/
theorem chunk_in (A : Option Addr) (len cap : Nat) (w : World) :
    Calls Try.prog 39 #[.slice A len cap, .int .i64 16] w fun e w' => e = .returned (.func (.func 44) #[] #[.pointer (some ⟨w.heap.size, 0, none⟩), .pointer (some ⟨w.heap.size + 1, 0, none⟩)]) ∧ w' = (w.alloc (.cells #[.slice A len cap] 25)).alloc (.cells #[.int .i64 16] 3) := by
  go_enter Try.func39, Try.ntmps39
  go_wp2
  go_ret
  exact ⟨rfl, rfl⟩

/-- What a round keeps for Chunk's closure: the two boxes. -/
def KpC (Bs Bn : Nat) (sv : Value) (W W' : World) : Prop :=
  (W.cell? ⟨Bs, 0, none⟩ = some sv → W'.cell? ⟨Bs, 0, none⟩ = some sv) ∧ (W.cell? ⟨Bn, 0, none⟩ = some (.int .i64 16) → W'.cell? ⟨Bn, 0, none⟩ = some (.int .i64 16))
theorem KpC_t {Bs Bn : Nat} {sv : Value} {A B C : World} (h : KpC Bs Bn sv A B) (k : KpC Bs Bn sv B C) : KpC Bs Bn sv A C := ⟨fun x => k.1 (h.1 x), fun x => k.2 (h.2 x)⟩
theorem cell_putObj {W : World} {l : Nat} {o o' : Obj} (hl : W.heap[l]? = some o) (ho : o.isCells = false) {p : Addr} {v : Value} (h : W.cell? p = some v) : (W.putObj l o').cell? p = some v := by
  refine (World.cell?_of_block (w := W) ((grownBy_putObj' W l o').block p.block (World.block_lt_of_cell? W p h) (fun e => ?_))).trans h
  injection e with e
  obtain ⟨b, f, q⟩ := p
  simp only at e
  subst e
  cases o <;> simp_all [World.cell?, Obj.isCells]
theorem KpC_b {Bs Bn : Nat} {sv : Value} {w : World} (W : World) (l : Nat) (o o' : Obj) (_ : w.heap.size ≤ l) (h : W.heap[l]? = some o) (hc : o.isCells = false) (_ : o.isWalk = false) : KpC Bs Bn sv W (W.putObj l o') :=
  ⟨fun x => cell_putObj h hc x, fun x => cell_putObj h hc x⟩
theorem finTake_succ {m k : Nat} (h : k < m) : (List.finRange m).take (k + 1) = (List.finRange m).take k ++ [⟨k, h⟩] := by
  rw [List.take_add_one]
  congr 1
  simp [List.getElem?_eq_getElem, h]
theorem abides_drew {β : Type} {B : Nat} {J : β → World → Prop} (hJ : AbidesFrom B J) {s : β} {W : World} (h : J s W) : J s W.drew := hJ s W W.drew none h ⟨rfl, rfl, rfl, Nat.le_refl _, fun _ _ _ => rfl⟩ (fun r e => by cases e)

set_option maxRecDepth 100000 in
set_option maxHeartbeats 2000000 in
theorem chunk1_in (n : Nat) (hn : 1 ≤ n) (l Bs Bn m cap : Nat) (ad : Addr) (hcap : 16 * m ≤ cap) (hreach : 16 * m ≤ 140737488351232) (J Jx : List (Fin m) → World → Prop) (W : World) (hJ : AbidesFrom W.heap.size J)
    (hY : ∀ pre (x : Fin m) W, J pre W → pre.length < m → YieldAt Fence.wide (n - 1) Try.prog l #[.slice (some (ad.add (16 * x.1))) 16 16] W fun e W' =>
      (e = .returned (.bool true) ∧ J (pre ++ [x]) W' ∧ KpC Bs Bn (.slice (some ad) (16 * m) cap) W W') ∨ (e = .returned (.bool false) ∧ Jx (pre ++ [x]) W'))
    (hBs : W.cell? ⟨Bs, 0, none⟩ = some (.slice (some ad) (16 * m) cap)) (hBn : W.cell? ⟨Bn, 0, none⟩ = some (.int .i64 16)) (h0 : J [] W) :
    CallsIn Fence.wide n Try.prog 44 #[.func (.yield l) #[] #[], .pointer (some ⟨Bs, 0, none⟩), .pointer (some ⟨Bn, 0, none⟩)] W fun e W' => (∃ v, e = .returned v) ∧
      ((∃ ys, ys = List.finRange m ∧ J ys W') ∨ (∃ pre, (∃ k, k ≤ m ∧ pre = (List.finRange m).take k) ∧ Jx pre W')) := by
  refine callsIn_of_wp Try.func44 rfl trivial ?_ rfl
  simp only [Try.ntmps44, List.size_toArray, List.length_cons, List.length_nil, Nat.reduceAdd, Nat.reduceSub, Array.replicate_succ, Array.replicate_zero, List.push_toArray, List.append_toArray, List.nil_append, List.cons_append]
  gi_wp2
  gi_loopw [4] (fun i wr => ∃ k : Nat, k ≤ m ∧ i = .int .i64 ((16 * k : Nat) : Int) ∧ J ((List.finRange m).take k) wr ∧ wr.cell? ⟨Bs, 0, none⟩ = some (.slice (some ad) (16 * m) cap) ∧ wr.cell? ⟨Bn, 0, none⟩ = some (.int .i64 16))
    (fun i _ => 16 * m - (intOf i).toNat)
  case atStart => exact ⟨0, Nat.zero_le _, rfl, h0, hBs, hBn⟩
  case round =>
    obtain ⟨k, hk, rfl, hJs, hcs, hcn⟩ := hrel
    by_cases hlt : k < m
    · have hcs' : wr.drew.cell? ⟨Bs, 0, none⟩ = some (.slice (some ad) (16 * m) cap) := hcs
      have hcn' : wr.drew.cell? ⟨Bn, 0, none⟩ = some (.int .i64 16) := hcn
      obtain ⟨fn, tmps, assign, body, hy, hR⟩ := hY ((List.finRange m).take k) ⟨k, hlt⟩ wr.drew (abides_drew hJ hJs) (by rw [List.length_take, List.length_finRange]; omega)
      have h16 : 16 * k < 16 * m := by omega
      have hm1 := @min_two
      have hm2 := @min2_int
      dsimp only at hy
      gi_wp2
      gi_region
      simp only [Exit.then, Exit.inBlock]
      gi_wp2
      refine hR.mono ?_
      rintro e W3 (⟨rfl, hJ3, hk3⟩ | ⟨rfl, hJx3⟩)
      · have hs3 := hk3.1 hcs'
        have hn3 := hk3.2 hcn'
        gi_wp2
        go_roundw
        case rel => exact ⟨k + 1, by omega, by go_num, by rw [finTake_succ hlt]; exact hJ3, hs3, hn3⟩
        case measure => simp [intOf]; omega
      · gi_wp2
        refine bodyPost_ret (results_none rfl _ _ _) rfl ?_
        exact ⟨⟨_, rfl⟩, .inr ⟨_, ⟨k + 1, by omega, (finTake_succ hlt).symm⟩, hJx3⟩⟩
    · obtain rfl : k = m := by omega
      gi_wp2
      go_end0
      exact ⟨⟨_, rfl⟩, .inl ⟨_, List.take_of_length_le (by simp), hJs⟩⟩

theorem chunk_stops (n : Nat) (hn : 1 ≤ n) (Bs Bn m cap : Nat) (ad : Addr) (hcap : 16 * m ≤ cap) (hreach : 16 * m ≤ 140737488351232) (w : World) (hBs : Bs < w.heap.size) (hBn : Bn < w.heap.size)
    (hc : w.cell? ⟨Bs, 0, none⟩ = some (.slice (some ad) (16 * m) cap)) (hcn : w.cell? ⟨Bn, 0, none⟩ = some (.int .i64 16)) :
    SeqStopsK Fence.wide n Try.prog 44 #[.pointer (some ⟨Bs, 0, none⟩), .pointer (some ⟨Bn, 0, none⟩)] (fun x : Fin m => #[Value.slice (some (ad.add (16 * x.1))) 16 16]) (KpC Bs Bn (.slice (some ad) (16 * m) cap))
      (fun ys => ys = List.finRange m) (fun pre => ∃ k, k ≤ m ∧ pre = (List.finRange m).take k) m w := fun l J Jx W hW hJ _ hY h0 =>
  chunk1_in n hn l Bs Bn m cap ad hcap hreach J Jx W hJ hY ((hW.cell (p := ⟨Bs, 0, none⟩) hBs).trans hc) ((hW.cell (p := ⟨Bn, 0, none⟩) hBn).trans hcn) h0

theorem F_block {W : World} {ok : Nat → Prop} {ad : Addr} {n : Nat} {xs : List Int} (h : Kd.F (Kd.int .u8) W ok (some ad) n xs) (hn : 0 < n) : ok ad.block := by
  apply Classical.byContradiction
  intro hno
  have h1 := h (W.putObj ad.block (.deferred none)) (fun k hk _ => by
    have : k ≠ ad.block := fun e => hno (e ▸ hk)
    exact World.putObj_heap_other this)
  obtain ⟨a2, e2, h2⟩ := Kd.at_int h1 0 (by omega) (by omega)
  obtain ⟨a3, e3, h3⟩ := Kd.at_int (Kd.F_now h) 0 (by omega) (by omega)
  injection e2 with e2
  subst e2
  injection e3 with e3
  subst e3
  have hlt := World.block_lt_of_cell? W _ h3
  rw [add_block] at hlt
  have hs : (W.putObj ad.block (.deferred none)).heap[ad.block]? = some (.deferred none) := World.putObj_heap_same hlt
  have hb := add_block ad ((0 : Int).toNat)
  rw [World.cell?, hb, hs] at h2
  simp at h2
end
def blkAt (t : List Int) (i : Nat) : List Int := (t.drop (16 * i)).take 16
def blkTo (t : List Int) (i : Nat) : List (List Int) := (List.range i).map (blkAt t)
/-- What a slice holds that is read alone, apart from the two boxes and from the row v. -/
def LastR (W : World) (b1 b2 : Nat) (ov lv : Value) (xs : List Int) : Prop :=
  ∃ ad c, lv = .slice (some ad) 16 c ∧ 16 ≤ c ∧ Kd.C (Kd.int .u8) W (some ad) 16 xs ∧ ad.block ≠ b1 ∧ ad.block ≠ b2 ∧ some ad.block ≠ ov.ownBlock
theorem C_block {W W' : World} {ad : Addr} {n : Nat} {xs : List Int} (h : Kd.C (Kd.int .u8) W (some ad) n xs) (hb : W'.heap[ad.block]? = W.heap[ad.block]?) : Kd.C (Kd.int .u8) W' (some ad) n xs := by
  have h2 := Kd.reads_of_C (enc := Value.int .u8) (d := (0 : Int)) (h1 := fun _ => rfl) h
  refine Kd.C_of_reads (enc := Value.int .u8) (d := (0 : Int)) (h1 := fun _ => rfl) ⟨h2.1, h2.2.1, fun hn => ?_⟩
  obtain ⟨ad', e, hc⟩ := h2.2.2 hn
  injection e with e
  subst e
  exact ⟨ad, rfl, fun j hj => (World.cell?_of_block (by rw [add_block]; exact hb)).trans (hc j hj)⟩
theorem C_cells {W : World} {ad : Addr} {n : Nat} {xs : List Int} (h : Kd.C (Kd.int .u8) W (some ad) n xs) (hn : 0 < n) : ∃ o, W.heap[ad.block]? = some o ∧ o.isCells = true := by
  obtain ⟨a2, e2, h2⟩ := Kd.at_int h 0 (by omega) (by omega)
  injection e2 with e2
  subst e2
  have hlt := World.block_lt_of_cell? W _ h2
  rw [add_block] at hlt
  refine ⟨W.heap[ad.block], Array.getElem?_eq_getElem hlt, ?_⟩
  have hb := add_block ad ((0 : Int).toNat)
  rw [World.cell?, hb, Array.getElem?_eq_getElem hlt] at h2
  cases ho : W.heap[ad.block] <;> simp_all [Obj.isCells]
theorem C_lt {W : World} {ad : Addr} {n : Nat} {xs : List Int} (h : Kd.C (Kd.int .u8) W (some ad) n xs) (hn : 0 < n) : ad.block < W.heap.size := by
  obtain ⟨o, ho, _⟩ := C_cells h hn
  exact (Array.getElem?_eq_some_iff.1 ho).1
theorem LastR_grown {W W' : World} {b1 b2 : Nat} {ov lv : Value} {xs : List Int} {row : Option Nat} (h : LastR W b1 b2 ov lv xs) (hg : W.grownBy W' row) (hr : ∀ r, row = some r → ∃ o : Obj, W.heap[r]? = some o ∧ o.isCells = false) : LastR W' b1 b2 ov lv xs := by
  obtain ⟨ad, c, hv, hc, hC, h1, h2, h3⟩ := h
  refine ⟨ad, c, hv, hc, C_block hC (hg.block _ (C_lt hC (by omega)) (fun e => ?_)), h1, h2, h3⟩
  obtain ⟨o, ho, hoc⟩ := hr _ e.symm
  obtain ⟨o', ho', hoc'⟩ := C_cells hC (by omega)
  rw [ho'] at ho
  cases ho
  rw [hoc] at hoc'
  cases hoc'
/-- All but the two boxes lies as it lay. -/
def KeepTwo (b1 b2 : Nat) (W0 W : World) : Prop := W0.heap.size ≤ W.heap.size ∧ ∀ k, k < W0.heap.size → k ≠ b1 → k ≠ b2 → W.heap[k]? = W0.heap[k]?
theorem KeepTwo.refl (b1 b2 : Nat) (W : World) : KeepTwo b1 b2 W W := ⟨Nat.le_refl _, fun _ _ _ _ => rfl⟩
theorem KeepTwo.trans {b1 b2 : Nat} {W0 W W1 : World} (h : KeepTwo b1 b2 W0 W) (k : KeepTwo b1 b2 W W1) : KeepTwo b1 b2 W0 W1 := ⟨Nat.le_trans h.1 k.1, fun i hi h1 h2 => (k.2 i (Nat.lt_of_lt_of_le hi h.1) h1 h2).trans (h.2 i hi h1 h2)⟩
theorem KeepTwo.below {b1 b2 : Nat} {W0 W W1 : World} (h : KeepTwo b1 b2 W0 W) (hb : Below W.heap.size W W1) : KeepTwo b1 b2 W0 W1 := h.trans ⟨hb.size, fun k hk _ _ => hb.block k hk⟩
theorem KeepTwo.grown {b1 b2 : Nat} {W0 W W1 : World} {row : Option Nat} (h : KeepTwo b1 b2 W0 W) (hg : W.grownBy W1 row) (hr : ∀ r, row = some r → W0.heap.size ≤ r) : KeepTwo b1 b2 W0 W1 :=
  ⟨Nat.le_trans h.1 hg.size, fun k hk h1 h2 => (hg.block k (Nat.lt_of_lt_of_le hk h.1) (fun e => by have := hr k e.symm; omega)).trans (h.2 k hk h1 h2)⟩
theorem KeepTwo.set {b1 b2 : Nat} {W0 W : World} (h : KeepTwo b1 b2 W0 W) (b : Nat) (hb : b = b1 ∨ b = b2) (v : Value) : KeepTwo b1 b2 W0 (W.setCell ⟨b, 0, none⟩ v) :=
  h.trans ⟨by simp [World.setCell], fun k _ h1 h2 => Below.heap_setCell W _ v k (by rcases hb with rfl | rfl <;> assumption)⟩
theorem KeepTwo.box {b1 b2 : Nat} {W0 W : World} (h : KeepTwo b1 b2 W0 W) {b : Nat} {t : TypeId} {v : Value} (hb : Boxed W0 b t v) (h1 : b ≠ b1) (h2 : b ≠ b2) : Boxed W b t v := (h.2 b hb.lt h1 h2).trans hb
def SealI (m : Nat) (W0 w : World) (g3 g4 : Nat) (f : List (List Int) → List Int × List Int) (tf : List Int) (pre : List (Fin m)) (W : World) : Prop :=
  ∃ ov lv, Boxed W g3 25 ov ∧ Boxed W g4 25 lv ∧ W.ownsRow W0.heap.size 5 1 ov (f (pre.map fun x => blkAt tf x.1)).1.length (nums .u8 (f (pre.map fun x => blkAt tf x.1)).1) ∧
    LastR W g3 g4 ov lv (f (pre.map fun x => blkAt tf x.1)).2 ∧ KeepTwo g3 g4 W0 W ∧ Below w.heap.size w W
theorem Boxed_nc {W W' : World} {B : Nat} {t : TypeId} {v : Value} {row : Option Nat} (h : Boxed W B t v) (hg : W.grownBy W' row) (hr : ∀ r, row = some r → ∃ o : Obj, W.heap[r]? = some o ∧ o.isCells = false) : Boxed W' B t v := by
  refine h.kept hg (fun e => ?_)
  obtain ⟨o, ho, hc⟩ := hr _ e.symm
  rw [show W.heap[B]? = _ from h] at ho
  cases ho
  cases hc
theorem own_noncells {W W' : World} {base : Nat} {e : TypeId} {size k : Nat} {v : Value} {xs : List Value} {row : Option Nat} (h : W.ownsRow base e size v k xs) (hg : W.grownBy W' row) (hr : ∀ r, row = some r → ∃ o : Obj, W.heap[r]? = some o ∧ o.isCells = false) : W'.ownsRow base e size v k xs := by
  refine h.kept hg ?_
  rcases h.2 with ⟨rfl, _⟩ | ⟨g, cap, cur, rfl, _, hgb, _⟩
  · exact .inl rfl
  · refine .inr fun e' => ?_
    obtain ⟨o, ho, hc⟩ := hr g (by simpa [Value.ownBlock] using e'.symm)
    rw [hgb] at ho; cases ho; cases hc
theorem SealI_own {m : Nat} {W0 w : World} {g3 g4 : Nat} {f : List (List Int) → List Int × List Int} {tf : List Int} (hw : w.heap.size ≤ W0.heap.size) : OwnFrom W0.heap.size (SealI m W0 w g3 g4 f tf) := by
  rintro pre X Y row ⟨ov, lv, h3, h4, ho, hl, hk, hB⟩ hg hrow
  have hr2 : ∀ r, row = some r → ∃ o : Obj, X.heap[r]? = some o ∧ o.isCells = false := fun r e => (hrow r e).2
  exact ⟨ov, lv, Boxed_nc h3 hg hr2, Boxed_nc h4 hg hr2, own_noncells ho hg hr2, LastR_grown hl hg hr2, hk.grown hg (fun r e => (hrow r e).1), hB.grown hg hB.size (fun r e => Nat.le_trans hw (hrow r e).1)⟩
theorem C_blk {W : World} {ad : Addr} {n i : Nat} {t : List Int} (h : Kd.C (Kd.int .u8) W (some ad) n t) (hi : 16 * i + 16 ≤ n) : Kd.C (Kd.int .u8) W (some (ad.add (16 * i))) 16 (blkAt t i) := by
  have hn : t.length = n := h.1
  refine Kd.C_of_reads (enc := Value.int .u8) (d := (0 : Int)) (h1 := fun _ => rfl) ⟨by simp [blkAt]; omega, by omega, fun _ => ⟨_, rfl, fun j hj => ?_⟩⟩
  obtain ⟨a2, e2, h2⟩ := Kd.at_int h ((16 * i + j : Nat) : Int) (by omega) (by omega)
  injection e2 with e2
  subst e2
  rw [Int.toNat_natCast] at h2
  rw [show (ad.add (16 * i)).add j = ad.add (16 * i + j) from add_add _ _ _]
  rw [h2]
  simp only [rd, Int.toNat_natCast, blkAt, List.getD_eq_getElem?_getD, List.getElem?_take, List.getElem?_drop, if_pos hj]
theorem blkAt_len {t : List Int} {i : Nat} (hi : 16 * i + 16 ≤ t.length) : (blkAt t i).length = 16 := by simp [blkAt]; omega
theorem nums_append (k : IntKind) (a b : List Int) : nums k (a ++ b) = nums k a ++ nums k b := by simp [nums]
theorem C_nums {W : World} {X : Addr} {E : List Int} (h : Kd.C (Kd.int .u8) W (some X) 16 E) : ∀ j u, (nums .u8 E)[j]? = some u → W.cell? (X.add j) = some u := by
  intro j u hj
  have hl : E.length = 16 := h.1
  have hj16 : j < 16 := by
    rcases Nat.lt_or_ge j 16 with h' | h'
    · exact h'
    · rw [List.getElem?_eq_none (by simp [nums]; omega)] at hj
      cases hj
  obtain ⟨a2, e2, h2⟩ := Kd.at_int h (j : Int) (by omega) (by omega)
  injection e2 with e2
  subst e2
  rw [Int.toNat_natCast] at h2
  rw [h2]
  simp only [nums, List.getElem?_map, List.getElem?_eq_getElem (show j < E.length by omega), Option.map_some] at hj
  rw [← hj]
  simp [rd, List.getD_eq_getElem?_getD, List.getElem?_eq_getElem (show j < E.length by omega)]
theorem round_end {m : Nat} {W0 w W w3 w4 : World} {g3 g4 Bs Bn n : Nat} {f : List (List Int) → List Int × List Int} {tf ol E L : List Int} {pre : List (Fin m)} {x : Fin m} {ov lv sv v' : Value} (X : Addr) (d : Nat)
    (hg34 : g3 ≠ g4) (hw3 : w.heap.size ≤ g3) (hw4 : w.heap.size ≤ g4) (hw0 : w.heap.size ≤ W0.heap.size) (hYs : Boxed W0 Bs 25 sv) (hYn : Boxed W0 Bn 3 (.int .i64 16)) (hs3 : Bs ≠ g3) (hs4 : Bs ≠ g4) (hn3 : Bn ≠ g3) (hn4 : Bn ≠ g4)
    (h3 : Boxed W g3 25 ov) (h4 : Boxed W g4 25 lv) (hown : W.ownsRow W0.heap.size 5 1 ov n (nums .u8 ol)) (hkt : KeepTwo g3 g4 W0 W) (hB : Below w.heap.size w W)
    (hBW : Below W.heap.size W w3) (hown' : w4.ownsRow W0.heap.size 5 1 v' (n + 16) (nums .u8 ol ++ nums .u8 E)) (hgrow : w3.grownBy w4 ov.ownBlock) (hat : v'.ownBlock = ov.ownBlock ∨ v'.ownBlock = some w3.heap.size)
    (hd : 16 ≤ d) (hC : Kd.C (Kd.int .u8) w3 (some X) 16 L) (hX3 : X.block ≠ g3) (hX4 : X.block ≠ g4) (hXo : some X.block ≠ ov.ownBlock)
    (hn : n = ol.length) (hE : E.length = 16) (hf : f ((pre ++ [x]).map fun x => blkAt tf x.1) = (ol ++ E, L)) :
    KeepsFrom W0.heap.size W ((w4.setCell ⟨g3, 0, none⟩ v').setCell ⟨g4, 0, none⟩ (.slice (some X) 16 d)) ∧ KpC Bs Bn sv W ((w4.setCell ⟨g3, 0, none⟩ v').setCell ⟨g4, 0, none⟩ (.slice (some X) 16 d)) ∧
      SealI m W0 w g3 g4 f tf (pre ++ [x]) ((w4.setCell ⟨g3, 0, none⟩ v').setCell ⟨g4, 0, none⟩ (.slice (some X) 16 d)) := by
  have h3' : Boxed w3 g3 25 ov := (hBW.block g3 h3.lt).trans h3
  have h4' : Boxed w3 g4 25 lv := (hBW.block g4 h4.lt).trans h4
  have hown3 := pw_own_below hown hBW
  have h3'' : Boxed w4 g3 25 ov := h3'.kept hgrow (h3'.not_row (by decide) hown3)
  have h4'' : Boxed w4 g4 25 lv := h4'.kept hgrow (h4'.not_row (by decide) hown3)
  have hrow : ∀ j, ov.ownBlock = some j → W0.heap.size ≤ j := own_base hown
  have hlt := C_lt hC (by omega)
  have hkf : KeepTwo g3 g4 W0 ((w4.setCell ⟨g3, 0, none⟩ v').setCell ⟨g4, 0, none⟩ (.slice (some X) 16 d)) := (((hkt.below hBW).grown hgrow hrow).set g3 (.inl rfl) _).set g4 (.inr rfl) _
  refine ⟨⟨hkf.1 |> fun h => ?_, fun k o hk ho hoc => ?_⟩, ⟨fun _ => (hkf.box hYs hs3 hs4).cell, fun _ => (hkf.box hYn hn3 hn4).cell⟩, v', _, ?_, ?_, ?_, ⟨X, d, rfl, hd, ?_, hX3, hX4, ?_⟩, hkf, ?_⟩
  · simp only [World.setCell, Array.size_modify]
    exact Nat.le_trans hBW.size hgrow.size
  · have hkW : k < W.heap.size := (Array.getElem?_eq_some_iff.1 ho).1
    have e3 : k ≠ g3 := fun e => by rw [e, show W.heap[g3]? = _ from h3] at ho; cases ho; cases hoc
    have e4 : k ≠ g4 := fun e => by rw [e, show W.heap[g4]? = _ from h4] at ho; cases ho; cases hoc
    have ho3 : w3.heap[k]? = some o := (hBW.block k hkW).trans ho
    rw [Below.heap_setCell _ _ _ k e4, Below.heap_setCell _ _ _ k e3, hgrow.block k (Array.getElem?_eq_some_iff.1 ho3).1 (fun e => ?_)]
    · exact ho3
    · rcases hown3.2 with ⟨rfl, _⟩ | ⟨g, cap, cur, rfl, _, hgb, _⟩
      · simp [Value.ownBlock] at e
      · obtain rfl : k = g := by simpa [Value.ownBlock] using e
        rw [hgb] at ho3
        cases ho3
        cases hoc
  · exact (Below.heap_setCell _ _ _ g3 hg34).trans (h3''.set v')
  · refine Boxed.set _ ((Below.heap_setCell _ _ _ g4 (Ne.symm hg34)).trans h4'')
  · rw [hf]
    simp only [List.length_append, hE, nums_append, ← hn]
    have hne3 := (h3''.not_row (by decide) hown').symm
    have hne4 := (h4''.not_row (by decide) hown').symm
    exact (hown'.kept (grownBy_setCell' w4 g3 v') (.inr hne3)).kept (grownBy_setCell' _ g4 _) (.inr hne4)
  · rw [hf]
    refine C_block hC ?_
    rw [Below.heap_setCell _ _ _ _ hX4, Below.heap_setCell _ _ _ _ hX3, hgrow.block _ hlt hXo]
  · rcases hat with e | e
    · rw [e]; exact hXo
    · rw [e]; intro h; injection h with h; omega
  · refine (((below_step hB hBW).grown hgrow ?_ ?_).setCell hw3 _).setCell hw4 _
    · exact Nat.le_trans hB.size hBW.size
    · exact fun j e => Nat.le_trans hw0 (hrow j e)
theorem cell_other_block (W : World) (v : Value) {b c : Nat} (h : c ≠ b) : (W.setCell ⟨b, 0, none⟩ v).cell? ⟨c, 0, none⟩ = W.cell? ⟨c, 0, none⟩ := World.cell?_of_block (w := W) (Below.heap_setCell W ⟨b, 0, none⟩ v c h)
theorem frozen_other_block (W : World) (v : Value) {b c : Nat} (h : c ≠ b) : (W.setCell ⟨b, 0, none⟩ v).frozen? ⟨c, 0, none⟩ = W.frozen? ⟨c, 0, none⟩ := World.frozen?_of_block (w := W) (Below.heap_setCell W ⟨b, 0, none⟩ v c h)
theorem loadVar_cell (W : World) (t : TypeId) (a : Addr) (v : Value) (ha : (isAgg t).run Try.prog W = .ok false W) (hc : W.cell? a = some v) : (loadVar t a).run Try.prog W = .ok v W := by
  simp [loadVar, ha, hc, Result.andThen]
theorem results_2c {fn : Func} {p p' : Tmp} {ty ty' : TypeId} (h : fn.results = #[.cell p ty, .cell p' ty']) (tmps : Array Value) (w : World) (g g' : Nat) (v v' : Value)
    (ha : (isAgg ty).run Try.prog w = .ok false w) (ha' : (isAgg ty').run Try.prog w = .ok false w)
    (hp : tmps.getD p undef = .pointer (some ⟨g, 0, none⟩)) (hp' : tmps.getD p' undef = .pointer (some ⟨g', 0, none⟩)) (hc : w.cell? ⟨g, 0, none⟩ = some v) (hc' : w.cell? ⟨g', 0, none⟩ = some v') :
    (results fn tmps).run Try.prog w = .ok (.tuple #[v, v']) w := by
  have hp2 : tmps[p]?.getD undef = .pointer (some ⟨g, 0, none⟩) := by simpa using hp
  have hp3 : tmps[p']?.getD undef = .pointer (some ⟨g', 0, none⟩) := by simpa using hp'
  have h1 := loadVar_cell w ty ⟨g, 0, none⟩ v ha hc
  have h2 := loadVar_cell w ty' ⟨g', 0, none⟩ v' ha' hc'
  unfold results
  rw [show fn.results = [ResultVar.cell p ty, ResultVar.cell p' ty'].toArray from h, List.mapM_toArray]
  simp only [Sem.run_bind, Sem.run_map]
  simp [List.mapM_cons, hp2, hp3, asAddr, h1, h2, Result.andThen]
theorem agg25 (W : World) : (isAgg 25).run Try.prog W = .ok false W := by kernel_rfl
theorem agg28 (W : World) : (isAgg 28).run Try.prog W = .ok false W := by kernel_rfl
/-- The builtin append, behind a name that the walk does not open. -/
def apnd (ats : Array TypeId) (ty : TypeId) (args : Array Value) : Sem Value := Builtin.append_ ats ty args
theorem builtin_apnd (ats : Array TypeId) (ty : TypeId) (cs : Array Bool) (args : Array Value) : builtin .append ats ty cs args = (do pure (.value (← apnd ats ty args))) := rfl
end Go.Proofs.YtpcdkfbngoagnaaW.PrintMore
