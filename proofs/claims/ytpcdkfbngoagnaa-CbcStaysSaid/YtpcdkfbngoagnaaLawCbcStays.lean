/- The law CbcStays of charterlaw04 answers true at every input, and the call returns and leaves the caller's memory as it was. Conditions: none beyond those of the given statement. -/
import Derived.Test.YtpcdkfbngoagnaaRows
import Derived.Test.YtpcdkfbngoagnaaPureCbcStays
import Derived.WalkKit
import Derived.ProofKit
import Derived.OpenShut
import Derived.ShutString
import Derived.ChangeOld
import Derived.Below
import Derived.SizedLaws
import Derived.Test.YtpcdkfbngoagnaaWSized
namespace Go.Proofs.Ytpcdkfbngoagnaa.cbcStays
open Go.ChangeShapes Go.WideShapes Go.ChangeAt Go.RowKit Go.Proofs.YtpcdkfbngoagnaaW.PrintWords Go.Proofs.YtpcdkfbngoagnaaW.PrintMore
open Go.ChangeMaps (open_string shut_string)
set_option linter.unusedVariables false
set_option linter.unusedSimpArgs false
theorem own : ownKnob Try.prog.godebug = none := by kernel_rfl
theorem laidOut : laidOutB Try.prog = true := by kernel_rfl
def IsRow (k : IntKind) (w : World) (a : Option Addr) (len cap : Nat) (zs : List Int) : Prop :=
  (a = none ∧ len = 0 ∧ cap = 0 ∧ zs = []) ∨
  ∃ x, a = some x ∧ len ≤ cap ∧ cap ≤ maxLen ∧ zs.length = cap ∧ (∀ i, i < zs.length → w.cell? (x.add i) = some (.int k (zs.getD i 0))) ∧ ∀ n ∈ zs, (Lit.int k n).wf = true
theorem mapM_all {α β : Type} (f : α → Option β) (g : α → β) : ∀ l : List α, (∀ i ∈ l, f i = some (g i)) → l.mapM f = some (l.map g)
  | [], _ => by simp
  | a :: l, h => by
    rw [List.mapM_cons, h a (by simp), mapM_all f g l (fun i hi => h i (by simp [hi]))]
    rfl
/-- An array of sixteen bytes, by value: its bytes, and the same data in whatever world. -/
theorem open_arr {H : Type} {enc : TypeId × Value → H} {W : World} {base : Nat} {sp : Nat → Bool} {v : Value} {d : DataW H} {p : List MemPlace}
    (hval : Value.okWide Try.prog W .any base 39 v) (h0 : DataW.Trod enc Try.prog W 0 sp true 39 v d p) :
    ∃ l : List Int, l.length = 16 ∧ (∀ x ∈ l, (Lit.int .u8 x).wf = true) ∧ v = .agg (arrV 16 .u8 l) ∧ p = [] ∧ ∀ (W' : World) (sp' : Nat → Bool), DataW.Trod enc Try.prog W' 0 sp' true 39 v d [] := by
  obtain ⟨cs, rfl, hsz, _⟩ : ∃ cs, v = .agg cs ∧ cs.size = Try.prog.cellsOf 39 ∧ Row.okWide Try.prog W .any base 39 cs := by
    simpa [Value.okWide, Try.underlying39] using hval
  have hc39 : Try.prog.cellsOf 39 = 16 := by kernel_rfl
  have hc5 : Try.prog.cellsOf 5 = 1 := by kernel_rfl
  obtain ⟨fuel, hf⟩ := h0
  obtain ⟨xs, m, rfl, hx, hl, hn, hat⟩ := DataW.trod_array Try.underlying39 hf
  rw [hc39] at hsz
  obtain ⟨c⟩ := cs
  simp only [Value.cells] at hl hat hf
  have hcl : c.length = 16 := hsz
  have hall : ∀ i, i < 16 → ∃ n, c[i]? = some (.int .u8 n) ∧ xs[i]? = some (.lit (.int .u8 n), []) ∧ (Lit.int .u8 n).wf = true := by
    intro i hi
    have h1 := hat i hi
    rw [hc5, Nat.mul_one] at h1
    obtain ⟨x, hxi⟩ : ∃ x, xs[i]? = some x := ⟨xs[i]'(by omega), List.getElem?_eq_getElem (by omega)⟩
    rw [hxi] at h1
    obtain ⟨n, e1, e2, e3⟩ := DataW.trod_int Try.underlying5 h1
    refine ⟨n, ?_, by rw [hxi, e2], e3⟩
    have h2 : ((c.drop i).take 1)[0]? = some (.int .u8 n) := by rw [e1]; rfl
    rw [List.getElem?_take, if_pos (by decide), List.getElem?_drop, Nat.add_zero] at h2
    exact h2
  obtain ⟨l, hlen, hget⟩ : ∃ l : List Int, l.length = 16 ∧ ∀ i, i < 16 → c[i]? = some (.int .u8 (l.getD i 0)) ∧ xs[i]? = some (.lit (.int .u8 (l.getD i 0)), []) ∧ (Lit.int .u8 (l.getD i 0)).wf = true := by
    refine ⟨c.map (fun v => match v with | .int _ n => n | _ => 0), by simpa using hcl, fun i hi => ?_⟩
    obtain ⟨n, e1, e2, e3⟩ := hall i hi
    have : (c.map (fun v => match v with | .int _ n => n | _ => 0)).getD i 0 = n := by
      rw [List.getD_eq_getElem?_getD, List.getElem?_map, e1]; rfl
    rw [this]
    exact ⟨e1, e2, e3⟩
  have hv : (⟨c⟩ : Array Value) = arrV 16 .u8 l := by
    apply Array.ext
    · simp [arrV, hcl]
    · intro i h1 h2
      have hi : i < 16 := by simpa [arrV] using h2
      have h3 := (hget i hi).1
      rw [List.getElem?_eq_getElem (by omega)] at h3
      have h4 := arrV_get 16 .u8 l i hi
      rw [Array.getElem?_eq_getElem h2] at h4
      exact Option.some.inj (h3.trans h4.symm)
  have hxs : xs = (List.range 16).map (fun i => ((DataW.lit (.int .u8 (l.getD i 0)) : DataW H), ([] : List MemPlace))) := by
    apply List.ext_getElem?
    intro i
    by_cases hi : i < 16
    · rw [(hget i hi).2.1, List.getElem?_map, List.getElem?_range hi]; rfl
    · rw [List.getElem?_eq_none (by omega), List.getElem?_eq_none (by simp; omega)]
  simp only [Prod.mk.injEq] at hx
  obtain ⟨rfl, rfl⟩ := hx
  refine ⟨l, hlen, ?_, by rw [hv], ?_, fun W' sp' => ⟨2, ?_⟩⟩
  · intro x hx
    obtain ⟨i, hi, rfl⟩ := List.mem_iff_getElem.mp hx
    have h3 := (hget i (by omega)).2.2
    rw [List.getD_eq_getElem?_getD, List.getElem?_eq_getElem hi] at h3
    exact h3
  · rw [hxs]; simp
  · have h1 : ∀ i ∈ List.range 16, DataW.trod enc Try.prog W' 0 sp' true 1 5 ((c.drop (i * Try.prog.cellsOf 5)).take (Try.prog.cellsOf 5)) = some ((DataW.lit (.int .u8 (l.getD i 0)) : DataW H), ([] : List MemPlace)) := by
      intro i hi
      have hi := List.mem_range.mp hi
      have h3 := hget i hi
      have h4 : (c.drop i).take 1 = [.int .u8 (l.getD i 0)] := by
        have h5 := h3.1
        rw [List.getElem?_eq_getElem (by omega)] at h5
        rw [List.drop_eq_getElem_cons (by omega), Option.some.inj h5]
        rfl
      rw [hc5, Nat.mul_one, h4]
      simp only [DataW.trod, Try.underlying5]
      rw [if_pos ⟨trivial, h3.2.2⟩]
    have h2 := mapM_all _ _ _ h1
    show DataW.trod enc Try.prog W' 0 sp' true 2 39 c = _
    unfold DataW.trod
    rw [Try.underlying39]
    have h6 : c.length = Try.prog.cellsOf 39 := by rw [hc39]; exact hcl
    simp only [h6, if_true]
    rw [h2, hxs]
    simp
set_option maxRecDepth 100000 in
theorem lifted (os : Os) (started : os.Started) (H : Type) (enc : TypeId × Value → H) :
    ReturnsInHanded {} Try.checked os 13 .any (Rows.cbcStaysSpec.pre6 enc Try.prog Try.f13 Rows.cbcStaysRow.domain false) (Rows.cbcStaysSpec.post enc Try.prog Try.f13 false true false false) := by
  refine returnsInHanded_of_change_sized (C := Try.checked) own started (by kernel_rfl) Try.func13
    (ChangeSpec.witness6 (enc := enc) (C := Try.checked) false ⟨#[], #[.agg (arrV 16 .u8 []), .agg (arrV 16 .u8 []), .slice none 0 0], []⟩ 8 (by kernel_rfl) (by kernel_rfl) (by kernel_rfl) (by kernel_rfl)) ?_
  intro W base args ds gs before hval0 hW hcnd hsz0 _
  have hsz : (DataW.weightsEach Try.prog (Try.f13.params.toList ++ Rows.cbcStaysSpec.plain.varTypes Try.prog) (ds ++ gs)).all (· ≤ reachBytes) = true := hsz0
  have hval : ∀ (j : Nat) t v, Try.f13.params[j]? = some t → args[j]? = some v → Value.okWide Try.prog W .any base t v := hval0
  have hW' := hW
  obtain ⟨p, q, hA0, hV, rfl, hfz, hnd⟩ := hW
  have hA : DataW.TrodAll enc Try.prog W 0 (fun _ => true) true Try.f13.params.toList args.toList ds p := hA0
  rw [Try.params13] at hA hval hsz
  obtain ⟨v0, vs0, d0, ds0, p0, q0, hargs, rfl, rfl, h0, r0⟩ := trodAll_cons hA
  obtain ⟨v1, vs1, d1, ds1, p1, q1, rfl, rfl, rfl, h1, r1⟩ := trodAll_cons r0
  obtain ⟨v2, vs2, d2, ds2, p2, q2, rfl, rfl, rfl, h2, r2⟩ := trodAll_cons r1
  obtain ⟨rfl, rfl, rfl⟩ := trodAll_nil r2
  obtain rfl : args = #[v0, v1, v2] := by cases args; simp_all
  obtain ⟨rfl, rfl⟩ := trodVars_none hV
  obtain ⟨K0, hK0, wK0, rfl, rfl, s0⟩ := open_arr (hval 0 39 v0 rfl rfl) h0
  obtain ⟨K1, hK1, wK1, rfl, rfl, s1⟩ := open_arr (hval 1 39 v1 rfl rfl) h1
  obtain ⟨a2, len2, cap2, rfl⟩ := okWide_slice Try.underlying25 (hval 2 25 v2 rfl rfl)
  have k2 := h2
  have lt2 : ∀ x ∈ p2, x.block < W.heap.size := by obtain ⟨m, hm⟩ := k2; exact DataW.trod_lt m _ _ _ hm
  obtain ⟨z2, w2⟩ : ∃ zs, IsRow .u8 W a2 len2 cap2 zs := by
    obtain ⟨fuel, hf⟩ := h2
    rcases open_ints Try.underlying25 Try.underlying5 (by kernel_rfl) hf with ⟨hcs, _⟩ | ⟨x, l, c, zs, hcs, _, hl, hm, hz, _, hcell, hwz⟩
    · simp [Value.cells] at hcs
      obtain ⟨rfl, rfl, rfl⟩ := hcs
      exact ⟨[], .inl ⟨rfl, rfl, rfl, rfl⟩⟩
    · simp [Value.cells] at hcs
      obtain ⟨rfl, rfl, rfl⟩ := hcs
      exact ⟨zs, .inr ⟨_, rfl, hl, hm, by simpa using hz, hcell, hwz⟩⟩
  have y2 : len2 * 1 ≤ 140737488351232 := Go.Proofs.YtpcdkfbngoagnaaW.PrintWords.sized_ints hsz (j := 2) (t := 25) rfl rfl Try.underlying25 Try.underlying5 (by kernel_rfl) (by kernel_rfl) h2
  clear hA0 hval0 hsz0 hsz
  refine (Pure.CbcStays_walk K0 K1 hK0 wK0 hK1 wK1 a2 len2 cap2 z2 W w2).mono fun e W' ⟨he, bel⟩ => ?_
  subst he
  exact ⟨_, rfl, _, _, _, [], _, [], hW', trodAll_mk1 (shut_bool Try.underlying4 _), (trodAll_cons_mk (s0 _ _) (trodAll_cons_mk (s1 _ _) (trodAll_cons_mk (Below.trod laidOut (by kernel_rfl) (of_decide_eq_true (by kernel_rfl)) k2 bel lt2) trodAll_mk0))), rfl, bel.frame _, fun h => by cases h⟩
theorem over : Rows.cbcStaysRow.holds Try.pinned (OpenSpec.ofChange Rows.cbcStaysSpec) :=
  OpenClaim.holds_of_wide 13 Try.f13 rfl rfl rfl rfl rfl rfl rfl ⟨rfl, rfl, rfl, rfl, rfl⟩ rfl rfl rfl rfl rfl (by kernel_rfl) Try.func13 (by kernel_rfl)
    (of_decide_eq_true (by kernel_rfl)) (by unfold Func.isWrapper; first | (rw [if_pos (by decide +kernel)]; kernel_rfl) | (rw [if_neg (by decide +kernel)]; exact ⟨rfl, rfl⟩))
    (fun os started H enc _ => lifted os started H enc)
theorem proved : Rows.CbcStaysSaid := over
#print axioms proved
end Go.Proofs.Ytpcdkfbngoagnaa.cbcStays
namespace Go.Proofs.Ytpcdkfbngoagnaa
/-- The row, under a short name, for the claim. -/
theorem cbcStays_holds : Rows.CbcStaysSaid := cbcStays.proved
end Go.Proofs.Ytpcdkfbngoagnaa
