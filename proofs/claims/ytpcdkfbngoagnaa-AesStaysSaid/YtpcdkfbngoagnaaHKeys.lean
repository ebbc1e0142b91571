import Derived.Test.YtpcdkfbngoagnaaCx5
import Derived.Test.YtpcdkfbngoagnaaPCbd
namespace Go.Proofs.Ytpcdkfbngoagnaa.C
open Go.RowKit Go.Proofs.YtpcdkfbngoagnaaW.PrintWords Go.Proofs.YtpcdkfbngoagnaaW.PrintLast Go.Proofs.YtpcdkfbngoagnaaW.PrintMore
set_option linter.unusedVariables false
set_option linter.unusedSimpArgs false

/-- A block of sixteen bytes at least, that may be written. -/
def RowOK (W : World) (g : Nat) : Prop := ∃ cs : Array Value, W.heap[g]? = some (.cells cs 5 (0, 0)) ∧ ∀ j, j < 16 → ∃ v : Int, cs[j]? = some (.int .u8 v) ∧ 0 ≤ v ∧ v < 256
theorem RowOK.kept {W W' : World} {g : Nat} (h : RowOK W g) (hk : W'.heap[g]? = W.heap[g]?) : RowOK W' g := by
  obtain ⟨cs, hb, hc⟩ := h
  exact ⟨cs, hk.trans hb, hc⟩
theorem RowOK.lt {W : World} {g : Nat} (h : RowOK W g) : g < W.heap.size := by
  obtain ⟨cs, hb, _⟩ := h
  exact (Array.getElem?_eq_some_iff.1 hb).1
theorem RowOK.cell {W : World} {g : Nat} (h : RowOK W g) (j : Nat) (hj : j < 16) : ∃ v : Int, W.cell? ⟨g, j, none⟩ = some (.int .u8 v) ∧ 0 ≤ v ∧ v < 256 := by
  obtain ⟨cs, hb, hc⟩ := h
  obtain ⟨v, h1, h2⟩ := hc j hj
  exact ⟨v, (blk_cell hb j).trans h1, h2⟩
theorem RowOK.frozen {W : World} {g : Nat} (h : RowOK W g) (j : Nat) : W.frozen? ⟨g, j, none⟩ = false := by
  obtain ⟨cs, hb, hc⟩ := h
  exact blk_frozen hb j
theorem RowOK.set {W : World} {g : Nat} (h : RowOK W g) (g' i : Nat) (v : Int) (h0 : 0 ≤ v) (h1 : v < 256) : RowOK (W.setCell ⟨g', i, none⟩ (.int .u8 v)) g := by
  by_cases e : g = g'
  · subst e
    obtain ⟨cs, hb, hc⟩ := h
    refine ⟨cs.setIfInBounds i (.int .u8 v), blk_put hb i _ rfl, fun j hj => ?_⟩
    obtain ⟨u, hu, hu2⟩ := hc j hj
    by_cases e2 : i = j
    · subst e2
      refine ⟨v, ?_, h0, h1⟩
      have hlt := (Array.getElem?_eq_some_iff.1 hu).1
      simp [hlt]
    · refine ⟨u, ?_, hu2⟩
      rw [Array.getElem?_setIfInBounds_ne e2]
      exact hu
  · exact h.kept (Below.heap_setCell W _ _ g e)
theorem RowOK.read {W : World} {g : Nat} (h : RowOK W g) : ∃ l : List Int, l.length = 16 ∧ (∀ x ∈ l, 0 ≤ x ∧ x < 256) ∧ Kd.C (Kd.int .u8) W (some ⟨g, 0, none⟩) 16 l := by
  have hex : ∀ j, ∃ v : Int, j < 16 → W.cell? ⟨g, j, none⟩ = some (.int .u8 v) ∧ 0 ≤ v ∧ v < 256 := by
    intro j
    by_cases hj : j < 16
    · obtain ⟨v, hv⟩ := h.cell j hj
      exact ⟨v, fun _ => hv⟩
    · exact ⟨0, fun h => absurd h hj⟩
  refine ⟨(List.range 16).map fun j => Classical.choose (hex j), by simp, ?_, ?_⟩
  · intro x hx
    obtain ⟨j, hj, rfl⟩ := List.mem_map.1 hx
    exact (Classical.choose_spec (hex j) (List.mem_range.1 hj)).2
  · refine Kd.C_of_reads (enc := Value.int .u8) (d := 0) (h1 := fun _ => rfl) ⟨by simp, by omega, fun _ => ⟨_, rfl, fun j hj => ?_⟩⟩
    rw [Addr.add_mid, Nat.zero_add, (Classical.choose_spec (hex j) hj).1]
    simp [List.getD_eq_getElem?_getD, hj]
theorem RowOK.of_R {W : World} {base : Nat} {ok : Nat → Prop} {v : Value} {l : List Int} (h : Kd.R (Kd.int .u8) 5 W base ok v l) (hl : l.length = 16) (hb : ∀ x ∈ l, 0 ≤ x ∧ x < 256) : ∃ g c, v = .slice (some ⟨g, 0, none⟩) 16 c ∧ 16 ≤ c ∧ base ≤ g ∧ RowOK W g := by
  have ho := Kd.own_of_R h
  rw [hl] at ho
  rcases ho.2 with ⟨_, h0⟩ | ⟨g, cap, cur, rfl, hbg, hgb, hle, _, hsz, htk⟩
  · omega
  · refine ⟨g, cap, rfl, hle, hbg, cur, hgb, fun j hj => ?_⟩
    have h1 : (cur.toList.take 16)[j]? = some (.int .u8 l[j]) := by
      rw [show (16 : Nat) = 16 * 1 from rfl, htk]
      simp [encs, show j < l.length from by omega]
    rw [List.getElem?_take, if_pos hj, Array.getElem?_toList] at h1
    exact ⟨_, h1, hb _ (List.getElem_mem _)⟩
end Go.Proofs.Ytpcdkfbngoagnaa.C
