import Derived.Test.YtpcdkfbngoagnaaPTab
import Derived.Lib.Bytes
namespace Go.Proofs.Ytpcdkfbngoagnaa.Pure
set_option linter.unusedVariables false
open Go.RowKit Go.Proofs.Ytpcdkfbngoagnaa.C Go.Proofs.YtpcdkfbngoagnaaW.PrintWords Go.Proofs.YtpcdkfbngoagnaaW.PrintLast

set_option maxRecDepth 100000 in
theorem up_ok : charterlaw03_up.f 400 = some true := by
  unfold charterlaw03_up.f
  iterate 16 rw [charterlaw03_up.l0, if_pos (by decide +kernel), if_pos (by decide +kernel), if_pos (by decide +kernel)]
  rw [charterlaw03_up.l0, if_neg (by decide +kernel)]
  have h : ∀ K B, K = (List.range 16).map Int.ofNat → B = (List.range 16).map (fun n => Int.ofNat (17 * n)) → aes_Encrypt.f 383 K B = some ([105, 196, 224, 216, 106, 123, 4, 48, 216, 205, 183, 128, 112, 180, 197, 90], none) := by
    rintro _ _ rfl rfl
    decide +kernel
  rw [h _ _ (by decide +kernel) (by decide +kernel)]
  simp only [Option.bind_some, Option.isNone_none, if_true, Lib.strOfNums_toList]
  rw [if_pos (by decide +kernel)]
  have := sub_go 83 (by decide)
  rw [show ((83 : Nat) : Int) = 83 from rfl] at this
  rw [this]
  decide +kernel

theorem cnt_l0 (m x : Nat) (hx : x < 256) (n : Nat) : ∀ (i c : Nat), i + n = 256 → c ≤ i →
    charterlaw03_AesSubstitutes.l0 (n + m) x true c i = charterlaw03_AesSubstitutes.l0 m x true ((c + if i ≤ orN x then 1 else 0 : Nat) : Int) 256 := by
  have ho := (orN_ok x hx).2
  induction n with
  | zero =>
    intro i c hi _
    have : i = 256 := by omega
    subst this
    rw [Nat.zero_add, if_neg (by omega)]
    rfl
  | succ n ih =>
    intro i c hi hc
    rw [show n + 1 + m = (n + m) + 1 from by omega, charterlaw03_AesSubstitutes.l0, if_pos (by omega), show ((i : Nat) : Int) % 256 = ((i : Nat) : Int) from by omega, sub_go i (by omega)]
    have w3 : wrap64 ((i : Int) + 1) = ((i + 1 : Nat) : Int) := by rw [show ((i + 1 : Nat) : Int) = (i : Int) + 1 from by omega]; exact IntWalk.wrap64_in _ (by omega)
    have w4 : wrap64 ((c : Int) + 1) = ((c + 1 : Nat) : Int) := by rw [show ((c + 1 : Nat) : Int) = (c : Int) + 1 from by omega]; exact IntWalk.wrap64_in _ (by omega)
    rw [w3, w4]
    simp only [Option.bind_some]
    rw [ih (i + 1) (c + 1) (by omega) (by omega), ih (i + 1) c (by omega) (by omega)]
    by_cases h1 : sbN i = x
    · have h2 : orN x = i := by rw [← h1]; exact (orN_sbN i (by omega)).1
      rw [if_pos (by omega), h2, if_neg (by omega), if_pos (by omega)]
    · have h2 : orN x ≠ i := by rintro rfl; exact h1 (orN_sbN x hx).2
      rw [if_neg (by omega)]
      by_cases h3 : i ≤ orN x
      · rw [if_pos (by omega), if_pos h3]
      · rw [if_neg (by omega), if_neg h3]

theorem AesSubstitutes : charterlaw03_AesSubstitutes.Pure := by
  intro a0 w0
  obtain ⟨x, rfl, hx⟩ : ∃ x : Nat, a0 = x ∧ x < 256 := by
    have : 0 ≤ a0 ∧ a0 < 256 := by
      have h : IntKind.u8.min ≤ a0 ∧ a0 ≤ IntKind.u8.max := by simpa [Lit.wf] using w0
      have e1 : IntKind.u8.min = 0 := by decide +kernel
      have e2 : IntKind.u8.max = 255 := by decide +kernel
      omega
    exact ⟨a0.toNat, by omega, by omega⟩
  obtain ⟨m, hm⟩ : ∃ m, m = 400 := ⟨_, rfl⟩
  refine ⟨256 + (m + 1), ?_⟩
  unfold charterlaw03_AesSubstitutes.f
  rw [at_rounds (g := fun k => charterlaw03_up.f k) (fun k => charterlaw03_up.mono k) (show 400 ≤ 256 + (m + 1) by omega) up_ok]
  simp only [Option.bind_some]
  have h := cnt_l0 (m + 1) x hx 256 0 0 (by decide) (by decide)
  rw [if_pos (Nat.zero_le _)] at h
  refine h.trans ?_
  rw [charterlaw03_AesSubstitutes.l0, if_neg (by decide), if_pos rfl, if_pos (by decide), sub_go x hx]
  have h2 := refSub_go (m - 316) x hx
  rw [show 316 + (m - 316) = m from by omega] at h2
  simp only [Option.bind_some, h2, beq_self_eq_true]

end Go.Proofs.Ytpcdkfbngoagnaa.Pure
