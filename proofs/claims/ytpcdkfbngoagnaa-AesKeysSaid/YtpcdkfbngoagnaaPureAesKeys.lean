import Derived.Test.YtpcdkfbngoagnaaPKeys
import Derived.Test.YtpcdkfbngoagnaaPUp
import Derived.Test.YtpcdkfbngoagnaaCx15
namespace Go.Proofs.Ytpcdkfbngoagnaa.Pure
set_option linter.unusedVariables false
open Go.RowKit Go.Proofs.Ytpcdkfbngoagnaa.C Go.Proofs.YtpcdkfbngoagnaaW.PrintWords Go.Proofs.YtpcdkfbngoagnaaW.PrintLast

theorem same_l0 (b : Bool) (K : List (List Int)) (hK : K.length = 11) (m : Nat) (n : Nat) : ∀ i : Nat, i + n = 11 → charterlaw03_AesKeys.l0 (n + 1 + m) b K K i = some b := by
  induction n with
  | zero =>
    intro i hi
    rw [show 0 + 1 + m = m + 1 from by omega, charterlaw03_AesKeys.l0, if_neg (by omega)]
  | succ n ih =>
    intro i hi
    rw [show n + 1 + 1 + m = (n + 1 + m) + 1 from by omega, charterlaw03_AesKeys.l0, if_pos (by omega), if_pos (by omega), if_pos (by omega), if_pos (by omega), if_pos rfl, wrap_succ i (by omega)]
    exact ih (i + 1) (by omega)
theorem AesKeys : charterlaw03_AesKeys.Pure := by
  intro l _ _ hw
  obtain ⟨m, hm⟩ : ∃ m, m = 600 := ⟨_, rfl⟩
  refine ⟨m + 1, ?_⟩
  unfold charterlaw03_AesKeys.f
  rw [at_rounds (g := fun k => charterlaw03_up.f k) (fun k => charterlaw03_up.mono k) (show 400 ≤ m + 1 by omega) up_ok]
  simp only [Option.bind_some]
  by_cases hl : l.length = 16
  · have hb := by16_of l hl hw
    have h1 := aesKeys_ok (m + 1 - 181) l hb
    rw [show m + 1 - 181 + 181 = m + 1 from by omega] at h1
    have h2 := refKeys_ok (m + 1 - 199) l hb
    rw [show 9 + (m + 1 - 199) + 190 = m + 1 from by omega] at h2
    have h3 := table_ok (m + 1 - 573)
    rw [show 573 + (m + 1 - 573) = m + 1 from by omega] at h3
    rw [h1]
    simp only [Option.bind_some]
    rw [if_pos (by omega), h3]
    simp only [Option.bind_some]
    rw [h2]
    have hk : (kgo 10 [l] l 1).length = 11 := kgo_length 10 [l] l 1
    simp only [Option.bind_some, Option.isNone_none, if_true]
    rw [hk, charterlaw03_AesKeys.j0, if_neg (by decide)]
    have h4 := same_l0 true _ hk (m - 12) 11 0 rfl
    rw [show 11 + 1 + (m - 12) = m from by omega] at h4
    exact h4
  · unfold aes_Keys.f
    rw [if_neg (by omega)]
    simp only [Option.bind_some]
    rw [if_neg (by omega)]
    rfl

end Go.Proofs.Ytpcdkfbngoagnaa.Pure
