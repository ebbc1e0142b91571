import Derived.Test.YtpcdkfbngoagnaaPCbc
import Derived.Test.YtpcdkfbngoagnaaCx24
namespace Go.Proofs.Ytpcdkfbngoagnaa.Pure
set_option linter.unusedVariables false
open Go.RowKit Go.Proofs.Ytpcdkfbngoagnaa.C Go.Proofs.YtpcdkfbngoagnaaW.PrintWords Go.Proofs.YtpcdkfbngoagnaaW.PrintLast

theorem CbcSeals : charterlaw04_CbcSeals.Pure := by
  intro l0 l1 l2 _ _ hw0 _ _ hw1 _ _ hw2
  obtain ⟨m, hm⟩ : ∃ m, m = 200000 := ⟨_, rfl⟩
  refine ⟨m + 1, ?_⟩
  unfold charterlaw04_CbcSeals.f
  rw [at_rounds (g := fun k => charterlaw04_up.f k) (fun k => charterlaw04_up.mono k) (show 400 ≤ m + 1 by omega) up4_ok]
  have hc := cut_ok l2 300
  rw [show ((300 : Nat) : Int) = 300 from rfl] at hc
  simp only [Option.bind_some, hc]
  have htl : (l2.take 300).length ≤ 300 := by simp; omega
  by_cases hg : l0.length ≠ 16 ∨ l1.length ≠ 16
  · rw [seal_err_arg _ _ _ _ hg, Option.bind_some]
    have fin : charterlaw04_CbcSeals.j0 (m + 1) l0 l1 (l2.take 300) true [] (some 1) true = some true := by
      rw [charterlaw04_CbcSeals.j0, if_pos rfl, if_pos rfl, if_neg (by simp), if_pos (by simp)]
      rfl
    by_cases h0 : l0.length = 16
    · rw [if_pos (by omega)]
      have h1 : ((l1.length : Int) != 16) = true := by
        simp only [bne_iff_ne, ne_eq]
        omega
      rw [h1]
      exact fin
    · rw [if_neg (by omega)]
      exact fin
  · have h0 : l0.length = 16 := by omega
    have h1 : l1.length = 16 := by omega
    have hk := by16_of l0 h0 hw0
    have hs := cseal_ok (m + 1 - 200) l0 l1 (l2.take 300) hk h1 (by omega)
    rw [show m + 1 - 200 + 200 = m + 1 from by omega] at hs
    have hr := rseal_ok (m - 100000) l0 l1 (l2.take 300) hk h1 (by omega)
    rw [show m - 100000 + 100000 = m from by omega] at hr
    have ht := table_ok (m - 573)
    rw [show 573 + (m - 573) = m from by omega] at ht
    rw [hs, Option.bind_some, if_pos (by omega), charterlaw04_CbcSeals.j0, if_neg (by simp [h1]), if_pos rfl]
    simp only [Option.isNone_none, if_true]
    rw [ht, Option.bind_some, hr, Option.bind_some, beq_self_eq_true]

end Go.Proofs.Ytpcdkfbngoagnaa.Pure
