import Derived.Test.YtpcdkfbngoagnaaPInv
import Derived.Test.YtpcdkfbngoagnaaPUp
import Derived.Test.YtpcdkfbngoagnaaCx19
namespace Go.Proofs.Ytpcdkfbngoagnaa.Pure
set_option linter.unusedVariables false
open Go.RowKit Go.Proofs.Ytpcdkfbngoagnaa.C Go.Proofs.YtpcdkfbngoagnaaW.PrintWords Go.Proofs.YtpcdkfbngoagnaaW.PrintLast

theorem AesDecrypts : charterlaw03_AesDecrypts.Pure := by
  intro l0 l1 _ _ hw _ _ hw1
  obtain ⟨m, hm⟩ : ∃ m, m = 1200 := ⟨_, rfl⟩
  refine ⟨m + 1, ?_⟩
  unfold charterlaw03_AesDecrypts.f
  rw [at_rounds (g := fun k => charterlaw03_up.f k) (fun k => charterlaw03_up.mono k) (show 400 ≤ m + 1 by omega) up_ok]
  simp only [Option.bind_some]
  by_cases hl : l0.length = 16
  · have hb := by16_of l0 hl hw
    have hK := aesKeys_ok (m + 1 - 181) l0 hb
    rw [show m + 1 - 181 + 181 = m + 1 from by omega] at hK
    by_cases hl1 : l1.length = 16
    · have hb1 := by16_of l1 hl1 hw1
      have h1 := aesDec_ok (m + 1 - 181) l0 l1 hb hb1
      rw [show m + 1 - 181 + 181 = m + 1 from by omega] at h1
      have hd := decL_by (kgo 10 [l0] l0 1) l1 hb1
      have h2 := refEnc_ok (m - 600) l0 _ hb hd
      rw [show m - 600 + 600 = m from by omega, enc_dec _ _ hb1 (fun i hi => keys_by l0 hb i hi)] at h2
      have h3 := table_ok (m - 573)
      rw [show 573 + (m - 573) = m from by omega] at h3
      rw [h1]
      simp only [Option.bind_some]
      rw [if_pos (by omega), charterlaw03_AesDecrypts.j0, if_neg (by simp [hl1]), if_pos rfl]
      simp only [Option.isNone_none, if_true]
      rw [if_pos (by have := hd.1; omega), h3]
      simp only [Option.bind_some]
      rw [h2]
      simp only [Option.bind_some, beq_self_eq_true]
    · unfold aes_Decrypt.f
      rw [hK]
      simp only [Option.bind_some, Option.isNone_none, if_true]
      rw [if_neg hl1]
      simp only [Option.bind_some]
      rw [if_pos (by omega), charterlaw03_AesDecrypts.j0, if_pos (by simp; omega), if_pos rfl]
      rfl
  · unfold aes_Decrypt.f aes_Keys.f
    rw [if_neg (by omega)]
    simp only [Option.bind_some, Option.isNone_some]
    rw [if_neg (by decide)]
    simp only [Option.bind_some]
    rw [if_neg (by omega), charterlaw03_AesDecrypts.j0, if_pos rfl, if_pos rfl]
    rfl

end Go.Proofs.Ytpcdkfbngoagnaa.Pure
