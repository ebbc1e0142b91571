import Derived.Test.YtpcdkfbngoagnaaPTab
import Derived.Lib.Bytes
namespace Go.Proofs.Ytpcdkfbngoagnaa.Pure
set_option linter.unusedVariables false
open Go.RowKit Go.Proofs.Ytpcdkfbngoagnaa.C Go.Proofs.YtpcdkfbngoagnaaW.PrintWords Go.Proofs.YtpcdkfbngoagnaaW.PrintLast

set_option maxRecDepth 100000 in
theorem up_ok : charterlaw03_up.f 400 = some true := by
  unfold charterlaw03_up.f
  iterate 16 rw [charterlaw03_up.l0, if_pos (by decide +kernel), if_pos (by decide +kernel), if_pos (by decide +kernel)]
  rw [charterlaw03_up.l0, if_neg (by decide +kernel)]
  have h : ∀ K B, K = (List.range 16).map Int.ofNat → B = (List.range 16).map (fun n => Int.ofNat (17 * n)) → aes_Encrypt.f 383 K B = some ([105, 196, 224, 216, 106, 123, 4, 48, 216, 205, 183, 128, 112, 180, 197, 90], none) := by
    rintro _ _ rfl rfl
    decide +kernel
  rw [h _ _ (by decide +kernel) (by decide +kernel)]
  simp only [Option.bind_some, Option.isNone_none, if_true, Lib.strOfNums_toList]
  rw [if_pos (by decide +kernel)]
  have := sub_go 83 (by decide)
  rw [show ((83 : Nat) : Int) = 83 from rfl] at this
  rw [this]
  decide +kernel

end Go.Proofs.Ytpcdkfbngoagnaa.Pure
