/-
  No cell of these rows narrows 'for every input' (looked for: loops, veiled, ifaces, maps, wideKeys, modest, calm, conditions, laid).
  DERIVED. THE GIVEN ROWS OF THIS SEAT. 11 by the template 'for every input the law returns true; each argument reads behind the call as it read before'; 0 by the template 'total and deterministic' (their statements: YtpcdkfbngoagnaaTotals.lean).
  GIVEN WITH THE SEED: the statements are not yours to turn. If you find one false, say at which input.
  Laid BY PROGRAM, IN A SANDBOX (cutbox-rows.mjs): the forced cells as the released guide's own fill.sh prints them over the translation 991c8c1c820caf70… (all of the seat's roots in one cut). By AI agents, Wed Nov 11 2026. No macro, syntax, notation, axiom, sorry.
-/
import Derived.Test.YtpcdkfbngoagnaaChecked
import GoSem.Claim
import GoSem.ClaimJoined
import GoSem.ClaimMapViews
import Derived.JoinedTies
import Derived.KernelRfl
namespace Go.Proofs.Ytpcdkfbngoagnaa
/- THE CELL 'sum', in the pinned program and in every row, IS THE sha256 OF THE DUMP (.gsa) THAT YtpcdkfbngoagnaaProg.lean LOADS. Nothing in Lean hashes anything: it is a label: what it is worth is what the hold of that sum in a sandbox is worth. -/
noncomputable def Try.pinned : Pinned := { name := "ytpcdkfbngoagnaa", sum := "991c8c1c820caf709227d4b27859b0ed5d566b07e1700472b1c07759434268e9", checked := Try.checked }
namespace Rows
def none {H : Type} : Left H := { results := [], args := [] }

/-- 'charterlaw03.AesSubstitutes': WHATEVER THE INPUT: true; the input reads as it did. -/
def aesSubstitutesSpec : ChangeSpec := { name := "aesSubstitutes", fn := fun _ => fun
  | [d] => { results := [.lit (.bool true)], args := [d] }
  | _ => none }
def aesSubstitutesRow : OpenClaim := { program := "ytpcdkfbngoagnaa", sum := "991c8c1c820caf709227d4b27859b0ed5d566b07e1700472b1c07759434268e9", func := "charter/charterlaw03.AesSubstitutes", spec := "aesSubstitutes", apart := false }
def AesSubstitutesSaid : Prop := aesSubstitutesRow.holds Try.pinned (OpenSpec.ofChange aesSubstitutesSpec)

/-- ITS FALSE NEIGHBOUR: 'it returns false'. Refute it at one input. -/
def aesSubstitutesWrong : ChangeSpec := { name := "aesSubstitutes", fn := fun _ => fun
  | [d] => { results := [.lit (.bool false)], args := [d] }
  | _ => none }
def AesSubstitutesWrongFalsely : Prop := aesSubstitutesRow.holds Try.pinned (OpenSpec.ofChange aesSubstitutesWrong)

/-- 'charterlaw03.AesKeys': WHATEVER THE INPUT: true; the input reads as it did. -/
def aesKeysSpec : ChangeSpec := { name := "aesKeys", fn := fun _ => fun
  | [d] => { results := [.lit (.bool true)], args := [d] }
  | _ => none }
def aesKeysRow : OpenClaim := { program := "ytpcdkfbngoagnaa", sum := "991c8c1c820caf709227d4b27859b0ed5d566b07e1700472b1c07759434268e9", func := "charter/charterlaw03.AesKeys", spec := "aesKeys", apart := false }
def AesKeysSaid : Prop := aesKeysRow.holds Try.pinned (OpenSpec.ofChange aesKeysSpec)

/-- ITS FALSE NEIGHBOUR: 'it returns false'. Refute it at one input. -/
def aesKeysWrong : ChangeSpec := { name := "aesKeys", fn := fun _ => fun
  | [d] => { results := [.lit (.bool false)], args := [d] }
  | _ => none }
def AesKeysWrongFalsely : Prop := aesKeysRow.holds Try.pinned (OpenSpec.ofChange aesKeysWrong)

/-- 'charterlaw03.AesEncrypts': WHATEVER THE INPUT: true; the input reads as it did. -/
def aesEncryptsSpec : ChangeSpec := { name := "aesEncrypts", fn := fun _ => fun
  | [d1, d2] => { results := [.lit (.bool true)], args := [d1, d2] }
  | _ => none }
def aesEncryptsRow : OpenClaim := { program := "ytpcdkfbngoagnaa", sum := "991c8c1c820caf709227d4b27859b0ed5d566b07e1700472b1c07759434268e9", func := "charter/charterlaw03.AesEncrypts", spec := "aesEncrypts", apart := false }
def AesEncryptsSaid : Prop := aesEncryptsRow.holds Try.pinned (OpenSpec.ofChange aesEncryptsSpec)

/-- ITS FALSE NEIGHBOUR: 'it returns false'. Refute it at one input. -/
def aesEncryptsWrong : ChangeSpec := { name := "aesEncrypts", fn := fun _ => fun
  | [d1, d2] => { results := [.lit (.bool false)], args := [d1, d2] }
  | _ => none }
def AesEncryptsWrongFalsely : Prop := aesEncryptsRow.holds Try.pinned (OpenSpec.ofChange aesEncryptsWrong)

/-- 'charterlaw03.AesDecrypts': WHATEVER THE INPUT: true; the input reads as it did. -/
def aesDecryptsSpec : ChangeSpec := { name := "aesDecrypts", fn := fun _ => fun
  | [d1, d2] => { results := [.lit (.bool true)], args := [d1, d2] }
  | _ => none }
def aesDecryptsRow : OpenClaim := { program := "ytpcdkfbngoagnaa", sum := "991c8c1c820caf709227d4b27859b0ed5d566b07e1700472b1c07759434268e9", func := "charter/charterlaw03.AesDecrypts", spec := "aesDecrypts", apart := false }
def AesDecryptsSaid : Prop := aesDecryptsRow.holds Try.pinned (OpenSpec.ofChange aesDecryptsSpec)

/-- ITS FALSE NEIGHBOUR: 'it returns false'. Refute it at one input. -/
def aesDecryptsWrong : ChangeSpec := { name := "aesDecrypts", fn := fun _ => fun
  | [d1, d2] => { results := [.lit (.bool false)], args := [d1, d2] }
  | _ => none }
def AesDecryptsWrongFalsely : Prop := aesDecryptsRow.holds Try.pinned (OpenSpec.ofChange aesDecryptsWrong)

/-- 'charterlaw03.AesBack': WHATEVER THE INPUT: true; the input reads as it did. -/
def aesBackSpec : ChangeSpec := { name := "aesBack", fn := fun _ => fun
  | [d1, d2, d3] => { results := [.lit (.bool true)], args := [d1, d2, d3] }
  | _ => none }
def aesBackRow : OpenClaim := { program := "ytpcdkfbngoagnaa", sum := "991c8c1c820caf709227d4b27859b0ed5d566b07e1700472b1c07759434268e9", func := "charter/charterlaw03.AesBack", spec := "aesBack", apart := false }
def AesBackSaid : Prop := aesBackRow.holds Try.pinned (OpenSpec.ofChange aesBackSpec)

/-- ITS FALSE NEIGHBOUR: 'it returns false'. Refute it at one input. -/
def aesBackWrong : ChangeSpec := { name := "aesBack", fn := fun _ => fun
  | [d1, d2, d3] => { results := [.lit (.bool false)], args := [d1, d2, d3] }
  | _ => none }
def AesBackWrongFalsely : Prop := aesBackRow.holds Try.pinned (OpenSpec.ofChange aesBackWrong)

/-- 'charterlaw03.AesStays': WHATEVER THE INPUT: true; the input reads as it did. -/
def aesStaysSpec : ChangeSpec := { name := "aesStays", fn := fun _ => fun
  | [d1, d2] => { results := [.lit (.bool true)], args := [d1, d2] }
  | _ => none }
def aesStaysRow : OpenClaim := { program := "ytpcdkfbngoagnaa", sum := "991c8c1c820caf709227d4b27859b0ed5d566b07e1700472b1c07759434268e9", func := "charter/charterlaw03.AesStays", spec := "aesStays", apart := false }
def AesStaysSaid : Prop := aesStaysRow.holds Try.pinned (OpenSpec.ofChange aesStaysSpec)

/-- ITS FALSE NEIGHBOUR: 'it returns false'. Refute it at one input. -/
def aesStaysWrong : ChangeSpec := { name := "aesStays", fn := fun _ => fun
  | [d1, d2] => { results := [.lit (.bool false)], args := [d1, d2] }
  | _ => none }
def AesStaysWrongFalsely : Prop := aesStaysRow.holds Try.pinned (OpenSpec.ofChange aesStaysWrong)

/-- 'charterlaw04.CbcSeals': WHATEVER THE INPUT: true; the input reads as it did. -/
def cbcSealsSpec : ChangeSpec := { name := "cbcSeals", fn := fun _ => fun
  | [d1, d2, d3] => { results := [.lit (.bool true)], args := [d1, d2, d3] }
  | _ => none }
def cbcSealsRow : OpenClaim := { program := "ytpcdkfbngoagnaa", sum := "991c8c1c820caf709227d4b27859b0ed5d566b07e1700472b1c07759434268e9", func := "charter/charterlaw04.CbcSeals", spec := "cbcSeals", unfollowed := true, recurses := true, apart := false }
def CbcSealsSaid : Prop := cbcSealsRow.holds Try.pinned (OpenSpec.ofChange cbcSealsSpec)

/-- ITS FALSE NEIGHBOUR: 'it returns false'. Refute it at one input. -/
def cbcSealsWrong : ChangeSpec := { name := "cbcSeals", fn := fun _ => fun
  | [d1, d2, d3] => { results := [.lit (.bool false)], args := [d1, d2, d3] }
  | _ => none }
def CbcSealsWrongFalsely : Prop := cbcSealsRow.holds Try.pinned (OpenSpec.ofChange cbcSealsWrong)

/-- 'charterlaw04.CbcOpens': WHATEVER THE INPUT: true; the input reads as it did. -/
def cbcOpensSpec : ChangeSpec := { name := "cbcOpens", fn := fun _ => fun
  | [d1, d2, d3] => { results := [.lit (.bool true)], args := [d1, d2, d3] }
  | _ => none }
def cbcOpensRow : OpenClaim := { program := "ytpcdkfbngoagnaa", sum := "991c8c1c820caf709227d4b27859b0ed5d566b07e1700472b1c07759434268e9", func := "charter/charterlaw04.CbcOpens", spec := "cbcOpens", unfollowed := true, recurses := true, apart := false }
def CbcOpensSaid : Prop := cbcOpensRow.holds Try.pinned (OpenSpec.ofChange cbcOpensSpec)

/-- ITS FALSE NEIGHBOUR: 'it returns false'. Refute it at one input. -/
def cbcOpensWrong : ChangeSpec := { name := "cbcOpens", fn := fun _ => fun
  | [d1, d2, d3] => { results := [.lit (.bool false)], args := [d1, d2, d3] }
  | _ => none }
def CbcOpensWrongFalsely : Prop := cbcOpensRow.holds Try.pinned (OpenSpec.ofChange cbcOpensWrong)

/-- 'charterlaw04.CbcLong': WHATEVER THE INPUT: true; the input reads as it did. -/
def cbcLongSpec : ChangeSpec := { name := "cbcLong", fn := fun _ => fun
  | [d] => { results := [.lit (.bool true)], args := [d] }
  | _ => none }
def cbcLongRow : OpenClaim := { program := "ytpcdkfbngoagnaa", sum := "991c8c1c820caf709227d4b27859b0ed5d566b07e1700472b1c07759434268e9", func := "charter/charterlaw04.CbcLong", spec := "cbcLong", unfollowed := true, recurses := true, apart := false }
def CbcLongSaid : Prop := cbcLongRow.holds Try.pinned (OpenSpec.ofChange cbcLongSpec)

/-- ITS FALSE NEIGHBOUR: 'it returns false'. Refute it at one input. -/
def cbcLongWrong : ChangeSpec := { name := "cbcLong", fn := fun _ => fun
  | [d] => { results := [.lit (.bool false)], args := [d] }
  | _ => none }
def CbcLongWrongFalsely : Prop := cbcLongRow.holds Try.pinned (OpenSpec.ofChange cbcLongWrong)

/-- 'charterlaw04.CbcBack': WHATEVER THE INPUT: true; the input reads as it did. -/
def cbcBackSpec : ChangeSpec := { name := "cbcBack", fn := fun _ => fun
  | [d1, d2, d3, d4, d5, d6] => { results := [.lit (.bool true)], args := [d1, d2, d3, d4, d5, d6] }
  | _ => none }
def cbcBackRow : OpenClaim := { program := "ytpcdkfbngoagnaa", sum := "991c8c1c820caf709227d4b27859b0ed5d566b07e1700472b1c07759434268e9", func := "charter/charterlaw04.CbcBack", spec := "cbcBack", unfollowed := true, recurses := true, apart := false }
def CbcBackSaid : Prop := cbcBackRow.holds Try.pinned (OpenSpec.ofChange cbcBackSpec)

/-- ITS FALSE NEIGHBOUR: 'it returns false'. Refute it at one input. -/
def cbcBackWrong : ChangeSpec := { name := "cbcBack", fn := fun _ => fun
  | [d1, d2, d3, d4, d5, d6] => { results := [.lit (.bool false)], args := [d1, d2, d3, d4, d5, d6] }
  | _ => none }
def CbcBackWrongFalsely : Prop := cbcBackRow.holds Try.pinned (OpenSpec.ofChange cbcBackWrong)

/-- 'charterlaw04.CbcStays': WHATEVER THE INPUT: true; the input reads as it did. -/
def cbcStaysSpec : ChangeSpec := { name := "cbcStays", fn := fun _ => fun
  | [d1, d2, d3] => { results := [.lit (.bool true)], args := [d1, d2, d3] }
  | _ => none }
def cbcStaysRow : OpenClaim := { program := "ytpcdkfbngoagnaa", sum := "991c8c1c820caf709227d4b27859b0ed5d566b07e1700472b1c07759434268e9", func := "charter/charterlaw04.CbcStays", spec := "cbcStays", unfollowed := true, recurses := true, apart := false }
def CbcStaysSaid : Prop := cbcStaysRow.holds Try.pinned (OpenSpec.ofChange cbcStaysSpec)

/-- ITS FALSE NEIGHBOUR: 'it returns false'. Refute it at one input. -/
def cbcStaysWrong : ChangeSpec := { name := "cbcStays", fn := fun _ => fun
  | [d1, d2, d3] => { results := [.lit (.bool false)], args := [d1, d2, d3] }
  | _ => none }
def CbcStaysWrongFalsely : Prop := cbcStaysRow.holds Try.pinned (OpenSpec.ofChange cbcStaysWrong)

/- THE SECOND FORM. 'bulk': how many values and letters a reading holds, each counted each time it is reached (what is shared counts as often as it is met; a slice's spare places count too). A statement '..UptoSaid' is the law's where the arguments, and the package variables that the reading takes, are together of bulk at most 1048576: NARROWER than '..Said'. Prove '..Said' where nothing that the law and all that it calls make is longer than what came in: it says more and counts as full. Else prove '..UptoSaid'. A law counts once. -/
mutual
def uptoBulk {H : Type} : DataW H → Nat
  | .lit (.string bytes) => bytes.length + 1
  | .lit _ => 1
  | .nil => 1
  | .ptr d => uptoBulk d + 1
  | .slice elems spare => uptoBulkAll elems + uptoBulkAll spare + 1
  | .agg parts => uptoBulkAll parts + 1
  | .iface _ d => uptoBulk d + 1
  | .map entries => uptoBulkEntries entries + 1
  | .held _ => 1
def uptoBulkAll {H : Type} : List (DataW H) → Nat
  | [] => 0
  | d :: r => uptoBulk d + uptoBulkAll r
def uptoBulkEntries {H : Type} : List (Lit × DataW H) → Nat
  | [] => 0
  | x :: r => uptoBulkEntry x + uptoBulkEntries r
def uptoBulkEntry {H : Type} : Lit × DataW H → Nat
  | (.string bytes, d) => bytes.length + uptoBulk d + 1
  | (_, d) => uptoBulk d + 1
 end
def uptoSmall : (H : Type) → List (DataW H) → Bool := fun _ ds => decide (uptoBulkAll ds ≤ 1048576)
def OpenSpec.upto (s : _root_.Go.ChangeSpec) : _root_.Go.OpenSpec := { _root_.Go.OpenSpec.ofChange s with cond := some uptoSmall }

/-- 'charterlaw03.AesSubstitutes', WHERE WHAT IT READS IS OF BULK AT MOST 1048576: true; the input reads as it did. -/
def aesSubstitutesUptoRow : OpenClaim := { program := "ytpcdkfbngoagnaa", sum := "991c8c1c820caf709227d4b27859b0ed5d566b07e1700472b1c07759434268e9", func := "charter/charterlaw03.AesSubstitutes", spec := "aesSubstitutes", apart := false, narrowed := true }
def AesSubstitutesUptoSaid : Prop := aesSubstitutesUptoRow.holds Try.pinned (OpenSpec.upto aesSubstitutesSpec)

/-- 'charterlaw03.AesKeys', WHERE WHAT IT READS IS OF BULK AT MOST 1048576: true; the input reads as it did. -/
def aesKeysUptoRow : OpenClaim := { program := "ytpcdkfbngoagnaa", sum := "991c8c1c820caf709227d4b27859b0ed5d566b07e1700472b1c07759434268e9", func := "charter/charterlaw03.AesKeys", spec := "aesKeys", apart := false, narrowed := true }
def AesKeysUptoSaid : Prop := aesKeysUptoRow.holds Try.pinned (OpenSpec.upto aesKeysSpec)

/-- 'charterlaw03.AesEncrypts', WHERE WHAT IT READS IS OF BULK AT MOST 1048576: true; the input reads as it did. -/
def aesEncryptsUptoRow : OpenClaim := { program := "ytpcdkfbngoagnaa", sum := "991c8c1c820caf709227d4b27859b0ed5d566b07e1700472b1c07759434268e9", func := "charter/charterlaw03.AesEncrypts", spec := "aesEncrypts", apart := false, narrowed := true }
def AesEncryptsUptoSaid : Prop := aesEncryptsUptoRow.holds Try.pinned (OpenSpec.upto aesEncryptsSpec)

/-- 'charterlaw03.AesDecrypts', WHERE WHAT IT READS IS OF BULK AT MOST 1048576: true; the input reads as it did. -/
def aesDecryptsUptoRow : OpenClaim := { program := "ytpcdkfbngoagnaa", sum := "991c8c1c820caf709227d4b27859b0ed5d566b07e1700472b1c07759434268e9", func := "charter/charterlaw03.AesDecrypts", spec := "aesDecrypts", apart := false, narrowed := true }
def AesDecryptsUptoSaid : Prop := aesDecryptsUptoRow.holds Try.pinned (OpenSpec.upto aesDecryptsSpec)

/-- 'charterlaw03.AesBack', WHERE WHAT IT READS IS OF BULK AT MOST 1048576: true; the input reads as it did. -/
def aesBackUptoRow : OpenClaim := { program := "ytpcdkfbngoagnaa", sum := "991c8c1c820caf709227d4b27859b0ed5d566b07e1700472b1c07759434268e9", func := "charter/charterlaw03.AesBack", spec := "aesBack", apart := false, narrowed := true }
def AesBackUptoSaid : Prop := aesBackUptoRow.holds Try.pinned (OpenSpec.upto aesBackSpec)

/-- 'charterlaw03.AesStays', WHERE WHAT IT READS IS OF BULK AT MOST 1048576: true; the input reads as it did. -/
def aesStaysUptoRow : OpenClaim := { program := "ytpcdkfbngoagnaa", sum := "991c8c1c820caf709227d4b27859b0ed5d566b07e1700472b1c07759434268e9", func := "charter/charterlaw03.AesStays", spec := "aesStays", apart := false, narrowed := true }
def AesStaysUptoSaid : Prop := aesStaysUptoRow.holds Try.pinned (OpenSpec.upto aesStaysSpec)

/-- 'charterlaw04.CbcSeals', WHERE WHAT IT READS IS OF BULK AT MOST 1048576: true; the input reads as it did. -/
def cbcSealsUptoRow : OpenClaim := { program := "ytpcdkfbngoagnaa", sum := "991c8c1c820caf709227d4b27859b0ed5d566b07e1700472b1c07759434268e9", func := "charter/charterlaw04.CbcSeals", spec := "cbcSeals", unfollowed := true, recurses := true, apart := false, narrowed := true }
def CbcSealsUptoSaid : Prop := cbcSealsUptoRow.holds Try.pinned (OpenSpec.upto cbcSealsSpec)

/-- 'charterlaw04.CbcOpens', WHERE WHAT IT READS IS OF BULK AT MOST 1048576: true; the input reads as it did. -/
def cbcOpensUptoRow : OpenClaim := { program := "ytpcdkfbngoagnaa", sum := "991c8c1c820caf709227d4b27859b0ed5d566b07e1700472b1c07759434268e9", func := "charter/charterlaw04.CbcOpens", spec := "cbcOpens", unfollowed := true, recurses := true, apart := false, narrowed := true }
def CbcOpensUptoSaid : Prop := cbcOpensUptoRow.holds Try.pinned (OpenSpec.upto cbcOpensSpec)

/-- 'charterlaw04.CbcLong', WHERE WHAT IT READS IS OF BULK AT MOST 1048576: true; the input reads as it did. -/
def cbcLongUptoRow : OpenClaim := { program := "ytpcdkfbngoagnaa", sum := "991c8c1c820caf709227d4b27859b0ed5d566b07e1700472b1c07759434268e9", func := "charter/charterlaw04.CbcLong", spec := "cbcLong", unfollowed := true, recurses := true, apart := false, narrowed := true }
def CbcLongUptoSaid : Prop := cbcLongUptoRow.holds Try.pinned (OpenSpec.upto cbcLongSpec)

/-- 'charterlaw04.CbcBack', WHERE WHAT IT READS IS OF BULK AT MOST 1048576: true; the input reads as it did. -/
def cbcBackUptoRow : OpenClaim := { program := "ytpcdkfbngoagnaa", sum := "991c8c1c820caf709227d4b27859b0ed5d566b07e1700472b1c07759434268e9", func := "charter/charterlaw04.CbcBack", spec := "cbcBack", unfollowed := true, recurses := true, apart := false, narrowed := true }
def CbcBackUptoSaid : Prop := cbcBackUptoRow.holds Try.pinned (OpenSpec.upto cbcBackSpec)

/-- 'charterlaw04.CbcStays', WHERE WHAT IT READS IS OF BULK AT MOST 1048576: true; the input reads as it did. -/
def cbcStaysUptoRow : OpenClaim := { program := "ytpcdkfbngoagnaa", sum := "991c8c1c820caf709227d4b27859b0ed5d566b07e1700472b1c07759434268e9", func := "charter/charterlaw04.CbcStays", spec := "cbcStays", unfollowed := true, recurses := true, apart := false, narrowed := true }
def CbcStaysUptoSaid : Prop := cbcStaysUptoRow.holds Try.pinned (OpenSpec.upto cbcStaysSpec)

end Rows
end Go.Proofs.Ytpcdkfbngoagnaa
