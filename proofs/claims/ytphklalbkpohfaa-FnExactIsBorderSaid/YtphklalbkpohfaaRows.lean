/-
  No cell of these rows narrows 'for every input' (looked for: loops, veiled, ifaces, maps, wideKeys, modest, calm, conditions, laid).
  DERIVED. THE GIVEN ROWS OF THIS SEAT. 12 by the template 'for every input the law returns true; each argument reads behind the call as it read before'; 0 by the template 'total and deterministic' (their statements: YtphklalbkpohfaaTotals.lean).
  GIVEN WITH THE SEED: the statements are not yours to turn. If you find one false, say at which input.
  Laid BY PROGRAM, IN A SANDBOX (cutbox-rows.mjs): the forced cells as the released guide's own fill.sh prints them over the translation a37fbdb9b66ab923… (all of the seat's roots in one cut). By AI agents, Wed Nov 11 2026. No macro, syntax, notation, axiom, sorry.
-/
import Derived.Test.YtphklalbkpohfaaChecked
import GoSem.Claim
import GoSem.ClaimJoined
import GoSem.ClaimMapViews
import Derived.JoinedTies
import Derived.KernelRfl
namespace Go.Proofs.Ytphklalbkpohfaa
/- THE CELL 'sum', in the pinned program and in every row, IS THE sha256 OF THE DUMP (.gsa) THAT YtphklalbkpohfaaProg.lean LOADS. Nothing in Lean hashes anything: it is a label: what it is worth is what the hold of that sum in a sandbox is worth. -/
noncomputable def Try.pinned : Pinned := { name := "ytphklalbkpohfaa", sum := "a37fbdb9b66ab9232b5733d399f3f8cb60c821a96ffbfccecb7af1c55ed01fe8", checked := Try.checked }
namespace Rows
def none {H : Type} : Left H := { results := [], args := [] }

/-- 'laws.FnExactMatrixTensor': WHATEVER THE INPUT: true; the input reads as it did. -/
def fnExactMatrixTensorSpec : ChangeSpec := { name := "fnExactMatrixTensor", fn := fun _ => fun
  | [d1, d2, d3, d4] => { results := [.lit (.bool true)], args := [d1, d2, d3, d4] }
  | _ => none }
def fnExactMatrixTensorRow : OpenClaim := { program := "ytphklalbkpohfaa", sum := "a37fbdb9b66ab9232b5733d399f3f8cb60c821a96ffbfccecb7af1c55ed01fe8", func := "loop.example/g01262/laws.FnExactMatrixTensor", spec := "fnExactMatrixTensor", unfollowed := true, recurses := true, apart := false }
def FnExactMatrixTensorSaid : Prop := fnExactMatrixTensorRow.holds Try.pinned (OpenSpec.ofChange fnExactMatrixTensorSpec)

/-- ITS FALSE NEIGHBOUR: 'it returns false'. Refute it at one input. -/
def fnExactMatrixTensorWrong : ChangeSpec := { name := "fnExactMatrixTensor", fn := fun _ => fun
  | [d1, d2, d3, d4] => { results := [.lit (.bool false)], args := [d1, d2, d3, d4] }
  | _ => none }
def FnExactMatrixTensorWrongFalsely : Prop := fnExactMatrixTensorRow.holds Try.pinned (OpenSpec.ofChange fnExactMatrixTensorWrong)

/-- 'laws.FnExactIsBorder': WHATEVER THE INPUT: true; the input reads as it did. -/
def fnExactIsBorderSpec : ChangeSpec := { name := "fnExactIsBorder", fn := fun _ => fun
  | [d] => { results := [.lit (.bool true)], args := [d] }
  | _ => none }
def fnExactIsBorderRow : OpenClaim := { program := "ytphklalbkpohfaa", sum := "a37fbdb9b66ab9232b5733d399f3f8cb60c821a96ffbfccecb7af1c55ed01fe8", func := "loop.example/g01262/laws.FnExactIsBorder", spec := "fnExactIsBorder", apart := false }
def FnExactIsBorderSaid : Prop := fnExactIsBorderRow.holds Try.pinned (OpenSpec.ofChange fnExactIsBorderSpec)

/-- ITS FALSE NEIGHBOUR: 'it returns false'. Refute it at one input. -/
def fnExactIsBorderWrong : ChangeSpec := { name := "fnExactIsBorder", fn := fun _ => fun
  | [d] => { results := [.lit (.bool false)], args := [d] }
  | _ => none }
def FnExactIsBorderWrongFalsely : Prop := fnExactIsBorderRow.holds Try.pinned (OpenSpec.ofChange fnExactIsBorderWrong)

/-- 'laws.FnExactIsExponentAtMost': WHATEVER THE INPUT: true; the input reads as it did. -/
def fnExactIsExponentAtMostSpec : ChangeSpec := { name := "fnExactIsExponentAtMost", fn := fun _ => fun
  | [d1, d2, d3] => { results := [.lit (.bool true)], args := [d1, d2, d3] }
  | _ => none }
def fnExactIsExponentAtMostRow : OpenClaim := { program := "ytphklalbkpohfaa", sum := "a37fbdb9b66ab9232b5733d399f3f8cb60c821a96ffbfccecb7af1c55ed01fe8", func := "loop.example/g01262/laws.FnExactIsExponentAtMost", spec := "fnExactIsExponentAtMost", apart := false }
def FnExactIsExponentAtMostSaid : Prop := fnExactIsExponentAtMostRow.holds Try.pinned (OpenSpec.ofChange fnExactIsExponentAtMostSpec)

/-- ITS FALSE NEIGHBOUR: 'it returns false'. Refute it at one input. -/
def fnExactIsExponentAtMostWrong : ChangeSpec := { name := "fnExactIsExponentAtMost", fn := fun _ => fun
  | [d1, d2, d3] => { results := [.lit (.bool false)], args := [d1, d2, d3] }
  | _ => none }
def FnExactIsExponentAtMostWrongFalsely : Prop := fnExactIsExponentAtMostRow.holds Try.pinned (OpenSpec.ofChange fnExactIsExponentAtMostWrong)

/-- 'laws.FnExactGreaterSize': WHATEVER THE INPUT: true; the input reads as it did. -/
def fnExactGreaterSizeSpec : ChangeSpec := { name := "fnExactGreaterSize", fn := fun _ => fun
  | [d1, d2] => { results := [.lit (.bool true)], args := [d1, d2] }
  | _ => none }
def fnExactGreaterSizeRow : OpenClaim := { program := "ytphklalbkpohfaa", sum := "a37fbdb9b66ab9232b5733d399f3f8cb60c821a96ffbfccecb7af1c55ed01fe8", func := "loop.example/g01262/laws.FnExactGreaterSize", spec := "fnExactGreaterSize", apart := false }
def FnExactGreaterSizeSaid : Prop := fnExactGreaterSizeRow.holds Try.pinned (OpenSpec.ofChange fnExactGreaterSizeSpec)

/-- ITS FALSE NEIGHBOUR: 'it returns false'. Refute it at one input. -/
def fnExactGreaterSizeWrong : ChangeSpec := { name := "fnExactGreaterSize", fn := fun _ => fun
  | [d1, d2] => { results := [.lit (.bool false)], args := [d1, d2] }
  | _ => none }
def FnExactGreaterSizeWrongFalsely : Prop := fnExactGreaterSizeRow.holds Try.pinned (OpenSpec.ofChange fnExactGreaterSizeWrong)

/-- 'laws.FnExactCompareExponents': WHATEVER THE INPUT: true; the input reads as it did. -/
def fnExactCompareExponentsSpec : ChangeSpec := { name := "fnExactCompareExponents", fn := fun _ => fun
  | [d1, d2] => { results := [.lit (.bool true)], args := [d1, d2] }
  | _ => none }
def fnExactCompareExponentsRow : OpenClaim := { program := "ytphklalbkpohfaa", sum := "a37fbdb9b66ab9232b5733d399f3f8cb60c821a96ffbfccecb7af1c55ed01fe8", func := "loop.example/g01262/laws.FnExactCompareExponents", spec := "fnExactCompareExponents", apart := false }
def FnExactCompareExponentsSaid : Prop := fnExactCompareExponentsRow.holds Try.pinned (OpenSpec.ofChange fnExactCompareExponentsSpec)

/-- ITS FALSE NEIGHBOUR: 'it returns false'. Refute it at one input. -/
def fnExactCompareExponentsWrong : ChangeSpec := { name := "fnExactCompareExponents", fn := fun _ => fun
  | [d1, d2] => { results := [.lit (.bool false)], args := [d1, d2] }
  | _ => none }
def FnExactCompareExponentsWrongFalsely : Prop := fnExactCompareExponentsRow.holds Try.pinned (OpenSpec.ofChange fnExactCompareExponentsWrong)

/-- 'laws.FnExactHaveEqualSums': WHATEVER THE INPUT: true; the input reads as it did. -/
def fnExactHaveEqualSumsSpec : ChangeSpec := { name := "fnExactHaveEqualSums", fn := fun _ => fun
  | [d1, d2] => { results := [.lit (.bool true)], args := [d1, d2] }
  | _ => none }
def fnExactHaveEqualSumsRow : OpenClaim := { program := "ytphklalbkpohfaa", sum := "a37fbdb9b66ab9232b5733d399f3f8cb60c821a96ffbfccecb7af1c55ed01fe8", func := "loop.example/g01262/laws.FnExactHaveEqualSums", spec := "fnExactHaveEqualSums", unfollowed := true, recurses := true, apart := false }
def FnExactHaveEqualSumsSaid : Prop := fnExactHaveEqualSumsRow.holds Try.pinned (OpenSpec.ofChange fnExactHaveEqualSumsSpec)

/-- ITS FALSE NEIGHBOUR: 'it returns false'. Refute it at one input. -/
def fnExactHaveEqualSumsWrong : ChangeSpec := { name := "fnExactHaveEqualSums", fn := fun _ => fun
  | [d1, d2] => { results := [.lit (.bool false)], args := [d1, d2] }
  | _ => none }
def FnExactHaveEqualSumsWrongFalsely : Prop := fnExactHaveEqualSumsRow.holds Try.pinned (OpenSpec.ofChange fnExactHaveEqualSumsWrong)

/-- 'laws.FnExactCostOf': WHATEVER THE INPUT: true; the input reads as it did. -/
def fnExactCostOfSpec : ChangeSpec := { name := "fnExactCostOf", fn := fun _ => fun
  | [d] => { results := [.lit (.bool true)], args := [d] }
  | _ => none }
def fnExactCostOfRow : OpenClaim := { program := "ytphklalbkpohfaa", sum := "a37fbdb9b66ab9232b5733d399f3f8cb60c821a96ffbfccecb7af1c55ed01fe8", func := "loop.example/g01262/laws.FnExactCostOf", spec := "fnExactCostOf", apart := false }
def FnExactCostOfSaid : Prop := fnExactCostOfRow.holds Try.pinned (OpenSpec.ofChange fnExactCostOfSpec)

/-- ITS FALSE NEIGHBOUR: 'it returns false'. Refute it at one input. -/
def fnExactCostOfWrong : ChangeSpec := { name := "fnExactCostOf", fn := fun _ => fun
  | [d] => { results := [.lit (.bool false)], args := [d] }
  | _ => none }
def FnExactCostOfWrongFalsely : Prop := fnExactCostOfRow.holds Try.pinned (OpenSpec.ofChange fnExactCostOfWrong)

/-- 'laws.FnExactTensorOfScheme': WHATEVER THE INPUT: true; the input reads as it did. -/
def fnExactTensorOfSchemeSpec : ChangeSpec := { name := "fnExactTensorOfScheme", fn := fun _ => fun
  | [d] => { results := [.lit (.bool true)], args := [d] }
  | _ => none }
def fnExactTensorOfSchemeRow : OpenClaim := { program := "ytphklalbkpohfaa", sum := "a37fbdb9b66ab9232b5733d399f3f8cb60c821a96ffbfccecb7af1c55ed01fe8", func := "loop.example/g01262/laws.FnExactTensorOfScheme", spec := "fnExactTensorOfScheme", unfollowed := true, recurses := true, apart := false }
def FnExactTensorOfSchemeSaid : Prop := fnExactTensorOfSchemeRow.holds Try.pinned (OpenSpec.ofChange fnExactTensorOfSchemeSpec)

/-- ITS FALSE NEIGHBOUR: 'it returns false'. Refute it at one input. -/
def fnExactTensorOfSchemeWrong : ChangeSpec := { name := "fnExactTensorOfScheme", fn := fun _ => fun
  | [d] => { results := [.lit (.bool false)], args := [d] }
  | _ => none }
def FnExactTensorOfSchemeWrongFalsely : Prop := fnExactTensorOfSchemeRow.holds Try.pinned (OpenSpec.ofChange fnExactTensorOfSchemeWrong)

/-- 'laws.FnExactMixedCost': WHATEVER THE INPUT: true; the input reads as it did. -/
def fnExactMixedCostSpec : ChangeSpec := { name := "fnExactMixedCost", fn := fun _ => fun
  | [d1, d2, d3] => { results := [.lit (.bool true)], args := [d1, d2, d3] }
  | _ => none }
def fnExactMixedCostRow : OpenClaim := { program := "ytphklalbkpohfaa", sum := "a37fbdb9b66ab9232b5733d399f3f8cb60c821a96ffbfccecb7af1c55ed01fe8", func := "loop.example/g01262/laws.FnExactMixedCost", spec := "fnExactMixedCost", apart := false }
def FnExactMixedCostSaid : Prop := fnExactMixedCostRow.holds Try.pinned (OpenSpec.ofChange fnExactMixedCostSpec)

/-- ITS FALSE NEIGHBOUR: 'it returns false'. Refute it at one input. -/
def fnExactMixedCostWrong : ChangeSpec := { name := "fnExactMixedCost", fn := fun _ => fun
  | [d1, d2, d3] => { results := [.lit (.bool false)], args := [d1, d2, d3] }
  | _ => none }
def FnExactMixedCostWrongFalsely : Prop := fnExactMixedCostRow.holds Try.pinned (OpenSpec.ofChange fnExactMixedCostWrong)

/-- 'laws.FnExactFirstGain': WHATEVER THE INPUT: true; the input reads as it did. -/
def fnExactFirstGainSpec : ChangeSpec := { name := "fnExactFirstGain", fn := fun _ => fun
  | [d1, d2] => { results := [.lit (.bool true)], args := [d1, d2] }
  | _ => none }
def fnExactFirstGainRow : OpenClaim := { program := "ytphklalbkpohfaa", sum := "a37fbdb9b66ab9232b5733d399f3f8cb60c821a96ffbfccecb7af1c55ed01fe8", func := "loop.example/g01262/laws.FnExactFirstGain", spec := "fnExactFirstGain", apart := false }
def FnExactFirstGainSaid : Prop := fnExactFirstGainRow.holds Try.pinned (OpenSpec.ofChange fnExactFirstGainSpec)

/-- ITS FALSE NEIGHBOUR: 'it returns false'. Refute it at one input. -/
def fnExactFirstGainWrong : ChangeSpec := { name := "fnExactFirstGain", fn := fun _ => fun
  | [d1, d2] => { results := [.lit (.bool false)], args := [d1, d2] }
  | _ => none }
def FnExactFirstGainWrongFalsely : Prop := fnExactFirstGainRow.holds Try.pinned (OpenSpec.ofChange fnExactFirstGainWrong)

/-- 'laws.FnExactBestLevels': WHATEVER THE INPUT: true; the input reads as it did. -/
def fnExactBestLevelsSpec : ChangeSpec := { name := "fnExactBestLevels", fn := fun _ => fun
  | [d1, d2, d3] => { results := [.lit (.bool true)], args := [d1, d2, d3] }
  | _ => none }
def fnExactBestLevelsRow : OpenClaim := { program := "ytphklalbkpohfaa", sum := "a37fbdb9b66ab9232b5733d399f3f8cb60c821a96ffbfccecb7af1c55ed01fe8", func := "loop.example/g01262/laws.FnExactBestLevels", spec := "fnExactBestLevels", apart := false }
def FnExactBestLevelsSaid : Prop := fnExactBestLevelsRow.holds Try.pinned (OpenSpec.ofChange fnExactBestLevelsSpec)

/-- ITS FALSE NEIGHBOUR: 'it returns false'. Refute it at one input. -/
def fnExactBestLevelsWrong : ChangeSpec := { name := "fnExactBestLevels", fn := fun _ => fun
  | [d1, d2, d3] => { results := [.lit (.bool false)], args := [d1, d2, d3] }
  | _ => none }
def FnExactBestLevelsWrongFalsely : Prop := fnExactBestLevelsRow.holds Try.pinned (OpenSpec.ofChange fnExactBestLevelsWrong)

/-- 'laws.FnExactRepeatedCost': WHATEVER THE INPUT: true; the input reads as it did. -/
def fnExactRepeatedCostSpec : ChangeSpec := { name := "fnExactRepeatedCost", fn := fun _ => fun
  | [d1, d2] => { results := [.lit (.bool true)], args := [d1, d2] }
  | _ => none }
def fnExactRepeatedCostRow : OpenClaim := { program := "ytphklalbkpohfaa", sum := "a37fbdb9b66ab9232b5733d399f3f8cb60c821a96ffbfccecb7af1c55ed01fe8", func := "loop.example/g01262/laws.FnExactRepeatedCost", spec := "fnExactRepeatedCost", apart := false }
def FnExactRepeatedCostSaid : Prop := fnExactRepeatedCostRow.holds Try.pinned (OpenSpec.ofChange fnExactRepeatedCostSpec)

/-- ITS FALSE NEIGHBOUR: 'it returns false'. Refute it at one input. -/
def fnExactRepeatedCostWrong : ChangeSpec := { name := "fnExactRepeatedCost", fn := fun _ => fun
  | [d1, d2] => { results := [.lit (.bool false)], args := [d1, d2] }
  | _ => none }
def FnExactRepeatedCostWrongFalsely : Prop := fnExactRepeatedCostRow.holds Try.pinned (OpenSpec.ofChange fnExactRepeatedCostWrong)

/- THE SECOND FORM. 'bulk': how many values and letters a reading holds, each counted each time it is reached (what is shared counts as often as it is met; a slice's spare places count too). A statement '..UptoSaid' is the law's where the arguments, and the package variables that the reading takes, are together of bulk at most 1048576: NARROWER than '..Said'. Prove '..Said' where nothing that the law and all that it calls make is longer than what came in: it says more and counts as full. Else prove '..UptoSaid'. A law counts once. -/
mutual
def uptoBulk {H : Type} : DataW H → Nat
  | .lit (.string bytes) => bytes.length + 1
  | .lit _ => 1
  | .nil => 1
  | .ptr d => uptoBulk d + 1
  | .slice elems spare => uptoBulkAll elems + uptoBulkAll spare + 1
  | .agg parts => uptoBulkAll parts + 1
  | .iface _ d => uptoBulk d + 1
  | .map entries => uptoBulkEntries entries + 1
  | .held _ => 1
def uptoBulkAll {H : Type} : List (DataW H) → Nat
  | [] => 0
  | d :: r => uptoBulk d + uptoBulkAll r
def uptoBulkEntries {H : Type} : List (Lit × DataW H) → Nat
  | [] => 0
  | x :: r => uptoBulkEntry x + uptoBulkEntries r
def uptoBulkEntry {H : Type} : Lit × DataW H → Nat
  | (.string bytes, d) => bytes.length + uptoBulk d + 1
  | (_, d) => uptoBulk d + 1
 end
def uptoSmall : (H : Type) → List (DataW H) → Bool := fun _ ds => decide (uptoBulkAll ds ≤ 1048576)
def OpenSpec.upto (s : _root_.Go.ChangeSpec) : _root_.Go.OpenSpec := { _root_.Go.OpenSpec.ofChange s with cond := some uptoSmall }

/-- 'laws.FnExactMatrixTensor', WHERE WHAT IT READS IS OF BULK AT MOST 1048576: true; the input reads as it did. -/
def fnExactMatrixTensorUptoRow : OpenClaim := { program := "ytphklalbkpohfaa", sum := "a37fbdb9b66ab9232b5733d399f3f8cb60c821a96ffbfccecb7af1c55ed01fe8", func := "loop.example/g01262/laws.FnExactMatrixTensor", spec := "fnExactMatrixTensor", unfollowed := true, recurses := true, apart := false, narrowed := true }
def FnExactMatrixTensorUptoSaid : Prop := fnExactMatrixTensorUptoRow.holds Try.pinned (OpenSpec.upto fnExactMatrixTensorSpec)

/-- 'laws.FnExactIsBorder', WHERE WHAT IT READS IS OF BULK AT MOST 1048576: true; the input reads as it did. -/
def fnExactIsBorderUptoRow : OpenClaim := { program := "ytphklalbkpohfaa", sum := "a37fbdb9b66ab9232b5733d399f3f8cb60c821a96ffbfccecb7af1c55ed01fe8", func := "loop.example/g01262/laws.FnExactIsBorder", spec := "fnExactIsBorder", apart := false, narrowed := true }
def FnExactIsBorderUptoSaid : Prop := fnExactIsBorderUptoRow.holds Try.pinned (OpenSpec.upto fnExactIsBorderSpec)

/-- 'laws.FnExactIsExponentAtMost', WHERE WHAT IT READS IS OF BULK AT MOST 1048576: true; the input reads as it did. -/
def fnExactIsExponentAtMostUptoRow : OpenClaim := { program := "ytphklalbkpohfaa", sum := "a37fbdb9b66ab9232b5733d399f3f8cb60c821a96ffbfccecb7af1c55ed01fe8", func := "loop.example/g01262/laws.FnExactIsExponentAtMost", spec := "fnExactIsExponentAtMost", apart := false, narrowed := true }
def FnExactIsExponentAtMostUptoSaid : Prop := fnExactIsExponentAtMostUptoRow.holds Try.pinned (OpenSpec.upto fnExactIsExponentAtMostSpec)

/-- 'laws.FnExactGreaterSize', WHERE WHAT IT READS IS OF BULK AT MOST 1048576: true; the input reads as it did. -/
def fnExactGreaterSizeUptoRow : OpenClaim := { program := "ytphklalbkpohfaa", sum := "a37fbdb9b66ab9232b5733d399f3f8cb60c821a96ffbfccecb7af1c55ed01fe8", func := "loop.example/g01262/laws.FnExactGreaterSize", spec := "fnExactGreaterSize", apart := false, narrowed := true }
def FnExactGreaterSizeUptoSaid : Prop := fnExactGreaterSizeUptoRow.holds Try.pinned (OpenSpec.upto fnExactGreaterSizeSpec)

/-- 'laws.FnExactCompareExponents', WHERE WHAT IT READS IS OF BULK AT MOST 1048576: true; the input reads as it did. -/
def fnExactCompareExponentsUptoRow : OpenClaim := { program := "ytphklalbkpohfaa", sum := "a37fbdb9b66ab9232b5733d399f3f8cb60c821a96ffbfccecb7af1c55ed01fe8", func := "loop.example/g01262/laws.FnExactCompareExponents", spec := "fnExactCompareExponents", apart := false, narrowed := true }
def FnExactCompareExponentsUptoSaid : Prop := fnExactCompareExponentsUptoRow.holds Try.pinned (OpenSpec.upto fnExactCompareExponentsSpec)

/-- 'laws.FnExactHaveEqualSums', WHERE WHAT IT READS IS OF BULK AT MOST 1048576: true; the input reads as it did. -/
def fnExactHaveEqualSumsUptoRow : OpenClaim := { program := "ytphklalbkpohfaa", sum := "a37fbdb9b66ab9232b5733d399f3f8cb60c821a96ffbfccecb7af1c55ed01fe8", func := "loop.example/g01262/laws.FnExactHaveEqualSums", spec := "fnExactHaveEqualSums", unfollowed := true, recurses := true, apart := false, narrowed := true }
def FnExactHaveEqualSumsUptoSaid : Prop := fnExactHaveEqualSumsUptoRow.holds Try.pinned (OpenSpec.upto fnExactHaveEqualSumsSpec)

/-- 'laws.FnExactCostOf', WHERE WHAT IT READS IS OF BULK AT MOST 1048576: true; the input reads as it did. -/
def fnExactCostOfUptoRow : OpenClaim := { program := "ytphklalbkpohfaa", sum := "a37fbdb9b66ab9232b5733d399f3f8cb60c821a96ffbfccecb7af1c55ed01fe8", func := "loop.example/g01262/laws.FnExactCostOf", spec := "fnExactCostOf", apart := false, narrowed := true }
def FnExactCostOfUptoSaid : Prop := fnExactCostOfUptoRow.holds Try.pinned (OpenSpec.upto fnExactCostOfSpec)

/-- 'laws.FnExactTensorOfScheme', WHERE WHAT IT READS IS OF BULK AT MOST 1048576: true; the input reads as it did. -/
def fnExactTensorOfSchemeUptoRow : OpenClaim := { program := "ytphklalbkpohfaa", sum := "a37fbdb9b66ab9232b5733d399f3f8cb60c821a96ffbfccecb7af1c55ed01fe8", func := "loop.example/g01262/laws.FnExactTensorOfScheme", spec := "fnExactTensorOfScheme", unfollowed := true, recurses := true, apart := false, narrowed := true }
def FnExactTensorOfSchemeUptoSaid : Prop := fnExactTensorOfSchemeUptoRow.holds Try.pinned (OpenSpec.upto fnExactTensorOfSchemeSpec)

/-- 'laws.FnExactMixedCost', WHERE WHAT IT READS IS OF BULK AT MOST 1048576: true; the input reads as it did. -/
def fnExactMixedCostUptoRow : OpenClaim := { program := "ytphklalbkpohfaa", sum := "a37fbdb9b66ab9232b5733d399f3f8cb60c821a96ffbfccecb7af1c55ed01fe8", func := "loop.example/g01262/laws.FnExactMixedCost", spec := "fnExactMixedCost", apart := false, narrowed := true }
def FnExactMixedCostUptoSaid : Prop := fnExactMixedCostUptoRow.holds Try.pinned (OpenSpec.upto fnExactMixedCostSpec)

/-- 'laws.FnExactFirstGain', WHERE WHAT IT READS IS OF BULK AT MOST 1048576: true; the input reads as it did. -/
def fnExactFirstGainUptoRow : OpenClaim := { program := "ytphklalbkpohfaa", sum := "a37fbdb9b66ab9232b5733d399f3f8cb60c821a96ffbfccecb7af1c55ed01fe8", func := "loop.example/g01262/laws.FnExactFirstGain", spec := "fnExactFirstGain", apart := false, narrowed := true }
def FnExactFirstGainUptoSaid : Prop := fnExactFirstGainUptoRow.holds Try.pinned (OpenSpec.upto fnExactFirstGainSpec)

/-- 'laws.FnExactBestLevels', WHERE WHAT IT READS IS OF BULK AT MOST 1048576: true; the input reads as it did. -/
def fnExactBestLevelsUptoRow : OpenClaim := { program := "ytphklalbkpohfaa", sum := "a37fbdb9b66ab9232b5733d399f3f8cb60c821a96ffbfccecb7af1c55ed01fe8", func := "loop.example/g01262/laws.FnExactBestLevels", spec := "fnExactBestLevels", apart := false, narrowed := true }
def FnExactBestLevelsUptoSaid : Prop := fnExactBestLevelsUptoRow.holds Try.pinned (OpenSpec.upto fnExactBestLevelsSpec)

/-- 'laws.FnExactRepeatedCost', WHERE WHAT IT READS IS OF BULK AT MOST 1048576: true; the input reads as it did. -/
def fnExactRepeatedCostUptoRow : OpenClaim := { program := "ytphklalbkpohfaa", sum := "a37fbdb9b66ab9232b5733d399f3f8cb60c821a96ffbfccecb7af1c55ed01fe8", func := "loop.example/g01262/laws.FnExactRepeatedCost", spec := "fnExactRepeatedCost", apart := false, narrowed := true }
def FnExactRepeatedCostUptoSaid : Prop := fnExactRepeatedCostUptoRow.holds Try.pinned (OpenSpec.upto fnExactRepeatedCostSpec)

end Rows
end Go.Proofs.Ytphklalbkpohfaa
