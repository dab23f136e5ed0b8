/-
  No cell of these rows narrows 'for every input' (looked for: loops, veiled, ifaces, maps, wideKeys, modest, calm, conditions, laid).
  DERIVED. THE GIVEN ROWS OF THIS SEAT. 12 by the template 'for every input the law returns true; each argument reads behind the call as it read before'; 0 by the template 'total and deterministic' (their statements: YtilpnbejpndgpaaTotals.lean).
  GIVEN WITH THE SEED: the statements are not yours to turn. If you find one false, say at which input.
  Laid BY PROGRAM, IN A SANDBOX (cutbox-rows.mjs): the forced cells as the released guide's own fill.sh prints them over the translation 8ac2c0a55be6b815… (all of the seat's roots in one cut). By AI agents, Wed Nov 11 2026. No macro, syntax, notation, axiom, sorry.
-/
import Derived.Test.YtilpnbejpndgpaaChecked
import GoSem.Claim
import GoSem.ClaimJoined
import GoSem.ClaimMapViews
import Derived.JoinedTies
import Derived.KernelRfl
namespace Go.Proofs.Ytilpnbejpndgpaa
/- THE CELL 'sum', in the pinned program and in every row, IS THE sha256 OF THE DUMP (.gsa) THAT YtilpnbejpndgpaaProg.lean LOADS. Nothing in Lean hashes anything: it is a label: what it is worth is what the hold of that sum in a sandbox is worth. -/
noncomputable def Try.pinned : Pinned := { name := "ytilpnbejpndgpaa", sum := "8ac2c0a55be6b815bd2b7f6208733cd0539a0bc42c902c438a2806faf08bed9e", checked := Try.checked }
namespace Rows
def none {H : Type} : Left H := { results := [], args := [] }

/-- 'laws.FnExactIsSimple': WHATEVER THE INPUT: true; the input reads as it did. -/
def fnExactIsSimpleSpec : ChangeSpec := { name := "fnExactIsSimple", fn := fun _ => fun
  | [d] => { results := [.lit (.bool true)], args := [d] }
  | _ => none }
def fnExactIsSimpleRow : OpenClaim := { program := "ytilpnbejpndgpaa", sum := "8ac2c0a55be6b815bd2b7f6208733cd0539a0bc42c902c438a2806faf08bed9e", func := "loop.example/g01262/laws.FnExactIsSimple", spec := "fnExactIsSimple", unfollowed := true, recurses := true, apart := false }
def FnExactIsSimpleSaid : Prop := fnExactIsSimpleRow.holds Try.pinned (OpenSpec.ofChange fnExactIsSimpleSpec)

/-- ITS FALSE NEIGHBOUR: 'it returns false'. Refute it at one input. -/
def fnExactIsSimpleWrong : ChangeSpec := { name := "fnExactIsSimple", fn := fun _ => fun
  | [d] => { results := [.lit (.bool false)], args := [d] }
  | _ => none }
def FnExactIsSimpleWrongFalsely : Prop := fnExactIsSimpleRow.holds Try.pinned (OpenSpec.ofChange fnExactIsSimpleWrong)

/-- 'laws.FnExactFactorsOfSimple': WHATEVER THE INPUT: true; the input reads as it did. -/
def fnExactFactorsOfSimpleSpec : ChangeSpec := { name := "fnExactFactorsOfSimple", fn := fun _ => fun
  | [d] => { results := [.lit (.bool true)], args := [d] }
  | _ => none }
def fnExactFactorsOfSimpleRow : OpenClaim := { program := "ytilpnbejpndgpaa", sum := "8ac2c0a55be6b815bd2b7f6208733cd0539a0bc42c902c438a2806faf08bed9e", func := "loop.example/g01262/laws.FnExactFactorsOfSimple", spec := "fnExactFactorsOfSimple", unfollowed := true, recurses := true, apart := false }
def FnExactFactorsOfSimpleSaid : Prop := fnExactFactorsOfSimpleRow.holds Try.pinned (OpenSpec.ofChange fnExactFactorsOfSimpleSpec)

/-- ITS FALSE NEIGHBOUR: 'it returns false'. Refute it at one input. -/
def fnExactFactorsOfSimpleWrong : ChangeSpec := { name := "fnExactFactorsOfSimple", fn := fun _ => fun
  | [d] => { results := [.lit (.bool false)], args := [d] }
  | _ => none }
def FnExactFactorsOfSimpleWrongFalsely : Prop := fnExactFactorsOfSimpleRow.holds Try.pinned (OpenSpec.ofChange fnExactFactorsOfSimpleWrong)

/-- 'laws.FnExactDepthsOf': WHATEVER THE INPUT: true; the input reads as it did. -/
def fnExactDepthsOfSpec : ChangeSpec := { name := "fnExactDepthsOf", fn := fun _ => fun
  | [d] => { results := [.lit (.bool true)], args := [d] }
  | _ => none }
def fnExactDepthsOfRow : OpenClaim := { program := "ytilpnbejpndgpaa", sum := "8ac2c0a55be6b815bd2b7f6208733cd0539a0bc42c902c438a2806faf08bed9e", func := "loop.example/g01262/laws.FnExactDepthsOf", spec := "fnExactDepthsOf", apart := false }
def FnExactDepthsOfSaid : Prop := fnExactDepthsOfRow.holds Try.pinned (OpenSpec.ofChange fnExactDepthsOfSpec)

/-- ITS FALSE NEIGHBOUR: 'it returns false'. Refute it at one input. -/
def fnExactDepthsOfWrong : ChangeSpec := { name := "fnExactDepthsOf", fn := fun _ => fun
  | [d] => { results := [.lit (.bool false)], args := [d] }
  | _ => none }
def FnExactDepthsOfWrongFalsely : Prop := fnExactDepthsOfRow.holds Try.pinned (OpenSpec.ofChange fnExactDepthsOfWrong)

/-- 'laws.FnExactRunProgram': WHATEVER THE INPUT: true; the input reads as it did. -/
def fnExactRunProgramSpec : ChangeSpec := { name := "fnExactRunProgram", fn := fun _ => fun
  | [d1, d2] => { results := [.lit (.bool true)], args := [d1, d2] }
  | _ => none }
def fnExactRunProgramRow : OpenClaim := { program := "ytilpnbejpndgpaa", sum := "8ac2c0a55be6b815bd2b7f6208733cd0539a0bc42c902c438a2806faf08bed9e", func := "loop.example/g01262/laws.FnExactRunProgram", spec := "fnExactRunProgram", apart := false }
def FnExactRunProgramSaid : Prop := fnExactRunProgramRow.holds Try.pinned (OpenSpec.ofChange fnExactRunProgramSpec)

/-- ITS FALSE NEIGHBOUR: 'it returns false'. Refute it at one input. -/
def fnExactRunProgramWrong : ChangeSpec := { name := "fnExactRunProgram", fn := fun _ => fun
  | [d1, d2] => { results := [.lit (.bool false)], args := [d1, d2] }
  | _ => none }
def FnExactRunProgramWrongFalsely : Prop := fnExactRunProgramRow.holds Try.pinned (OpenSpec.ofChange fnExactRunProgramWrong)

/-- 'laws.FnExactWithoutNeedless': WHATEVER THE INPUT: true; the input reads as it did. -/
def fnExactWithoutNeedlessSpec : ChangeSpec := { name := "fnExactWithoutNeedless", fn := fun _ => fun
  | [d] => { results := [.lit (.bool true)], args := [d] }
  | _ => none }
def fnExactWithoutNeedlessRow : OpenClaim := { program := "ytilpnbejpndgpaa", sum := "8ac2c0a55be6b815bd2b7f6208733cd0539a0bc42c902c438a2806faf08bed9e", func := "loop.example/g01262/laws.FnExactWithoutNeedless", spec := "fnExactWithoutNeedless", apart := false }
def FnExactWithoutNeedlessSaid : Prop := fnExactWithoutNeedlessRow.holds Try.pinned (OpenSpec.ofChange fnExactWithoutNeedlessSpec)

/-- ITS FALSE NEIGHBOUR: 'it returns false'. Refute it at one input. -/
def fnExactWithoutNeedlessWrong : ChangeSpec := { name := "fnExactWithoutNeedless", fn := fun _ => fun
  | [d] => { results := [.lit (.bool false)], args := [d] }
  | _ => none }
def FnExactWithoutNeedlessWrongFalsely : Prop := fnExactWithoutNeedlessRow.holds Try.pinned (OpenSpec.ofChange fnExactWithoutNeedlessWrong)

/-- 'laws.FnExactPlainProgram': WHATEVER THE INPUT: true; the input reads as it did. -/
def fnExactPlainProgramSpec : ChangeSpec := { name := "fnExactPlainProgram", fn := fun _ => fun
  | [d1, d2, d3] => { results := [.lit (.bool true)], args := [d1, d2, d3] }
  | _ => none }
def fnExactPlainProgramRow : OpenClaim := { program := "ytilpnbejpndgpaa", sum := "8ac2c0a55be6b815bd2b7f6208733cd0539a0bc42c902c438a2806faf08bed9e", func := "loop.example/g01262/laws.FnExactPlainProgram", spec := "fnExactPlainProgram", apart := false }
def FnExactPlainProgramSaid : Prop := fnExactPlainProgramRow.holds Try.pinned (OpenSpec.ofChange fnExactPlainProgramSpec)

/-- ITS FALSE NEIGHBOUR: 'it returns false'. Refute it at one input. -/
def fnExactPlainProgramWrong : ChangeSpec := { name := "fnExactPlainProgram", fn := fun _ => fun
  | [d1, d2, d3] => { results := [.lit (.bool false)], args := [d1, d2, d3] }
  | _ => none }
def FnExactPlainProgramWrongFalsely : Prop := fnExactPlainProgramRow.holds Try.pinned (OpenSpec.ofChange fnExactPlainProgramWrong)

/-- 'laws.FnExactFormsOf': WHATEVER THE INPUT: true; the input reads as it did. -/
def fnExactFormsOfSpec : ChangeSpec := { name := "fnExactFormsOf", fn := fun _ => fun
  | [d] => { results := [.lit (.bool true)], args := [d] }
  | _ => none }
def fnExactFormsOfRow : OpenClaim := { program := "ytilpnbejpndgpaa", sum := "8ac2c0a55be6b815bd2b7f6208733cd0539a0bc42c902c438a2806faf08bed9e", func := "loop.example/g01262/laws.FnExactFormsOf", spec := "fnExactFormsOf", apart := false }
def FnExactFormsOfSaid : Prop := fnExactFormsOfRow.holds Try.pinned (OpenSpec.ofChange fnExactFormsOfSpec)

/-- ITS FALSE NEIGHBOUR: 'it returns false'. Refute it at one input. -/
def fnExactFormsOfWrong : ChangeSpec := { name := "fnExactFormsOf", fn := fun _ => fun
  | [d] => { results := [.lit (.bool false)], args := [d] }
  | _ => none }
def FnExactFormsOfWrongFalsely : Prop := fnExactFormsOfRow.holds Try.pinned (OpenSpec.ofChange fnExactFormsOfWrong)

/-- 'laws.FnExactSharedProgram': WHATEVER THE INPUT: true; the input reads as it did. -/
def fnExactSharedProgramSpec : ChangeSpec := { name := "fnExactSharedProgram", fn := fun _ => fun
  | [d1, d2, d3] => { results := [.lit (.bool true)], args := [d1, d2, d3] }
  | _ => none }
def fnExactSharedProgramRow : OpenClaim := { program := "ytilpnbejpndgpaa", sum := "8ac2c0a55be6b815bd2b7f6208733cd0539a0bc42c902c438a2806faf08bed9e", func := "loop.example/g01262/laws.FnExactSharedProgram", spec := "fnExactSharedProgram", apart := false }
def FnExactSharedProgramSaid : Prop := fnExactSharedProgramRow.holds Try.pinned (OpenSpec.ofChange fnExactSharedProgramSpec)

/-- ITS FALSE NEIGHBOUR: 'it returns false'. Refute it at one input. -/
def fnExactSharedProgramWrong : ChangeSpec := { name := "fnExactSharedProgram", fn := fun _ => fun
  | [d1, d2, d3] => { results := [.lit (.bool false)], args := [d1, d2, d3] }
  | _ => none }
def FnExactSharedProgramWrongFalsely : Prop := fnExactSharedProgramRow.holds Try.pinned (OpenSpec.ofChange fnExactSharedProgramWrong)

/-- 'laws.FnExactMakeProduct': WHATEVER THE INPUT: true; the input reads as it did. -/
def fnExactMakeProductSpec : ChangeSpec := { name := "fnExactMakeProduct", fn := fun _ => fun
  | [d1, d2, d3] => { results := [.lit (.bool true)], args := [d1, d2, d3] }
  | _ => none }
def fnExactMakeProductRow : OpenClaim := { program := "ytilpnbejpndgpaa", sum := "8ac2c0a55be6b815bd2b7f6208733cd0539a0bc42c902c438a2806faf08bed9e", func := "loop.example/g01262/laws.FnExactMakeProduct", spec := "fnExactMakeProduct", apart := false }
def FnExactMakeProductSaid : Prop := fnExactMakeProductRow.holds Try.pinned (OpenSpec.ofChange fnExactMakeProductSpec)

/-- ITS FALSE NEIGHBOUR: 'it returns false'. Refute it at one input. -/
def fnExactMakeProductWrong : ChangeSpec := { name := "fnExactMakeProduct", fn := fun _ => fun
  | [d1, d2, d3] => { results := [.lit (.bool false)], args := [d1, d2, d3] }
  | _ => none }
def FnExactMakeProductWrongFalsely : Prop := fnExactMakeProductRow.holds Try.pinned (OpenSpec.ofChange fnExactMakeProductWrong)

/-- 'laws.FnExactStepsOf': WHATEVER THE INPUT: true; the input reads as it did. -/
def fnExactStepsOfSpec : ChangeSpec := { name := "fnExactStepsOf", fn := fun _ => fun
  | [d1, d2] => { results := [.lit (.bool true)], args := [d1, d2] }
  | _ => none }
def fnExactStepsOfRow : OpenClaim := { program := "ytilpnbejpndgpaa", sum := "8ac2c0a55be6b815bd2b7f6208733cd0539a0bc42c902c438a2806faf08bed9e", func := "loop.example/g01262/laws.FnExactStepsOf", spec := "fnExactStepsOf", unfollowed := true, recurses := true, apart := false }
def FnExactStepsOfSaid : Prop := fnExactStepsOfRow.holds Try.pinned (OpenSpec.ofChange fnExactStepsOfSpec)

/-- ITS FALSE NEIGHBOUR: 'it returns false'. Refute it at one input. -/
def fnExactStepsOfWrong : ChangeSpec := { name := "fnExactStepsOf", fn := fun _ => fun
  | [d1, d2] => { results := [.lit (.bool false)], args := [d1, d2] }
  | _ => none }
def FnExactStepsOfWrongFalsely : Prop := fnExactStepsOfRow.holds Try.pinned (OpenSpec.ofChange fnExactStepsOfWrong)

/-- 'laws.FnExactProgramsOf': WHATEVER THE INPUT: true; the input reads as it did. -/
def fnExactProgramsOfSpec : ChangeSpec := { name := "fnExactProgramsOf", fn := fun _ => fun
  | [d1, d2] => { results := [.lit (.bool true)], args := [d1, d2] }
  | _ => none }
def fnExactProgramsOfRow : OpenClaim := { program := "ytilpnbejpndgpaa", sum := "8ac2c0a55be6b815bd2b7f6208733cd0539a0bc42c902c438a2806faf08bed9e", func := "loop.example/g01262/laws.FnExactProgramsOf", spec := "fnExactProgramsOf", unfollowed := true, recurses := true, apart := false }
def FnExactProgramsOfSaid : Prop := fnExactProgramsOfRow.holds Try.pinned (OpenSpec.ofChange fnExactProgramsOfSpec)

/-- ITS FALSE NEIGHBOUR: 'it returns false'. Refute it at one input. -/
def fnExactProgramsOfWrong : ChangeSpec := { name := "fnExactProgramsOf", fn := fun _ => fun
  | [d1, d2] => { results := [.lit (.bool false)], args := [d1, d2] }
  | _ => none }
def FnExactProgramsOfWrongFalsely : Prop := fnExactProgramsOfRow.holds Try.pinned (OpenSpec.ofChange fnExactProgramsOfWrong)

/-- 'laws.FnExactRunScheme': WHATEVER THE INPUT: true; the input reads as it did. -/
def fnExactRunSchemeSpec : ChangeSpec := { name := "fnExactRunScheme", fn := fun _ => fun
  | [d1, d2, d3, d4] => { results := [.lit (.bool true)], args := [d1, d2, d3, d4] }
  | _ => none }
def fnExactRunSchemeRow : OpenClaim := { program := "ytilpnbejpndgpaa", sum := "8ac2c0a55be6b815bd2b7f6208733cd0539a0bc42c902c438a2806faf08bed9e", func := "loop.example/g01262/laws.FnExactRunScheme", spec := "fnExactRunScheme", unfollowed := true, recurses := true, apart := false }
def FnExactRunSchemeSaid : Prop := fnExactRunSchemeRow.holds Try.pinned (OpenSpec.ofChange fnExactRunSchemeSpec)

/-- ITS FALSE NEIGHBOUR: 'it returns false'. Refute it at one input. -/
def fnExactRunSchemeWrong : ChangeSpec := { name := "fnExactRunScheme", fn := fun _ => fun
  | [d1, d2, d3, d4] => { results := [.lit (.bool false)], args := [d1, d2, d3, d4] }
  | _ => none }
def FnExactRunSchemeWrongFalsely : Prop := fnExactRunSchemeRow.holds Try.pinned (OpenSpec.ofChange fnExactRunSchemeWrong)

/- THE SECOND FORM. 'bulk': how many values and letters a reading holds, each counted each time it is reached (what is shared counts as often as it is met; a slice's spare places count too). A statement '..UptoSaid' is the law's where the arguments, and the package variables that the reading takes, are together of bulk at most 1048576: NARROWER than '..Said'. Prove '..Said' where nothing that the law and all that it calls make is longer than what came in: it says more and counts as full. Else prove '..UptoSaid'. A law counts once. -/
mutual
def uptoBulk {H : Type} : DataW H → Nat
  | .lit (.string bytes) => bytes.length + 1
  | .lit _ => 1
  | .nil => 1
  | .ptr d => uptoBulk d + 1
  | .slice elems spare => uptoBulkAll elems + uptoBulkAll spare + 1
  | .agg parts => uptoBulkAll parts + 1
  | .iface _ d => uptoBulk d + 1
  | .map entries => uptoBulkEntries entries + 1
  | .held _ => 1
def uptoBulkAll {H : Type} : List (DataW H) → Nat
  | [] => 0
  | d :: r => uptoBulk d + uptoBulkAll r
def uptoBulkEntries {H : Type} : List (Lit × DataW H) → Nat
  | [] => 0
  | x :: r => uptoBulkEntry x + uptoBulkEntries r
def uptoBulkEntry {H : Type} : Lit × DataW H → Nat
  | (.string bytes, d) => bytes.length + uptoBulk d + 1
  | (_, d) => uptoBulk d + 1
 end
def uptoSmall : (H : Type) → List (DataW H) → Bool := fun _ ds => decide (uptoBulkAll ds ≤ 1048576)
def OpenSpec.upto (s : _root_.Go.ChangeSpec) : _root_.Go.OpenSpec := { _root_.Go.OpenSpec.ofChange s with cond := some uptoSmall }

/-- 'laws.FnExactIsSimple', WHERE WHAT IT READS IS OF BULK AT MOST 1048576: true; the input reads as it did. -/
def fnExactIsSimpleUptoRow : OpenClaim := { program := "ytilpnbejpndgpaa", sum := "8ac2c0a55be6b815bd2b7f6208733cd0539a0bc42c902c438a2806faf08bed9e", func := "loop.example/g01262/laws.FnExactIsSimple", spec := "fnExactIsSimple", unfollowed := true, recurses := true, apart := false, narrowed := true }
def FnExactIsSimpleUptoSaid : Prop := fnExactIsSimpleUptoRow.holds Try.pinned (OpenSpec.upto fnExactIsSimpleSpec)

/-- 'laws.FnExactFactorsOfSimple', WHERE WHAT IT READS IS OF BULK AT MOST 1048576: true; the input reads as it did. -/
def fnExactFactorsOfSimpleUptoRow : OpenClaim := { program := "ytilpnbejpndgpaa", sum := "8ac2c0a55be6b815bd2b7f6208733cd0539a0bc42c902c438a2806faf08bed9e", func := "loop.example/g01262/laws.FnExactFactorsOfSimple", spec := "fnExactFactorsOfSimple", unfollowed := true, recurses := true, apart := false, narrowed := true }
def FnExactFactorsOfSimpleUptoSaid : Prop := fnExactFactorsOfSimpleUptoRow.holds Try.pinned (OpenSpec.upto fnExactFactorsOfSimpleSpec)

/-- 'laws.FnExactDepthsOf', WHERE WHAT IT READS IS OF BULK AT MOST 1048576: true; the input reads as it did. -/
def fnExactDepthsOfUptoRow : OpenClaim := { program := "ytilpnbejpndgpaa", sum := "8ac2c0a55be6b815bd2b7f6208733cd0539a0bc42c902c438a2806faf08bed9e", func := "loop.example/g01262/laws.FnExactDepthsOf", spec := "fnExactDepthsOf", apart := false, narrowed := true }
def FnExactDepthsOfUptoSaid : Prop := fnExactDepthsOfUptoRow.holds Try.pinned (OpenSpec.upto fnExactDepthsOfSpec)

/-- 'laws.FnExactRunProgram', WHERE WHAT IT READS IS OF BULK AT MOST 1048576: true; the input reads as it did. -/
def fnExactRunProgramUptoRow : OpenClaim := { program := "ytilpnbejpndgpaa", sum := "8ac2c0a55be6b815bd2b7f6208733cd0539a0bc42c902c438a2806faf08bed9e", func := "loop.example/g01262/laws.FnExactRunProgram", spec := "fnExactRunProgram", apart := false, narrowed := true }
def FnExactRunProgramUptoSaid : Prop := fnExactRunProgramUptoRow.holds Try.pinned (OpenSpec.upto fnExactRunProgramSpec)

/-- 'laws.FnExactWithoutNeedless', WHERE WHAT IT READS IS OF BULK AT MOST 1048576: true; the input reads as it did. -/
def fnExactWithoutNeedlessUptoRow : OpenClaim := { program := "ytilpnbejpndgpaa", sum := "8ac2c0a55be6b815bd2b7f6208733cd0539a0bc42c902c438a2806faf08bed9e", func := "loop.example/g01262/laws.FnExactWithoutNeedless", spec := "fnExactWithoutNeedless", apart := false, narrowed := true }
def FnExactWithoutNeedlessUptoSaid : Prop := fnExactWithoutNeedlessUptoRow.holds Try.pinned (OpenSpec.upto fnExactWithoutNeedlessSpec)

/-- 'laws.FnExactPlainProgram', WHERE WHAT IT READS IS OF BULK AT MOST 1048576: true; the input reads as it did. -/
def fnExactPlainProgramUptoRow : OpenClaim := { program := "ytilpnbejpndgpaa", sum := "8ac2c0a55be6b815bd2b7f6208733cd0539a0bc42c902c438a2806faf08bed9e", func := "loop.example/g01262/laws.FnExactPlainProgram", spec := "fnExactPlainProgram", apart := false, narrowed := true }
def FnExactPlainProgramUptoSaid : Prop := fnExactPlainProgramUptoRow.holds Try.pinned (OpenSpec.upto fnExactPlainProgramSpec)

/-- 'laws.FnExactFormsOf', WHERE WHAT IT READS IS OF BULK AT MOST 1048576: true; the input reads as it did. -/
def fnExactFormsOfUptoRow : OpenClaim := { program := "ytilpnbejpndgpaa", sum := "8ac2c0a55be6b815bd2b7f6208733cd0539a0bc42c902c438a2806faf08bed9e", func := "loop.example/g01262/laws.FnExactFormsOf", spec := "fnExactFormsOf", apart := false, narrowed := true }
def FnExactFormsOfUptoSaid : Prop := fnExactFormsOfUptoRow.holds Try.pinned (OpenSpec.upto fnExactFormsOfSpec)

/-- 'laws.FnExactSharedProgram', WHERE WHAT IT READS IS OF BULK AT MOST 1048576: true; the input reads as it did. -/
def fnExactSharedProgramUptoRow : OpenClaim := { program := "ytilpnbejpndgpaa", sum := "8ac2c0a55be6b815bd2b7f6208733cd0539a0bc42c902c438a2806faf08bed9e", func := "loop.example/g01262/laws.FnExactSharedProgram", spec := "fnExactSharedProgram", apart := false, narrowed := true }
def FnExactSharedProgramUptoSaid : Prop := fnExactSharedProgramUptoRow.holds Try.pinned (OpenSpec.upto fnExactSharedProgramSpec)

/-- 'laws.FnExactMakeProduct', WHERE WHAT IT READS IS OF BULK AT MOST 1048576: true; the input reads as it did. -/
def fnExactMakeProductUptoRow : OpenClaim := { program := "ytilpnbejpndgpaa", sum := "8ac2c0a55be6b815bd2b7f6208733cd0539a0bc42c902c438a2806faf08bed9e", func := "loop.example/g01262/laws.FnExactMakeProduct", spec := "fnExactMakeProduct", apart := false, narrowed := true }
def FnExactMakeProductUptoSaid : Prop := fnExactMakeProductUptoRow.holds Try.pinned (OpenSpec.upto fnExactMakeProductSpec)

/-- 'laws.FnExactStepsOf', WHERE WHAT IT READS IS OF BULK AT MOST 1048576: true; the input reads as it did. -/
def fnExactStepsOfUptoRow : OpenClaim := { program := "ytilpnbejpndgpaa", sum := "8ac2c0a55be6b815bd2b7f6208733cd0539a0bc42c902c438a2806faf08bed9e", func := "loop.example/g01262/laws.FnExactStepsOf", spec := "fnExactStepsOf", unfollowed := true, recurses := true, apart := false, narrowed := true }
def FnExactStepsOfUptoSaid : Prop := fnExactStepsOfUptoRow.holds Try.pinned (OpenSpec.upto fnExactStepsOfSpec)

/-- 'laws.FnExactProgramsOf', WHERE WHAT IT READS IS OF BULK AT MOST 1048576: true; the input reads as it did. -/
def fnExactProgramsOfUptoRow : OpenClaim := { program := "ytilpnbejpndgpaa", sum := "8ac2c0a55be6b815bd2b7f6208733cd0539a0bc42c902c438a2806faf08bed9e", func := "loop.example/g01262/laws.FnExactProgramsOf", spec := "fnExactProgramsOf", unfollowed := true, recurses := true, apart := false, narrowed := true }
def FnExactProgramsOfUptoSaid : Prop := fnExactProgramsOfUptoRow.holds Try.pinned (OpenSpec.upto fnExactProgramsOfSpec)

/-- 'laws.FnExactRunScheme', WHERE WHAT IT READS IS OF BULK AT MOST 1048576: true; the input reads as it did. -/
def fnExactRunSchemeUptoRow : OpenClaim := { program := "ytilpnbejpndgpaa", sum := "8ac2c0a55be6b815bd2b7f6208733cd0539a0bc42c902c438a2806faf08bed9e", func := "loop.example/g01262/laws.FnExactRunScheme", spec := "fnExactRunScheme", unfollowed := true, recurses := true, apart := false, narrowed := true }
def FnExactRunSchemeUptoSaid : Prop := fnExactRunSchemeUptoRow.holds Try.pinned (OpenSpec.upto fnExactRunSchemeSpec)

end Rows
end Go.Proofs.Ytilpnbejpndgpaa
