/-
  No cell of these rows narrows 'for every input' (looked for: loops, veiled, ifaces, maps, wideKeys, modest, calm, conditions, laid).
  DERIVED. THE GIVEN ROWS OF THIS SEAT. 12 by the template 'for every input the law returns true; each argument reads behind the call as it read before'; 0 by the template 'total and deterministic' (their statements: YtnjhhgfpclngcaaTotals.lean).
  GIVEN WITH THE SEED: the statements are not yours to turn. If you find one false, say at which input.
  Laid BY PROGRAM, IN A SANDBOX (cutbox-rows.mjs): the forced cells as the released guide's own fill.sh prints them over the translation 58f15427fe4bc8d3… (all of the seat's roots in one cut). By AI agents, Wed Nov 11 2026. No macro, syntax, notation, axiom, sorry.
-/
import Derived.Test.YtnjhhgfpclngcaaChecked
import GoSem.Claim
import GoSem.ClaimJoined
import GoSem.ClaimMapViews
import Derived.JoinedTies
import Derived.KernelRfl
namespace Go.Proofs.Ytnjhhgfpclngcaa
/- THE CELL 'sum', in the pinned program and in every row, IS THE sha256 OF THE DUMP (.gsa) THAT YtnjhhgfpclngcaaProg.lean LOADS. Nothing in Lean hashes anything: it is a label: what it is worth is what the hold of that sum in a sandbox is worth. -/
noncomputable def Try.pinned : Pinned := { name := "ytnjhhgfpclngcaa", sum := "58f15427fe4bc8d377ca620f57aa002f114bb18482761cfe92d0026d2445c6f6", checked := Try.checked }
namespace Rows
def none {H : Type} : Left H := { results := [], args := [] }

/-- 'laws.FnExactPlainCost': WHATEVER THE INPUT: true; the input reads as it did. -/
def fnExactPlainCostSpec : ChangeSpec := { name := "fnExactPlainCost", fn := fun _ => fun
  | [d] => { results := [.lit (.bool true)], args := [d] }
  | _ => none }
def fnExactPlainCostRow : OpenClaim := { program := "ytnjhhgfpclngcaa", sum := "58f15427fe4bc8d377ca620f57aa002f114bb18482761cfe92d0026d2445c6f6", func := "loop.example/g01262/laws.FnExactPlainCost", spec := "fnExactPlainCost", apart := false }
def FnExactPlainCostSaid : Prop := fnExactPlainCostRow.holds Try.pinned (OpenSpec.ofChange fnExactPlainCostSpec)

/-- ITS FALSE NEIGHBOUR: 'it returns false'. Refute it at one input. -/
def fnExactPlainCostWrong : ChangeSpec := { name := "fnExactPlainCost", fn := fun _ => fun
  | [d] => { results := [.lit (.bool false)], args := [d] }
  | _ => none }
def FnExactPlainCostWrongFalsely : Prop := fnExactPlainCostRow.holds Try.pinned (OpenSpec.ofChange fnExactPlainCostWrong)

/-- 'laws.FnExactIsTensor': WHATEVER THE INPUT: true; the input reads as it did. -/
def fnExactIsTensorSpec : ChangeSpec := { name := "fnExactIsTensor", fn := fun _ => fun
  | [d] => { results := [.lit (.bool true)], args := [d] }
  | _ => none }
def fnExactIsTensorRow : OpenClaim := { program := "ytnjhhgfpclngcaa", sum := "58f15427fe4bc8d377ca620f57aa002f114bb18482761cfe92d0026d2445c6f6", func := "loop.example/g01262/laws.FnExactIsTensor", spec := "fnExactIsTensor", apart := false }
def FnExactIsTensorSaid : Prop := fnExactIsTensorRow.holds Try.pinned (OpenSpec.ofChange fnExactIsTensorSpec)

/-- ITS FALSE NEIGHBOUR: 'it returns false'. Refute it at one input. -/
def fnExactIsTensorWrong : ChangeSpec := { name := "fnExactIsTensor", fn := fun _ => fun
  | [d] => { results := [.lit (.bool false)], args := [d] }
  | _ => none }
def FnExactIsTensorWrongFalsely : Prop := fnExactIsTensorRow.holds Try.pinned (OpenSpec.ofChange fnExactIsTensorWrong)

/-- 'laws.FnExactNumberAt': WHATEVER THE INPUT: true; the input reads as it did. -/
def fnExactNumberAtSpec : ChangeSpec := { name := "fnExactNumberAt", fn := fun _ => fun
  | [d1, d2, d3, d4] => { results := [.lit (.bool true)], args := [d1, d2, d3, d4] }
  | _ => none }
def fnExactNumberAtRow : OpenClaim := { program := "ytnjhhgfpclngcaa", sum := "58f15427fe4bc8d377ca620f57aa002f114bb18482761cfe92d0026d2445c6f6", func := "loop.example/g01262/laws.FnExactNumberAt", spec := "fnExactNumberAt", apart := false }
def FnExactNumberAtSaid : Prop := fnExactNumberAtRow.holds Try.pinned (OpenSpec.ofChange fnExactNumberAtSpec)

/-- ITS FALSE NEIGHBOUR: 'it returns false'. Refute it at one input. -/
def fnExactNumberAtWrong : ChangeSpec := { name := "fnExactNumberAt", fn := fun _ => fun
  | [d1, d2, d3, d4] => { results := [.lit (.bool false)], args := [d1, d2, d3, d4] }
  | _ => none }
def FnExactNumberAtWrongFalsely : Prop := fnExactNumberAtRow.holds Try.pinned (OpenSpec.ofChange fnExactNumberAtWrong)

/-- 'laws.FnExactIsProgram': WHATEVER THE INPUT: true; the input reads as it did. -/
def fnExactIsProgramSpec : ChangeSpec := { name := "fnExactIsProgram", fn := fun _ => fun
  | [d] => { results := [.lit (.bool true)], args := [d] }
  | _ => none }
def fnExactIsProgramRow : OpenClaim := { program := "ytnjhhgfpclngcaa", sum := "58f15427fe4bc8d377ca620f57aa002f114bb18482761cfe92d0026d2445c6f6", func := "loop.example/g01262/laws.FnExactIsProgram", spec := "fnExactIsProgram", apart := false }
def FnExactIsProgramSaid : Prop := fnExactIsProgramRow.holds Try.pinned (OpenSpec.ofChange fnExactIsProgramSpec)

/-- ITS FALSE NEIGHBOUR: 'it returns false'. Refute it at one input. -/
def fnExactIsProgramWrong : ChangeSpec := { name := "fnExactIsProgram", fn := fun _ => fun
  | [d] => { results := [.lit (.bool false)], args := [d] }
  | _ => none }
def FnExactIsProgramWrongFalsely : Prop := fnExactIsProgramRow.holds Try.pinned (OpenSpec.ofChange fnExactIsProgramWrong)

/-- 'laws.FnExactTurnTensor': WHATEVER THE INPUT: true; the input reads as it did. -/
def fnExactTurnTensorSpec : ChangeSpec := { name := "fnExactTurnTensor", fn := fun _ => fun
  | [d] => { results := [.lit (.bool true)], args := [d] }
  | _ => none }
def fnExactTurnTensorRow : OpenClaim := { program := "ytnjhhgfpclngcaa", sum := "58f15427fe4bc8d377ca620f57aa002f114bb18482761cfe92d0026d2445c6f6", func := "loop.example/g01262/laws.FnExactTurnTensor", spec := "fnExactTurnTensor", unfollowed := true, recurses := true, apart := false }
def FnExactTurnTensorSaid : Prop := fnExactTurnTensorRow.holds Try.pinned (OpenSpec.ofChange fnExactTurnTensorSpec)

/-- ITS FALSE NEIGHBOUR: 'it returns false'. Refute it at one input. -/
def fnExactTurnTensorWrong : ChangeSpec := { name := "fnExactTurnTensor", fn := fun _ => fun
  | [d] => { results := [.lit (.bool false)], args := [d] }
  | _ => none }
def FnExactTurnTensorWrongFalsely : Prop := fnExactTurnTensorRow.holds Try.pinned (OpenSpec.ofChange fnExactTurnTensorWrong)

/-- 'laws.FnExactAddTensors': WHATEVER THE INPUT: true; the input reads as it did. -/
def fnExactAddTensorsSpec : ChangeSpec := { name := "fnExactAddTensors", fn := fun _ => fun
  | [d1, d2, d3] => { results := [.lit (.bool true)], args := [d1, d2, d3] }
  | _ => none }
def fnExactAddTensorsRow : OpenClaim := { program := "ytnjhhgfpclngcaa", sum := "58f15427fe4bc8d377ca620f57aa002f114bb18482761cfe92d0026d2445c6f6", func := "loop.example/g01262/laws.FnExactAddTensors", spec := "fnExactAddTensors", unfollowed := true, recurses := true, apart := false }
def FnExactAddTensorsSaid : Prop := fnExactAddTensorsRow.holds Try.pinned (OpenSpec.ofChange fnExactAddTensorsSpec)

/-- ITS FALSE NEIGHBOUR: 'it returns false'. Refute it at one input. -/
def fnExactAddTensorsWrong : ChangeSpec := { name := "fnExactAddTensors", fn := fun _ => fun
  | [d1, d2, d3] => { results := [.lit (.bool false)], args := [d1, d2, d3] }
  | _ => none }
def FnExactAddTensorsWrongFalsely : Prop := fnExactAddTensorsRow.holds Try.pinned (OpenSpec.ofChange fnExactAddTensorsWrong)

/-- 'laws.FnExactKroneckerTensors': WHATEVER THE INPUT: true; the input reads as it did. -/
def fnExactKroneckerTensorsSpec : ChangeSpec := { name := "fnExactKroneckerTensors", fn := fun _ => fun
  | [d1, d2] => { results := [.lit (.bool true)], args := [d1, d2] }
  | _ => none }
def fnExactKroneckerTensorsRow : OpenClaim := { program := "ytnjhhgfpclngcaa", sum := "58f15427fe4bc8d377ca620f57aa002f114bb18482761cfe92d0026d2445c6f6", func := "loop.example/g01262/laws.FnExactKroneckerTensors", spec := "fnExactKroneckerTensors", unfollowed := true, recurses := true, apart := false }
def FnExactKroneckerTensorsSaid : Prop := fnExactKroneckerTensorsRow.holds Try.pinned (OpenSpec.ofChange fnExactKroneckerTensorsSpec)

/-- ITS FALSE NEIGHBOUR: 'it returns false'. Refute it at one input. -/
def fnExactKroneckerTensorsWrong : ChangeSpec := { name := "fnExactKroneckerTensors", fn := fun _ => fun
  | [d1, d2] => { results := [.lit (.bool false)], args := [d1, d2] }
  | _ => none }
def FnExactKroneckerTensorsWrongFalsely : Prop := fnExactKroneckerTensorsRow.holds Try.pinned (OpenSpec.ofChange fnExactKroneckerTensorsWrong)

/-- 'laws.FnExactDirectSum': WHATEVER THE INPUT: true; the input reads as it did. -/
def fnExactDirectSumSpec : ChangeSpec := { name := "fnExactDirectSum", fn := fun _ => fun
  | [d1, d2] => { results := [.lit (.bool true)], args := [d1, d2] }
  | _ => none }
def fnExactDirectSumRow : OpenClaim := { program := "ytnjhhgfpclngcaa", sum := "58f15427fe4bc8d377ca620f57aa002f114bb18482761cfe92d0026d2445c6f6", func := "loop.example/g01262/laws.FnExactDirectSum", spec := "fnExactDirectSum", unfollowed := true, recurses := true, apart := false }
def FnExactDirectSumSaid : Prop := fnExactDirectSumRow.holds Try.pinned (OpenSpec.ofChange fnExactDirectSumSpec)

/-- ITS FALSE NEIGHBOUR: 'it returns false'. Refute it at one input. -/
def fnExactDirectSumWrong : ChangeSpec := { name := "fnExactDirectSum", fn := fun _ => fun
  | [d1, d2] => { results := [.lit (.bool false)], args := [d1, d2] }
  | _ => none }
def FnExactDirectSumWrongFalsely : Prop := fnExactDirectSumRow.holds Try.pinned (OpenSpec.ofChange fnExactDirectSumWrong)

/-- 'laws.FnExactRowRank': WHATEVER THE INPUT: true; the input reads as it did. -/
def fnExactRowRankSpec : ChangeSpec := { name := "fnExactRowRank", fn := fun _ => fun
  | [d1, d2] => { results := [.lit (.bool true)], args := [d1, d2] }
  | _ => none }
def fnExactRowRankRow : OpenClaim := { program := "ytnjhhgfpclngcaa", sum := "58f15427fe4bc8d377ca620f57aa002f114bb18482761cfe92d0026d2445c6f6", func := "loop.example/g01262/laws.FnExactRowRank", spec := "fnExactRowRank", unfollowed := true, recurses := true, apart := false }
def FnExactRowRankSaid : Prop := fnExactRowRankRow.holds Try.pinned (OpenSpec.ofChange fnExactRowRankSpec)

/-- ITS FALSE NEIGHBOUR: 'it returns false'. Refute it at one input. -/
def fnExactRowRankWrong : ChangeSpec := { name := "fnExactRowRank", fn := fun _ => fun
  | [d1, d2] => { results := [.lit (.bool false)], args := [d1, d2] }
  | _ => none }
def FnExactRowRankWrongFalsely : Prop := fnExactRowRankRow.holds Try.pinned (OpenSpec.ofChange fnExactRowRankWrong)

/-- 'laws.FnExactSliceOf': WHATEVER THE INPUT: true; the input reads as it did. -/
def fnExactSliceOfSpec : ChangeSpec := { name := "fnExactSliceOf", fn := fun _ => fun
  | [d1, d2, d3] => { results := [.lit (.bool true)], args := [d1, d2, d3] }
  | _ => none }
def fnExactSliceOfRow : OpenClaim := { program := "ytnjhhgfpclngcaa", sum := "58f15427fe4bc8d377ca620f57aa002f114bb18482761cfe92d0026d2445c6f6", func := "loop.example/g01262/laws.FnExactSliceOf", spec := "fnExactSliceOf", unfollowed := true, recurses := true, apart := false }
def FnExactSliceOfSaid : Prop := fnExactSliceOfRow.holds Try.pinned (OpenSpec.ofChange fnExactSliceOfSpec)

/-- ITS FALSE NEIGHBOUR: 'it returns false'. Refute it at one input. -/
def fnExactSliceOfWrong : ChangeSpec := { name := "fnExactSliceOf", fn := fun _ => fun
  | [d1, d2, d3] => { results := [.lit (.bool false)], args := [d1, d2, d3] }
  | _ => none }
def FnExactSliceOfWrongFalsely : Prop := fnExactSliceOfRow.holds Try.pinned (OpenSpec.ofChange fnExactSliceOfWrong)

/-- 'laws.FnExactContractTensor': WHATEVER THE INPUT: true; the input reads as it did. -/
def fnExactContractTensorSpec : ChangeSpec := { name := "fnExactContractTensor", fn := fun _ => fun
  | [d1, d2, d3] => { results := [.lit (.bool true)], args := [d1, d2, d3] }
  | _ => none }
def fnExactContractTensorRow : OpenClaim := { program := "ytnjhhgfpclngcaa", sum := "58f15427fe4bc8d377ca620f57aa002f114bb18482761cfe92d0026d2445c6f6", func := "loop.example/g01262/laws.FnExactContractTensor", spec := "fnExactContractTensor", unfollowed := true, recurses := true, apart := false }
def FnExactContractTensorSaid : Prop := fnExactContractTensorRow.holds Try.pinned (OpenSpec.ofChange fnExactContractTensorSpec)

/-- ITS FALSE NEIGHBOUR: 'it returns false'. Refute it at one input. -/
def fnExactContractTensorWrong : ChangeSpec := { name := "fnExactContractTensor", fn := fun _ => fun
  | [d1, d2, d3] => { results := [.lit (.bool false)], args := [d1, d2, d3] }
  | _ => none }
def FnExactContractTensorWrongFalsely : Prop := fnExactContractTensorRow.holds Try.pinned (OpenSpec.ofChange fnExactContractTensorWrong)

/-- 'laws.FnExactFlattenRanks': WHATEVER THE INPUT: true; the input reads as it did. -/
def fnExactFlattenRanksSpec : ChangeSpec := { name := "fnExactFlattenRanks", fn := fun _ => fun
  | [d] => { results := [.lit (.bool true)], args := [d] }
  | _ => none }
def fnExactFlattenRanksRow : OpenClaim := { program := "ytnjhhgfpclngcaa", sum := "58f15427fe4bc8d377ca620f57aa002f114bb18482761cfe92d0026d2445c6f6", func := "loop.example/g01262/laws.FnExactFlattenRanks", spec := "fnExactFlattenRanks", unfollowed := true, recurses := true, apart := false }
def FnExactFlattenRanksSaid : Prop := fnExactFlattenRanksRow.holds Try.pinned (OpenSpec.ofChange fnExactFlattenRanksSpec)

/-- ITS FALSE NEIGHBOUR: 'it returns false'. Refute it at one input. -/
def fnExactFlattenRanksWrong : ChangeSpec := { name := "fnExactFlattenRanks", fn := fun _ => fun
  | [d] => { results := [.lit (.bool false)], args := [d] }
  | _ => none }
def FnExactFlattenRanksWrongFalsely : Prop := fnExactFlattenRanksRow.holds Try.pinned (OpenSpec.ofChange fnExactFlattenRanksWrong)

/- THE SECOND FORM. 'bulk': how many values and letters a reading holds, each counted each time it is reached (what is shared counts as often as it is met; a slice's spare places count too). A statement '..UptoSaid' is the law's where the arguments, and the package variables that the reading takes, are together of bulk at most 1048576: NARROWER than '..Said'. Prove '..Said' where nothing that the law and all that it calls make is longer than what came in: it says more and counts as full. Else prove '..UptoSaid'. A law counts once. -/
mutual
def uptoBulk {H : Type} : DataW H → Nat
  | .lit (.string bytes) => bytes.length + 1
  | .lit _ => 1
  | .nil => 1
  | .ptr d => uptoBulk d + 1
  | .slice elems spare => uptoBulkAll elems + uptoBulkAll spare + 1
  | .agg parts => uptoBulkAll parts + 1
  | .iface _ d => uptoBulk d + 1
  | .map entries => uptoBulkEntries entries + 1
  | .held _ => 1
def uptoBulkAll {H : Type} : List (DataW H) → Nat
  | [] => 0
  | d :: r => uptoBulk d + uptoBulkAll r
def uptoBulkEntries {H : Type} : List (Lit × DataW H) → Nat
  | [] => 0
  | x :: r => uptoBulkEntry x + uptoBulkEntries r
def uptoBulkEntry {H : Type} : Lit × DataW H → Nat
  | (.string bytes, d) => bytes.length + uptoBulk d + 1
  | (_, d) => uptoBulk d + 1
 end
def uptoSmall : (H : Type) → List (DataW H) → Bool := fun _ ds => decide (uptoBulkAll ds ≤ 1048576)
def OpenSpec.upto (s : _root_.Go.ChangeSpec) : _root_.Go.OpenSpec := { _root_.Go.OpenSpec.ofChange s with cond := some uptoSmall }

/-- 'laws.FnExactPlainCost', WHERE WHAT IT READS IS OF BULK AT MOST 1048576: true; the input reads as it did. -/
def fnExactPlainCostUptoRow : OpenClaim := { program := "ytnjhhgfpclngcaa", sum := "58f15427fe4bc8d377ca620f57aa002f114bb18482761cfe92d0026d2445c6f6", func := "loop.example/g01262/laws.FnExactPlainCost", spec := "fnExactPlainCost", apart := false, narrowed := true }
def FnExactPlainCostUptoSaid : Prop := fnExactPlainCostUptoRow.holds Try.pinned (OpenSpec.upto fnExactPlainCostSpec)

/-- 'laws.FnExactIsTensor', WHERE WHAT IT READS IS OF BULK AT MOST 1048576: true; the input reads as it did. -/
def fnExactIsTensorUptoRow : OpenClaim := { program := "ytnjhhgfpclngcaa", sum := "58f15427fe4bc8d377ca620f57aa002f114bb18482761cfe92d0026d2445c6f6", func := "loop.example/g01262/laws.FnExactIsTensor", spec := "fnExactIsTensor", apart := false, narrowed := true }
def FnExactIsTensorUptoSaid : Prop := fnExactIsTensorUptoRow.holds Try.pinned (OpenSpec.upto fnExactIsTensorSpec)

/-- 'laws.FnExactNumberAt', WHERE WHAT IT READS IS OF BULK AT MOST 1048576: true; the input reads as it did. -/
def fnExactNumberAtUptoRow : OpenClaim := { program := "ytnjhhgfpclngcaa", sum := "58f15427fe4bc8d377ca620f57aa002f114bb18482761cfe92d0026d2445c6f6", func := "loop.example/g01262/laws.FnExactNumberAt", spec := "fnExactNumberAt", apart := false, narrowed := true }
def FnExactNumberAtUptoSaid : Prop := fnExactNumberAtUptoRow.holds Try.pinned (OpenSpec.upto fnExactNumberAtSpec)

/-- 'laws.FnExactIsProgram', WHERE WHAT IT READS IS OF BULK AT MOST 1048576: true; the input reads as it did. -/
def fnExactIsProgramUptoRow : OpenClaim := { program := "ytnjhhgfpclngcaa", sum := "58f15427fe4bc8d377ca620f57aa002f114bb18482761cfe92d0026d2445c6f6", func := "loop.example/g01262/laws.FnExactIsProgram", spec := "fnExactIsProgram", apart := false, narrowed := true }
def FnExactIsProgramUptoSaid : Prop := fnExactIsProgramUptoRow.holds Try.pinned (OpenSpec.upto fnExactIsProgramSpec)

/-- 'laws.FnExactTurnTensor', WHERE WHAT IT READS IS OF BULK AT MOST 1048576: true; the input reads as it did. -/
def fnExactTurnTensorUptoRow : OpenClaim := { program := "ytnjhhgfpclngcaa", sum := "58f15427fe4bc8d377ca620f57aa002f114bb18482761cfe92d0026d2445c6f6", func := "loop.example/g01262/laws.FnExactTurnTensor", spec := "fnExactTurnTensor", unfollowed := true, recurses := true, apart := false, narrowed := true }
def FnExactTurnTensorUptoSaid : Prop := fnExactTurnTensorUptoRow.holds Try.pinned (OpenSpec.upto fnExactTurnTensorSpec)

/-- 'laws.FnExactAddTensors', WHERE WHAT IT READS IS OF BULK AT MOST 1048576: true; the input reads as it did. -/
def fnExactAddTensorsUptoRow : OpenClaim := { program := "ytnjhhgfpclngcaa", sum := "58f15427fe4bc8d377ca620f57aa002f114bb18482761cfe92d0026d2445c6f6", func := "loop.example/g01262/laws.FnExactAddTensors", spec := "fnExactAddTensors", unfollowed := true, recurses := true, apart := false, narrowed := true }
def FnExactAddTensorsUptoSaid : Prop := fnExactAddTensorsUptoRow.holds Try.pinned (OpenSpec.upto fnExactAddTensorsSpec)

/-- 'laws.FnExactKroneckerTensors', WHERE WHAT IT READS IS OF BULK AT MOST 1048576: true; the input reads as it did. -/
def fnExactKroneckerTensorsUptoRow : OpenClaim := { program := "ytnjhhgfpclngcaa", sum := "58f15427fe4bc8d377ca620f57aa002f114bb18482761cfe92d0026d2445c6f6", func := "loop.example/g01262/laws.FnExactKroneckerTensors", spec := "fnExactKroneckerTensors", unfollowed := true, recurses := true, apart := false, narrowed := true }
def FnExactKroneckerTensorsUptoSaid : Prop := fnExactKroneckerTensorsUptoRow.holds Try.pinned (OpenSpec.upto fnExactKroneckerTensorsSpec)

/-- 'laws.FnExactDirectSum', WHERE WHAT IT READS IS OF BULK AT MOST 1048576: true; the input reads as it did. -/
def fnExactDirectSumUptoRow : OpenClaim := { program := "ytnjhhgfpclngcaa", sum := "58f15427fe4bc8d377ca620f57aa002f114bb18482761cfe92d0026d2445c6f6", func := "loop.example/g01262/laws.FnExactDirectSum", spec := "fnExactDirectSum", unfollowed := true, recurses := true, apart := false, narrowed := true }
def FnExactDirectSumUptoSaid : Prop := fnExactDirectSumUptoRow.holds Try.pinned (OpenSpec.upto fnExactDirectSumSpec)

/-- 'laws.FnExactRowRank', WHERE WHAT IT READS IS OF BULK AT MOST 1048576: true; the input reads as it did. -/
def fnExactRowRankUptoRow : OpenClaim := { program := "ytnjhhgfpclngcaa", sum := "58f15427fe4bc8d377ca620f57aa002f114bb18482761cfe92d0026d2445c6f6", func := "loop.example/g01262/laws.FnExactRowRank", spec := "fnExactRowRank", unfollowed := true, recurses := true, apart := false, narrowed := true }
def FnExactRowRankUptoSaid : Prop := fnExactRowRankUptoRow.holds Try.pinned (OpenSpec.upto fnExactRowRankSpec)

/-- 'laws.FnExactSliceOf', WHERE WHAT IT READS IS OF BULK AT MOST 1048576: true; the input reads as it did. -/
def fnExactSliceOfUptoRow : OpenClaim := { program := "ytnjhhgfpclngcaa", sum := "58f15427fe4bc8d377ca620f57aa002f114bb18482761cfe92d0026d2445c6f6", func := "loop.example/g01262/laws.FnExactSliceOf", spec := "fnExactSliceOf", unfollowed := true, recurses := true, apart := false, narrowed := true }
def FnExactSliceOfUptoSaid : Prop := fnExactSliceOfUptoRow.holds Try.pinned (OpenSpec.upto fnExactSliceOfSpec)

/-- 'laws.FnExactContractTensor', WHERE WHAT IT READS IS OF BULK AT MOST 1048576: true; the input reads as it did. -/
def fnExactContractTensorUptoRow : OpenClaim := { program := "ytnjhhgfpclngcaa", sum := "58f15427fe4bc8d377ca620f57aa002f114bb18482761cfe92d0026d2445c6f6", func := "loop.example/g01262/laws.FnExactContractTensor", spec := "fnExactContractTensor", unfollowed := true, recurses := true, apart := false, narrowed := true }
def FnExactContractTensorUptoSaid : Prop := fnExactContractTensorUptoRow.holds Try.pinned (OpenSpec.upto fnExactContractTensorSpec)

/-- 'laws.FnExactFlattenRanks', WHERE WHAT IT READS IS OF BULK AT MOST 1048576: true; the input reads as it did. -/
def fnExactFlattenRanksUptoRow : OpenClaim := { program := "ytnjhhgfpclngcaa", sum := "58f15427fe4bc8d377ca620f57aa002f114bb18482761cfe92d0026d2445c6f6", func := "loop.example/g01262/laws.FnExactFlattenRanks", spec := "fnExactFlattenRanks", unfollowed := true, recurses := true, apart := false, narrowed := true }
def FnExactFlattenRanksUptoSaid : Prop := fnExactFlattenRanksUptoRow.holds Try.pinned (OpenSpec.upto fnExactFlattenRanksSpec)

end Rows
end Go.Proofs.Ytnjhhgfpclngcaa
