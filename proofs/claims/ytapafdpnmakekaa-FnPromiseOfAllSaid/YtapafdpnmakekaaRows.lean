/-
  No cell of these rows narrows 'for every input' (looked for: loops, veiled, ifaces, maps, wideKeys, modest, calm, conditions, laid).
  DERIVED. THE GIVEN ROWS OF THIS SEAT. 10 by the template 'for every input the law returns true; each argument reads behind the call as it read before'; 0 by the template 'total and deterministic' (their statements: YtapafdpnmakekaaTotals.lean).
  GIVEN WITH THE SEED: the statements are not yours to turn. If you find one false, say at which input.
  Laid BY PROGRAM, IN A SANDBOX (cutbox-rows.mjs): the forced cells as the released guide's own fill.sh prints them over the translation f04528c91f7db08a… (all of the seat's roots in one cut). By AI agents, Wed Nov 11 2026. No macro, syntax, notation, axiom, sorry.
-/
import Derived.Test.YtapafdpnmakekaaChecked
import GoSem.Claim
import GoSem.ClaimJoined
import GoSem.ClaimMapViews
import Derived.JoinedTies
import Derived.KernelRfl
namespace Go.Proofs.Ytapafdpnmakekaa
/- THE CELL 'sum', in the pinned program and in every row, IS THE sha256 OF THE DUMP (.gsa) THAT YtapafdpnmakekaaProg.lean LOADS. Nothing in Lean hashes anything: it is a label: what it is worth is what the hold of that sum in a sandbox is worth. -/
noncomputable def Try.pinned : Pinned := { name := "ytapafdpnmakekaa", sum := "f04528c91f7db08ab3800153094e08104186dc543bbd82f8beb24dce955acc93", checked := Try.checked }
namespace Rows
def none {H : Type} : Left H := { results := [], args := [] }

/-- 'laws.FnTop': WHATEVER THE INPUT: true; the input reads as it did. -/
def fnTopSpec : ChangeSpec := { name := "fnTop", fn := fun _ => fun
  | [d] => { results := [.lit (.bool true)], args := [d] }
  | _ => none }
def fnTopRow : OpenClaim := { program := "ytapafdpnmakekaa", sum := "f04528c91f7db08ab3800153094e08104186dc543bbd82f8beb24dce955acc93", func := "loop.example/g01262/laws.FnTop", spec := "fnTop", unfollowed := true, recurses := true, apart := false }
def FnTopSaid : Prop := fnTopRow.holds Try.pinned (OpenSpec.ofChange fnTopSpec)

/-- ITS FALSE NEIGHBOUR: 'it returns false'. Refute it at one input. -/
def fnTopWrong : ChangeSpec := { name := "fnTop", fn := fun _ => fun
  | [d] => { results := [.lit (.bool false)], args := [d] }
  | _ => none }
def FnTopWrongFalsely : Prop := fnTopRow.holds Try.pinned (OpenSpec.ofChange fnTopWrong)

/-- 'laws.FnTensorSums': WHATEVER THE INPUT: true; the input reads as it did. -/
def fnTensorSumsSpec : ChangeSpec := { name := "fnTensorSums", fn := fun _ => fun
  | [d] => { results := [.lit (.bool true)], args := [d] }
  | _ => none }
def fnTensorSumsRow : OpenClaim := { program := "ytapafdpnmakekaa", sum := "f04528c91f7db08ab3800153094e08104186dc543bbd82f8beb24dce955acc93", func := "loop.example/g01262/laws.FnTensorSums", spec := "fnTensorSums", unfollowed := true, recurses := true, apart := false }
def FnTensorSumsSaid : Prop := fnTensorSumsRow.holds Try.pinned (OpenSpec.ofChange fnTensorSumsSpec)

/-- ITS FALSE NEIGHBOUR: 'it returns false'. Refute it at one input. -/
def fnTensorSumsWrong : ChangeSpec := { name := "fnTensorSums", fn := fun _ => fun
  | [d] => { results := [.lit (.bool false)], args := [d] }
  | _ => none }
def FnTensorSumsWrongFalsely : Prop := fnTensorSumsRow.holds Try.pinned (OpenSpec.ofChange fnTensorSumsWrong)

/-- 'laws.FnFlips': WHATEVER THE INPUT: true; the input reads as it did. -/
def fnFlipsSpec : ChangeSpec := { name := "fnFlips", fn := fun _ => fun
  | [d] => { results := [.lit (.bool true)], args := [d] }
  | _ => none }
def fnFlipsRow : OpenClaim := { program := "ytapafdpnmakekaa", sum := "f04528c91f7db08ab3800153094e08104186dc543bbd82f8beb24dce955acc93", func := "loop.example/g01262/laws.FnFlips", spec := "fnFlips", unfollowed := true, recurses := true, apart := false }
def FnFlipsSaid : Prop := fnFlipsRow.holds Try.pinned (OpenSpec.ofChange fnFlipsSpec)

/-- ITS FALSE NEIGHBOUR: 'it returns false'. Refute it at one input. -/
def fnFlipsWrong : ChangeSpec := { name := "fnFlips", fn := fun _ => fun
  | [d] => { results := [.lit (.bool false)], args := [d] }
  | _ => none }
def FnFlipsWrongFalsely : Prop := fnFlipsRow.holds Try.pinned (OpenSpec.ofChange fnFlipsWrong)

/-- 'laws.FnPrograms': WHATEVER THE INPUT: true; the input reads as it did. -/
def fnProgramsSpec : ChangeSpec := { name := "fnPrograms", fn := fun _ => fun
  | [d] => { results := [.lit (.bool true)], args := [d] }
  | _ => none }
def fnProgramsRow : OpenClaim := { program := "ytapafdpnmakekaa", sum := "f04528c91f7db08ab3800153094e08104186dc543bbd82f8beb24dce955acc93", func := "loop.example/g01262/laws.FnPrograms", spec := "fnPrograms", apart := false }
def FnProgramsSaid : Prop := fnProgramsRow.holds Try.pinned (OpenSpec.ofChange fnProgramsSpec)

/-- ITS FALSE NEIGHBOUR: 'it returns false'. Refute it at one input. -/
def fnProgramsWrong : ChangeSpec := { name := "fnPrograms", fn := fun _ => fun
  | [d] => { results := [.lit (.bool false)], args := [d] }
  | _ => none }
def FnProgramsWrongFalsely : Prop := fnProgramsRow.holds Try.pinned (OpenSpec.ofChange fnProgramsWrong)

/-- 'laws.FnEquations': WHATEVER THE INPUT: true; the input reads as it did. -/
def fnEquationsSpec : ChangeSpec := { name := "fnEquations", fn := fun _ => fun
  | [d] => { results := [.lit (.bool true)], args := [d] }
  | _ => none }
def fnEquationsRow : OpenClaim := { program := "ytapafdpnmakekaa", sum := "f04528c91f7db08ab3800153094e08104186dc543bbd82f8beb24dce955acc93", func := "loop.example/g01262/laws.FnEquations", spec := "fnEquations", apart := false }
def FnEquationsSaid : Prop := fnEquationsRow.holds Try.pinned (OpenSpec.ofChange fnEquationsSpec)

/-- ITS FALSE NEIGHBOUR: 'it returns false'. Refute it at one input. -/
def fnEquationsWrong : ChangeSpec := { name := "fnEquations", fn := fun _ => fun
  | [d] => { results := [.lit (.bool false)], args := [d] }
  | _ => none }
def FnEquationsWrongFalsely : Prop := fnEquationsRow.holds Try.pinned (OpenSpec.ofChange fnEquationsWrong)

/-- 'laws.FnCosts': WHATEVER THE INPUT: true; the input reads as it did. -/
def fnCostsSpec : ChangeSpec := { name := "fnCosts", fn := fun _ => fun
  | [d] => { results := [.lit (.bool true)], args := [d] }
  | _ => none }
def fnCostsRow : OpenClaim := { program := "ytapafdpnmakekaa", sum := "f04528c91f7db08ab3800153094e08104186dc543bbd82f8beb24dce955acc93", func := "loop.example/g01262/laws.FnCosts", spec := "fnCosts", recurses := true, apart := false }
def FnCostsSaid : Prop := fnCostsRow.holds Try.pinned (OpenSpec.ofChange fnCostsSpec)

/-- ITS FALSE NEIGHBOUR: 'it returns false'. Refute it at one input. -/
def fnCostsWrong : ChangeSpec := { name := "fnCosts", fn := fun _ => fun
  | [d] => { results := [.lit (.bool false)], args := [d] }
  | _ => none }
def FnCostsWrongFalsely : Prop := fnCostsRow.holds Try.pinned (OpenSpec.ofChange fnCostsWrong)

/-- 'laws.FnSimples': WHATEVER THE INPUT: true; the input reads as it did. -/
def fnSimplesSpec : ChangeSpec := { name := "fnSimples", fn := fun _ => fun
  | [d] => { results := [.lit (.bool true)], args := [d] }
  | _ => none }
def fnSimplesRow : OpenClaim := { program := "ytapafdpnmakekaa", sum := "f04528c91f7db08ab3800153094e08104186dc543bbd82f8beb24dce955acc93", func := "loop.example/g01262/laws.FnSimples", spec := "fnSimples", unfollowed := true, recurses := true, apart := false }
def FnSimplesSaid : Prop := fnSimplesRow.holds Try.pinned (OpenSpec.ofChange fnSimplesSpec)

/-- ITS FALSE NEIGHBOUR: 'it returns false'. Refute it at one input. -/
def fnSimplesWrong : ChangeSpec := { name := "fnSimples", fn := fun _ => fun
  | [d] => { results := [.lit (.bool false)], args := [d] }
  | _ => none }
def FnSimplesWrongFalsely : Prop := fnSimplesRow.holds Try.pinned (OpenSpec.ofChange fnSimplesWrong)

/-- 'laws.FnGains': WHATEVER THE INPUT: true; the input reads as it did. -/
def fnGainsSpec : ChangeSpec := { name := "fnGains", fn := fun _ => fun
  | [d] => { results := [.lit (.bool true)], args := [d] }
  | _ => none }
def fnGainsRow : OpenClaim := { program := "ytapafdpnmakekaa", sum := "f04528c91f7db08ab3800153094e08104186dc543bbd82f8beb24dce955acc93", func := "loop.example/g01262/laws.FnGains", spec := "fnGains", recurses := true, apart := false }
def FnGainsSaid : Prop := fnGainsRow.holds Try.pinned (OpenSpec.ofChange fnGainsSpec)

/-- ITS FALSE NEIGHBOUR: 'it returns false'. Refute it at one input. -/
def fnGainsWrong : ChangeSpec := { name := "fnGains", fn := fun _ => fun
  | [d] => { results := [.lit (.bool false)], args := [d] }
  | _ => none }
def FnGainsWrongFalsely : Prop := fnGainsRow.holds Try.pinned (OpenSpec.ofChange fnGainsWrong)

/-- 'laws.FnPromiseOfAll': WHATEVER THE INPUT: true; the input reads as it did. -/
def fnPromiseOfAllSpec : ChangeSpec := { name := "fnPromiseOfAll", fn := fun _ => fun
  | [d1, d2, d3, d4] => { results := [.lit (.bool true)], args := [d1, d2, d3, d4] }
  | _ => none }
def fnPromiseOfAllRow : OpenClaim := { program := "ytapafdpnmakekaa", sum := "f04528c91f7db08ab3800153094e08104186dc543bbd82f8beb24dce955acc93", func := "loop.example/g01262/laws.FnPromiseOfAll", spec := "fnPromiseOfAll", unfollowed := true, recurses := true, apart := false }
def FnPromiseOfAllSaid : Prop := fnPromiseOfAllRow.holds Try.pinned (OpenSpec.ofChange fnPromiseOfAllSpec)

/-- ITS FALSE NEIGHBOUR: 'it returns false'. Refute it at one input. -/
def fnPromiseOfAllWrong : ChangeSpec := { name := "fnPromiseOfAll", fn := fun _ => fun
  | [d1, d2, d3, d4] => { results := [.lit (.bool false)], args := [d1, d2, d3, d4] }
  | _ => none }
def FnPromiseOfAllWrongFalsely : Prop := fnPromiseOfAllRow.holds Try.pinned (OpenSpec.ofChange fnPromiseOfAllWrong)

/-- 'laws.FnProgramRuns': WHATEVER THE INPUT: true; the input reads as it did. -/
def fnProgramRunsSpec : ChangeSpec := { name := "fnProgramRuns", fn := fun _ => fun
  | [d] => { results := [.lit (.bool true)], args := [d] }
  | _ => none }
def fnProgramRunsRow : OpenClaim := { program := "ytapafdpnmakekaa", sum := "f04528c91f7db08ab3800153094e08104186dc543bbd82f8beb24dce955acc93", func := "loop.example/g01262/laws.FnProgramRuns", spec := "fnProgramRuns", unfollowed := true, recurses := true, apart := false }
def FnProgramRunsSaid : Prop := fnProgramRunsRow.holds Try.pinned (OpenSpec.ofChange fnProgramRunsSpec)

/-- ITS FALSE NEIGHBOUR: 'it returns false'. Refute it at one input. -/
def fnProgramRunsWrong : ChangeSpec := { name := "fnProgramRuns", fn := fun _ => fun
  | [d] => { results := [.lit (.bool false)], args := [d] }
  | _ => none }
def FnProgramRunsWrongFalsely : Prop := fnProgramRunsRow.holds Try.pinned (OpenSpec.ofChange fnProgramRunsWrong)

/- THE SECOND FORM. 'bulk': how many values and letters a reading holds, each counted each time it is reached (what is shared counts as often as it is met; a slice's spare places count too). A statement '..UptoSaid' is the law's where the arguments, and the package variables that the reading takes, are together of bulk at most 1048576: NARROWER than '..Said'. Prove '..Said' where nothing that the law and all that it calls make is longer than what came in: it says more and counts as full. Else prove '..UptoSaid'. A law counts once. -/
mutual
def uptoBulk {H : Type} : DataW H → Nat
  | .lit (.string bytes) => bytes.length + 1
  | .lit _ => 1
  | .nil => 1
  | .ptr d => uptoBulk d + 1
  | .slice elems spare => uptoBulkAll elems + uptoBulkAll spare + 1
  | .agg parts => uptoBulkAll parts + 1
  | .iface _ d => uptoBulk d + 1
  | .map entries => uptoBulkEntries entries + 1
  | .held _ => 1
def uptoBulkAll {H : Type} : List (DataW H) → Nat
  | [] => 0
  | d :: r => uptoBulk d + uptoBulkAll r
def uptoBulkEntries {H : Type} : List (Lit × DataW H) → Nat
  | [] => 0
  | x :: r => uptoBulkEntry x + uptoBulkEntries r
def uptoBulkEntry {H : Type} : Lit × DataW H → Nat
  | (.string bytes, d) => bytes.length + uptoBulk d + 1
  | (_, d) => uptoBulk d + 1
 end
def uptoSmall : (H : Type) → List (DataW H) → Bool := fun _ ds => decide (uptoBulkAll ds ≤ 1048576)
def OpenSpec.upto (s : _root_.Go.ChangeSpec) : _root_.Go.OpenSpec := { _root_.Go.OpenSpec.ofChange s with cond := some uptoSmall }

/-- 'laws.FnTop', WHERE WHAT IT READS IS OF BULK AT MOST 1048576: true; the input reads as it did. -/
def fnTopUptoRow : OpenClaim := { program := "ytapafdpnmakekaa", sum := "f04528c91f7db08ab3800153094e08104186dc543bbd82f8beb24dce955acc93", func := "loop.example/g01262/laws.FnTop", spec := "fnTop", unfollowed := true, recurses := true, apart := false, narrowed := true }
def FnTopUptoSaid : Prop := fnTopUptoRow.holds Try.pinned (OpenSpec.upto fnTopSpec)

/-- 'laws.FnTensorSums', WHERE WHAT IT READS IS OF BULK AT MOST 1048576: true; the input reads as it did. -/
def fnTensorSumsUptoRow : OpenClaim := { program := "ytapafdpnmakekaa", sum := "f04528c91f7db08ab3800153094e08104186dc543bbd82f8beb24dce955acc93", func := "loop.example/g01262/laws.FnTensorSums", spec := "fnTensorSums", unfollowed := true, recurses := true, apart := false, narrowed := true }
def FnTensorSumsUptoSaid : Prop := fnTensorSumsUptoRow.holds Try.pinned (OpenSpec.upto fnTensorSumsSpec)

/-- 'laws.FnFlips', WHERE WHAT IT READS IS OF BULK AT MOST 1048576: true; the input reads as it did. -/
def fnFlipsUptoRow : OpenClaim := { program := "ytapafdpnmakekaa", sum := "f04528c91f7db08ab3800153094e08104186dc543bbd82f8beb24dce955acc93", func := "loop.example/g01262/laws.FnFlips", spec := "fnFlips", unfollowed := true, recurses := true, apart := false, narrowed := true }
def FnFlipsUptoSaid : Prop := fnFlipsUptoRow.holds Try.pinned (OpenSpec.upto fnFlipsSpec)

/-- 'laws.FnPrograms', WHERE WHAT IT READS IS OF BULK AT MOST 1048576: true; the input reads as it did. -/
def fnProgramsUptoRow : OpenClaim := { program := "ytapafdpnmakekaa", sum := "f04528c91f7db08ab3800153094e08104186dc543bbd82f8beb24dce955acc93", func := "loop.example/g01262/laws.FnPrograms", spec := "fnPrograms", apart := false, narrowed := true }
def FnProgramsUptoSaid : Prop := fnProgramsUptoRow.holds Try.pinned (OpenSpec.upto fnProgramsSpec)

/-- 'laws.FnEquations', WHERE WHAT IT READS IS OF BULK AT MOST 1048576: true; the input reads as it did. -/
def fnEquationsUptoRow : OpenClaim := { program := "ytapafdpnmakekaa", sum := "f04528c91f7db08ab3800153094e08104186dc543bbd82f8beb24dce955acc93", func := "loop.example/g01262/laws.FnEquations", spec := "fnEquations", apart := false, narrowed := true }
def FnEquationsUptoSaid : Prop := fnEquationsUptoRow.holds Try.pinned (OpenSpec.upto fnEquationsSpec)

/-- 'laws.FnCosts', WHERE WHAT IT READS IS OF BULK AT MOST 1048576: true; the input reads as it did. -/
def fnCostsUptoRow : OpenClaim := { program := "ytapafdpnmakekaa", sum := "f04528c91f7db08ab3800153094e08104186dc543bbd82f8beb24dce955acc93", func := "loop.example/g01262/laws.FnCosts", spec := "fnCosts", recurses := true, apart := false, narrowed := true }
def FnCostsUptoSaid : Prop := fnCostsUptoRow.holds Try.pinned (OpenSpec.upto fnCostsSpec)

/-- 'laws.FnSimples', WHERE WHAT IT READS IS OF BULK AT MOST 1048576: true; the input reads as it did. -/
def fnSimplesUptoRow : OpenClaim := { program := "ytapafdpnmakekaa", sum := "f04528c91f7db08ab3800153094e08104186dc543bbd82f8beb24dce955acc93", func := "loop.example/g01262/laws.FnSimples", spec := "fnSimples", unfollowed := true, recurses := true, apart := false, narrowed := true }
def FnSimplesUptoSaid : Prop := fnSimplesUptoRow.holds Try.pinned (OpenSpec.upto fnSimplesSpec)

/-- 'laws.FnGains', WHERE WHAT IT READS IS OF BULK AT MOST 1048576: true; the input reads as it did. -/
def fnGainsUptoRow : OpenClaim := { program := "ytapafdpnmakekaa", sum := "f04528c91f7db08ab3800153094e08104186dc543bbd82f8beb24dce955acc93", func := "loop.example/g01262/laws.FnGains", spec := "fnGains", recurses := true, apart := false, narrowed := true }
def FnGainsUptoSaid : Prop := fnGainsUptoRow.holds Try.pinned (OpenSpec.upto fnGainsSpec)

/-- 'laws.FnPromiseOfAll', WHERE WHAT IT READS IS OF BULK AT MOST 1048576: true; the input reads as it did. -/
def fnPromiseOfAllUptoRow : OpenClaim := { program := "ytapafdpnmakekaa", sum := "f04528c91f7db08ab3800153094e08104186dc543bbd82f8beb24dce955acc93", func := "loop.example/g01262/laws.FnPromiseOfAll", spec := "fnPromiseOfAll", unfollowed := true, recurses := true, apart := false, narrowed := true }
def FnPromiseOfAllUptoSaid : Prop := fnPromiseOfAllUptoRow.holds Try.pinned (OpenSpec.upto fnPromiseOfAllSpec)

/-- 'laws.FnProgramRuns', WHERE WHAT IT READS IS OF BULK AT MOST 1048576: true; the input reads as it did. -/
def fnProgramRunsUptoRow : OpenClaim := { program := "ytapafdpnmakekaa", sum := "f04528c91f7db08ab3800153094e08104186dc543bbd82f8beb24dce955acc93", func := "loop.example/g01262/laws.FnProgramRuns", spec := "fnProgramRuns", unfollowed := true, recurses := true, apart := false, narrowed := true }
def FnProgramRunsUptoSaid : Prop := fnProgramRunsUptoRow.holds Try.pinned (OpenSpec.upto fnProgramRunsSpec)

end Rows
end Go.Proofs.Ytapafdpnmakekaa
