/- The row of IsTensor. -/
import Derived.Test.YtnjhhgfpclngcaaXL2
import Derived.Test.YtnjhhgfpclngcaaXArgs
import Derived.Test.YtnjhhgfpclngcaaRows
import Derived.ProofKit
import Derived.OpenShut
import Derived.ShutString
import Derived.ChangeOld
import Derived.Below
import Derived.SizedLaws
namespace Go.Proofs.Ytnjhhgfpclngcaa.fnExactIsTensor
open Go Go.ChangeShapes Go.WideShapes Go.ChangeAt Go.RowKit Go.Proofs.Ytnjhhgfpclngcaa.X
set_option linter.unusedVariables false
theorem own : ownKnob Try.prog.godebug = none := by kernel_rfl
theorem laid : laidOutB Try.prog = true := by kernel_rfl
theorem shape : isInts4 Try.prog 27 2 = true := by kernel_rfl
theorem readable : Try.prog.readableRec 27 = true := by kernel_rfl
theorem intable : 27 < Try.prog.types.size := of_decide_eq_true (by kernel_rfl)
theorem isbool : Try.prog.underlying 4 = some .bool := by kernel_rfl
set_option maxRecDepth 100000 in
theorem lifted (os : Os) (started : os.Started) (H : Type) (enc : TypeId × Value → H) :
    ReturnsInHanded {} Try.checked os 4 .any (Rows.fnExactIsTensorSpec.pre6 enc Try.prog Try.f4 Rows.fnExactIsTensorRow.domain false) (Rows.fnExactIsTensorSpec.post enc Try.prog Try.f4 false true false false) := by
  refine returnsInHanded_of_change_sized (C := Try.checked) own started (by kernel_rfl) Try.func4
    (ChangeSpec.witness6 (enc := enc) (C := Try.checked) false ⟨#[], #[.agg #[.int .i64 0, .int .i64 0, .int .i64 0, .int .i64 0, .slice none 0 0]], []⟩ 8 (by kernel_rfl) (by kernel_rfl) (by kernel_rfl) (by kernel_rfl)) ?_
  intro W base args ds gs before hval0 hW hcnd hsz0 _
  have hW' := hW
  obtain ⟨p, q, hA0, hV, rfl, hfz, hnd⟩ := hW
  have hA : DataW.TrodAll enc Try.prog W 0 (fun _ => true) true Try.f4.params.toList args.toList ds p := hA0
  rw [Try.params4] at hA
  obtain ⟨v0, vs0, d0, ds0, p0, q0, hargs, rfl, rfl, h0, r0⟩ := trodAll_cons hA
  obtain ⟨rfl, rfl, rfl⟩ := trodAll_nil r0
  obtain rfl : args = #[v0] := by cases args; simp_all
  obtain ⟨rfl, rfl⟩ := trodVars_none hV
  obtain ⟨a, b, c, d, ns, v', γ', h', _, _, A, hv, hi, hl⟩ := adm_tensor (Adm.nil Try.prog W) 2 shape h0
  have hl' : (ns.length : Int) ≤ 9223372036854775807 := by
    have : ns.length ≤ 2 ^ 63 - 1 := hl
    omega
  have key := law_IsTensor (t := ⟨a, b, c, d, ns⟩) hi hl'
  refine (calls_of_WF (S := S) orders (fun g p hp => by cases hp) tsound A (VRL.cons hv (VRL.nil _)) key).mono fun e W' ⟨v, u, γ1, h1, he, hvr, hb, bel⟩ => ?_
  subst hb
  obtain rfl := hvr.bool_inv
  subst he
  exact ⟨_, rfl, _, _, _, [], _, [], hW', trodAll_mk1 (shut_bool isbool _), stays_all laid bel (fun t ht => by rw [List.mem_singleton.1 ht]; exact ⟨readable, intable⟩) hA, rfl, bel.frame _, fun h => by cases h⟩
theorem over : Rows.fnExactIsTensorRow.holds Try.pinned (OpenSpec.ofChange Rows.fnExactIsTensorSpec) :=
  OpenClaim.holds_of_wide 4 Try.f4 rfl rfl rfl rfl rfl rfl rfl ⟨rfl, rfl, rfl, rfl, rfl⟩ rfl rfl rfl rfl rfl (by kernel_rfl) Try.func4 (by kernel_rfl)
    (of_decide_eq_true (by kernel_rfl)) (by unfold Func.isWrapper; first | (rw [if_pos (by decide +kernel)]; kernel_rfl) | (rw [if_neg (by decide +kernel)]; exact ⟨rfl, rfl⟩))
    (fun os started H enc _ => lifted os started H enc)
end Go.Proofs.Ytnjhhgfpclngcaa.fnExactIsTensor
namespace Go.Proofs.Ytnjhhgfpclngcaa
theorem fnExactIsTensor_holds : Rows.FnExactIsTensorSaid := fnExactIsTensor.over
end Go.Proofs.Ytnjhhgfpclngcaa
