/- The row of FlattenRanks (printed by row.py). -/
import Derived.Test.YtnjhhgfpclngcaaXL14
import Derived.Test.YtnjhhgfpclngcaaXArgs
import Derived.Test.YtnjhhgfpclngcaaRows
import Derived.ProofKit
import Derived.OpenShut
import Derived.ShutString
import Derived.ChangeOld
import Derived.Below
import Derived.SizedLaws
namespace Go.Proofs.Ytnjhhgfpclngcaa.fnExactFlattenRanks
open Go Go.ChangeShapes Go.WideShapes Go.ChangeAt Go.RowKit Go.Proofs.Ytnjhhgfpclngcaa.X
set_option linter.unusedVariables false
theorem own : ownKnob Try.prog.godebug = none := by kernel_rfl
theorem laid : laidOutB Try.prog = true := by kernel_rfl
theorem shape : isInts4 Try.prog 27 2 = true := by kernel_rfl
theorem readable0 : Try.prog.readableRec 27 = true := by kernel_rfl
theorem intable0 : 27 < Try.prog.types.size := of_decide_eq_true (by kernel_rfl)
theorem isbool : Try.prog.underlying 4 = some .bool := by kernel_rfl
theorem isint : Try.prog.underlying 2 = some (.int .i64) := by kernel_rfl
set_option maxRecDepth 100000 in
theorem lifted (os : Os) (started : os.Started) (H : Type) (enc : TypeId × Value → H) :
    ReturnsInHanded {} Try.checked os 14 .any (Rows.fnExactFlattenRanksSpec.pre6 enc Try.prog Try.f14 Rows.fnExactFlattenRanksRow.domain false) (Rows.fnExactFlattenRanksSpec.post enc Try.prog Try.f14 false true false false) := by
  refine returnsInHanded_of_change_sized (C := Try.checked) own started (by kernel_rfl) Try.func14
    (ChangeSpec.witness6 (enc := enc) (C := Try.checked) false ⟨#[], #[.agg #[.int .i64 0, .int .i64 0, .int .i64 0, .int .i64 0, .slice none 0 0]], []⟩ 8 (by kernel_rfl) (by kernel_rfl) (by kernel_rfl) (by kernel_rfl)) ?_
  intro W base args ds gs before hval0 hW hcnd hsz0 _
  have hval : ∀ (j : Nat) t v, Try.f14.params[j]? = some t → args[j]? = some v → Value.okWide Try.prog W .any base t v := hval0
  have hW' := hW
  obtain ⟨p, q, hA0, hV, rfl, hfz, hnd⟩ := hW
  have hA : DataW.TrodAll enc Try.prog W 0 (fun _ => true) true Try.f14.params.toList args.toList ds p := hA0
  rw [Try.params14] at hA hval
  obtain ⟨v0, vs0, d0, ds0, p0, q0, hargs0, rfl, rfl, h0, r0⟩ := trodAll_cons hA
  obtain ⟨rfl, rfl, rfl⟩ := trodAll_nil r0
  obtain rfl : args = #[v0] := by cases args; simp_all
  obtain ⟨rfl, rfl⟩ := trodVars_none hV
  obtain ⟨a0, b0, c0, e0, ns0, u0, γ0, g0, pg0, ph0, A0, hv0, hi0, hl0⟩ := adm_tensor (Adm.nil Try.prog W) 2 shape h0
  have hl0' : (ns0.length : Int) ≤ 9223372036854775807 := by
    have : ns0.length ≤ 2 ^ 63 - 1 := hl0
    omega
  have hi0' := hi0
  have key := law_FlattenRanks (x0 := ⟨a0, b0, c0, e0, ns0⟩) hi0' hl0'
  refine (calls_of_WF (S := S) orders esound tsound A0 (VRL.cons hv0 (VRL.nil _)) key).mono fun e W' ⟨v, u, γ1, h1, he, hvr, hb, bel⟩ => ?_
  subst hb
  obtain rfl := hvr.bool_inv
  subst he
  have st := stays_all laid bel (ts := [27]) (fun t ht => by
    simp only [List.mem_cons, List.not_mem_nil, or_false] at ht
    rw [ht]
    exact ⟨readable0, intable0⟩) hA
  exact ⟨_, rfl, _, _, _, [], _, [], hW', trodAll_mk1 (shut_bool isbool _), st, rfl, bel.frame _, fun h => by cases h⟩
theorem over : Rows.fnExactFlattenRanksRow.holds Try.pinned (OpenSpec.ofChange Rows.fnExactFlattenRanksSpec) :=
  OpenClaim.holds_of_wide 14 Try.f14 rfl rfl rfl rfl rfl rfl rfl ⟨rfl, rfl, rfl, rfl, rfl⟩ rfl rfl rfl rfl rfl (by kernel_rfl) Try.func14 (by kernel_rfl)
    (of_decide_eq_true (by kernel_rfl)) (by unfold Func.isWrapper; first | (rw [if_pos (by decide +kernel)]; kernel_rfl) | (rw [if_neg (by decide +kernel)]; exact ⟨rfl, rfl⟩))
    (fun os started H enc _ => lifted os started H enc)
end Go.Proofs.Ytnjhhgfpclngcaa.fnExactFlattenRanks
namespace Go.Proofs.Ytnjhhgfpclngcaa
theorem fnExactFlattenRanks_holds : Rows.FnExactFlattenRanksSaid := fnExactFlattenRanks.over
end Go.Proofs.Ytnjhhgfpclngcaa
