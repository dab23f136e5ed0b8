/- The row of RowRank (printed by row.py). -/
import Derived.Test.YtnjhhgfpclngcaaXL10
import Derived.Test.YtnjhhgfpclngcaaXArgs
import Derived.Test.YtnjhhgfpclngcaaRows
import Derived.Test.YtnjhhgfpclngcaaXA2
import Derived.ProofKit
import Derived.OpenShut
import Derived.ShutString
import Derived.ChangeOld
import Derived.Below
import Derived.SizedLaws
namespace Go.Proofs.Ytnjhhgfpclngcaa.fnExactRowRank
open Go Go.ChangeShapes Go.WideShapes Go.ChangeAt Go.RowKit Go.Proofs.Ytnjhhgfpclngcaa.X
set_option linter.unusedVariables false
theorem own : ownKnob Try.prog.godebug = none := by kernel_rfl
theorem laid : laidOutB Try.prog = true := by kernel_rfl
theorem shapeS : isIntS Try.prog 25 2 = true := by kernel_rfl
theorem shapeM : isIntSS Try.prog 56 25 2 = true := by kernel_rfl
theorem readable0 : Try.prog.readableRec 2 = true := by kernel_rfl
theorem intable0 : 2 < Try.prog.types.size := of_decide_eq_true (by kernel_rfl)
theorem readable1 : Try.prog.readableRec 56 = true := by kernel_rfl
theorem intable1 : 56 < Try.prog.types.size := of_decide_eq_true (by kernel_rfl)
theorem isbool : Try.prog.underlying 4 = some .bool := by kernel_rfl
theorem isint : Try.prog.underlying 2 = some (.int .i64) := by kernel_rfl
set_option maxRecDepth 100000 in
theorem lifted (os : Os) (started : os.Started) (H : Type) (enc : TypeId × Value → H) :
    ReturnsInHanded {} Try.checked os 11 .any (Rows.fnExactRowRankSpec.pre6 enc Try.prog Try.f11 Rows.fnExactRowRankRow.domain false) (Rows.fnExactRowRankSpec.post enc Try.prog Try.f11 false true false false) := by
  refine returnsInHanded_of_change_sized (C := Try.checked) own started (by kernel_rfl) Try.func11
    (ChangeSpec.witness6 (enc := enc) (C := Try.checked) false ⟨#[], #[.int .i64 0, .slice none 0 0], []⟩ 8 (by kernel_rfl) (by kernel_rfl) (by kernel_rfl) (by kernel_rfl)) ?_
  intro W base args ds gs before hval0 hW hcnd hsz0 _
  have hval : ∀ (j : Nat) t v, Try.f11.params[j]? = some t → args[j]? = some v → Value.okWide Try.prog W .any base t v := hval0
  have hW' := hW
  obtain ⟨p, q, hA0, hV, rfl, hfz, hnd⟩ := hW
  have hA : DataW.TrodAll enc Try.prog W 0 (fun _ => true) true Try.f11.params.toList args.toList ds p := hA0
  rw [Try.params11] at hA hval
  obtain ⟨v0, vs0, d0, ds0, p0, q0, hargs0, rfl, rfl, h0, r0⟩ := trodAll_cons hA
  obtain ⟨v1, vs1, d1, ds1, p1, q1, hargs1, rfl, rfl, h1, r1⟩ := trodAll_cons r0
  obtain ⟨rfl, rfl, rfl⟩ := trodAll_nil r1
  obtain rfl : args = #[v0, v1] := by cases args; simp_all
  obtain ⟨rfl, rfl⟩ := trodVars_none hV
  obtain ⟨n0, rfl, rfl, rfl, wf0⟩ := open_int isint (hval 0 2 v0 rfl rfl) h0
  obtain ⟨ns1, u1, γ1, g1, pg1, ph1, A1, hv1, hi1, hl1, hm1⟩ := adm_rows (Adm.nil Try.prog W) 25 2 shapeM (hval 1 _ v1 rfl rfl) h1
  have hl1' : (ns1.length : Int) ≤ 9223372036854775807 := by
    have : ns1.length ≤ 2 ^ 63 - 1 := hl1
    omega
  have hm1' : ∀ i, i < ns1.length → ((ns1.getD i []).length : Int) ≤ 9223372036854775807 := fun i hi => by
    have : (ns1.getD i []).length ≤ 2 ^ 63 - 1 := hm1 i hi
    omega
  have hi1' := hi1
  have key := law_RowRank (n0 := n0) hi1' hl1' hm1'
  refine (calls_of_WF (S := S) orders esound tsound A1 (VRL.cons (.int _ _) (VRL.cons hv1 (VRL.nil _))) key).mono fun e W' ⟨v, u, γ1, h1, he, hvr, hb, bel⟩ => ?_
  subst hb
  obtain rfl := hvr.bool_inv
  subst he
  have st := stays_all laid bel (ts := [2, 56]) (fun t ht => by
    simp only [List.mem_cons, List.not_mem_nil, or_false] at ht
    rcases ht with rfl | rfl
    · exact ⟨readable0, intable0⟩
    · exact ⟨readable1, intable1⟩) hA
  exact ⟨_, rfl, _, _, _, [], _, [], hW', trodAll_mk1 (shut_bool isbool _), st, rfl, bel.frame _, fun h => by cases h⟩
theorem over : Rows.fnExactRowRankRow.holds Try.pinned (OpenSpec.ofChange Rows.fnExactRowRankSpec) :=
  OpenClaim.holds_of_wide 11 Try.f11 rfl rfl rfl rfl rfl rfl rfl ⟨rfl, rfl, rfl, rfl, rfl⟩ rfl rfl rfl rfl rfl (by kernel_rfl) Try.func11 (by kernel_rfl)
    (of_decide_eq_true (by kernel_rfl)) (by unfold Func.isWrapper; first | (rw [if_pos (by decide +kernel)]; kernel_rfl) | (rw [if_neg (by decide +kernel)]; exact ⟨rfl, rfl⟩))
    (fun os started H enc _ => lifted os started H enc)
end Go.Proofs.Ytnjhhgfpclngcaa.fnExactRowRank
namespace Go.Proofs.Ytnjhhgfpclngcaa
theorem fnExactRowRank_holds : Rows.FnExactRowRankSaid := fnExactRowRank.over
end Go.Proofs.Ytnjhhgfpclngcaa
