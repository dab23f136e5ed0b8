/- Texts of one claim, put together by merge.py: XLMT, XHMT. -/
import Derived.Test.YtphklalbkpohfaaMD
import Derived.Test.YtphklalbkpohfaaM3
import Derived.Test.YtphklalbkpohfaaM2
import Derived.Test.YtphklalbkpohfaaRows
import Derived.ProofKit
import Derived.OpenShut
import Derived.ShutString
import Derived.ChangeOld
import Derived.Below
import Derived.SizedLaws
/- The law on MatrixTensor, on the abstract machine (printed by lawg.py). -/
set_option linter.unusedVariables false
set_option linter.unusedSimpArgs false
set_option maxRecDepth 20000
set_option maxHeartbeats 4000000
namespace Go.Proofs.Ytphklalbkpohfaa.X
open Go Go.RowKit

theorem law_MatrixTensor {n0 : Int} {n1 : Int} {n2 : Int} {n3 : Int} {h : AH}  :
    WF S 3 [I64 n0, I64 n1, I64 n2, I64 n3] h (fun v _ => v = .bool true) := by
  refine WF_fn (fn := c3) rfl rfl ?_
  unfold c3
  have ph : h <+: h := List.prefix_refl h
  try simp (maxSteps := 3000000) (disch := first | omega | (simp only [len_new, len_put, len_kill]; omega)) only [↓xpre, xpost, ↓reduceIte, Nat.reduceEqDiff, Nat.reduceAdd, Nat.reduceSub, Nat.reduceLeDiff, Nat.zero_add, Nat.sub_zero]
  try simp (maxSteps := 3000000) (disch := first | omega | (simp only [len_new, len_put, len_kill]; omega)) only [↓xpre, xpost, ↓reduceIte, Nat.reduceEqDiff, Nat.reduceAdd, Nat.reduceSub, Nat.reduceLeDiff, Nat.zero_add, Nat.sub_zero]
  try refine ⟨p0, ?_⟩
  refine s_MatrixTensor  fun vw H1 p1 ow => ?_
  have l1 := pre_len p1
  have ph := ph.trans p1
  have ow := ow.inS
  try simp (maxSteps := 3000000) (disch := first | omega | (simp only [len_new, len_put, len_kill]; omega)) only [↓xpre, xpost, ↓reduceIte, Nat.reduceEqDiff, Nat.reduceAdd, Nat.reduceSub, Nat.reduceLeDiff, Nat.zero_add, Nat.sub_zero, tenV, ow.rd.one]
  generalize hH2 : AH.new H1 _ = H2
  obtain ⟨bw, p2, e2⟩ := new_facts hH2
  have l2 := pre_len p2
  have ph := ph.trans p2
  have ow := ow.pre p2
  try simp (maxSteps := 3000000) (disch := first | omega | (simp only [len_new, len_put, len_kill]; omega)) only [↓xpre, xpost, ↓reduceIte, Nat.reduceEqDiff, Nat.reduceAdd, Nat.reduceSub, Nat.reduceLeDiff, Nat.zero_add, Nat.sub_zero, rdn_of bw]
  try refine ⟨p2, ?_⟩
  refine i_MatrixTensor  fun vg H3 p3 og => ?_
  have l3 := pre_len p3
  have ph := ph.trans p3
  have bw := pre_get p3 bw
  have ow := ow.pre p3
  have og := og.inS
  try simp (maxSteps := 3000000) (disch := first | omega | (simp only [len_new, len_put, len_kill]; omega)) only [↓xpre, xpost, ↓reduceIte, Nat.reduceEqDiff, Nat.reduceAdd, Nat.reduceSub, Nat.reduceLeDiff, Nat.zero_add, Nat.sub_zero, tenV, og.rd.one, rdn_of bw]
  generalize hH4 : AH.new H3 _ = H4
  obtain ⟨bg, p4, e4⟩ := new_facts hH4
  have l4 := pre_len p4
  have ph := ph.trans p4
  have bw := pre_get p4 bw
  have ow := ow.pre p4
  have og := og.pre p4
  have hR : SmallS ((mtR n0 n1 n2 n3)).1.ns := (mtR_small n0 n1 n2 n3)
  have hcR := cntS_le hR
  try simp (maxSteps := 3000000) (disch := first | omega | (simp only [len_new, len_put, len_kill]; omega)) only [↓xpre, xpost, ↓reduceIte, Nat.reduceEqDiff, Nat.reduceAdd, Nat.reduceSub, Nat.reduceLeDiff, Nat.zero_add, Nat.sub_zero, ne_eq, not_true_eq_false, rdn_of bw, rdn_of bg]
  try refine ⟨p4, ?_⟩
  refine geq_T og.rd ow.rd hR fun  H5 p5 => ?_
  have l5 := pre_len p5
  have ph := ph.trans p5
  have bw := pre_get p5 bw
  have bg := pre_get p5 bg
  have ow := ow.pre p5
  have og := og.pre p5
  try simp (maxSteps := 3000000) (disch := first | omega | (simp only [len_new, len_put, len_kill]; omega)) only [↓xpre, xpost, ↓reduceIte, Nat.reduceEqDiff, Nat.reduceAdd, Nat.reduceSub, Nat.reduceLeDiff, Nat.zero_add, Nat.sub_zero, ne_eq, not_true_eq_false, rdn_of bw, rdn_of bg]
  try refine ⟨p5, ?_⟩
  try simp (maxSteps := 3000000) (disch := first | omega | (simp only [len_new, len_put, len_kill]; omega)) only [↓xpre, xpost, ↓reduceIte, Nat.reduceEqDiff, Nat.reduceAdd, Nat.reduceSub, Nat.reduceLeDiff, Nat.zero_add, Nat.sub_zero, ne_eq, not_true_eq_false, rdn_of bw, rdn_of bg]
  refine gmark_T og hR (by omega) fun J6 H6 p6 w6 q6 => ?_
  have l6 := pre_len p6
  have ll6 := w6.len
  have ph := ph.trans p6
  have bw := pre_get p6 bw
  have bg := pre_get p6 bg
  have ow := ow.pre p6
  have ph := w6.pre ph (by omega)
  have bw := w6.get' bw (by omega)
  have bg := w6.get' bg (by omega)
  have ow := ow.only w6 (by omega)
  have og := q6
  try simp (maxSteps := 3000000) (disch := first | omega | (simp only [len_new, len_put, len_kill]; omega)) only [↓xpre, xpost, ↓reduceIte, Nat.reduceEqDiff, Nat.reduceAdd, Nat.reduceSub, Nat.reduceLeDiff, Nat.zero_add, Nat.sub_zero, ne_eq, not_true_eq_false, rdn_of bw, rdn_of bg]
  refine gheld_T og.rd hR (by omega) fun  H7 p7 => ?_
  have l7 := pre_len p7
  have ph := ph.trans p7
  have bw := pre_get p7 bw
  have bg := pre_get p7 bg
  have ow := ow.pre p7
  have og := og.pre p7
  try simp (maxSteps := 3000000) (disch := first | omega | (simp only [len_new, len_put, len_kill]; omega)) only [↓xpre, xpost, ↓reduceIte, Nat.reduceEqDiff, Nat.reduceAdd, Nat.reduceSub, Nat.reduceLeDiff, Nat.zero_add, Nat.sub_zero, IfW_dec, ne_eq, not_true_eq_false, rdn_of bw, rdn_of bg]
  refine ⟨fun hlt => by omega, fun _ => ?_⟩
  try simp (maxSteps := 3000000) (disch := first | omega | (simp only [len_new, len_put, len_kill]; omega)) only [↓xpre, xpost, ↓reduceIte, Nat.reduceEqDiff, Nat.reduceAdd, Nat.reduceSub, Nat.reduceLeDiff, Nat.zero_add, Nat.sub_zero, rdn_of bw, rdn_of bg]
  try refine ⟨p7, ?_⟩
  refine i_MatrixTensor  fun vh H8 p8 oh => ?_
  have l8 := pre_len p8
  have ph := ph.trans p8
  have bw := pre_get p8 bw
  have bg := pre_get p8 bg
  have ow := ow.pre p8
  have og := og.pre p8
  have oh := oh.inS
  try simp (maxSteps := 3000000) (disch := first | omega | (simp only [len_new, len_put, len_kill]; omega)) only [↓xpre, xpost, ↓reduceIte, Nat.reduceEqDiff, Nat.reduceAdd, Nat.reduceSub, Nat.reduceLeDiff, Nat.zero_add, Nat.sub_zero, tenV, oh.rd.one, rdn_of bw, rdn_of bg]
  generalize hH9 : AH.new H8 _ = H9
  obtain ⟨bh, p9, e9⟩ := new_facts hH9
  have l9 := pre_len p9
  have ph := ph.trans p9
  have bw := pre_get p9 bw
  have bg := pre_get p9 bg
  have ow := ow.pre p9
  have oh := oh.pre p9
  have og := og.pre p9
  try simp (maxSteps := 3000000) (disch := first | omega | (simp only [len_new, len_put, len_kill]; omega)) only [↓xpre, xpost, ↓reduceIte, Nat.reduceEqDiff, Nat.reduceAdd, Nat.reduceSub, Nat.reduceLeDiff, Nat.zero_add, Nat.sub_zero, ne_eq, not_true_eq_false, rdn_of bw, rdn_of bg, rdn_of bh]
  try refine ⟨p9, ?_⟩
  refine geq_T oh.rd ow.rd hR fun  H10 p10 => ?_
  have l10 := pre_len p10
  have ph := ph.trans p10
  have bw := pre_get p10 bw
  have bg := pre_get p10 bg
  have bh := pre_get p10 bh
  have ow := ow.pre p10
  have oh := oh.pre p10
  have og := og.pre p10
  try simp (maxSteps := 3000000) (disch := first | omega | (simp only [len_new, len_put, len_kill]; omega)) only [↓xpre, xpost, ↓reduceIte, Nat.reduceEqDiff, Nat.reduceAdd, Nat.reduceSub, Nat.reduceLeDiff, Nat.zero_add, Nat.sub_zero, ne_eq, not_true_eq_false, rdn_of bw, rdn_of bg, rdn_of bh]
  try refine ⟨p10, ?_⟩
  try simp (maxSteps := 3000000) (disch := first | omega | (simp only [len_new, len_put, len_kill]; omega)) only [↓xpre, xpost, ↓reduceIte, Nat.reduceEqDiff, Nat.reduceAdd, Nat.reduceSub, Nat.reduceLeDiff, Nat.zero_add, Nat.sub_zero, ne_eq, not_true_eq_false, rdn_of bw, rdn_of bg, rdn_of bh]
  refine gheld_T og.rd hR (by omega) fun H11 p11 => ?_
  try simp (maxSteps := 3000000) (disch := first | omega | (simp only [len_new, len_put, len_kill]; omega)) only [↓xpre, xpost, ↓reduceIte, Nat.reduceEqDiff, Nat.reduceAdd, Nat.reduceSub, Nat.reduceLeDiff, Nat.zero_add, Nat.sub_zero, IfW_dec, ne_eq, not_true_eq_false, rdn_of bw, rdn_of bg, rdn_of bh]
  refine ⟨fun hlt => by omega, fun _ => ?_⟩
  trivial

end Go.Proofs.Ytphklalbkpohfaa.X

/- The row of MatrixTensor (printed by row.py). -/
namespace Go.Proofs.Ytphklalbkpohfaa.fnExactMatrixTensor
open Go Go.ChangeShapes Go.WideShapes Go.ChangeAt Go.RowKit Go.Proofs.Ytphklalbkpohfaa.X
set_option linter.unusedVariables false
theorem own : ownKnob Try.prog.godebug = none := by kernel_rfl
theorem laid : laidOutB Try.prog = true := by kernel_rfl
theorem readable0 : Try.prog.readableRec 2 = true := by kernel_rfl
theorem intable0 : 2 < Try.prog.types.size := of_decide_eq_true (by kernel_rfl)
theorem isbool : Try.prog.underlying 4 = some .bool := by kernel_rfl
theorem isint : Try.prog.underlying 2 = some (.int .i64) := by kernel_rfl
set_option maxRecDepth 100000 in
theorem lifted (os : Os) (started : os.Started) (H : Type) (enc : TypeId × Value → H) :
    ReturnsInHanded {} Try.checked os 3 .any (Rows.fnExactMatrixTensorSpec.pre6 enc Try.prog Try.f3 Rows.fnExactMatrixTensorRow.domain false) (Rows.fnExactMatrixTensorSpec.post enc Try.prog Try.f3 false true false false) := by
  refine returnsInHanded_of_change_sized (C := Try.checked) own started (by kernel_rfl) Try.func3
    (ChangeSpec.witness6 (enc := enc) (C := Try.checked) false ⟨#[], #[.int .i64 0, .int .i64 0, .int .i64 0, .int .i64 0], []⟩ 8 (by kernel_rfl) (by kernel_rfl) (by kernel_rfl) (by kernel_rfl)) ?_
  intro W base args ds gs before hval0 hW hcnd hsz0 _
  have hval : ∀ (j : Nat) t v, Try.f3.params[j]? = some t → args[j]? = some v → Value.okWide Try.prog W .any base t v := hval0
  have hW' := hW
  obtain ⟨p, q, hA0, hV, rfl, hfz, hnd⟩ := hW
  have hA : DataW.TrodAll enc Try.prog W 0 (fun _ => true) true Try.f3.params.toList args.toList ds p := hA0
  rw [Try.params3] at hA hval
  obtain ⟨v0, vs0, d0, ds0, p0, q0, hargs0, rfl, rfl, h0, r0⟩ := trodAll_cons hA
  obtain ⟨v1, vs1, d1, ds1, p1, q1, hargs1, rfl, rfl, h1, r1⟩ := trodAll_cons r0
  obtain ⟨v2, vs2, d2, ds2, p2, q2, hargs2, rfl, rfl, h2, r2⟩ := trodAll_cons r1
  obtain ⟨v3, vs3, d3, ds3, p3, q3, hargs3, rfl, rfl, h3, r3⟩ := trodAll_cons r2
  obtain ⟨rfl, rfl, rfl⟩ := trodAll_nil r3
  obtain rfl : args = #[v0, v1, v2, v3] := by cases args; simp_all
  obtain ⟨rfl, rfl⟩ := trodVars_none hV
  obtain ⟨n0, rfl, rfl, rfl, wf0⟩ := open_int isint (hval 0 2 v0 rfl rfl) h0
  obtain ⟨n1, rfl, rfl, rfl, wf1⟩ := open_int isint (hval 1 2 v1 rfl rfl) h1
  obtain ⟨n2, rfl, rfl, rfl, wf2⟩ := open_int isint (hval 2 2 v2 rfl rfl) h2
  obtain ⟨n3, rfl, rfl, rfl, wf3⟩ := open_int isint (hval 3 2 v3 rfl rfl) h3
  have key := law_MatrixTensor (n0 := n0) (n1 := n1) (n2 := n2) (n3 := n3) (h := [])
  refine (calls_of_WF (S := S) orders esound tsound (Adm.nil Try.prog W) (VRL.cons (.int _ _) (VRL.cons (.int _ _) (VRL.cons (.int _ _) (VRL.cons (.int _ _) (VRL.nil _))))) key).mono fun e W' ⟨v, u, γ1, h1, he, hvr, hb, bel⟩ => ?_
  subst hb
  obtain rfl := hvr.bool_inv
  subst he
  have st := stays_all laid bel (ts := [2, 2, 2, 2]) (fun t ht => by
    simp only [List.mem_cons, List.not_mem_nil, or_false] at ht
    rcases ht with rfl | rfl | rfl | rfl
    · exact ⟨readable0, intable0⟩
    · exact ⟨readable0, intable0⟩
    · exact ⟨readable0, intable0⟩
    · exact ⟨readable0, intable0⟩) hA
  exact ⟨_, rfl, _, _, _, [], _, [], hW', trodAll_mk1 (shut_bool isbool _), st, rfl, bel.frame _, fun h => by cases h⟩
theorem over : Rows.fnExactMatrixTensorRow.holds Try.pinned (OpenSpec.ofChange Rows.fnExactMatrixTensorSpec) :=
  OpenClaim.holds_of_wide 3 Try.f3 rfl rfl rfl rfl rfl rfl rfl ⟨rfl, rfl, rfl, rfl, rfl⟩ rfl rfl rfl rfl rfl (by kernel_rfl) Try.func3 (by kernel_rfl)
    (of_decide_eq_true (by kernel_rfl)) (by unfold Func.isWrapper; first | (rw [if_pos (by decide +kernel)]; kernel_rfl) | (rw [if_neg (by decide +kernel)]; exact ⟨rfl, rfl⟩))
    (fun os started H enc _ => lifted os started H enc)
end Go.Proofs.Ytphklalbkpohfaa.fnExactMatrixTensor
namespace Go.Proofs.Ytphklalbkpohfaa
theorem fnExactMatrixTensor_holds : Rows.FnExactMatrixTensorSaid := fnExactMatrixTensor.over
end Go.Proofs.Ytphklalbkpohfaa
