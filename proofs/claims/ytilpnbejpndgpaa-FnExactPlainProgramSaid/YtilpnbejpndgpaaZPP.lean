/- Texts of one claim, put together by merge.py: XLPP, XHPP. -/
import Derived.Test.YtilpnbejpndgpaaM5
import Derived.Test.YtilpnbejpndgpaaMP
import Derived.Test.YtilpnbejpndgpaaM8
import Derived.Test.YtilpnbejpndgpaaM9
import Derived.Test.YtilpnbejpndgpaaM2
import Derived.Test.YtilpnbejpndgpaaRows
import Derived.Test.YtilpnbejpndgpaaM4
import Derived.ProofKit
import Derived.OpenShut
import Derived.ShutString
import Derived.ChangeOld
import Derived.Below
import Derived.SizedLaws
/- The law on PlainProgram, on the abstract machine (printed by lawg.py). -/
set_option linter.unusedVariables false
set_option linter.unusedSimpArgs false
set_option maxRecDepth 20000
set_option maxHeartbeats 4000000
namespace Go.Proofs.Ytilpnbejpndgpaa.X
open Go Go.RowKit

theorem law_PlainProgram {n0 : Int} {n1 : Int} {v2 : Value} {x2 : List (List Int)} {h : AH} (hv2 : Rows h v2 x2) (hl2 : ((x2).length : Int) ≤ 9223372036854775807) (hm2 : ∀ i, i < x2.length → ((x2.getD i []).length : Int) ≤ 9223372036854775807) :
    WF S 8 [I64 n0, I64 n1, v2] h (fun v _ => v = .bool true) := by
  refine WF_fn (fn := c8) rfl rfl ?_
  unfold c8
  have ph : h <+: h := List.prefix_refl h
  try simp (maxSteps := 3000000) (disch := first | omega | (simp only [len_new, len_put, len_kill]; omega)) only [↓xpre, xpost, ↓reduceIte, Nat.reduceEqDiff, Nat.reduceAdd, Nat.reduceSub, Nat.reduceLeDiff, Nat.zero_add, Nat.sub_zero]
  try simp (maxSteps := 3000000) (disch := first | omega | (simp only [len_new, len_put, len_kill]; omega)) only [↓xpre, xpost, ↓reduceIte, Nat.reduceEqDiff, Nat.reduceAdd, Nat.reduceSub, Nat.reduceLeDiff, Nat.zero_add, Nat.sub_zero]
  refine gsz_M (hv2.pre ph) (by omega) hl2 hm2 fun m2 H1 p1 hm2' hs2 => ?_
  have l1 := pre_len p1
  have ph := ph.trans p1
  try simp (maxSteps := 3000000) (disch := first | omega | (simp only [len_new, len_put, len_kill]; omega)) only [↓xpre, xpost, ↓reduceIte, Nat.reduceEqDiff, Nat.reduceAdd, Nat.reduceSub, Nat.reduceLeDiff, Nat.zero_add, Nat.sub_zero, IfW_dec]
  refine ⟨fun _ => trivial, fun hz2 => ?_⟩
  have hs2 := hs2 (by omega)
  have hc2 := cntM_le hs2
  try simp (maxSteps := 3000000) (disch := first | omega | (simp only [len_new, len_put, len_kill]; omega)) only [↓xpre, xpost, ↓reduceIte, Nat.reduceEqDiff, Nat.reduceAdd, Nat.reduceSub, Nat.reduceLeDiff, Nat.zero_add, Nat.sub_zero]
  try refine ⟨p1, ?_⟩
  refine gto_M (hv2.pre ph) hs2 fun vc2 H2 p2 oc2 => ?_
  have l2 := pre_len p2
  have ph := ph.trans p2
  try simp (maxSteps := 3000000) (disch := first | omega | (simp only [len_new, len_put, len_kill]; omega)) only [↓xpre, xpost, ↓reduceIte, Nat.reduceEqDiff, Nat.reduceAdd, Nat.reduceSub, Nat.reduceLeDiff, Nat.zero_add, Nat.sub_zero]
  try refine ⟨p2, ?_⟩
  refine s_PlainProgram oc2.rd hs2 fun vw ww H3 p3 ow => ?_
  have l3 := pre_len p3
  have ph := ph.trans p3
  have oc2 := oc2.pre p3
  have ow := ow.inP
  try simp (maxSteps := 3000000) (disch := first | omega | (simp only [len_new, len_put, len_kill]; omega)) only [↓xpre, xpost, ↓reduceIte, Nat.reduceEqDiff, Nat.reduceAdd, Nat.reduceSub, Nat.reduceLeDiff, Nat.zero_add, Nat.sub_zero, prgV, ow.rd.1.one, ow.rd.2.one]
  generalize hH4 : AH.new H3 _ = H4
  obtain ⟨bw, p4, e4⟩ := new_facts hH4
  have l4 := pre_len p4
  have ph := ph.trans p4
  have oc2 := oc2.pre p4
  have ow := ow.pre p4
  try simp (maxSteps := 3000000) (disch := first | omega | (simp only [len_new, len_put, len_kill]; omega)) only [↓xpre, xpost, ↓reduceIte, Nat.reduceEqDiff, Nat.reduceAdd, Nat.reduceSub, Nat.reduceLeDiff, Nat.zero_add, Nat.sub_zero, rdn_of bw]
  try refine ⟨p4, ?_⟩
  refine gto_M (hv2.pre ph) hs2 fun vx2 H5 p5 ox2 => ?_
  have l5 := pre_len p5
  have ph := ph.trans p5
  have bw := pre_get p5 bw
  have ow := ow.pre p5
  try simp (maxSteps := 3000000) (disch := first | omega | (simp only [len_new, len_put, len_kill]; omega)) only [↓xpre, xpost, ↓reduceIte, Nat.reduceEqDiff, Nat.reduceAdd, Nat.reduceSub, Nat.reduceLeDiff, Nat.zero_add, Nat.sub_zero, rdn_of bw]
  try refine ⟨p5, ?_⟩
  refine i_PlainProgram ox2.rd hs2 fun vg wg H6 p6 og => ?_
  have l6 := pre_len p6
  have ph := ph.trans p6
  have bw := pre_get p6 bw
  have ow := ow.pre p6
  have ox2 := ox2.pre p6
  have og := og.inP
  try simp (maxSteps := 3000000) (disch := first | omega | (simp only [len_new, len_put, len_kill]; omega)) only [↓xpre, xpost, ↓reduceIte, Nat.reduceEqDiff, Nat.reduceAdd, Nat.reduceSub, Nat.reduceLeDiff, Nat.zero_add, Nat.sub_zero, prgV, og.rd.1.one, og.rd.2.one, rdn_of bw]
  generalize hH7 : AH.new H6 _ = H7
  obtain ⟨bg, p7, e7⟩ := new_facts hH7
  have l7 := pre_len p7
  have ph := ph.trans p7
  have bw := pre_get p7 bw
  have ow := ow.pre p7
  have ox2 := ox2.pre p7
  have og := og.pre p7
  have hR : SmallP (plR n0 n1 x2).1 := plR_small n0 n1 x2
  have hcR := cntP_le hR
  try simp (maxSteps := 3000000) (disch := first | omega | (simp only [len_new, len_put, len_kill]; omega)) only [↓xpre, xpost, ↓reduceIte, Nat.reduceEqDiff, Nat.reduceAdd, Nat.reduceSub, Nat.reduceLeDiff, Nat.zero_add, Nat.sub_zero, ne_eq, not_true_eq_false, rdn_of bw, rdn_of bg]
  try refine ⟨p7, ?_⟩
  refine geq_P og.rd ow.rd hR fun  H8 p8 => ?_
  have l8 := pre_len p8
  have ph := ph.trans p8
  have bw := pre_get p8 bw
  have bg := pre_get p8 bg
  have ow := ow.pre p8
  have ox2 := ox2.pre p8
  have og := og.pre p8
  try simp (maxSteps := 3000000) (disch := first | omega | (simp only [len_new, len_put, len_kill]; omega)) only [↓xpre, xpost, ↓reduceIte, Nat.reduceEqDiff, Nat.reduceAdd, Nat.reduceSub, Nat.reduceLeDiff, Nat.zero_add, Nat.sub_zero, ne_eq, not_true_eq_false, rdn_of bw, rdn_of bg]
  try refine ⟨p8, ?_⟩
  try simp (maxSteps := 3000000) (disch := first | omega | (simp only [len_new, len_put, len_kill]; omega)) only [↓xpre, xpost, ↓reduceIte, Nat.reduceEqDiff, Nat.reduceAdd, Nat.reduceSub, Nat.reduceLeDiff, Nat.zero_add, Nat.sub_zero, ne_eq, not_true_eq_false, rdn_of bw, rdn_of bg]
  try refine ⟨p8, ?_⟩
  refine gto_M (hv2.pre ph) hs2 fun ve2 H9 p9 oe2 => ?_
  have l9 := pre_len p9
  have ph := ph.trans p9
  have bw := pre_get p9 bw
  have bg := pre_get p9 bg
  have ow := ow.pre p9
  have ox2 := ox2.pre p9
  have og := og.pre p9
  try simp (maxSteps := 3000000) (disch := first | omega | (simp only [len_new, len_put, len_kill]; omega)) only [↓xpre, xpost, ↓reduceIte, Nat.reduceEqDiff, Nat.reduceAdd, Nat.reduceSub, Nat.reduceLeDiff, Nat.zero_add, Nat.sub_zero, rdn_of bw, rdn_of bg]
  try refine ⟨p9, ?_⟩
  refine geq_M ox2.rd oe2.rd hs2 fun  H10 p10 => ?_
  have l10 := pre_len p10
  have ph := ph.trans p10
  have bw := pre_get p10 bw
  have bg := pre_get p10 bg
  have ow := ow.pre p10
  have ox2 := ox2.pre p10
  have og := og.pre p10
  have oe2 := oe2.pre p10
  try simp (maxSteps := 3000000) (disch := first | omega | (simp only [len_new, len_put, len_kill]; omega)) only [↓xpre, xpost, ↓reduceIte, Nat.reduceEqDiff, Nat.reduceAdd, Nat.reduceSub, Nat.reduceLeDiff, Nat.zero_add, Nat.sub_zero, rdn_of bw, rdn_of bg]
  try simp (maxSteps := 3000000) (disch := first | omega | (simp only [len_new, len_put, len_kill]; omega)) only [↓xpre, xpost, ↓reduceIte, Nat.reduceEqDiff, Nat.reduceAdd, Nat.reduceSub, Nat.reduceLeDiff, Nat.zero_add, Nat.sub_zero, rdn_of bw, rdn_of bg]
  refine gmark_M ox2 hs2 (by omega) fun J11 H11 p11 w11 q11 => ?_
  have l11 := pre_len p11
  have ll11 := w11.len
  have ph := ph.trans p11
  have bw := pre_get p11 bw
  have bg := pre_get p11 bg
  have ow := ow.pre p11
  have og := og.pre p11
  have ph := w11.pre ph (by omega)
  have bw := w11.get' bw (by omega)
  have bg := w11.get' bg (by omega)
  have ow := ow.only w11 (by omega)
  have og := og.only w11 (by omega)
  have ox2 := q11
  try simp (maxSteps := 3000000) (disch := first | omega | (simp only [len_new, len_put, len_kill]; omega)) only [↓xpre, xpost, ↓reduceIte, Nat.reduceEqDiff, Nat.reduceAdd, Nat.reduceSub, Nat.reduceLeDiff, Nat.zero_add, Nat.sub_zero, rdn_of bw, rdn_of bg, IfW_dec]
  rw [decide_eq_false (by omega)]
  try simp (maxSteps := 3000000) (disch := first | omega | (simp only [len_new, len_put, len_kill]; omega)) only [↓xpre, xpost, ↓reduceIte, Nat.reduceEqDiff, Nat.reduceAdd, Nat.reduceSub, Nat.reduceLeDiff, Nat.zero_add, Nat.sub_zero, ne_eq, not_true_eq_false, rdn_of bw, rdn_of bg]
  try refine ⟨p11, ?_⟩
  refine geq_P og.rd ow.rd hR fun  H12 p12 => ?_
  have l12 := pre_len p12
  have ph := ph.trans p12
  have bw := pre_get p12 bw
  have bg := pre_get p12 bg
  have ow := ow.pre p12
  have og := og.pre p12
  try simp (maxSteps := 3000000) (disch := first | omega | (simp only [len_new, len_put, len_kill]; omega)) only [↓xpre, xpost, ↓reduceIte, Nat.reduceEqDiff, Nat.reduceAdd, Nat.reduceSub, Nat.reduceLeDiff, Nat.zero_add, Nat.sub_zero, ne_eq, not_true_eq_false, rdn_of bw, rdn_of bg]
  try refine ⟨p12, ?_⟩
  try simp (maxSteps := 3000000) (disch := first | omega | (simp only [len_new, len_put, len_kill]; omega)) only [↓xpre, xpost, ↓reduceIte, Nat.reduceEqDiff, Nat.reduceAdd, Nat.reduceSub, Nat.reduceLeDiff, Nat.zero_add, Nat.sub_zero, ne_eq, not_true_eq_false, rdn_of bw, rdn_of bg]
  refine gmark_P og hR (by omega) fun J13 H13 p13 w13 q13 => ?_
  have l13 := pre_len p13
  have ll13 := w13.len
  have ph := ph.trans p13
  have bw := pre_get p13 bw
  have bg := pre_get p13 bg
  have ow := ow.pre p13
  have ph := w13.pre ph (by omega)
  have bw := w13.get' bw (by omega)
  have bg := w13.get' bg (by omega)
  have ow := ow.only w13 (by omega)
  have og := q13
  try simp (maxSteps := 3000000) (disch := first | omega | (simp only [len_new, len_put, len_kill]; omega)) only [↓xpre, xpost, ↓reduceIte, Nat.reduceEqDiff, Nat.reduceAdd, Nat.reduceSub, Nat.reduceLeDiff, Nat.zero_add, Nat.sub_zero, ne_eq, not_true_eq_false, rdn_of bw, rdn_of bg]
  refine gheld_P og.rd hR (by omega) fun  H14 p14 => ?_
  have l14 := pre_len p14
  have ph := ph.trans p14
  have bw := pre_get p14 bw
  have bg := pre_get p14 bg
  have ow := ow.pre p14
  have og := og.pre p14
  try simp (maxSteps := 3000000) (disch := first | omega | (simp only [len_new, len_put, len_kill]; omega)) only [↓xpre, xpost, ↓reduceIte, Nat.reduceEqDiff, Nat.reduceAdd, Nat.reduceSub, Nat.reduceLeDiff, Nat.zero_add, Nat.sub_zero, IfW_dec, ne_eq, not_true_eq_false, rdn_of bw, rdn_of bg]
  refine ⟨fun hlt => by omega, fun _ => ?_⟩
  try simp (maxSteps := 3000000) (disch := first | omega | (simp only [len_new, len_put, len_kill]; omega)) only [↓xpre, xpost, ↓reduceIte, Nat.reduceEqDiff, Nat.reduceAdd, Nat.reduceSub, Nat.reduceLeDiff, Nat.zero_add, Nat.sub_zero, rdn_of bw, rdn_of bg]
  try refine ⟨p14, ?_⟩
  refine gto_M (hv2.pre ph) hs2 fun vd2 H15 p15 od2 => ?_
  have l15 := pre_len p15
  have ph := ph.trans p15
  have bw := pre_get p15 bw
  have bg := pre_get p15 bg
  have ow := ow.pre p15
  have og := og.pre p15
  try simp (maxSteps := 3000000) (disch := first | omega | (simp only [len_new, len_put, len_kill]; omega)) only [↓xpre, xpost, ↓reduceIte, Nat.reduceEqDiff, Nat.reduceAdd, Nat.reduceSub, Nat.reduceLeDiff, Nat.zero_add, Nat.sub_zero, rdn_of bw, rdn_of bg]
  try refine ⟨p15, ?_⟩
  refine i_PlainProgram od2.rd hs2 fun vh wh H16 p16 oh => ?_
  have l16 := pre_len p16
  have ph := ph.trans p16
  have bw := pre_get p16 bw
  have bg := pre_get p16 bg
  have ow := ow.pre p16
  have od2 := od2.pre p16
  have og := og.pre p16
  have oh := oh.inP
  try simp (maxSteps := 3000000) (disch := first | omega | (simp only [len_new, len_put, len_kill]; omega)) only [↓xpre, xpost, ↓reduceIte, Nat.reduceEqDiff, Nat.reduceAdd, Nat.reduceSub, Nat.reduceLeDiff, Nat.zero_add, Nat.sub_zero, prgV, oh.rd.1.one, oh.rd.2.one, rdn_of bw, rdn_of bg]
  generalize hH17 : AH.new H16 _ = H17
  obtain ⟨bh, p17, e17⟩ := new_facts hH17
  have l17 := pre_len p17
  have ph := ph.trans p17
  have bw := pre_get p17 bw
  have bg := pre_get p17 bg
  have ow := ow.pre p17
  have oh := oh.pre p17
  have og := og.pre p17
  try simp (maxSteps := 3000000) (disch := first | omega | (simp only [len_new, len_put, len_kill]; omega)) only [↓xpre, xpost, ↓reduceIte, Nat.reduceEqDiff, Nat.reduceAdd, Nat.reduceSub, Nat.reduceLeDiff, Nat.zero_add, Nat.sub_zero, ne_eq, not_true_eq_false, rdn_of bw, rdn_of bg, rdn_of bh]
  try refine ⟨p17, ?_⟩
  refine geq_P oh.rd ow.rd hR fun  H18 p18 => ?_
  have l18 := pre_len p18
  have ph := ph.trans p18
  have bw := pre_get p18 bw
  have bg := pre_get p18 bg
  have bh := pre_get p18 bh
  have ow := ow.pre p18
  have oh := oh.pre p18
  have og := og.pre p18
  try simp (maxSteps := 3000000) (disch := first | omega | (simp only [len_new, len_put, len_kill]; omega)) only [↓xpre, xpost, ↓reduceIte, Nat.reduceEqDiff, Nat.reduceAdd, Nat.reduceSub, Nat.reduceLeDiff, Nat.zero_add, Nat.sub_zero, ne_eq, not_true_eq_false, rdn_of bw, rdn_of bg, rdn_of bh]
  try refine ⟨p18, ?_⟩
  try simp (maxSteps := 3000000) (disch := first | omega | (simp only [len_new, len_put, len_kill]; omega)) only [↓xpre, xpost, ↓reduceIte, Nat.reduceEqDiff, Nat.reduceAdd, Nat.reduceSub, Nat.reduceLeDiff, Nat.zero_add, Nat.sub_zero, ne_eq, not_true_eq_false, rdn_of bw, rdn_of bg, rdn_of bh]
  refine gheld_P og.rd hR (by omega) fun H19 p19 => ?_
  try simp (maxSteps := 3000000) (disch := first | omega | (simp only [len_new, len_put, len_kill]; omega)) only [↓xpre, xpost, ↓reduceIte, Nat.reduceEqDiff, Nat.reduceAdd, Nat.reduceSub, Nat.reduceLeDiff, Nat.zero_add, Nat.sub_zero, IfW_dec, ne_eq, not_true_eq_false, rdn_of bw, rdn_of bg, rdn_of bh]
  refine ⟨fun hlt => by omega, fun _ => ?_⟩
  trivial

end Go.Proofs.Ytilpnbejpndgpaa.X

/- The row of PlainProgram (printed by row.py). -/
namespace Go.Proofs.Ytilpnbejpndgpaa.fnExactPlainProgram
open Go Go.ChangeShapes Go.WideShapes Go.ChangeAt Go.RowKit Go.Proofs.Ytilpnbejpndgpaa.X
set_option linter.unusedVariables false
theorem own : ownKnob Try.prog.godebug = none := by kernel_rfl
theorem laid : laidOutB Try.prog = true := by kernel_rfl
theorem shapeS : isIntS Try.prog 22 2 = true := by kernel_rfl
theorem shapeM : isIntSS Try.prog 32 22 2 = true := by kernel_rfl
theorem readable0 : Try.prog.readableRec 2 = true := by kernel_rfl
theorem intable0 : 2 < Try.prog.types.size := of_decide_eq_true (by kernel_rfl)
theorem readable1 : Try.prog.readableRec 32 = true := by kernel_rfl
theorem intable1 : 32 < Try.prog.types.size := of_decide_eq_true (by kernel_rfl)
theorem isbool : Try.prog.underlying 4 = some .bool := by kernel_rfl
theorem isint : Try.prog.underlying 2 = some (.int .i64) := by kernel_rfl
set_option maxRecDepth 100000 in
theorem lifted (os : Os) (started : os.Started) (H : Type) (enc : TypeId × Value → H) :
    ReturnsInHanded {} Try.checked os 8 .any (Rows.fnExactPlainProgramSpec.pre6 enc Try.prog Try.f8 Rows.fnExactPlainProgramRow.domain false) (Rows.fnExactPlainProgramSpec.post enc Try.prog Try.f8 false true false false) := by
  refine returnsInHanded_of_change_sized (C := Try.checked) own started (by kernel_rfl) Try.func8
    (ChangeSpec.witness6 (enc := enc) (C := Try.checked) false ⟨#[], #[.int .i64 0, .int .i64 0, .slice none 0 0], []⟩ 8 (by kernel_rfl) (by kernel_rfl) (by kernel_rfl) (by kernel_rfl)) ?_
  intro W base args ds gs before hval0 hW hcnd hsz0 _
  have hval : ∀ (j : Nat) t v, Try.f8.params[j]? = some t → args[j]? = some v → Value.okWide Try.prog W .any base t v := hval0
  have hW' := hW
  obtain ⟨p, q, hA0, hV, rfl, hfz, hnd⟩ := hW
  have hA : DataW.TrodAll enc Try.prog W 0 (fun _ => true) true Try.f8.params.toList args.toList ds p := hA0
  rw [Try.params8] at hA hval
  obtain ⟨v0, vs0, d0, ds0, p0, q0, hargs0, rfl, rfl, h0, r0⟩ := trodAll_cons hA
  obtain ⟨v1, vs1, d1, ds1, p1, q1, hargs1, rfl, rfl, h1, r1⟩ := trodAll_cons r0
  obtain ⟨v2, vs2, d2, ds2, p2, q2, hargs2, rfl, rfl, h2, r2⟩ := trodAll_cons r1
  obtain ⟨rfl, rfl, rfl⟩ := trodAll_nil r2
  obtain rfl : args = #[v0, v1, v2] := by cases args; simp_all
  obtain ⟨rfl, rfl⟩ := trodVars_none hV
  obtain ⟨n0, rfl, rfl, rfl, wf0⟩ := open_int isint (hval 0 2 v0 rfl rfl) h0
  obtain ⟨n1, rfl, rfl, rfl, wf1⟩ := open_int isint (hval 1 2 v1 rfl rfl) h1
  obtain ⟨ns2, u2, γ2, g2, pg2, ph2, A2, hv2, hi2, hl2, hm2⟩ := adm_rows (Adm.nil Try.prog W) 22 2 shapeM (hval 2 _ v2 rfl rfl) h2
  have hl2' : (ns2.length : Int) ≤ 9223372036854775807 := by
    have : ns2.length ≤ 2 ^ 63 - 1 := hl2
    omega
  have hm2' : ∀ i, i < ns2.length → ((ns2.getD i []).length : Int) ≤ 9223372036854775807 := fun i hi => by
    have : (ns2.getD i []).length ≤ 2 ^ 63 - 1 := hm2 i hi
    omega
  have hi2' := hi2
  have key := law_PlainProgram (n0 := n0) (n1 := n1) hi2' hl2' hm2'
  refine (calls_of_WF (S := S) orders esound tsound A2 (VRL.cons (.int _ _) (VRL.cons (.int _ _) (VRL.cons hv2 (VRL.nil _)))) key).mono fun e W' ⟨v, u, γ1, h1, he, hvr, hb, bel⟩ => ?_
  subst hb
  obtain rfl := hvr.bool_inv
  subst he
  have st := stays_all laid bel (ts := [2, 2, 32]) (fun t ht => by
    simp only [List.mem_cons, List.not_mem_nil, or_false] at ht
    rcases ht with rfl | rfl | rfl
    · exact ⟨readable0, intable0⟩
    · exact ⟨readable0, intable0⟩
    · exact ⟨readable1, intable1⟩) hA
  exact ⟨_, rfl, _, _, _, [], _, [], hW', trodAll_mk1 (shut_bool isbool _), st, rfl, bel.frame _, fun h => by cases h⟩
theorem over : Rows.fnExactPlainProgramRow.holds Try.pinned (OpenSpec.ofChange Rows.fnExactPlainProgramSpec) :=
  OpenClaim.holds_of_wide 8 Try.f8 rfl rfl rfl rfl rfl rfl rfl ⟨rfl, rfl, rfl, rfl, rfl⟩ rfl rfl rfl rfl rfl (by kernel_rfl) Try.func8 (by kernel_rfl)
    (of_decide_eq_true (by kernel_rfl)) (by unfold Func.isWrapper; first | (rw [if_pos (by decide +kernel)]; kernel_rfl) | (rw [if_neg (by decide +kernel)]; exact ⟨rfl, rfl⟩))
    (fun os started H enc _ => lifted os started H enc)
end Go.Proofs.Ytilpnbejpndgpaa.fnExactPlainProgram
namespace Go.Proofs.Ytilpnbejpndgpaa
theorem fnExactPlainProgram_holds : Rows.FnExactPlainProgramSaid := fnExactPlainProgram.over
end Go.Proofs.Ytilpnbejpndgpaa
