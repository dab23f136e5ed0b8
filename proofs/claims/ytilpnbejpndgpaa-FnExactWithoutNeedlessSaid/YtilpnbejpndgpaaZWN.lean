/- Texts of one claim, put together by merge.py: XLWN, XHWN. -/
import Derived.Test.YtilpnbejpndgpaaM5
import Derived.Test.YtilpnbejpndgpaaM6
import Derived.Test.YtilpnbejpndgpaaM8
import Derived.Test.YtilpnbejpndgpaaM2
import Derived.Test.YtilpnbejpndgpaaRows
import Derived.Test.YtilpnbejpndgpaaM4
import Derived.ProofKit
import Derived.OpenShut
import Derived.ShutString
import Derived.ChangeOld
import Derived.Below
import Derived.SizedLaws
/- The law on WithoutNeedless, on the abstract machine (printed by lawg.py). -/
set_option linter.unusedVariables false
set_option linter.unusedSimpArgs false
set_option maxRecDepth 20000
set_option maxHeartbeats 4000000
namespace Go.Proofs.Ytilpnbejpndgpaa.X
open Go Go.RowKit

theorem law_WithoutNeedless {v0 w0 : Value} {x0 : Prg} {h : AH} (hv0 : PrgR h v0 w0 x0) (hl0 : ((x0.st).length : Int) ≤ 9223372036854775807) (hm0 : ((x0.out).length : Int) ≤ 9223372036854775807) :
    WF S 7 [prgV x0 v0 w0] h (fun v _ => v = .bool true) := by
  refine WF_fn (fn := c7) rfl rfl ?_
  unfold c7
  have ph : h <+: h := List.prefix_refl h
  try simp (maxSteps := 3000000) (disch := first | omega | (simp only [len_new, len_put, len_kill]; omega)) only [↓xpre, xpost, ↓reduceIte, Nat.reduceEqDiff, Nat.reduceAdd, Nat.reduceSub, Nat.reduceLeDiff, Nat.zero_add, Nat.sub_zero, prgV, hv0.1.one, hv0.2.one]
  generalize hH1 : AH.new h _ = H1
  obtain ⟨ba0, p1, e1⟩ := new_facts hH1
  have l1 := pre_len p1
  have ph := ph.trans p1
  try simp (maxSteps := 3000000) (disch := first | omega | (simp only [len_new, len_put, len_kill]; omega)) only [↓xpre, xpost, ↓reduceIte, Nat.reduceEqDiff, Nat.reduceAdd, Nat.reduceSub, Nat.reduceLeDiff, Nat.zero_add, Nat.sub_zero, rdn_of ba0]
  refine gsz_P (hv0.pre ph) (by omega) hl0 hm0 fun m0 H2 p2 hm0' hs0 => ?_
  have l2 := pre_len p2
  have ph := ph.trans p2
  have ba0 := pre_get p2 ba0
  try simp (maxSteps := 3000000) (disch := first | omega | (simp only [len_new, len_put, len_kill]; omega)) only [↓xpre, xpost, ↓reduceIte, Nat.reduceEqDiff, Nat.reduceAdd, Nat.reduceSub, Nat.reduceLeDiff, Nat.zero_add, Nat.sub_zero, IfW_dec]
  refine ⟨fun _ => trivial, fun hz0 => ?_⟩
  have hs0 := hs0 (by omega)
  have hc0 := cntP_le hs0
  try simp (maxSteps := 3000000) (disch := first | omega | (simp only [len_new, len_put, len_kill]; omega)) only [↓xpre, xpost, ↓reduceIte, Nat.reduceEqDiff, Nat.reduceAdd, Nat.reduceSub, Nat.reduceLeDiff, Nat.zero_add, Nat.sub_zero, rdn_of ba0]
  try refine ⟨p2, ?_⟩
  refine gto_P (hv0.pre ph) hs0 fun vc0 wc0 H3 p3 oc0 => ?_
  have l3 := pre_len p3
  have ph := ph.trans p3
  have ba0 := pre_get p3 ba0
  try simp (maxSteps := 3000000) (disch := first | omega | (simp only [len_new, len_put, len_kill]; omega)) only [↓xpre, xpost, ↓reduceIte, Nat.reduceEqDiff, Nat.reduceAdd, Nat.reduceSub, Nat.reduceLeDiff, Nat.zero_add, Nat.sub_zero, rdn_of ba0]
  try refine ⟨p3, ?_⟩
  refine s_WithoutNeedless oc0.rd hs0 fun vw ww H4 p4 ow => ?_
  have l4 := pre_len p4
  have ph := ph.trans p4
  have ba0 := pre_get p4 ba0
  have oc0 := oc0.pre p4
  have ow := ow.inP
  try simp (maxSteps := 3000000) (disch := first | omega | (simp only [len_new, len_put, len_kill]; omega)) only [↓xpre, xpost, ↓reduceIte, Nat.reduceEqDiff, Nat.reduceAdd, Nat.reduceSub, Nat.reduceLeDiff, Nat.zero_add, Nat.sub_zero, prgV, ow.rd.1.one, ow.rd.2.one, rdn_of ba0]
  generalize hH5 : AH.new H4 _ = H5
  obtain ⟨bw, p5, e5⟩ := new_facts hH5
  have l5 := pre_len p5
  have ph := ph.trans p5
  have ba0 := pre_get p5 ba0
  have oc0 := oc0.pre p5
  have ow := ow.pre p5
  try simp (maxSteps := 3000000) (disch := first | omega | (simp only [len_new, len_put, len_kill]; omega)) only [↓xpre, xpost, ↓reduceIte, Nat.reduceEqDiff, Nat.reduceAdd, Nat.reduceSub, Nat.reduceLeDiff, Nat.zero_add, Nat.sub_zero, rdn_of ba0, rdn_of bw]
  try refine ⟨p5, ?_⟩
  refine gto_P (hv0.pre ph) hs0 fun vx0 wx0 H6 p6 ox0 => ?_
  have l6 := pre_len p6
  have ph := ph.trans p6
  have ba0 := pre_get p6 ba0
  have bw := pre_get p6 bw
  have ow := ow.pre p6
  try simp (maxSteps := 3000000) (disch := first | omega | (simp only [len_new, len_put, len_kill]; omega)) only [↓xpre, xpost, ↓reduceIte, Nat.reduceEqDiff, Nat.reduceAdd, Nat.reduceSub, Nat.reduceLeDiff, Nat.zero_add, Nat.sub_zero, prgV, ox0.rd.1.one, ox0.rd.2.one, rdn_of ba0, rdn_of bw]
  generalize hH7 : AH.new H6 _ = H7
  obtain ⟨bx0, p7, e7⟩ := new_facts hH7
  have l7 := pre_len p7
  have ph := ph.trans p7
  have ba0 := pre_get p7 ba0
  have bw := pre_get p7 bw
  have ow := ow.pre p7
  have ox0 := ox0.pre p7
  try simp (maxSteps := 3000000) (disch := first | omega | (simp only [len_new, len_put, len_kill]; omega)) only [↓xpre, xpost, ↓reduceIte, Nat.reduceEqDiff, Nat.reduceAdd, Nat.reduceSub, Nat.reduceLeDiff, Nat.zero_add, Nat.sub_zero, rdn_of ba0, rdn_of bw, rdn_of bx0]
  try refine ⟨p7, ?_⟩
  refine i_WithoutNeedless ox0.rd hs0 fun vg wg H8 p8 og => ?_
  have l8 := pre_len p8
  have ph := ph.trans p8
  have ba0 := pre_get p8 ba0
  have bw := pre_get p8 bw
  have bx0 := pre_get p8 bx0
  have ow := ow.pre p8
  have ox0 := ox0.pre p8
  have og := og.inP
  try simp (maxSteps := 3000000) (disch := first | omega | (simp only [len_new, len_put, len_kill]; omega)) only [↓xpre, xpost, ↓reduceIte, Nat.reduceEqDiff, Nat.reduceAdd, Nat.reduceSub, Nat.reduceLeDiff, Nat.zero_add, Nat.sub_zero, prgV, og.rd.1.one, og.rd.2.one, rdn_of ba0, rdn_of bw, rdn_of bx0]
  generalize hH9 : AH.new H8 _ = H9
  obtain ⟨bg, p9, e9⟩ := new_facts hH9
  have l9 := pre_len p9
  have ph := ph.trans p9
  have ba0 := pre_get p9 ba0
  have bw := pre_get p9 bw
  have bx0 := pre_get p9 bx0
  have ow := ow.pre p9
  have ox0 := ox0.pre p9
  have og := og.pre p9
  have hR : SmallP (wnR x0).1 := wnR_small x0
  have hcR := cntP_le hR
  try simp (maxSteps := 3000000) (disch := first | omega | (simp only [len_new, len_put, len_kill]; omega)) only [↓xpre, xpost, ↓reduceIte, Nat.reduceEqDiff, Nat.reduceAdd, Nat.reduceSub, Nat.reduceLeDiff, Nat.zero_add, Nat.sub_zero, ne_eq, not_true_eq_false, rdn_of ba0, rdn_of bw, rdn_of bx0, rdn_of bg]
  try refine ⟨p9, ?_⟩
  refine geq_P og.rd ow.rd hR fun  H10 p10 => ?_
  have l10 := pre_len p10
  have ph := ph.trans p10
  have ba0 := pre_get p10 ba0
  have bw := pre_get p10 bw
  have bx0 := pre_get p10 bx0
  have bg := pre_get p10 bg
  have ow := ow.pre p10
  have ox0 := ox0.pre p10
  have og := og.pre p10
  try simp (maxSteps := 3000000) (disch := first | omega | (simp only [len_new, len_put, len_kill]; omega)) only [↓xpre, xpost, ↓reduceIte, Nat.reduceEqDiff, Nat.reduceAdd, Nat.reduceSub, Nat.reduceLeDiff, Nat.zero_add, Nat.sub_zero, ne_eq, not_true_eq_false, rdn_of ba0, rdn_of bw, rdn_of bx0, rdn_of bg]
  try refine ⟨p10, ?_⟩
  try simp (maxSteps := 3000000) (disch := first | omega | (simp only [len_new, len_put, len_kill]; omega)) only [↓xpre, xpost, ↓reduceIte, Nat.reduceEqDiff, Nat.reduceAdd, Nat.reduceSub, Nat.reduceLeDiff, Nat.zero_add, Nat.sub_zero, ne_eq, not_true_eq_false, rdn_of ba0, rdn_of bw, rdn_of bx0, rdn_of bg]
  try refine ⟨p10, ?_⟩
  refine gto_P (hv0.pre ph) hs0 fun ve0 we0 H11 p11 oe0 => ?_
  have l11 := pre_len p11
  have ph := ph.trans p11
  have ba0 := pre_get p11 ba0
  have bw := pre_get p11 bw
  have bx0 := pre_get p11 bx0
  have bg := pre_get p11 bg
  have ow := ow.pre p11
  have ox0 := ox0.pre p11
  have og := og.pre p11
  try simp (maxSteps := 3000000) (disch := first | omega | (simp only [len_new, len_put, len_kill]; omega)) only [↓xpre, xpost, ↓reduceIte, Nat.reduceEqDiff, Nat.reduceAdd, Nat.reduceSub, Nat.reduceLeDiff, Nat.zero_add, Nat.sub_zero, rdn_of ba0, rdn_of bw, rdn_of bx0, rdn_of bg]
  try refine ⟨p11, ?_⟩
  refine geq_P ox0.rd oe0.rd hs0 fun  H12 p12 => ?_
  have l12 := pre_len p12
  have ph := ph.trans p12
  have ba0 := pre_get p12 ba0
  have bw := pre_get p12 bw
  have bx0 := pre_get p12 bx0
  have bg := pre_get p12 bg
  have ow := ow.pre p12
  have ox0 := ox0.pre p12
  have og := og.pre p12
  have oe0 := oe0.pre p12
  try simp (maxSteps := 3000000) (disch := first | omega | (simp only [len_new, len_put, len_kill]; omega)) only [↓xpre, xpost, ↓reduceIte, Nat.reduceEqDiff, Nat.reduceAdd, Nat.reduceSub, Nat.reduceLeDiff, Nat.zero_add, Nat.sub_zero, rdn_of ba0, rdn_of bw, rdn_of bx0, rdn_of bg]
  try simp (maxSteps := 3000000) (disch := first | omega | (simp only [len_new, len_put, len_kill]; omega)) only [↓xpre, xpost, ↓reduceIte, Nat.reduceEqDiff, Nat.reduceAdd, Nat.reduceSub, Nat.reduceLeDiff, Nat.zero_add, Nat.sub_zero, rdn_of ba0, rdn_of bw, rdn_of bx0, rdn_of bg]
  refine gmark_P ox0 hs0 (by omega) fun J13 H13 p13 w13 q13 => ?_
  have l13 := pre_len p13
  have ll13 := w13.len
  have ph := ph.trans p13
  have ba0 := pre_get p13 ba0
  have bw := pre_get p13 bw
  have bx0 := pre_get p13 bx0
  have bg := pre_get p13 bg
  have ow := ow.pre p13
  have og := og.pre p13
  have ph := w13.pre ph (by omega)
  have ba0 := w13.get' ba0 (by omega)
  have bw := w13.get' bw (by omega)
  have bx0 := w13.get' bx0 (by omega)
  have bg := w13.get' bg (by omega)
  have ow := ow.only w13 (by omega)
  have og := og.only w13 (by omega)
  have ox0 := q13
  try simp (maxSteps := 3000000) (disch := first | omega | (simp only [len_new, len_put, len_kill]; omega)) only [↓xpre, xpost, ↓reduceIte, Nat.reduceEqDiff, Nat.reduceAdd, Nat.reduceSub, Nat.reduceLeDiff, Nat.zero_add, Nat.sub_zero, rdn_of ba0, rdn_of bw, rdn_of bx0, rdn_of bg, IfW_dec]
  rw [decide_eq_false (by omega)]
  try simp (maxSteps := 3000000) (disch := first | omega | (simp only [len_new, len_put, len_kill]; omega)) only [↓xpre, xpost, ↓reduceIte, Nat.reduceEqDiff, Nat.reduceAdd, Nat.reduceSub, Nat.reduceLeDiff, Nat.zero_add, Nat.sub_zero, ne_eq, not_true_eq_false, rdn_of ba0, rdn_of bw, rdn_of bx0, rdn_of bg]
  try refine ⟨p13, ?_⟩
  refine geq_P og.rd ow.rd hR fun  H14 p14 => ?_
  have l14 := pre_len p14
  have ph := ph.trans p14
  have ba0 := pre_get p14 ba0
  have bw := pre_get p14 bw
  have bx0 := pre_get p14 bx0
  have bg := pre_get p14 bg
  have ow := ow.pre p14
  have og := og.pre p14
  try simp (maxSteps := 3000000) (disch := first | omega | (simp only [len_new, len_put, len_kill]; omega)) only [↓xpre, xpost, ↓reduceIte, Nat.reduceEqDiff, Nat.reduceAdd, Nat.reduceSub, Nat.reduceLeDiff, Nat.zero_add, Nat.sub_zero, ne_eq, not_true_eq_false, rdn_of ba0, rdn_of bw, rdn_of bx0, rdn_of bg]
  try refine ⟨p14, ?_⟩
  try simp (maxSteps := 3000000) (disch := first | omega | (simp only [len_new, len_put, len_kill]; omega)) only [↓xpre, xpost, ↓reduceIte, Nat.reduceEqDiff, Nat.reduceAdd, Nat.reduceSub, Nat.reduceLeDiff, Nat.zero_add, Nat.sub_zero, ne_eq, not_true_eq_false, rdn_of ba0, rdn_of bw, rdn_of bx0, rdn_of bg]
  refine gmark_P og hR (by omega) fun J15 H15 p15 w15 q15 => ?_
  have l15 := pre_len p15
  have ll15 := w15.len
  have ph := ph.trans p15
  have ba0 := pre_get p15 ba0
  have bw := pre_get p15 bw
  have bx0 := pre_get p15 bx0
  have bg := pre_get p15 bg
  have ow := ow.pre p15
  have ph := w15.pre ph (by omega)
  have ba0 := w15.get' ba0 (by omega)
  have bw := w15.get' bw (by omega)
  have bx0 := w15.get' bx0 (by omega)
  have bg := w15.get' bg (by omega)
  have ow := ow.only w15 (by omega)
  have og := q15
  try simp (maxSteps := 3000000) (disch := first | omega | (simp only [len_new, len_put, len_kill]; omega)) only [↓xpre, xpost, ↓reduceIte, Nat.reduceEqDiff, Nat.reduceAdd, Nat.reduceSub, Nat.reduceLeDiff, Nat.zero_add, Nat.sub_zero, ne_eq, not_true_eq_false, rdn_of ba0, rdn_of bw, rdn_of bx0, rdn_of bg]
  refine gheld_P og.rd hR (by omega) fun  H16 p16 => ?_
  have l16 := pre_len p16
  have ph := ph.trans p16
  have ba0 := pre_get p16 ba0
  have bw := pre_get p16 bw
  have bx0 := pre_get p16 bx0
  have bg := pre_get p16 bg
  have ow := ow.pre p16
  have og := og.pre p16
  try simp (maxSteps := 3000000) (disch := first | omega | (simp only [len_new, len_put, len_kill]; omega)) only [↓xpre, xpost, ↓reduceIte, Nat.reduceEqDiff, Nat.reduceAdd, Nat.reduceSub, Nat.reduceLeDiff, Nat.zero_add, Nat.sub_zero, IfW_dec, ne_eq, not_true_eq_false, rdn_of ba0, rdn_of bw, rdn_of bx0, rdn_of bg]
  refine ⟨fun hlt => by omega, fun _ => ?_⟩
  try simp (maxSteps := 3000000) (disch := first | omega | (simp only [len_new, len_put, len_kill]; omega)) only [↓xpre, xpost, ↓reduceIte, Nat.reduceEqDiff, Nat.reduceAdd, Nat.reduceSub, Nat.reduceLeDiff, Nat.zero_add, Nat.sub_zero, rdn_of ba0, rdn_of bw, rdn_of bx0, rdn_of bg]
  try refine ⟨p16, ?_⟩
  refine gto_P (hv0.pre ph) hs0 fun vd0 wd0 H17 p17 od0 => ?_
  have l17 := pre_len p17
  have ph := ph.trans p17
  have ba0 := pre_get p17 ba0
  have bw := pre_get p17 bw
  have bx0 := pre_get p17 bx0
  have bg := pre_get p17 bg
  have ow := ow.pre p17
  have og := og.pre p17
  try simp (maxSteps := 3000000) (disch := first | omega | (simp only [len_new, len_put, len_kill]; omega)) only [↓xpre, xpost, ↓reduceIte, Nat.reduceEqDiff, Nat.reduceAdd, Nat.reduceSub, Nat.reduceLeDiff, Nat.zero_add, Nat.sub_zero, rdn_of ba0, rdn_of bw, rdn_of bx0, rdn_of bg]
  try refine ⟨p17, ?_⟩
  refine i_WithoutNeedless od0.rd hs0 fun vh wh H18 p18 oh => ?_
  have l18 := pre_len p18
  have ph := ph.trans p18
  have ba0 := pre_get p18 ba0
  have bw := pre_get p18 bw
  have bx0 := pre_get p18 bx0
  have bg := pre_get p18 bg
  have ow := ow.pre p18
  have od0 := od0.pre p18
  have og := og.pre p18
  have oh := oh.inP
  try simp (maxSteps := 3000000) (disch := first | omega | (simp only [len_new, len_put, len_kill]; omega)) only [↓xpre, xpost, ↓reduceIte, Nat.reduceEqDiff, Nat.reduceAdd, Nat.reduceSub, Nat.reduceLeDiff, Nat.zero_add, Nat.sub_zero, prgV, oh.rd.1.one, oh.rd.2.one, rdn_of ba0, rdn_of bw, rdn_of bx0, rdn_of bg]
  generalize hH19 : AH.new H18 _ = H19
  obtain ⟨bh, p19, e19⟩ := new_facts hH19
  have l19 := pre_len p19
  have ph := ph.trans p19
  have ba0 := pre_get p19 ba0
  have bw := pre_get p19 bw
  have bx0 := pre_get p19 bx0
  have bg := pre_get p19 bg
  have ow := ow.pre p19
  have oh := oh.pre p19
  have og := og.pre p19
  try simp (maxSteps := 3000000) (disch := first | omega | (simp only [len_new, len_put, len_kill]; omega)) only [↓xpre, xpost, ↓reduceIte, Nat.reduceEqDiff, Nat.reduceAdd, Nat.reduceSub, Nat.reduceLeDiff, Nat.zero_add, Nat.sub_zero, ne_eq, not_true_eq_false, rdn_of ba0, rdn_of bw, rdn_of bx0, rdn_of bg, rdn_of bh]
  try refine ⟨p19, ?_⟩
  refine geq_P oh.rd ow.rd hR fun  H20 p20 => ?_
  have l20 := pre_len p20
  have ph := ph.trans p20
  have ba0 := pre_get p20 ba0
  have bw := pre_get p20 bw
  have bx0 := pre_get p20 bx0
  have bg := pre_get p20 bg
  have bh := pre_get p20 bh
  have ow := ow.pre p20
  have oh := oh.pre p20
  have og := og.pre p20
  try simp (maxSteps := 3000000) (disch := first | omega | (simp only [len_new, len_put, len_kill]; omega)) only [↓xpre, xpost, ↓reduceIte, Nat.reduceEqDiff, Nat.reduceAdd, Nat.reduceSub, Nat.reduceLeDiff, Nat.zero_add, Nat.sub_zero, ne_eq, not_true_eq_false, rdn_of ba0, rdn_of bw, rdn_of bx0, rdn_of bg, rdn_of bh]
  try refine ⟨p20, ?_⟩
  try simp (maxSteps := 3000000) (disch := first | omega | (simp only [len_new, len_put, len_kill]; omega)) only [↓xpre, xpost, ↓reduceIte, Nat.reduceEqDiff, Nat.reduceAdd, Nat.reduceSub, Nat.reduceLeDiff, Nat.zero_add, Nat.sub_zero, ne_eq, not_true_eq_false, rdn_of ba0, rdn_of bw, rdn_of bx0, rdn_of bg, rdn_of bh]
  refine gheld_P og.rd hR (by omega) fun H21 p21 => ?_
  try simp (maxSteps := 3000000) (disch := first | omega | (simp only [len_new, len_put, len_kill]; omega)) only [↓xpre, xpost, ↓reduceIte, Nat.reduceEqDiff, Nat.reduceAdd, Nat.reduceSub, Nat.reduceLeDiff, Nat.zero_add, Nat.sub_zero, IfW_dec, ne_eq, not_true_eq_false, rdn_of ba0, rdn_of bw, rdn_of bx0, rdn_of bg, rdn_of bh]
  refine ⟨fun hlt => by omega, fun _ => ?_⟩
  trivial

end Go.Proofs.Ytilpnbejpndgpaa.X

/- The row of WithoutNeedless (printed by row.py). -/
namespace Go.Proofs.Ytilpnbejpndgpaa.fnExactWithoutNeedless
open Go Go.ChangeShapes Go.WideShapes Go.ChangeAt Go.RowKit Go.Proofs.Ytilpnbejpndgpaa.X
set_option linter.unusedVariables false
theorem own : ownKnob Try.prog.godebug = none := by kernel_rfl
theorem laid : laidOutB Try.prog = true := by kernel_rfl
theorem shapeP : isPrgT Try.prog 41 132 134 .i64 4 3 2 = true := by kernel_rfl
theorem readable0 : Try.prog.readableRec 41 = true := by kernel_rfl
theorem intable0 : 41 < Try.prog.types.size := of_decide_eq_true (by kernel_rfl)
theorem isbool : Try.prog.underlying 4 = some .bool := by kernel_rfl
theorem isint : Try.prog.underlying 2 = some (.int .i64) := by kernel_rfl
set_option maxRecDepth 100000 in
theorem lifted (os : Os) (started : os.Started) (H : Type) (enc : TypeId × Value → H) :
    ReturnsInHanded {} Try.checked os 7 .any (Rows.fnExactWithoutNeedlessSpec.pre6 enc Try.prog Try.f7 Rows.fnExactWithoutNeedlessRow.domain false) (Rows.fnExactWithoutNeedlessSpec.post enc Try.prog Try.f7 false true false false) := by
  refine returnsInHanded_of_change_sized (C := Try.checked) own started (by kernel_rfl) Try.func7
    (ChangeSpec.witness6 (enc := enc) (C := Try.checked) false ⟨#[], #[.agg #[.int .i64 0, .int .i64 0, .slice none 0 0, .slice none 0 0]], []⟩ 8 (by kernel_rfl) (by kernel_rfl) (by kernel_rfl) (by kernel_rfl)) ?_
  intro W base args ds gs before hval0 hW hcnd hsz0 _
  have hval : ∀ (j : Nat) t v, Try.f7.params[j]? = some t → args[j]? = some v → Value.okWide Try.prog W .any base t v := hval0
  have hW' := hW
  obtain ⟨p, q, hA0, hV, rfl, hfz, hnd⟩ := hW
  have hA : DataW.TrodAll enc Try.prog W 0 (fun _ => true) true Try.f7.params.toList args.toList ds p := hA0
  rw [Try.params7] at hA hval
  obtain ⟨v0, vs0, d0, ds0, p0, q0, hargs0, rfl, rfl, h0, r0⟩ := trodAll_cons hA
  obtain ⟨rfl, rfl, rfl⟩ := trodAll_nil r0
  obtain rfl : args = #[v0] := by cases args; simp_all
  obtain ⟨rfl, rfl⟩ := trodVars_none hV
  obtain ⟨a0, b0, ns0, ms0, u0, z0, γ0, g0, pg0, ph0, A0, hv0, hy0, hz0, hl0, hm0⟩ := adm_prg (Adm.nil Try.prog W) 132 134 4 3 2 shapeP h0
  have hi0 : PrgR g0 u0 z0 ⟨a0, b0, ns0, ms0⟩ := ⟨hy0, hz0⟩
  have hl0' : (ns0.length : Int) ≤ 9223372036854775807 := by
    have : ns0.length ≤ 2 ^ 63 - 1 := hl0
    omega
  have hm0' : (ms0.length : Int) ≤ 9223372036854775807 := by
    have : ms0.length ≤ 2 ^ 63 - 1 := hm0
    omega
  have hi0' := hi0
  have key := law_WithoutNeedless (x0 := ⟨a0, b0, ns0, ms0⟩) hi0' hl0' hm0'
  refine (calls_of_WF (S := S) orders esound tsound A0 (VRL.cons hv0 (VRL.nil _)) key).mono fun e W' ⟨v, u, γ1, h1, he, hvr, hb, bel⟩ => ?_
  subst hb
  obtain rfl := hvr.bool_inv
  subst he
  have st := stays_all laid bel (ts := [41]) (fun t ht => by
    simp only [List.mem_cons, List.not_mem_nil, or_false] at ht
    rw [ht]
    exact ⟨readable0, intable0⟩) hA
  exact ⟨_, rfl, _, _, _, [], _, [], hW', trodAll_mk1 (shut_bool isbool _), st, rfl, bel.frame _, fun h => by cases h⟩
theorem over : Rows.fnExactWithoutNeedlessRow.holds Try.pinned (OpenSpec.ofChange Rows.fnExactWithoutNeedlessSpec) :=
  OpenClaim.holds_of_wide 7 Try.f7 rfl rfl rfl rfl rfl rfl rfl ⟨rfl, rfl, rfl, rfl, rfl⟩ rfl rfl rfl rfl rfl (by kernel_rfl) Try.func7 (by kernel_rfl)
    (of_decide_eq_true (by kernel_rfl)) (by unfold Func.isWrapper; first | (rw [if_pos (by decide +kernel)]; kernel_rfl) | (rw [if_neg (by decide +kernel)]; exact ⟨rfl, rfl⟩))
    (fun os started H enc _ => lifted os started H enc)
end Go.Proofs.Ytilpnbejpndgpaa.fnExactWithoutNeedless
namespace Go.Proofs.Ytilpnbejpndgpaa
theorem fnExactWithoutNeedless_holds : Rows.FnExactWithoutNeedlessSaid := fnExactWithoutNeedless.over
end Go.Proofs.Ytilpnbejpndgpaa
