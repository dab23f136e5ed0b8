/- Texts of one claim, put together by merge.py: XLMP, XArgs, XA2, XA3, XHMP. -/
import Derived.Test.YtilpnbejpndgpaaRU5
import Derived.Test.YtilpnbejpndgpaaRU6
import Derived.Test.YtilpnbejpndgpaaRU7
import Derived.Test.YtilpnbejpndgpaaRU3
import Derived.Deep.Slices
import Derived.WideKeyArgs
import Derived.ChangeOld
import Derived.ChangeArms
import Derived.OpenShut
import Derived.Test.YtilpnbejpndgpaaRows
import Derived.ProofKit
import Derived.ShutString
import Derived.Below
import Derived.SizedLaws
/- The law on MakeProduct, on the abstract machine (printed by lawg.py). -/
set_option linter.unusedVariables false
set_option linter.unusedSimpArgs false
set_option maxRecDepth 20000
set_option maxHeartbeats 4000000
namespace Go.Proofs.Ytilpnbejpndgpaa.X
open Go Go.RowKit

theorem law_MakeProduct {v0 : Value} {x0 : Sch} {v1 : Value} {x1 : List (List Int)} {v2 : Value} {x2 : List (List Int)} {h : AH} (hv0 : Prods h v0 x0.ps) (hl0 : ((x0.ps).length : Int) ≤ 9223372036854775807) (hv1 : Rows h v1 x1) (hl1 : ((x1).length : Int) ≤ 9223372036854775807) (hm1 : ∀ i, i < x1.length → ((x1.getD i []).length : Int) ≤ 9223372036854775807) (hv2 : Rows h v2 x2) (hl2 : ((x2).length : Int) ≤ 9223372036854775807) (hm2 : ∀ i, i < x2.length → ((x2.getD i []).length : Int) ≤ 9223372036854775807) :
    WF S 11 [schV x0 v0, v1, v2] h (fun v _ => v = .bool true) := by
  refine WF_fn (fn := c11) rfl rfl ?_
  unfold c11
  have ph : h <+: h := List.prefix_refl h
  try simp (maxSteps := 3000000) (disch := first | omega | (simp only [len_new, len_put, len_kill]; omega)) only [↓xpre, xpost, ↓reduceIte, Nat.reduceEqDiff, Nat.reduceAdd, Nat.reduceSub, Nat.reduceLeDiff, Nat.zero_add, Nat.sub_zero, schV, hv0.one]
  generalize hH1 : AH.new h _ = H1
  obtain ⟨ba0, p1, e1⟩ := new_facts hH1
  have l1 := pre_len p1
  have ph := ph.trans p1
  try simp (maxSteps := 3000000) (disch := first | omega | (simp only [len_new, len_put, len_kill]; omega)) only [↓xpre, xpost, ↓reduceIte, Nat.reduceEqDiff, Nat.reduceAdd, Nat.reduceSub, Nat.reduceLeDiff, Nat.zero_add, Nat.sub_zero, rdn_of ba0]
  refine gsz_X (hv0.pre ph) (by omega) hl0 fun m0 H2 p2 hm0' hs0 => ?_
  have l2 := pre_len p2
  have ph := ph.trans p2
  have ba0 := pre_get p2 ba0
  try simp (maxSteps := 3000000) (disch := first | omega | (simp only [len_new, len_put, len_kill]; omega)) only [↓xpre, xpost, ↓reduceIte, Nat.reduceEqDiff, Nat.reduceAdd, Nat.reduceSub, Nat.reduceLeDiff, Nat.zero_add, Nat.sub_zero, IfW_dec]
  refine ⟨fun _ => trivial, fun hz0 => ?_⟩
  have hs0 := hs0 (by omega)
  have hc0 := cntX_le hs0
  try simp (maxSteps := 3000000) (disch := first | omega | (simp only [len_new, len_put, len_kill]; omega)) only [↓xpre, xpost, ↓reduceIte, Nat.reduceEqDiff, Nat.reduceAdd, Nat.reduceSub, Nat.reduceLeDiff, Nat.zero_add, Nat.sub_zero, rdn_of ba0]
  refine gsz_M (hv1.pre ph) (by omega) hl1 hm1 fun m1 H3 p3 hm1' hs1 => ?_
  have l3 := pre_len p3
  have ph := ph.trans p3
  have ba0 := pre_get p3 ba0
  try simp (maxSteps := 3000000) (disch := first | omega | (simp only [len_new, len_put, len_kill]; omega)) only [↓xpre, xpost, ↓reduceIte, Nat.reduceEqDiff, Nat.reduceAdd, Nat.reduceSub, Nat.reduceLeDiff, Nat.zero_add, Nat.sub_zero, IfW_dec]
  refine ⟨fun _ => trivial, fun hz1 => ?_⟩
  have hs1 := hs1 (by omega)
  have hc1 := cntM_le hs1
  try simp (maxSteps := 3000000) (disch := first | omega | (simp only [len_new, len_put, len_kill]; omega)) only [↓xpre, xpost, ↓reduceIte, Nat.reduceEqDiff, Nat.reduceAdd, Nat.reduceSub, Nat.reduceLeDiff, Nat.zero_add, Nat.sub_zero, rdn_of ba0]
  refine gsz_M (hv2.pre ph) (by omega) hl2 hm2 fun m2 H4 p4 hm2' hs2 => ?_
  have l4 := pre_len p4
  have ph := ph.trans p4
  have ba0 := pre_get p4 ba0
  try simp (maxSteps := 3000000) (disch := first | omega | (simp only [len_new, len_put, len_kill]; omega)) only [↓xpre, xpost, ↓reduceIte, Nat.reduceEqDiff, Nat.reduceAdd, Nat.reduceSub, Nat.reduceLeDiff, Nat.zero_add, Nat.sub_zero, IfW_dec]
  refine ⟨fun _ => trivial, fun hz2 => ?_⟩
  have hs2 := hs2 (by omega)
  have hc2 := cntM_le hs2
  try simp (maxSteps := 3000000) (disch := first | omega | (simp only [len_new, len_put, len_kill]; omega)) only [↓xpre, xpost, ↓reduceIte, Nat.reduceEqDiff, Nat.reduceAdd, Nat.reduceSub, Nat.reduceLeDiff, Nat.zero_add, Nat.sub_zero, rdn_of ba0]
  try refine ⟨p4, ?_⟩
  refine gto_X (hv0.pre ph) hs0 fun vc0 H5 p5 oc0 => ?_
  have l5 := pre_len p5
  have ph := ph.trans p5
  have ba0 := pre_get p5 ba0
  try simp (maxSteps := 3000000) (disch := first | omega | (simp only [len_new, len_put, len_kill]; omega)) only [↓xpre, xpost, ↓reduceIte, Nat.reduceEqDiff, Nat.reduceAdd, Nat.reduceSub, Nat.reduceLeDiff, Nat.zero_add, Nat.sub_zero, rdn_of ba0]
  try refine ⟨p5, ?_⟩
  refine gto_M (hv1.pre ph) hs1 fun vc1 H6 p6 oc1 => ?_
  have l6 := pre_len p6
  have ph := ph.trans p6
  have ba0 := pre_get p6 ba0
  have oc0 := oc0.pre p6
  try simp (maxSteps := 3000000) (disch := first | omega | (simp only [len_new, len_put, len_kill]; omega)) only [↓xpre, xpost, ↓reduceIte, Nat.reduceEqDiff, Nat.reduceAdd, Nat.reduceSub, Nat.reduceLeDiff, Nat.zero_add, Nat.sub_zero, rdn_of ba0]
  try refine ⟨p6, ?_⟩
  refine gto_M (hv2.pre ph) hs2 fun vc2 H7 p7 oc2 => ?_
  have l7 := pre_len p7
  have ph := ph.trans p7
  have ba0 := pre_get p7 ba0
  have oc0 := oc0.pre p7
  have oc1 := oc1.pre p7
  try simp (maxSteps := 3000000) (disch := first | omega | (simp only [len_new, len_put, len_kill]; omega)) only [↓xpre, xpost, ↓reduceIte, Nat.reduceEqDiff, Nat.reduceAdd, Nat.reduceSub, Nat.reduceLeDiff, Nat.zero_add, Nat.sub_zero, rdn_of ba0]
  try refine ⟨p7, ?_⟩
  refine s_MakeProduct oc0.rd hs0 oc1.rd hs1 oc2.rd hs2 fun vw H8 p8 ow => ?_
  have l8 := pre_len p8
  have ph := ph.trans p8
  have ba0 := pre_get p8 ba0
  have oc0 := oc0.pre p8
  have oc1 := oc1.pre p8
  have oc2 := oc2.pre p8
  have ow := ow.inM
  try simp (maxSteps := 3000000) (disch := first | omega | (simp only [len_new, len_put, len_kill]; omega)) only [↓xpre, xpost, ↓reduceIte, Nat.reduceEqDiff, Nat.reduceAdd, Nat.reduceSub, Nat.reduceLeDiff, Nat.zero_add, Nat.sub_zero, rdn_of ba0]
  try refine ⟨p8, ?_⟩
  refine gto_X (hv0.pre ph) hs0 fun vx0 H9 p9 ox0 => ?_
  have l9 := pre_len p9
  have ph := ph.trans p9
  have ba0 := pre_get p9 ba0
  have ow := ow.pre p9
  try simp (maxSteps := 3000000) (disch := first | omega | (simp only [len_new, len_put, len_kill]; omega)) only [↓xpre, xpost, ↓reduceIte, Nat.reduceEqDiff, Nat.reduceAdd, Nat.reduceSub, Nat.reduceLeDiff, Nat.zero_add, Nat.sub_zero, schV, ox0.rd.one, rdn_of ba0]
  generalize hH10 : AH.new H9 _ = H10
  obtain ⟨bx0, p10, e10⟩ := new_facts hH10
  have l10 := pre_len p10
  have ph := ph.trans p10
  have ba0 := pre_get p10 ba0
  have ow := ow.pre p10
  have ox0 := ox0.pre p10
  try simp (maxSteps := 3000000) (disch := first | omega | (simp only [len_new, len_put, len_kill]; omega)) only [↓xpre, xpost, ↓reduceIte, Nat.reduceEqDiff, Nat.reduceAdd, Nat.reduceSub, Nat.reduceLeDiff, Nat.zero_add, Nat.sub_zero, rdn_of ba0, rdn_of bx0]
  try refine ⟨p10, ?_⟩
  refine gto_M (hv1.pre ph) hs1 fun vx1 H11 p11 ox1 => ?_
  have l11 := pre_len p11
  have ph := ph.trans p11
  have ba0 := pre_get p11 ba0
  have bx0 := pre_get p11 bx0
  have ow := ow.pre p11
  have ox0 := ox0.pre p11
  try simp (maxSteps := 3000000) (disch := first | omega | (simp only [len_new, len_put, len_kill]; omega)) only [↓xpre, xpost, ↓reduceIte, Nat.reduceEqDiff, Nat.reduceAdd, Nat.reduceSub, Nat.reduceLeDiff, Nat.zero_add, Nat.sub_zero, rdn_of ba0, rdn_of bx0]
  try refine ⟨p11, ?_⟩
  refine gto_M (hv2.pre ph) hs2 fun vx2 H12 p12 ox2 => ?_
  have l12 := pre_len p12
  have ph := ph.trans p12
  have ba0 := pre_get p12 ba0
  have bx0 := pre_get p12 bx0
  have ow := ow.pre p12
  have ox0 := ox0.pre p12
  have ox1 := ox1.pre p12
  try simp (maxSteps := 3000000) (disch := first | omega | (simp only [len_new, len_put, len_kill]; omega)) only [↓xpre, xpost, ↓reduceIte, Nat.reduceEqDiff, Nat.reduceAdd, Nat.reduceSub, Nat.reduceLeDiff, Nat.zero_add, Nat.sub_zero, rdn_of ba0, rdn_of bx0]
  try refine ⟨p12, ?_⟩
  refine i_MakeProduct ox0.rd hs0 ox1.rd hs1 ox2.rd hs2 fun vg H13 p13 og => ?_
  have l13 := pre_len p13
  have ph := ph.trans p13
  have ba0 := pre_get p13 ba0
  have bx0 := pre_get p13 bx0
  have ow := ow.pre p13
  have ox0 := ox0.pre p13
  have ox1 := ox1.pre p13
  have ox2 := ox2.pre p13
  have og := og.inM
  have hR : SmallM (mpR x0 x1 x2).1 := mpR_small x0 x1 x2
  have hcR := cntM_le hR
  try simp (maxSteps := 3000000) (disch := first | omega | (simp only [len_new, len_put, len_kill]; omega)) only [↓xpre, xpost, ↓reduceIte, Nat.reduceEqDiff, Nat.reduceAdd, Nat.reduceSub, Nat.reduceLeDiff, Nat.zero_add, Nat.sub_zero, ne_eq, not_true_eq_false, rdn_of ba0, rdn_of bx0]
  try refine ⟨p13, ?_⟩
  refine geq_M og.rd ow.rd hR fun  H14 p14 => ?_
  have l14 := pre_len p14
  have ph := ph.trans p14
  have ba0 := pre_get p14 ba0
  have bx0 := pre_get p14 bx0
  have ow := ow.pre p14
  have ox0 := ox0.pre p14
  have ox1 := ox1.pre p14
  have ox2 := ox2.pre p14
  have og := og.pre p14
  try simp (maxSteps := 3000000) (disch := first | omega | (simp only [len_new, len_put, len_kill]; omega)) only [↓xpre, xpost, ↓reduceIte, Nat.reduceEqDiff, Nat.reduceAdd, Nat.reduceSub, Nat.reduceLeDiff, Nat.zero_add, Nat.sub_zero, ne_eq, not_true_eq_false, rdn_of ba0, rdn_of bx0]
  try refine ⟨p14, ?_⟩
  try simp (maxSteps := 3000000) (disch := first | omega | (simp only [len_new, len_put, len_kill]; omega)) only [↓xpre, xpost, ↓reduceIte, Nat.reduceEqDiff, Nat.reduceAdd, Nat.reduceSub, Nat.reduceLeDiff, Nat.zero_add, Nat.sub_zero, ne_eq, not_true_eq_false, rdn_of ba0, rdn_of bx0]
  try refine ⟨p14, ?_⟩
  refine gto_X (hv0.pre ph) hs0 fun ve0 H15 p15 oe0 => ?_
  have l15 := pre_len p15
  have ph := ph.trans p15
  have ba0 := pre_get p15 ba0
  have bx0 := pre_get p15 bx0
  have ow := ow.pre p15
  have ox0 := ox0.pre p15
  have ox1 := ox1.pre p15
  have ox2 := ox2.pre p15
  have og := og.pre p15
  try simp (maxSteps := 3000000) (disch := first | omega | (simp only [len_new, len_put, len_kill]; omega)) only [↓xpre, xpost, ↓reduceIte, Nat.reduceEqDiff, Nat.reduceAdd, Nat.reduceSub, Nat.reduceLeDiff, Nat.zero_add, Nat.sub_zero, rdn_of ba0, rdn_of bx0]
  try refine ⟨p15, ?_⟩
  refine geq_X ox0.rd oe0.rd hs0 fun  H16 p16 => ?_
  have l16 := pre_len p16
  have ph := ph.trans p16
  have ba0 := pre_get p16 ba0
  have bx0 := pre_get p16 bx0
  have ow := ow.pre p16
  have ox0 := ox0.pre p16
  have ox1 := ox1.pre p16
  have ox2 := ox2.pre p16
  have og := og.pre p16
  have oe0 := oe0.pre p16
  try simp (maxSteps := 3000000) (disch := first | omega | (simp only [len_new, len_put, len_kill]; omega)) only [↓xpre, xpost, ↓reduceIte, Nat.reduceEqDiff, Nat.reduceAdd, Nat.reduceSub, Nat.reduceLeDiff, Nat.zero_add, Nat.sub_zero, rdn_of ba0, rdn_of bx0]
  try simp (maxSteps := 3000000) (disch := first | omega | (simp only [len_new, len_put, len_kill]; omega)) only [↓xpre, xpost, ↓reduceIte, Nat.reduceEqDiff, Nat.reduceAdd, Nat.reduceSub, Nat.reduceLeDiff, Nat.zero_add, Nat.sub_zero, ne_eq, not_true_eq_false, rdn_of ba0, rdn_of bx0]
  try refine ⟨p16, ?_⟩
  refine gto_M (hv1.pre ph) hs1 fun ve1 H17 p17 oe1 => ?_
  have l17 := pre_len p17
  have ph := ph.trans p17
  have ba0 := pre_get p17 ba0
  have bx0 := pre_get p17 bx0
  have ow := ow.pre p17
  have ox0 := ox0.pre p17
  have ox1 := ox1.pre p17
  have ox2 := ox2.pre p17
  have og := og.pre p17
  try simp (maxSteps := 3000000) (disch := first | omega | (simp only [len_new, len_put, len_kill]; omega)) only [↓xpre, xpost, ↓reduceIte, Nat.reduceEqDiff, Nat.reduceAdd, Nat.reduceSub, Nat.reduceLeDiff, Nat.zero_add, Nat.sub_zero, rdn_of ba0, rdn_of bx0]
  try refine ⟨p17, ?_⟩
  refine geq_M ox1.rd oe1.rd hs1 fun  H18 p18 => ?_
  have l18 := pre_len p18
  have ph := ph.trans p18
  have ba0 := pre_get p18 ba0
  have bx0 := pre_get p18 bx0
  have ow := ow.pre p18
  have ox0 := ox0.pre p18
  have ox1 := ox1.pre p18
  have ox2 := ox2.pre p18
  have og := og.pre p18
  have oe1 := oe1.pre p18
  try simp (maxSteps := 3000000) (disch := first | omega | (simp only [len_new, len_put, len_kill]; omega)) only [↓xpre, xpost, ↓reduceIte, Nat.reduceEqDiff, Nat.reduceAdd, Nat.reduceSub, Nat.reduceLeDiff, Nat.zero_add, Nat.sub_zero, rdn_of ba0, rdn_of bx0]
  try simp (maxSteps := 3000000) (disch := first | omega | (simp only [len_new, len_put, len_kill]; omega)) only [↓xpre, xpost, ↓reduceIte, Nat.reduceEqDiff, Nat.reduceAdd, Nat.reduceSub, Nat.reduceLeDiff, Nat.zero_add, Nat.sub_zero, ne_eq, not_true_eq_false, rdn_of ba0, rdn_of bx0]
  try refine ⟨p18, ?_⟩
  refine gto_M (hv2.pre ph) hs2 fun ve2 H19 p19 oe2 => ?_
  have l19 := pre_len p19
  have ph := ph.trans p19
  have ba0 := pre_get p19 ba0
  have bx0 := pre_get p19 bx0
  have ow := ow.pre p19
  have ox0 := ox0.pre p19
  have ox1 := ox1.pre p19
  have ox2 := ox2.pre p19
  have og := og.pre p19
  try simp (maxSteps := 3000000) (disch := first | omega | (simp only [len_new, len_put, len_kill]; omega)) only [↓xpre, xpost, ↓reduceIte, Nat.reduceEqDiff, Nat.reduceAdd, Nat.reduceSub, Nat.reduceLeDiff, Nat.zero_add, Nat.sub_zero, rdn_of ba0, rdn_of bx0]
  try refine ⟨p19, ?_⟩
  refine geq_M ox2.rd oe2.rd hs2 fun  H20 p20 => ?_
  have l20 := pre_len p20
  have ph := ph.trans p20
  have ba0 := pre_get p20 ba0
  have bx0 := pre_get p20 bx0
  have ow := ow.pre p20
  have ox0 := ox0.pre p20
  have ox1 := ox1.pre p20
  have ox2 := ox2.pre p20
  have og := og.pre p20
  have oe2 := oe2.pre p20
  try simp (maxSteps := 3000000) (disch := first | omega | (simp only [len_new, len_put, len_kill]; omega)) only [↓xpre, xpost, ↓reduceIte, Nat.reduceEqDiff, Nat.reduceAdd, Nat.reduceSub, Nat.reduceLeDiff, Nat.zero_add, Nat.sub_zero, rdn_of ba0, rdn_of bx0]
  try simp (maxSteps := 3000000) (disch := first | omega | (simp only [len_new, len_put, len_kill]; omega)) only [↓xpre, xpost, ↓reduceIte, Nat.reduceEqDiff, Nat.reduceAdd, Nat.reduceSub, Nat.reduceLeDiff, Nat.zero_add, Nat.sub_zero, rdn_of ba0, rdn_of bx0]
  refine gmark_X ox0 hs0 (by omega) fun J21 H21 p21 w21 q21 => ?_
  have l21 := pre_len p21
  have ll21 := w21.len
  have ph := ph.trans p21
  have ba0 := pre_get p21 ba0
  have bx0 := pre_get p21 bx0
  have ow := ow.pre p21
  have ox1 := ox1.pre p21
  have ox2 := ox2.pre p21
  have og := og.pre p21
  have ph := w21.pre ph (by omega)
  have ba0 := w21.get' ba0 (by omega)
  have bx0 := w21.get' bx0 (by omega)
  have ow := ow.only w21 (by omega)
  have ox1 := ox1.only w21 (by omega)
  have ox2 := ox2.only w21 (by omega)
  have og := og.only w21 (by omega)
  have ox0 := q21
  try simp (maxSteps := 3000000) (disch := first | omega | (simp only [len_new, len_put, len_kill]; omega)) only [↓xpre, xpost, ↓reduceIte, Nat.reduceEqDiff, Nat.reduceAdd, Nat.reduceSub, Nat.reduceLeDiff, Nat.zero_add, Nat.sub_zero, rdn_of ba0, rdn_of bx0]
  refine gmark_M ox1 hs1 (by omega) fun J22 H22 p22 w22 q22 => ?_
  have l22 := pre_len p22
  have ll22 := w22.len
  have ph := ph.trans p22
  have ba0 := pre_get p22 ba0
  have bx0 := pre_get p22 bx0
  have ow := ow.pre p22
  have ox2 := ox2.pre p22
  have og := og.pre p22
  have ph := w22.pre ph (by omega)
  have ba0 := w22.get' ba0 (by omega)
  have bx0 := w22.get' bx0 (by omega)
  have ow := ow.only w22 (by omega)
  have ox2 := ox2.only w22 (by omega)
  have og := og.only w22 (by omega)
  have ox1 := q22
  try simp (maxSteps := 3000000) (disch := first | omega | (simp only [len_new, len_put, len_kill]; omega)) only [↓xpre, xpost, ↓reduceIte, Nat.reduceEqDiff, Nat.reduceAdd, Nat.reduceSub, Nat.reduceLeDiff, Nat.zero_add, Nat.sub_zero, rdn_of ba0, rdn_of bx0]
  refine gmark_M ox2 hs2 (by omega) fun J23 H23 p23 w23 q23 => ?_
  have l23 := pre_len p23
  have ll23 := w23.len
  have ph := ph.trans p23
  have ba0 := pre_get p23 ba0
  have bx0 := pre_get p23 bx0
  have ow := ow.pre p23
  have og := og.pre p23
  have ph := w23.pre ph (by omega)
  have ba0 := w23.get' ba0 (by omega)
  have bx0 := w23.get' bx0 (by omega)
  have ow := ow.only w23 (by omega)
  have og := og.only w23 (by omega)
  have ox2 := q23
  try simp (maxSteps := 3000000) (disch := first | omega | (simp only [len_new, len_put, len_kill]; omega)) only [↓xpre, xpost, ↓reduceIte, Nat.reduceEqDiff, Nat.reduceAdd, Nat.reduceSub, Nat.reduceLeDiff, Nat.zero_add, Nat.sub_zero, rdn_of ba0, rdn_of bx0, IfW_dec]
  rw [decide_eq_false (by omega)]
  try simp (maxSteps := 3000000) (disch := first | omega | (simp only [len_new, len_put, len_kill]; omega)) only [↓xpre, xpost, ↓reduceIte, Nat.reduceEqDiff, Nat.reduceAdd, Nat.reduceSub, Nat.reduceLeDiff, Nat.zero_add, Nat.sub_zero, ne_eq, not_true_eq_false, rdn_of ba0, rdn_of bx0]
  try refine ⟨p23, ?_⟩
  refine geq_M og.rd ow.rd hR fun  H24 p24 => ?_
  have l24 := pre_len p24
  have ph := ph.trans p24
  have ba0 := pre_get p24 ba0
  have bx0 := pre_get p24 bx0
  have ow := ow.pre p24
  have og := og.pre p24
  try simp (maxSteps := 3000000) (disch := first | omega | (simp only [len_new, len_put, len_kill]; omega)) only [↓xpre, xpost, ↓reduceIte, Nat.reduceEqDiff, Nat.reduceAdd, Nat.reduceSub, Nat.reduceLeDiff, Nat.zero_add, Nat.sub_zero, ne_eq, not_true_eq_false, rdn_of ba0, rdn_of bx0]
  try refine ⟨p24, ?_⟩
  try simp (maxSteps := 3000000) (disch := first | omega | (simp only [len_new, len_put, len_kill]; omega)) only [↓xpre, xpost, ↓reduceIte, Nat.reduceEqDiff, Nat.reduceAdd, Nat.reduceSub, Nat.reduceLeDiff, Nat.zero_add, Nat.sub_zero, ne_eq, not_true_eq_false, rdn_of ba0, rdn_of bx0]
  refine gmark_M og hR (by omega) fun J25 H25 p25 w25 q25 => ?_
  have l25 := pre_len p25
  have ll25 := w25.len
  have ph := ph.trans p25
  have ba0 := pre_get p25 ba0
  have bx0 := pre_get p25 bx0
  have ow := ow.pre p25
  have ph := w25.pre ph (by omega)
  have ba0 := w25.get' ba0 (by omega)
  have bx0 := w25.get' bx0 (by omega)
  have ow := ow.only w25 (by omega)
  have og := q25
  try simp (maxSteps := 3000000) (disch := first | omega | (simp only [len_new, len_put, len_kill]; omega)) only [↓xpre, xpost, ↓reduceIte, Nat.reduceEqDiff, Nat.reduceAdd, Nat.reduceSub, Nat.reduceLeDiff, Nat.zero_add, Nat.sub_zero, ne_eq, not_true_eq_false, rdn_of ba0, rdn_of bx0]
  refine gheld_M og.rd hR (by omega) fun  H26 p26 => ?_
  have l26 := pre_len p26
  have ph := ph.trans p26
  have ba0 := pre_get p26 ba0
  have bx0 := pre_get p26 bx0
  have ow := ow.pre p26
  have og := og.pre p26
  try simp (maxSteps := 3000000) (disch := first | omega | (simp only [len_new, len_put, len_kill]; omega)) only [↓xpre, xpost, ↓reduceIte, Nat.reduceEqDiff, Nat.reduceAdd, Nat.reduceSub, Nat.reduceLeDiff, Nat.zero_add, Nat.sub_zero, IfW_dec, ne_eq, not_true_eq_false, rdn_of ba0, rdn_of bx0]
  refine ⟨fun hlt => by omega, fun _ => ?_⟩
  try simp (maxSteps := 3000000) (disch := first | omega | (simp only [len_new, len_put, len_kill]; omega)) only [↓xpre, xpost, ↓reduceIte, Nat.reduceEqDiff, Nat.reduceAdd, Nat.reduceSub, Nat.reduceLeDiff, Nat.zero_add, Nat.sub_zero, rdn_of ba0, rdn_of bx0]
  try refine ⟨p26, ?_⟩
  refine gto_X (hv0.pre ph) hs0 fun vd0 H27 p27 od0 => ?_
  have l27 := pre_len p27
  have ph := ph.trans p27
  have ba0 := pre_get p27 ba0
  have bx0 := pre_get p27 bx0
  have ow := ow.pre p27
  have og := og.pre p27
  try simp (maxSteps := 3000000) (disch := first | omega | (simp only [len_new, len_put, len_kill]; omega)) only [↓xpre, xpost, ↓reduceIte, Nat.reduceEqDiff, Nat.reduceAdd, Nat.reduceSub, Nat.reduceLeDiff, Nat.zero_add, Nat.sub_zero, rdn_of ba0, rdn_of bx0]
  try refine ⟨p27, ?_⟩
  refine gto_M (hv1.pre ph) hs1 fun vd1 H28 p28 od1 => ?_
  have l28 := pre_len p28
  have ph := ph.trans p28
  have ba0 := pre_get p28 ba0
  have bx0 := pre_get p28 bx0
  have ow := ow.pre p28
  have od0 := od0.pre p28
  have og := og.pre p28
  try simp (maxSteps := 3000000) (disch := first | omega | (simp only [len_new, len_put, len_kill]; omega)) only [↓xpre, xpost, ↓reduceIte, Nat.reduceEqDiff, Nat.reduceAdd, Nat.reduceSub, Nat.reduceLeDiff, Nat.zero_add, Nat.sub_zero, rdn_of ba0, rdn_of bx0]
  try refine ⟨p28, ?_⟩
  refine gto_M (hv2.pre ph) hs2 fun vd2 H29 p29 od2 => ?_
  have l29 := pre_len p29
  have ph := ph.trans p29
  have ba0 := pre_get p29 ba0
  have bx0 := pre_get p29 bx0
  have ow := ow.pre p29
  have od0 := od0.pre p29
  have od1 := od1.pre p29
  have og := og.pre p29
  try simp (maxSteps := 3000000) (disch := first | omega | (simp only [len_new, len_put, len_kill]; omega)) only [↓xpre, xpost, ↓reduceIte, Nat.reduceEqDiff, Nat.reduceAdd, Nat.reduceSub, Nat.reduceLeDiff, Nat.zero_add, Nat.sub_zero, rdn_of ba0, rdn_of bx0]
  try refine ⟨p29, ?_⟩
  refine i_MakeProduct od0.rd hs0 od1.rd hs1 od2.rd hs2 fun vh H30 p30 oh => ?_
  have l30 := pre_len p30
  have ph := ph.trans p30
  have ba0 := pre_get p30 ba0
  have bx0 := pre_get p30 bx0
  have ow := ow.pre p30
  have od0 := od0.pre p30
  have od1 := od1.pre p30
  have od2 := od2.pre p30
  have og := og.pre p30
  have oh := oh.inM
  try simp (maxSteps := 3000000) (disch := first | omega | (simp only [len_new, len_put, len_kill]; omega)) only [↓xpre, xpost, ↓reduceIte, Nat.reduceEqDiff, Nat.reduceAdd, Nat.reduceSub, Nat.reduceLeDiff, Nat.zero_add, Nat.sub_zero, ne_eq, not_true_eq_false, rdn_of ba0, rdn_of bx0]
  try refine ⟨p30, ?_⟩
  refine geq_M oh.rd ow.rd hR fun  H31 p31 => ?_
  have l31 := pre_len p31
  have ph := ph.trans p31
  have ba0 := pre_get p31 ba0
  have bx0 := pre_get p31 bx0
  have ow := ow.pre p31
  have oh := oh.pre p31
  have og := og.pre p31
  try simp (maxSteps := 3000000) (disch := first | omega | (simp only [len_new, len_put, len_kill]; omega)) only [↓xpre, xpost, ↓reduceIte, Nat.reduceEqDiff, Nat.reduceAdd, Nat.reduceSub, Nat.reduceLeDiff, Nat.zero_add, Nat.sub_zero, ne_eq, not_true_eq_false, rdn_of ba0, rdn_of bx0]
  try refine ⟨p31, ?_⟩
  try simp (maxSteps := 3000000) (disch := first | omega | (simp only [len_new, len_put, len_kill]; omega)) only [↓xpre, xpost, ↓reduceIte, Nat.reduceEqDiff, Nat.reduceAdd, Nat.reduceSub, Nat.reduceLeDiff, Nat.zero_add, Nat.sub_zero, ne_eq, not_true_eq_false, rdn_of ba0, rdn_of bx0]
  refine gheld_M og.rd hR (by omega) fun H32 p32 => ?_
  try simp (maxSteps := 3000000) (disch := first | omega | (simp only [len_new, len_put, len_kill]; omega)) only [↓xpre, xpost, ↓reduceIte, Nat.reduceEqDiff, Nat.reduceAdd, Nat.reduceSub, Nat.reduceLeDiff, Nat.zero_add, Nat.sub_zero, IfW_dec, ne_eq, not_true_eq_false, rdn_of ba0, rdn_of bx0]
  refine ⟨fun hlt => by omega, fun _ => ?_⟩
  trivial

end Go.Proofs.Ytilpnbejpndgpaa.X

/- From the readings of a row's arguments to the abstract machine's first heap, and back to the row. -/
set_option linter.unusedVariables false
set_option linter.unusedSimpArgs false
namespace Go.Proofs.Ytilpnbejpndgpaa.X
open Go Go.RowKit Go.ChangeShapes Go.WideShapes Go.Deep

/-- A heap of blocks that are read only, each in the world's memory. -/
structure Adm (P : Program) (W : World) (γ : List G) (h : AH) : Prop where
  rel : Rel P W.heap.size γ h W
  ro : ∀ n b, h.get n = some b → b.ro = true

theorem Adm.nil (P : Program) (W : World) : Adm P W [] [] where
  rel := {
    len := rfl
    cell := fun n b g h => by simp [AH.get] at h
    rw := fun n b g h => by simp [AH.get] at h
    ro := fun n b g h => by simp [AH.get] at h
    inj := fun n m bn bm g g' h => by simp [AH.get] at h
    base := Nat.le_refl _ }
  ro := fun n b h => by simp [AH.get] at h

theorem Adm.new {P : Program} {W : World} {γ : List G} {h : AH} (A : Adm P W γ h) {g : G} {cs : List Value} {e : TypeId} (hb : g.b < W.heap.size)
    (hc : ∀ j v, cs[j]? = some v → isOne v = true ∧ ∃ v', W.cell? ⟨g.b, g.o + j, none⟩ = some v' ∧ VR γ v v') : Adm P W (γ ++ [g]) (h.new ⟨cs, e, true, false⟩) := by
  have hl := A.rel.len
  have hp : γ <+: γ ++ [g] := List.prefix_append _ _
  have old : ∀ {n : Nat} {g' : G}, n < h.length → (γ ++ [g])[n]? = some g' → γ[n]? = some g' := fun hn hg => by
    rw [List.getElem?_append_left (by omega)] at hg
    exact hg
  have new : ∀ {g' : G}, (γ ++ [g])[h.length]? = some g' → g' = g := fun hg => by
    rw [← hl] at hg
    simpa using hg.symm
  refine ⟨⟨by simp [len_new, hl], ?_, ?_, ?_, ?_, Nat.le_refl _⟩, ?_⟩
  · intro n b g' hb' hg' j v hv
    rcases get_new_cases hb' with hb' | ⟨rfl, rfl⟩
    · obtain ⟨q1, v', q2, q3⟩ := A.rel.cell n b g' hb' (old (get_lt hb') hg') j v hv
      exact ⟨q1, v', q2, q3.mono hp⟩
    · obtain rfl := new hg'
      obtain ⟨q1, v', q2, q3⟩ := hc j v hv
      exact ⟨q1, v', q2, q3.mono hp⟩
  · intro n b g' hb' hg' hro
    rcases get_new_cases hb' with hb' | ⟨rfl, rfl⟩
    · rw [A.ro n b hb'] at hro
      cases hro
    · cases hro
  · intro n b g' hb' hg' hro
    rcases get_new_cases hb' with hb' | ⟨rfl, rfl⟩
    · exact A.rel.ro n b g' hb' (old (get_lt hb') hg') hro
    · obtain rfl := new hg'
      exact hb
  · intro n m bn bm g1 g2 h1 h2 h3 h4 hro
    rcases get_new_cases h1 with hb' | ⟨rfl, rfl⟩
    · rw [A.ro n bn hb'] at hro
      cases hro
    · cases hro
  · intro n b hb'
    rcases get_new_cases hb' with hb' | ⟨rfl, rfl⟩
    · exact A.ro n b hb'
    · rfl

section
variable {H : Type} {enc : TypeId × Value → H} {P : Program} {W : World}

theorem add_off (a : Addr) (ha : a.spot = none) (i : Nat) : a.add i = ⟨a.block, a.off + i, none⟩ := by
  unfold Addr.add
  split
  · rename_i h0
    subst h0
    obtain ⟨b, o, s⟩ := a
    simp at ha
    subst ha
    rfl
  · rfl

theorem adm_ints {γ : List G} {h : AH} (A : Adm P W γ h) {t e : TypeId} {n : Nat} {cs : List Value} {x : DataW H × List MemPlace} (ht : P.underlying t = some (.slice e)) (he : P.underlying e = some (.int .i64))
    (hc : P.cellsOf e = 1) (hx : DataW.trod enc P W 0 (fun _ => true) true n t cs = some x) :
    ∃ v' v ns γ' h', cs = [v'] ∧ γ <+: γ' ∧ h <+: h' ∧ Adm P W γ' h' ∧ VR γ' v v' ∧ Ints h' v ns ∧ ns.length ≤ maxLen := by
  rcases open_slice1 ht hc hx with ⟨rfl, _⟩ | ⟨a, len, cap, m, n', V, D, Pl, rfl, hb, hl, hm, hmm, _, hcell⟩
  · exact ⟨_, .slice none 0 0, [], γ, h, rfl, List.prefix_refl _, List.prefix_refl _, A, .nils, .inl ⟨rfl, 0, by omega, rfl⟩, Nat.zero_le _⟩
  · by_cases h0 : len = 0
    · subst h0
      exact ⟨_, .slice none 0 1, [], γ, h, rfl, List.prefix_refl _, List.prefix_refl _, A, .emp _ _, .inl ⟨rfl, 1, by omega, rfl⟩, Nat.zero_le _⟩
    · have hcell : ∀ i, i < cap → W.cell? (a.add i) = some (V i) ∧ DataW.trod enc P W 0 (fun _ => true) true n' e [V i] = some (D i, Pl i) := fun i hi => hcell i (by rw [show m = cap from hmm]; exact hi)
      have hz := (hcell 0 (by omega)).1
      have hsp : a.spot = none := by
        simp only [Addr.add, if_true] at hz
        unfold World.cell? at hz
        split at hz
        · split at hz
          · cases hz
          · rename_i hs
            simpa using hs
        · cases hz
      have hbl : a.block < W.heap.size := by
        have := World.block_lt_of_cell? W _ hz
        simpa [Addr.add] using this
      have hV : ∀ i, i < len → ∃ k, V i = .int .i64 k := fun i hi => by
        obtain ⟨k, hk, _⟩ := DataW.trod_int he (hcell i (by omega)).2
        exact ⟨k, by simpa using hk⟩
      let ns : List Int := (List.range len).map fun i => match V i with
        | .int _ k => k
        | _ => 0
      have hns : ns.length = len := by simp [ns]
      have hget : ∀ i, i < len → ns.getD i 0 = (match V i with
        | .int _ k => k
        | _ => 0) := fun i hi => by simp [ns, List.getD_eq_getElem?_getD, List.getElem?_map, List.getElem?_range hi]
      refine ⟨_, .slice (some ⟨h.length, 0, none⟩) ns.length 1, ns, γ ++ [⟨a.block, a.off, cap⟩], h.new ⟨ns.map (Value.int .i64), e, true, false⟩, rfl, List.prefix_append _ _, pre_new (List.prefix_refl _), ?_, ?_,
        Ints.own get_new_same rfl, by rw [hns]; omega⟩
      · refine A.new hbl fun j v hv => ?_
        rw [List.getElem?_map] at hv
        obtain ⟨k, hk, rfl⟩ := Option.map_eq_some_iff.1 hv
        have hj : j < len := by rw [← hns]; exact (List.getElem?_eq_some_iff.1 hk).1
        obtain ⟨k', hk'⟩ := hV j hj
        have hg := hget j hj
        rw [List.getD_eq_getElem?_getD, hk, hk'] at hg
        simp only [Option.getD_some] at hg
        subst hg
        refine ⟨rfl, _, ?_, .int _ _⟩
        have := (hcell j (by omega)).1
        rw [add_off a hsp, hk'] at this
        exact this
      · have := VR.slc (γ := γ ++ [⟨a.block, a.off, cap⟩]) h.length 0 ns.length 1 ⟨a.block, a.off, cap⟩ (by rw [← A.rel.len]; simp) (by omega) (by simp only; omega)
        have e1 : (some a : Option Addr) = some ⟨a.block, a.off + 0, none⟩ := by
          obtain ⟨b, o, s⟩ := a
          simp at hsp
          subst hsp
          rfl
        rw [e1]
        have e2 : (cap - 0) / 1 = cap := by simp
        rw [← hns, show (Value.slice (some ⟨a.block, a.off + 0, none⟩) ns.length cap) = Value.slice (some ⟨a.block, a.off + 0, none⟩) ns.length ((cap - 0) / 1) by rw [e2]]
        exact this

theorem trod_field {t : TypeId} {fs : Array Field} {n : Nat} {cs : List Value} {x : DataW H × List MemPlace} (hs : P.underlying t = some (.struct fs)) (hx : DataW.trod enc P W 0 (fun _ => true) true n t cs = some x)
    {i : Nat} {f : Field} (hf : fs[i]? = some f) : ∃ m y, DataW.trod enc P W 0 (fun _ => true) true m f.type ((cs.drop f.offset).take (P.cellsOf f.type)) = some y := by
  obtain ⟨xs, m, _, _, _, hl, hall⟩ := DataW.trod_struct hs hx
  have hi : i < xs.length := by
    rw [hl]
    exact (Array.getElem?_eq_some_iff.1 hf).1
  exact ⟨m, xs[i], by rw [hall i f hf, List.getElem?_eq_getElem hi]⟩
theorem trod_cells {t : TypeId} {fs : Array Field} {n : Nat} {cs : List Value} {x : DataW H × List MemPlace} (hs : P.underlying t = some (.struct fs)) (hx : DataW.trod enc P W 0 (fun _ => true) true n t cs = some x) : cs.length = P.cellsOf t := by
  obtain ⟨xs, m, _, _, hl, _, _⟩ := DataW.trod_struct hs hx
  exact hl
theorem trod_field_int {t : TypeId} {fs : Array Field} {n : Nat} {cs : List Value} {x : DataW H × List MemPlace} (hs : P.underlying t = some (.struct fs)) (hx : DataW.trod enc P W 0 (fun _ => true) true n t cs = some x)
    {i : Nat} {f : Field} (hf : fs[i]? = some f) (ht : P.underlying f.type = some (.int .i64)) : ∃ k, (cs.drop f.offset).take (P.cellsOf f.type) = [I64 k] ∧ (Lit.int .i64 k).wf = true := by
  obtain ⟨m, y, hy⟩ := trod_field hs hx hf
  obtain ⟨k, h1, _, h2⟩ := DataW.trod_int ht hy
  exact ⟨k, h1, h2⟩
theorem agg_of_cells {v : Value} {l : List Value} (h : v.cells.toList = l) (h2 : 2 ≤ l.length) : v = .agg l.toArray := by
  cases v with
  | agg cs =>
    simp only [Value.cells] at h
    rw [← h]
  | _ =>
    simp only [Value.cells] at h
    rw [← h] at h2
    simp at h2

/-- Four whole numbers and a list of them, side by side. -/
theorem adm_ints4 {γ : List G} {h : AH} (A : Adm P W γ h) {t e : TypeId} {f0 f1 f2 f3 f4 : Field} {v : Value} {d : DataW H} {ps : List MemPlace} (hs : P.underlying t = some (.struct #[f0, f1, f2, f3, f4]))
    (hct : P.cellsOf t = 5) (ho : f0.offset = 0 ∧ f1.offset = 1 ∧ f2.offset = 2 ∧ f3.offset = 3 ∧ f4.offset = 4)
    (hi : P.underlying f0.type = some (.int .i64) ∧ P.underlying f1.type = some (.int .i64) ∧ P.underlying f2.type = some (.int .i64) ∧ P.underlying f3.type = some (.int .i64))
    (hc : P.cellsOf f0.type = 1 ∧ P.cellsOf f1.type = 1 ∧ P.cellsOf f2.type = 1 ∧ P.cellsOf f3.type = 1 ∧ P.cellsOf f4.type = 1)
    (ht : P.underlying f4.type = some (.slice e)) (he : P.underlying e = some (.int .i64)) (hce : P.cellsOf e = 1) (hx : DataW.Trod enc P W 0 (fun _ => true) true t v d ps) :
    ∃ a b c d ns v' γ' h', γ <+: γ' ∧ h <+: h' ∧ Adm P W γ' h' ∧ VR γ' (.agg #[I64 a, I64 b, I64 c, I64 d, v']) v ∧ Ints h' v' ns ∧ ns.length ≤ maxLen := by
  obtain ⟨n, hx⟩ := hx
  have hl := trod_cells hs hx
  rw [hct] at hl
  obtain ⟨a, ha, _⟩ := trod_field_int hs hx (i := 0) (f := f0) rfl hi.1
  obtain ⟨b, hb, _⟩ := trod_field_int hs hx (i := 1) (f := f1) rfl hi.2.1
  obtain ⟨c, hcc, _⟩ := trod_field_int hs hx (i := 2) (f := f2) rfl hi.2.2.1
  obtain ⟨d, hd, _⟩ := trod_field_int hs hx (i := 3) (f := f3) rfl hi.2.2.2
  obtain ⟨m, y, hy⟩ := trod_field hs hx (i := 4) (f := f4) rfl
  obtain ⟨v', u, ns, γ', h', e1, q1, q2, q3, q4, q5, q6⟩ := adm_ints A ht he hce hy
  generalize hcs : v.cells.toList = cs at *
  rw [ho.1, hc.1] at ha
  rw [ho.2.1, hc.2.1] at hb
  rw [ho.2.2.1, hc.2.2.1] at hcc
  rw [ho.2.2.2.1, hc.2.2.2.1] at hd
  rw [ho.2.2.2.2, hc.2.2.2.2] at e1
  obtain ⟨c0, c1, c2, c3, c4, rfl⟩ : ∃ c0 c1 c2 c3 c4, cs = [c0, c1, c2, c3, c4] := by
    match cs, hl with
    | [c0, c1, c2, c3, c4], _ => exact ⟨_, _, _, _, _, rfl⟩
  simp at ha hb hcc hd e1
  subst ha hb hcc hd e1
  refine ⟨a, b, c, d, ns, u, γ', h', q1, q2, q3, ?_, q5, q6⟩
  rw [agg_of_cells hcs (by simp)]
  exact VR.aggL (VRL.cons (.int _ _) (VRL.cons (.int _ _) (VRL.cons (.int _ _) (VRL.cons (.int _ _) (VRL.cons q4 (VRL.nil _))))))

def tyInt (P : Program) (t : TypeId) : Bool := match P.underlying t with
  | some (.int .i64) => true
  | _ => false
def tySlice (P : Program) (t e : TypeId) : Bool := match P.underlying t with
  | some (.slice e') => e' == e
  | _ => false
theorem tyInt_eq {t : TypeId} (h : tyInt P t = true) : P.underlying t = some (.int .i64) := by
  unfold tyInt at h
  split at h
  · assumption
  · cases h
theorem tySlice_eq {t e : TypeId} (h : tySlice P t e = true) : P.underlying t = some (.slice e) := by
  unfold tySlice at h
  split at h
  · rename_i e' he
    have : e' = e := by simpa using h
    rw [he, this]
  · cases h
/-- .. the shape looked up by the kernel. -/
def isInts4 (P : Program) (t e : TypeId) : Bool := match P.underlying t with
  | some (.struct fs) => match fs.toList with
    | [f0, f1, f2, f3, f4] => P.cellsOf t == 5 && f0.offset == 0 && f1.offset == 1 && f2.offset == 2 && f3.offset == 3 && f4.offset == 4 &&
        [f0, f1, f2, f3].all (fun f => tyInt P f.type && P.cellsOf f.type == 1) && P.cellsOf f4.type == 1 && tySlice P f4.type e &&
        tyInt P e && P.cellsOf e == 1
    | _ => false
  | _ => false
theorem adm_tensor {γ : List G} {h : AH} (A : Adm P W γ h) {t : TypeId} (e : TypeId) (hk : isInts4 P t e = true) {v : Value} {d : DataW H} {ps : List MemPlace} (hx : DataW.Trod enc P W 0 (fun _ => true) true t v d ps) :
    ∃ a b c d ns v' γ' h', γ <+: γ' ∧ h <+: h' ∧ Adm P W γ' h' ∧ VR γ' (.agg #[I64 a, I64 b, I64 c, I64 d, v']) v ∧ Ints h' v' ns ∧ ns.length ≤ maxLen := by
  unfold isInts4 at hk
  split at hk
  · rename_i fs hs
    split at hk
    · rename_i f0 f1 f2 f3 f4 hf
      have hfs : fs = #[f0, f1, f2, f3, f4] := by
        rw [← hf]
      subst hfs
      simp only [List.all_cons, List.all_nil, Bool.and_true, Bool.and_eq_true, beq_iff_eq] at hk
      obtain ⟨⟨⟨⟨⟨⟨⟨⟨⟨⟨k0, k1⟩, k2⟩, k3⟩, k4⟩, k5⟩, ⟨i0, c0⟩, ⟨i1, c1⟩, ⟨i2, c2⟩, ⟨i3, c3⟩⟩, c4⟩, s4⟩, ie⟩, ce⟩ := hk
      exact adm_ints4 A hs k0 ⟨k1, k2, k3, k4, k5⟩ ⟨tyInt_eq i0, tyInt_eq i1, tyInt_eq i2, tyInt_eq i3⟩ ⟨c0, c1, c2, c3, c4⟩ (tySlice_eq s4) (tyInt_eq ie) ce hx
    · cases hk
  · cases hk

/-- Arguments read again in a world that kept what lay below. -/
theorem stays_all (hl : laidOutB P = true) {W W' : World} (bel : Below W.heap.size W W') : ∀ {ts : List TypeId} {vs : List Value} {ds : List (DataW H)} {ps : List MemPlace},
    (∀ t ∈ ts, P.readableRec t = true ∧ t < P.types.size) → DataW.TrodAll enc P W 0 (fun _ => true) true ts vs ds ps → DataW.TrodAll enc P W' 0 (fun b => decide (b < W.heap.size)) true ts vs ds ps
  | [], [], [], _, _, h => h
  | _ :: _, _ :: _, _ :: _, _, ht, ⟨p, q, h1, h2, e⟩ => by
    have hlt : ∀ r ∈ p, r.block < W.heap.size := by
      have hall : DataW.TrodAll enc P W 0 (fun _ => true) true [_] [_] [_] p := trodAll_mk1 h1
      exact hall.lt
    refine ⟨p, q, Go.WideElems.Trod_stays hl (ht _ (List.mem_cons.2 (.inl rfl))).1 (ht _ (List.mem_cons.2 (.inl rfl))).2 h1 (fun r hr => bel.same (hlt r hr)) (fun r hr => by simpa using hlt r hr), ?_, e⟩
    exact stays_all hl bel (fun t ht' => ht t (List.mem_cons.2 (.inr ht'))) h2

/-- What the abstract machine reaches, the program reaches. -/
theorem calls_of_WF {S : XS} (hm : P.follows .mixedOrders = true) (hE : ESound P S.E) (hT : TSound P S.T) {g : FuncId} {args args' : List Value} {γ : List G} {h : AH} {W : World} {Q : Value → AH → Prop}
    (A : Adm P W γ h) (hv : VRL γ args args') (hw : WF S g args h Q) :
    Calls P g args'.toArray W (fun e W' => ∃ v v' γ' h', e = .returned v' ∧ VR γ' v v' ∧ Q v h' ∧ Below W.heap.size W W') := by
  obtain ⟨k, v, h', h1, h2⟩ := hw
  have := (xcall_sound hm hE hT k g args h v h' h1).2 W.heap.size γ W args' A.rel hv
  refine this.mono fun e W' ⟨γ', v', q1, q2, q3⟩ => ⟨v, v', γ', h', q1, q2, h2, ?_⟩
  refine ⟨q3.os, q3.tape, q3.output, q3.size, fun b hb => q3.frame b hb fun ⟨n, blk, g, o1, o2, o3, o4⟩ => ?_⟩
  rw [A.ro n blk o1] at o3
  cases o3
end
end Go.Proofs.Ytilpnbejpndgpaa.X

/- From the readings of lists, and of lists of lists, to the first heap. -/
set_option linter.unusedVariables false
set_option linter.unusedSimpArgs false
namespace Go.Proofs.Ytilpnbejpndgpaa.X
open Go Go.RowKit Go.ChangeShapes Go.WideShapes Go.Deep

section
variable {H : Type} {enc : TypeId × Value → H} {P : Program} {W : World}

theorem cells_of_slice {t e : TypeId} {v : Value} {r : Reach} {base : Nat} (ht : P.underlying t = some (.slice e)) (hval : Value.okWide P W r base t v) : v.cells.toList = [v] := by
  cases v with
  | agg cs => simp [Value.okWide, ht, Cell.okWide, Cell.ok] at hval
  | _ => rfl

def isIntS (P : Program) (t e : TypeId) : Bool := tySlice P t e && tyInt P e && P.cellsOf e == 1
def isIntSS (P : Program) (t s e : TypeId) : Bool := tySlice P t s && P.cellsOf s == 1 && isIntS P s e

theorem getD_snoc {α : Type} {l : List α} {x d : α} {j : Nat} : (l ++ [x]).getD j d = if j < l.length then l.getD j d else if j = l.length then x else d := by
  rw [List.getD_eq_getElem?_getD, List.getD_eq_getElem?_getD]
  by_cases h : j < l.length
  · rw [List.getElem?_append_left h, if_pos h]
  · rw [List.getElem?_append_right (by omega), if_neg h]
    split
    · rename_i e
      simp [e]
    · rw [List.getElem?_eq_none (by simp; omega)]
      rfl

theorem adm_many {γ : List G} {h : AH} (A : Adm P W γ h) {e e' : TypeId} (he : isIntS P e e' = true) {V : Nat → Value} {len n : Nat} (hr : ∀ i, i < len → ∃ x : DataW H × List MemPlace, DataW.trod enc P W 0 (fun _ => true) true n e [V i] = some x) :
    ∀ k, k ≤ len → ∃ (γ' : List G) (h' : AH) (cs : List Value) (rows : List (List Int)), γ <+: γ' ∧ h <+: h' ∧ Adm P W γ' h' ∧ cs.length = k ∧ rows.length = k ∧
      ∀ j, j < k → VR γ' (cs.getD j undef) (V j) ∧ Ints h' (cs.getD j undef) (rows.getD j []) ∧ (rows.getD j []).length ≤ maxLen
  | 0, _ => ⟨γ, h, [], [], List.prefix_refl _, List.prefix_refl _, A, rfl, rfl, fun j hj => by omega⟩
  | k + 1, hk => by
    obtain ⟨γ1, h1, cs, rows, q1, q2, q3, q4, q5, q6⟩ := adm_many A he hr k (by omega)
    have he' := he
    simp only [isIntS, Bool.and_eq_true, beq_iff_eq] at he'
    obtain ⟨⟨k1, k2⟩, k3⟩ := he'
    obtain ⟨x, hx⟩ := hr k (by omega)
    obtain ⟨v', u, ns, γ2, h2, e1, r1, r2, r3, r4, r5, r6⟩ := adm_ints q3 (tySlice_eq k1) (tyInt_eq k2) k3 hx
    have e1 : V k = v' := by simpa using e1
    subst e1
    refine ⟨γ2, h2, cs ++ [u], rows ++ [ns], q1.trans r1, q2.trans r2, r3, by simp [q4], by simp [q5], fun j hj => ?_⟩
    rw [getD_snoc, getD_snoc, q4, q5]
    by_cases hjk : j < k
    · rw [if_pos hjk, if_pos hjk]
      obtain ⟨a1, a2, a3⟩ := q6 j hjk
      exact ⟨a1.mono r1, a2.pre r2, a3⟩
    · have : j = k := by omega
      subst this
      rw [if_neg hjk, if_neg hjk, if_pos rfl, if_pos rfl]
      exact ⟨r4, r5, r6⟩

theorem adm_rows {γ : List G} {h : AH} (A : Adm P W γ h) {t : TypeId} (s e : TypeId) (hk : isIntSS P t s e = true) {v : Value} {d : DataW H} {ps : List MemPlace} {r : Reach} {base : Nat} (hval : Value.okWide P W r base t v)
    (hx : DataW.Trod enc P W 0 (fun _ => true) true t v d ps) :
    ∃ (rows : List (List Int)) (u : Value) (γ' : List G) (h' : AH), γ <+: γ' ∧ h <+: h' ∧ Adm P W γ' h' ∧ VR γ' u v ∧ Rows h' u rows ∧ rows.length ≤ maxLen ∧ ∀ i, i < rows.length → (rows.getD i []).length ≤ maxLen := by
  simp only [isIntSS, Bool.and_eq_true, beq_iff_eq] at hk
  obtain ⟨⟨k1, k2⟩, k3⟩ := hk
  obtain ⟨n, hx⟩ := hx
  have hcl := cells_of_slice (tySlice_eq k1) hval
  rcases open_slice1 (tySlice_eq k1) k2 hx with ⟨hv, _⟩ | ⟨a, len, cap, m, n', V, D, Pl, hv, hb, hl, hm, hmm, _, hcell⟩
  · rw [hcl] at hv
    have hv : v = .slice none 0 0 := by simpa using hv
    subst hv
    exact ⟨[], .slice none 0 0, γ, h, List.prefix_refl _, List.prefix_refl _, A, .nils, ⟨[], .inl ⟨rfl, 0, by omega, rfl⟩, rfl, fun i hi => by simp at hi⟩, Nat.zero_le _, fun i hi => by simp at hi⟩
  · rw [hcl] at hv
    have hv : v = .slice (some a) len cap := by simpa using hv
    subst hv
    by_cases h0 : len = 0
    · subst h0
      exact ⟨[], .slice none 0 1, γ, h, List.prefix_refl _, List.prefix_refl _, A, .emp _ _, ⟨[], .inl ⟨rfl, 1, by omega, rfl⟩, rfl, fun i hi => by simp at hi⟩, Nat.zero_le _, fun i hi => by simp at hi⟩
    · have hcell : ∀ i, i < cap → W.cell? (a.add i) = some (V i) ∧ DataW.trod enc P W 0 (fun _ => true) true n' s [V i] = some (D i, Pl i) := fun i hi => hcell i (by rw [show m = cap from hmm]; exact hi)
      have hz := (hcell 0 (by omega)).1
      have hsp : a.spot = none := by
        simp only [Addr.add, if_true] at hz
        unfold World.cell? at hz
        split at hz
        · split at hz
          · cases hz
          · rename_i hs
            simpa using hs
        · cases hz
      have hbl : a.block < W.heap.size := by
        have := World.block_lt_of_cell? W _ hz
        simpa [Addr.add] using this
      obtain ⟨γ1, h1, cs, rows, q1, q2, q3, q4, q5, q6⟩ := adm_many A k3 (V := V) (len := len) (n := n') (fun i hi => ⟨_, (hcell i (by omega)).2⟩) len (Nat.le_refl _)
      have hget : ∀ (j : Nat) (x : Value), cs[j]? = some x → j < len ∧ cs.getD j undef = x := fun j x hx => by
        refine ⟨by rw [← q4]; exact (List.getElem?_eq_some_iff.1 hx).1, ?_⟩
        rw [List.getD_eq_getElem?_getD, hx]
        rfl
      refine ⟨rows, .slice (some ⟨h1.length, 0, none⟩) cs.length 1, γ1 ++ [⟨a.block, a.off, cap⟩], h1.new ⟨cs, s, true, false⟩, q1.trans (List.prefix_append _ _), q2.trans (pre_new (List.prefix_refl _)), ?_, ?_, ?_, by rw [q5]; omega, fun i hi => (q6 i (by omega)).2.2⟩
      · refine q3.new hbl fun j x hx => ?_
        obtain ⟨hj, hxx⟩ := hget j x hx
        obtain ⟨a1, a2, _⟩ := q6 j hj
        rw [hxx] at a1 a2
        refine ⟨a2.one, V j, ?_, a1⟩
        have := (hcell j (by omega)).1
        rw [add_off a hsp] at this
        exact this
      · have := VR.slc (γ := γ1 ++ [⟨a.block, a.off, cap⟩]) h1.length 0 cs.length 1 ⟨a.block, a.off, cap⟩ (by rw [← q3.rel.len]; simp) (by omega) (by simp only; omega)
        have e1 : (some a : Option Addr) = some ⟨a.block, a.off + 0, none⟩ := by
          obtain ⟨b, o, s⟩ := a
          simp at hsp
          subst hsp
          rfl
        rw [e1]
        have e2 : (cap - 0) / 1 = cap := by simp
        rw [show (Value.slice (some ⟨a.block, a.off + 0, none⟩) len cap) = Value.slice (some ⟨a.block, a.off + 0, none⟩) cs.length ((cap - 0) / 1) by rw [e2, q4]]
        exact this
      · refine ⟨cs, .inr ⟨h1.length, 0, _, rfl, get_new_same, by simp, fun i hi => ?_⟩, by omega, fun i hi => ((q6 i (by omega)).2.1).pre (pre_new (List.prefix_refl _))⟩
        rw [Nat.zero_add, List.getD_eq_getElem?_getD, List.getElem?_eq_getElem hi]
        rfl
end
end Go.Proofs.Ytilpnbejpndgpaa.X

/- From the readings of slices of flat elements, and of schemes, to the first heap. -/
set_option linter.unusedVariables false
set_option linter.unusedSimpArgs false
namespace Go.Proofs.Ytilpnbejpndgpaa.X
open Go Go.RowKit Go.ChangeShapes Go.WideShapes Go.Deep

theorem u8_in {n : Int} (h : (Lit.int .u8 n).wf = true) : 0 ≤ n ∧ n ≤ 255 := by
  simp [Lit.wf, IntKind.min, IntKind.max, IntKind.signed, IntKind.bits] at h
  omega
/-- Fields side by side. -/
def sideBy (P : Program) : List Field → Nat → Nat → Bool
  | [], o, m => o == m
  | f :: fs, o, m => f.offset == o && sideBy P fs (o + P.cellsOf f.type) m
/-- A type of whole numbers of one kind alone. -/
def flatK (P : Program) (k : IntKind) : Nat → TypeId → Bool
  | 0, _ => false
  | f + 1, t => match P.underlying t with
    | some (.int k') => decide (k' = k) && P.cellsOf t == 1
    | some (.array n e) => flatK P k f e && P.cellsOf t == n * P.cellsOf e
    | some (.struct fs) => sideBy P fs.toList 0 (P.cellsOf t) && fs.toList.all fun x => flatK P k f x.type
    | _ => false
theorem sideBy_at {P : Program} : ∀ {fs : List Field} {o m j : Nat}, sideBy P fs o m = true → o ≤ j → j < m → ∃ (i : Nat) (f : Field), fs[i]? = some f ∧ f.offset ≤ j ∧ j < f.offset + P.cellsOf f.type
  | [], o, m, j, h, h1, h2 => by
    simp only [sideBy, beq_iff_eq] at h
    omega
  | f :: fs, o, m, j, h, h1, h2 => by
    simp only [sideBy, Bool.and_eq_true, beq_iff_eq] at h
    by_cases hj : j < o + P.cellsOf f.type
    · exact ⟨0, f, rfl, by omega, by omega⟩
    · obtain ⟨i, g, q1, q2, q3⟩ := sideBy_at h.2 (by omega) h2
      exact ⟨i + 1, g, by rw [List.getElem?_cons_succ]; exact q1, q2, q3⟩
section
variable {H : Type} {enc : TypeId × Value → H} {P : Program} {W : World} {k : IntKind}
theorem flat_trod : ∀ (f : Nat) (t : TypeId) (n : Nat) (cs : List Value) (x : DataW H × List MemPlace), flatK P k f t = true → DataW.trod enc P W 0 (fun _ => true) true n t cs = some x →
    cs.length = P.cellsOf t ∧ ∀ (j : Nat) (v : Value), cs[j]? = some v → ∃ m, v = .int k m ∧ (Lit.int k m).wf = true
  | 0, _, _, _, _, h, _ => by cases h
  | f + 1, t, n, cs, x, h, hx => by
    unfold flatK at h
    split at h
    · rename_i k' ht
      simp only [Bool.and_eq_true, decide_eq_true_eq, beq_iff_eq] at h
      obtain ⟨rfl, hc⟩ := h
      obtain ⟨m, rfl, _, hw⟩ := DataW.trod_int ht hx
      refine ⟨by simpa using hc.symm, fun j v hv => ?_⟩
      have : j = 0 := by
        have := (List.getElem?_eq_some_iff.1 hv).1
        simp at this
        exact this
      subst this
      simp at hv
      exact ⟨m, hv.symm, hw⟩
    · rename_i c e ht
      simp only [Bool.and_eq_true, beq_iff_eq] at h
      obtain ⟨xs, m, _, _, hl, hxs, hall⟩ := DataW.trod_array ht hx
      refine ⟨hl, fun j v hv => ?_⟩
      have hj := (List.getElem?_eq_some_iff.1 hv).1
      rw [hl, h.2] at hj
      have hc : 0 < P.cellsOf e := Nat.pos_of_ne_zero fun e0 => by rw [e0] at hj; simp at hj
      have hi : j / P.cellsOf e < c := Nat.div_lt_of_lt_mul (by rw [Nat.mul_comm]; exact hj)
      have hy := hall _ hi
      rw [List.getElem?_eq_getElem (by omega)] at hy
      have hdm := Nat.div_add_mod j (P.cellsOf e)
      rw [Nat.mul_comm] at hdm
      refine (flat_trod f e m _ _ h.1 hy).2 (j % P.cellsOf e) v ?_
      rw [List.getElem?_take, if_pos (Nat.mod_lt _ hc), List.getElem?_drop, hdm]
      exact hv
    · rename_i fs ht
      simp only [Bool.and_eq_true] at h
      obtain ⟨xs, m, _, _, hl, hxs, hall⟩ := DataW.trod_struct ht hx
      refine ⟨hl, fun j v hv => ?_⟩
      have hj := (List.getElem?_eq_some_iff.1 hv).1
      rw [hl] at hj
      obtain ⟨i, g, q1, q2, q3⟩ := sideBy_at h.1 (Nat.zero_le _) hj
      have q1' : fs[i]? = some g := by simpa using q1
      have hy := hall i g q1'
      have hi : i < xs.length := by
        rw [hxs]
        exact (Array.getElem?_eq_some_iff.1 q1').1
      rw [List.getElem?_eq_getElem hi] at hy
      have hg : flatK P k f g.type = true := List.all_eq_true.1 h.2 g (List.mem_of_getElem? q1)
      refine (flat_trod f g.type m _ _ hg hy).2 (j - g.offset) v ?_
      rw [List.getElem?_take, if_pos (by omega), List.getElem?_drop, show g.offset + (j - g.offset) = j by omega]
      exact hv
    · cases h

theorem adm_elems {γ : List G} {h : AH} (A : Adm P W γ h) {t e : TypeId} {n w f : Nat} {cs : List Value} {x : DataW H × List MemPlace} (ht : P.underlying t = some (.slice e)) (hf : flatK P k f e = true)
    (hw : P.cellsOf e = w) (hw0 : 0 < w) (hx : DataW.trod enc P W 0 (fun _ => true) true n t cs = some x) :
    ∃ v' v L γ' h', cs = [v'] ∧ γ <+: γ' ∧ h <+: h' ∧ Adm P W γ' h' ∧ VR γ' v v' ∧ Els k w h' v L ∧ L.length ≤ maxLen ∧ ∀ i, i < L.length → ∀ j, j < w → (Lit.int k ((L.getD i []).getD j 0)).wf = true := by
  rcases open_slice ht hx with ⟨rfl, _⟩ | ⟨a, len, cap, m, n', D, Pl, rfl, hb, hl, hm, hmm, _, hcell⟩
  · exact ⟨_, .slice none 0 0, [], γ, h, rfl, List.prefix_refl _, List.prefix_refl _, A, .nils, .inl ⟨rfl, 0, by omega, rfl⟩, Nat.zero_le _, fun i hi => by simp at hi⟩
  · by_cases h0 : len = 0
    · subst h0
      exact ⟨_, .slice none 0 1, [], γ, h, rfl, List.prefix_refl _, List.prefix_refl _, A, .emp _ _, .inl ⟨rfl, 1, by omega, rfl⟩, Nat.zero_le _, fun i hi => by simp at hi⟩
    · have hmc : m = cap := hmm
      have cell : ∀ i, i < cap → ∀ r, r < w → ∃ z, W.cell? ((a.add (i * w)).add r) = some (.int k z) ∧ (Lit.int k z).wf = true := fun i hi r hr => by
        obtain ⟨cs', h1, h2⟩ := hcell i (by omega)
        rw [hw] at h1
        obtain ⟨_, hlen, hc⟩ := World.cells?_some h1
        obtain ⟨_, hall⟩ := flat_trod f e n' cs' _ hf h2
        have hr' : r < cs'.length := by omega
        obtain ⟨z, hz, hwf⟩ := hall r _ (List.getElem?_eq_getElem hr')
        refine ⟨z, ?_, hwf⟩
        rw [hc r hr, List.getElem?_eq_getElem hr', hz]
      obtain ⟨z0, hz, _⟩ := cell 0 (by omega) 0 hw0
      rw [Nat.zero_mul] at hz
      have a0 : a.add 0 = a := by simp [Addr.add]
      rw [a0, a0] at hz
      have hsp : a.spot = none := by
        unfold World.cell? at hz
        split at hz
        · split at hz
          · cases hz
          · rename_i hs
            simpa using hs
        · cases hz
      have hbl : a.block < W.heap.size := World.block_lt_of_cell? W _ hz
      have cell' : ∀ j, j < len * w → ∃ z, W.cell? ⟨a.block, a.off + j, none⟩ = some (.int k z) ∧ (Lit.int k z).wf = true := fun j hj => by
        have hi : j / w < len := Nat.div_lt_of_lt_mul (by rw [Nat.mul_comm]; exact hj)
        obtain ⟨z, q1, q2⟩ := cell (j / w) (by omega) (j % w) (Nat.mod_lt _ hw0)
        refine ⟨z, ?_, q2⟩
        rw [add_off a hsp, add_off _ rfl] at q1
        have hdm := Nat.div_add_mod j w
        rw [Nat.mul_comm] at hdm
        rw [show a.off + j = a.off + j / w * w + j % w by omega]
        exact q1
      obtain ⟨N, hN⟩ : ∃ N : Nat → Int, ∀ j, j < len * w → W.cell? ⟨a.block, a.off + j, none⟩ = some (.int k (N j)) ∧ (Lit.int k (N j)).wf = true := by
        refine ⟨fun j => if hj : j < len * w then (cell' j hj).choose else 0, fun j hj => ?_⟩
        simp only [dif_pos hj]
        exact (cell' j hj).choose_spec
      let L : List (List Int) := (List.range len).map fun i => (List.range w).map fun r => N (i * w + r)
      have hLl : L.length = len := by simp [L]
      have hLg : ∀ i, i < len → L.getD i [] = (List.range w).map fun r => N (i * w + r) := fun i hi => by simp [L, List.getD_eq_getElem?_getD, List.getElem?_map, List.getElem?_range hi]
      let C : List Value := cel k ((List.range (len * w)).map N)
      have hCl : C.length = len * w := by simp [C, cel_len]
      refine ⟨_, .slice (some ⟨h.length, 0, none⟩) L.length w, L, γ ++ [⟨a.block, a.off, cap * w⟩], h.new ⟨C, e, true, false⟩, rfl, List.prefix_append _ _, pre_new (List.prefix_refl _), ?_, ?_,
        .inr ⟨h.length, 0, _, rfl, get_new_same, fun i hi => ?_⟩, by rw [hLl]; omega, fun i hi j hj => ?_⟩
      · refine A.new hbl fun j v hv => ?_
        have hj : j < len * w := by rw [← hCl]; exact (List.getElem?_eq_some_iff.1 hv).1
        have hv' : C[j]? = some (.int k (N j)) := by simp [C, cel, hj]
        rw [hv'] at hv
        obtain rfl := Option.some.inj hv
        exact ⟨rfl, _, (hN j hj).1, .int _ _⟩
      · have hcw : len * w ≤ cap * w := Nat.mul_le_mul_right _ hl
        have := VR.slc (γ := γ ++ [⟨a.block, a.off, cap * w⟩]) h.length 0 L.length w ⟨a.block, a.off, cap * w⟩ (by rw [← A.rel.len]; simp) hw0 (by rw [hLl]; simp only; omega)
        have e1 : (some a : Option Addr) = some ⟨a.block, a.off + 0, none⟩ := by
          obtain ⟨b, o, s⟩ := a
          simp at hsp
          subst hsp
          rfl
        rw [e1]
        have e2 : (cap * w - 0) / w = cap := by rw [Nat.sub_zero]; exact Nat.mul_div_cancel _ hw0
        simp only [e2, hLl] at this
        rw [hLl]
        exact this
      · rw [hLl] at hi
        have hr : i * w + w ≤ len * w := mul_row hi
        refine ⟨by simp only [hCl]; omega, ?_⟩
        rw [hLg i hi]
        simp only [C, cel_drop, cel_take, Nat.zero_add]
        congr 1
        refine List.ext_getElem? fun r => ?_
        rw [List.getElem?_take, List.getElem?_drop, List.getElem?_map, List.getElem?_map]
        by_cases hr' : r < w
        · rw [if_pos hr', List.getElem?_range hr', List.getElem?_range (by omega)]
          rfl
        · rw [if_neg hr', List.getElem?_eq_none (by simp; omega)]
          rfl
      · rw [hLl] at hi
        have hr : i * w + w ≤ len * w := mul_row hi
        rw [hLg i hi]
        have : ((List.range w).map fun r => N (i * w + r)).getD j 0 = N (i * w + j) := by simp [List.getD_eq_getElem?_getD, List.getElem?_map, List.getElem?_range hj]
        rw [this]
        exact (hN _ (by omega)).2

/-- Four whole numbers and a slice of elements, side by side. -/
def isSch (P : Program) (t e : TypeId) (k : IntKind) (f w : Nat) : Bool := match P.underlying t with
  | some (.struct fs) => match fs.toList with
    | [f0, f1, f2, f3, f4] => P.cellsOf t == 5 && f0.offset == 0 && f1.offset == 1 && f2.offset == 2 && f3.offset == 3 && f4.offset == 4 &&
        [f0, f1, f2, f3].all (fun f => tyInt P f.type && P.cellsOf f.type == 1) && P.cellsOf f4.type == 1 && tySlice P f4.type e &&
        flatK P k f e && P.cellsOf e == w && decide (0 < w)
    | _ => false
  | _ => false
theorem adm_sch {γ : List G} {h : AH} (A : Adm P W γ h) {t : TypeId} (e : TypeId) (f w : Nat) (hk : isSch P t e k f w = true) {v : Value} {d : DataW H} {ps : List MemPlace} (hx : DataW.Trod enc P W 0 (fun _ => true) true t v d ps) :
    ∃ a b c d L v' γ' h', γ <+: γ' ∧ h <+: h' ∧ Adm P W γ' h' ∧ VR γ' (.agg #[I64 a, I64 b, I64 c, I64 d, v']) v ∧ Els k w h' v' L ∧ L.length ≤ maxLen ∧
      ∀ i, i < L.length → ∀ j, j < w → (Lit.int k ((L.getD i []).getD j 0)).wf = true := by
  unfold isSch at hk
  split at hk
  · rename_i fs hs
    split at hk
    · rename_i f0 f1 f2 f3 f4 hf
      have hfs : fs = #[f0, f1, f2, f3, f4] := by
        rw [← hf]
      subst hfs
      simp only [List.all_cons, List.all_nil, Bool.and_true, Bool.and_eq_true, beq_iff_eq, decide_eq_true_eq] at hk
      obtain ⟨⟨⟨⟨⟨⟨⟨⟨⟨⟨⟨hct, o0⟩, o1⟩, o2⟩, o3⟩, o4⟩, ⟨i0, c0⟩, ⟨i1, c1⟩, ⟨i2, c2⟩, ⟨i3, c3⟩⟩, c4⟩, s4⟩, fl⟩, ce⟩, cw⟩ := hk
      obtain ⟨n, hx⟩ := hx
      have hl := trod_cells hs hx
      rw [hct] at hl
      obtain ⟨a, ha, _⟩ := trod_field_int hs hx (i := 0) (f := f0) rfl (tyInt_eq i0)
      obtain ⟨b, hb, _⟩ := trod_field_int hs hx (i := 1) (f := f1) rfl (tyInt_eq i1)
      obtain ⟨c, hcc, _⟩ := trod_field_int hs hx (i := 2) (f := f2) rfl (tyInt_eq i2)
      obtain ⟨d, hd, _⟩ := trod_field_int hs hx (i := 3) (f := f3) rfl (tyInt_eq i3)
      obtain ⟨m, y, hy⟩ := trod_field hs hx (i := 4) (f := f4) rfl
      obtain ⟨v', u, L, γ', h', e1, q1, q2, q3, q4, q5, q6, q7⟩ := adm_elems A (tySlice_eq s4) fl ce cw hy
      generalize hcs : v.cells.toList = cs at *
      rw [o0, c0] at ha
      rw [o1, c1] at hb
      rw [o2, c2] at hcc
      rw [o3, c3] at hd
      rw [o4, c4] at e1
      obtain ⟨z0, z1, z2, z3, z4, rfl⟩ : ∃ z0 z1 z2 z3 z4, cs = [z0, z1, z2, z3, z4] := by
        match cs, hl with
        | [z0, z1, z2, z3, z4], _ => exact ⟨_, _, _, _, _, rfl⟩
      simp at ha hb hcc hd e1
      subst ha hb hcc hd e1
      refine ⟨a, b, c, d, L, u, γ', h', q1, q2, q3, ?_, q5, q6, q7⟩
      rw [agg_of_cells hcs (by simp)]
      exact VR.aggL (VRL.cons (.int _ _) (VRL.cons (.int _ _) (VRL.cons (.int _ _) (VRL.cons (.int _ _) (VRL.cons q4 (VRL.nil _))))))
    · cases hk
  · cases hk
end
end Go.Proofs.Ytilpnbejpndgpaa.X

/- The row of MakeProduct (printed by row.py). -/
namespace Go.Proofs.Ytilpnbejpndgpaa.fnExactMakeProduct
open Go Go.ChangeShapes Go.WideShapes Go.ChangeAt Go.RowKit Go.Proofs.Ytilpnbejpndgpaa.X
set_option linter.unusedVariables false
theorem own : ownKnob Try.prog.godebug = none := by kernel_rfl
theorem laid : laidOutB Try.prog = true := by kernel_rfl
theorem shapeX : isSch Try.prog 66 159 .u8 4 27 = true := by kernel_rfl
theorem shapeS : isIntS Try.prog 22 2 = true := by kernel_rfl
theorem shapeM : isIntSS Try.prog 32 22 2 = true := by kernel_rfl
theorem readable0 : Try.prog.readableRec 66 = true := by kernel_rfl
theorem intable0 : 66 < Try.prog.types.size := of_decide_eq_true (by kernel_rfl)
theorem readable1 : Try.prog.readableRec 32 = true := by kernel_rfl
theorem intable1 : 32 < Try.prog.types.size := of_decide_eq_true (by kernel_rfl)
theorem isbool : Try.prog.underlying 4 = some .bool := by kernel_rfl
theorem isint : Try.prog.underlying 2 = some (.int .i64) := by kernel_rfl
set_option maxRecDepth 100000 in
theorem lifted (os : Os) (started : os.Started) (H : Type) (enc : TypeId × Value → H) :
    ReturnsInHanded {} Try.checked os 11 .any (Rows.fnExactMakeProductSpec.pre6 enc Try.prog Try.f11 Rows.fnExactMakeProductRow.domain false) (Rows.fnExactMakeProductSpec.post enc Try.prog Try.f11 false true false false) := by
  refine returnsInHanded_of_change_sized (C := Try.checked) own started (by kernel_rfl) Try.func11
    (ChangeSpec.witness6 (enc := enc) (C := Try.checked) false ⟨#[], #[.agg #[.int .i64 0, .int .i64 0, .int .i64 0, .int .i64 0, .slice none 0 0], .slice none 0 0, .slice none 0 0], []⟩ 8 (by kernel_rfl) (by kernel_rfl) (by kernel_rfl) (by kernel_rfl)) ?_
  intro W base args ds gs before hval0 hW hcnd hsz0 _
  have hval : ∀ (j : Nat) t v, Try.f11.params[j]? = some t → args[j]? = some v → Value.okWide Try.prog W .any base t v := hval0
  have hW' := hW
  obtain ⟨p, q, hA0, hV, rfl, hfz, hnd⟩ := hW
  have hA : DataW.TrodAll enc Try.prog W 0 (fun _ => true) true Try.f11.params.toList args.toList ds p := hA0
  rw [Try.params11] at hA hval
  obtain ⟨v0, vs0, d0, ds0, p0, q0, hargs0, rfl, rfl, h0, r0⟩ := trodAll_cons hA
  obtain ⟨v1, vs1, d1, ds1, p1, q1, hargs1, rfl, rfl, h1, r1⟩ := trodAll_cons r0
  obtain ⟨v2, vs2, d2, ds2, p2, q2, hargs2, rfl, rfl, h2, r2⟩ := trodAll_cons r1
  obtain ⟨rfl, rfl, rfl⟩ := trodAll_nil r2
  obtain rfl : args = #[v0, v1, v2] := by cases args; simp_all
  obtain ⟨rfl, rfl⟩ := trodVars_none hV
  obtain ⟨a0, b0, c0, e0, ns0, u0, γ0, g0, pg0, ph0, A0, hv0, hy0, hl0, hw0⟩ := adm_sch (Adm.nil Try.prog W) 159 4 27 shapeX h0
  have hi0 : Prods g0 u0 ns0 := ⟨hy0, fun i hi j hj => u8_in (hw0 i hi j hj)⟩
  have hl0' : (ns0.length : Int) ≤ 9223372036854775807 := by
    have : ns0.length ≤ 2 ^ 63 - 1 := hl0
    omega
  obtain ⟨ns1, u1, γ1, g1, pg1, ph1, A1, hv1, hi1, hl1, hm1⟩ := adm_rows A0 22 2 shapeM (hval 1 _ v1 rfl rfl) h1
  have hl1' : (ns1.length : Int) ≤ 9223372036854775807 := by
    have : ns1.length ≤ 2 ^ 63 - 1 := hl1
    omega
  have hm1' : ∀ i, i < ns1.length → ((ns1.getD i []).length : Int) ≤ 9223372036854775807 := fun i hi => by
    have : (ns1.getD i []).length ≤ 2 ^ 63 - 1 := hm1 i hi
    omega
  obtain ⟨ns2, u2, γ2, g2, pg2, ph2, A2, hv2, hi2, hl2, hm2⟩ := adm_rows A1 22 2 shapeM (hval 2 _ v2 rfl rfl) h2
  have hl2' : (ns2.length : Int) ≤ 9223372036854775807 := by
    have : ns2.length ≤ 2 ^ 63 - 1 := hl2
    omega
  have hm2' : ∀ i, i < ns2.length → ((ns2.getD i []).length : Int) ≤ 9223372036854775807 := fun i hi => by
    have : (ns2.getD i []).length ≤ 2 ^ 63 - 1 := hm2 i hi
    omega
  have hi0' := hi0.pre ((ph1).trans ph2)
  have hi1' := hi1.pre (ph2)
  have hi2' := hi2
  have key := law_MakeProduct (x0 := ⟨a0, b0, c0, e0, ns0⟩) hi0' hl0' hi1' hl1' hm1' hi2' hl2' hm2'
  refine (calls_of_WF (S := S) orders esound tsound A2 (VRL.cons (hv0.mono ((pg1).trans pg2)) (VRL.cons (hv1.mono (pg2)) (VRL.cons hv2 (VRL.nil _)))) key).mono fun e W' ⟨v, u, γ1, h1, he, hvr, hb, bel⟩ => ?_
  subst hb
  obtain rfl := hvr.bool_inv
  subst he
  have st := stays_all laid bel (ts := [66, 32, 32]) (fun t ht => by
    simp only [List.mem_cons, List.not_mem_nil, or_false] at ht
    rcases ht with rfl | rfl | rfl
    · exact ⟨readable0, intable0⟩
    · exact ⟨readable1, intable1⟩
    · exact ⟨readable1, intable1⟩) hA
  exact ⟨_, rfl, _, _, _, [], _, [], hW', trodAll_mk1 (shut_bool isbool _), st, rfl, bel.frame _, fun h => by cases h⟩
theorem over : Rows.fnExactMakeProductRow.holds Try.pinned (OpenSpec.ofChange Rows.fnExactMakeProductSpec) :=
  OpenClaim.holds_of_wide 11 Try.f11 rfl rfl rfl rfl rfl rfl rfl ⟨rfl, rfl, rfl, rfl, rfl⟩ rfl rfl rfl rfl rfl (by kernel_rfl) Try.func11 (by kernel_rfl)
    (of_decide_eq_true (by kernel_rfl)) (by unfold Func.isWrapper; first | (rw [if_pos (by decide +kernel)]; kernel_rfl) | (rw [if_neg (by decide +kernel)]; exact ⟨rfl, rfl⟩))
    (fun os started H enc _ => lifted os started H enc)
end Go.Proofs.Ytilpnbejpndgpaa.fnExactMakeProduct
namespace Go.Proofs.Ytilpnbejpndgpaa
theorem fnExactMakeProduct_holds : Rows.FnExactMakeProductSaid := fnExactMakeProduct.over
end Go.Proofs.Ytilpnbejpndgpaa
