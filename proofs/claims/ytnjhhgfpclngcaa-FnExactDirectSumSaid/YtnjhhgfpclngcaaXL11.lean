/- The law on DirectSum, on the abstract machine (printed by lawt.py). -/
import Derived.Test.YtnjhhgfpclngcaaXF15
set_option linter.unusedVariables false
set_option linter.unusedSimpArgs false
set_option maxRecDepth 20000
set_option maxHeartbeats 4000000
namespace Go.Proofs.Ytnjhhgfpclngcaa.X
open Go Go.RowKit

theorem law_DirectSum {v0 : Value} {t0 : Ten} {v1 : Value} {t1 : Ten} {h : AH} (hv0 : Ints h v0 t0.ns) (hl0 : (t0.ns.length : Int) ≤ 9223372036854775807) (hv1 : Ints h v1 t1.ns) (hl1 : (t1.ns.length : Int) ≤ 9223372036854775807) :
    WF S 10 [tenV t0 v0, tenV t1 v1] h (fun v _ => v = .bool true) := by
  refine WF_fn (fn := c10) rfl rfl ?_
  unfold c10
  try simp (maxSteps := 3000000) (disch := first | omega | (simp only [len_new, len_put, len_kill]; omega)) only [↓xpre, xpost, ↓reduceIte, Nat.reduceEqDiff, Nat.reduceAdd, Nat.reduceSub, Nat.reduceLeDiff, Nat.zero_add, Nat.sub_zero, tenV, hv0.one, hv1.one]
  have ph : h <+: h := List.prefix_refl h
  generalize hH1 : AH.new h _ = H1
  obtain ⟨ba0, p1, l1⟩ := new_facts hH1
  have ph := ph.trans p1
  generalize hH2 : AH.new H1 _ = H2
  obtain ⟨ba1, p2, l2⟩ := new_facts hH2
  have ph := ph.trans p2
  have ba0 := pre_get p2 ba0
  refine l_szTensor (hv0.pre ph) (by omega) hl0 fun m0 H3 p3 hm0 hm0' => ?_
  have l3 := pre_len p3
  have ph := ph.trans p3
  have ba0 := pre_get p3 ba0
  have ba1 := pre_get p3 ba1
  try simp (maxSteps := 3000000) (disch := first | omega | (simp only [len_new, len_put, len_kill]; omega)) only [↓xpre, xpost, ↓reduceIte, Nat.reduceEqDiff, Nat.reduceAdd, Nat.reduceSub, Nat.reduceLeDiff, Nat.zero_add, Nat.sub_zero, IfW_dec]
  refine ⟨fun _ => trivial, fun hm0z => ?_⟩
  have hl0' : (t0.ns.length : Int) ≤ 1048576 := by have := (hm0' (by omega)).1; omega
  try simp (maxSteps := 3000000) (disch := first | omega | (simp only [len_new, len_put, len_kill]; omega)) only [↓xpre, xpost, ↓reduceIte, Nat.reduceEqDiff, Nat.reduceAdd, Nat.reduceSub, Nat.reduceLeDiff, Nat.zero_add, Nat.sub_zero, tenV, rdn_of ba0, rdn_of ba1]
  try refine ⟨p3, ?_⟩
  refine l_szTensor (hv1.pre ph) (by omega) hl1 fun m1 H4 p4 hm1 hm1' => ?_
  have l4 := pre_len p4
  have ph := ph.trans p4
  have ba0 := pre_get p4 ba0
  have ba1 := pre_get p4 ba1
  try simp (maxSteps := 3000000) (disch := first | omega | (simp only [len_new, len_put, len_kill]; omega)) only [↓xpre, xpost, ↓reduceIte, Nat.reduceEqDiff, Nat.reduceAdd, Nat.reduceSub, Nat.reduceLeDiff, Nat.zero_add, Nat.sub_zero, IfW_dec]
  refine ⟨fun _ => trivial, fun hm1z => ?_⟩
  have hl1' : (t1.ns.length : Int) ≤ 1048576 := by have := (hm1' (by omega)).1; omega
  try simp (maxSteps := 3000000) (disch := first | omega | (simp only [len_new, len_put, len_kill]; omega)) only [↓xpre, xpost, ↓reduceIte, Nat.reduceEqDiff, Nat.reduceAdd, Nat.reduceSub, Nat.reduceLeDiff, Nat.zero_add, Nat.sub_zero, rdn_of ba0, rdn_of ba1]
  try refine ⟨p4, ?_⟩
  refine l_toTensor (hv0.pre ph) hl0' fun vc0 H5 p5 oc0 => ?_
  have l5 := pre_len p5
  have ph := ph.trans p5
  have ba0 := pre_get p5 ba0
  have ba1 := pre_get p5 ba1
  try simp (maxSteps := 3000000) (disch := first | omega | (simp only [len_new, len_put, len_kill]; omega)) only [↓xpre, xpost, ↓reduceIte, Nat.reduceEqDiff, Nat.reduceAdd, Nat.reduceSub, Nat.reduceLeDiff, Nat.zero_add, Nat.sub_zero, rdn_of ba0, rdn_of ba1]
  try refine ⟨p5, ?_⟩
  refine l_toTensor (hv1.pre ph) hl1' fun vc1 H6 p6 oc1 => ?_
  have l6 := pre_len p6
  have ph := ph.trans p6
  have ba0 := pre_get p6 ba0
  have ba1 := pre_get p6 ba1
  have oc0 := oc0.pre p6
  try simp (maxSteps := 3000000) (disch := first | omega | (simp only [len_new, len_put, len_kill]; omega)) only [↓xpre, xpost, ↓reduceIte, Nat.reduceEqDiff, Nat.reduceAdd, Nat.reduceSub, Nat.reduceLeDiff, Nat.zero_add, Nat.sub_zero, rdn_of ba0, rdn_of ba1]
  try refine ⟨p6, ?_⟩
  refine s_DirectSum oc0.ints hl0' oc1.ints hl1' fun vw H7 p7 ow => ?_
  have l7 := pre_len p7
  have ph := ph.trans p7
  have ba0 := pre_get p7 ba0
  have ba1 := pre_get p7 ba1
  have oc0 := oc0.pre p7
  have oc1 := oc1.pre p7
  have kw : ∀ n, blkOf vw = some n → H6.length ≤ n ∧ n < H7.length := ow.blk
  try simp (maxSteps := 3000000) (disch := first | omega | (simp only [len_new, len_put, len_kill]; omega)) only [↓xpre, xpost, ↓reduceIte, Nat.reduceEqDiff, Nat.reduceAdd, Nat.reduceSub, Nat.reduceLeDiff, Nat.zero_add, Nat.sub_zero, tenV, ow.ints.one, rdn_of ba0, rdn_of ba1]
  try refine ⟨p7, ?_⟩
  generalize hH8 : AH.new H7 _ = H8
  obtain ⟨bw, p8, l8⟩ := new_facts hH8
  have ph := ph.trans p8
  have ba0 := pre_get p8 ba0
  have ba1 := pre_get p8 ba1
  have oc0 := oc0.pre p8
  have oc1 := oc1.pre p8
  have ow := ow.pre p8
  try simp (maxSteps := 3000000) (disch := first | omega | (simp only [len_new, len_put, len_kill]; omega)) only [↓xpre, xpost, ↓reduceIte, Nat.reduceEqDiff, Nat.reduceAdd, Nat.reduceSub, Nat.reduceLeDiff, Nat.zero_add, Nat.sub_zero, rdn_of ba0, rdn_of ba1, rdn_of bw]
  try refine ⟨p8, ?_⟩
  refine l_toTensor (hv0.pre ph) hl0' fun vx0 H9 p9 ox0 => ?_
  have l9 := pre_len p9
  have ph := ph.trans p9
  have ba0 := pre_get p9 ba0
  have ba1 := pre_get p9 ba1
  have bw := pre_get p9 bw
  have ow := ow.pre p9
  have kx0 : ∀ n, blkOf vx0 = some n → H8.length ≤ n ∧ n < H9.length := ox0.ownR.blk
  have ox0 := ox0.ownR
  try simp (maxSteps := 3000000) (disch := first | omega | (simp only [len_new, len_put, len_kill]; omega)) only [↓xpre, xpost, ↓reduceIte, Nat.reduceEqDiff, Nat.reduceAdd, Nat.reduceSub, Nat.reduceLeDiff, Nat.zero_add, Nat.sub_zero, tenV, ox0.ints.one, rdn_of ba0, rdn_of ba1, rdn_of bw]
  try refine ⟨p9, ?_⟩
  generalize hH10 : AH.new H9 _ = H10
  obtain ⟨bx0, p10, l10⟩ := new_facts hH10
  have ph := ph.trans p10
  have ba0 := pre_get p10 ba0
  have ba1 := pre_get p10 ba1
  have bw := pre_get p10 bw
  have ow := ow.pre p10
  have ox0 := ox0.pre p10
  try simp (maxSteps := 3000000) (disch := first | omega | (simp only [len_new, len_put, len_kill]; omega)) only [↓xpre, xpost, ↓reduceIte, Nat.reduceEqDiff, Nat.reduceAdd, Nat.reduceSub, Nat.reduceLeDiff, Nat.zero_add, Nat.sub_zero, rdn_of ba0, rdn_of ba1, rdn_of bw, rdn_of bx0]
  try refine ⟨p10, ?_⟩
  refine l_toTensor (hv1.pre ph) hl1' fun vx1 H11 p11 ox1 => ?_
  have l11 := pre_len p11
  have ph := ph.trans p11
  have ba0 := pre_get p11 ba0
  have ba1 := pre_get p11 ba1
  have bw := pre_get p11 bw
  have bx0 := pre_get p11 bx0
  have ow := ow.pre p11
  have ox0 := ox0.pre p11
  have kx1 : ∀ n, blkOf vx1 = some n → H10.length ≤ n ∧ n < H11.length := ox1.ownR.blk
  have ox1 := ox1.ownR
  try simp (maxSteps := 3000000) (disch := first | omega | (simp only [len_new, len_put, len_kill]; omega)) only [↓xpre, xpost, ↓reduceIte, Nat.reduceEqDiff, Nat.reduceAdd, Nat.reduceSub, Nat.reduceLeDiff, Nat.zero_add, Nat.sub_zero, tenV, ox1.ints.one, rdn_of ba0, rdn_of ba1, rdn_of bw, rdn_of bx0]
  try refine ⟨p11, ?_⟩
  generalize hH12 : AH.new H11 _ = H12
  obtain ⟨bx1, p12, l12⟩ := new_facts hH12
  have ph := ph.trans p12
  have ba0 := pre_get p12 ba0
  have ba1 := pre_get p12 ba1
  have bw := pre_get p12 bw
  have bx0 := pre_get p12 bx0
  have ow := ow.pre p12
  have ox0 := ox0.pre p12
  have ox1 := ox1.pre p12
  try simp (maxSteps := 3000000) (disch := first | omega | (simp only [len_new, len_put, len_kill]; omega)) only [↓xpre, xpost, ↓reduceIte, Nat.reduceEqDiff, Nat.reduceAdd, Nat.reduceSub, Nat.reduceLeDiff, Nat.zero_add, Nat.sub_zero, rdn_of ba0, rdn_of ba1, rdn_of bw, rdn_of bx0, rdn_of bx1]
  try refine ⟨p12, ?_⟩
  refine i_DirectSum ox0.ints hl0' ox1.ints hl1' fun vg H13 p13 og => ?_
  have l13 := pre_len p13
  have ph := ph.trans p13
  have ba0 := pre_get p13 ba0
  have ba1 := pre_get p13 ba1
  have bw := pre_get p13 bw
  have bx0 := pre_get p13 bx0
  have bx1 := pre_get p13 bx1
  have ow := ow.pre p13
  have ox0 := ox0.pre p13
  have ox1 := ox1.pre p13
  have kg : ∀ n, blkOf vg = some n → H12.length ≤ n ∧ n < H13.length := og.blk
  try simp (maxSteps := 3000000) (disch := first | omega | (simp only [len_new, len_put, len_kill]; omega)) only [↓xpre, xpost, ↓reduceIte, Nat.reduceEqDiff, Nat.reduceAdd, Nat.reduceSub, Nat.reduceLeDiff, Nat.zero_add, Nat.sub_zero, tenV, og.ints.one, rdn_of ba0, rdn_of ba1, rdn_of bw, rdn_of bx0, rdn_of bx1]
  try refine ⟨p13, ?_⟩
  generalize hH14 : AH.new H13 _ = H14
  obtain ⟨bg, p14, l14⟩ := new_facts hH14
  have ph := ph.trans p14
  have ba0 := pre_get p14 ba0
  have ba1 := pre_get p14 ba1
  have bw := pre_get p14 bw
  have bx0 := pre_get p14 bx0
  have bx1 := pre_get p14 bx1
  have ow := ow.pre p14
  have ox0 := ox0.pre p14
  have ox1 := ox1.pre p14
  have og := og.pre p14
  have hlR := dsR_len t0 t1
  try simp (maxSteps := 3000000) (disch := first | omega | (simp only [len_new, len_put, len_kill]; omega)) only [↓xpre, xpost, ↓reduceIte, Nat.reduceEqDiff, Nat.reduceAdd, Nat.reduceSub, Nat.reduceLeDiff, Nat.zero_add, Nat.sub_zero, rdn_of ba0, rdn_of ba1, rdn_of bw, rdn_of bx0, rdn_of bx1, rdn_of bg]
  try refine ⟨p14, ?_⟩
  refine l_eqTensor og.ints ow.ints hlR fun H15 p15 => ?_
  have l15 := pre_len p15
  have ph := ph.trans p15
  have ba0 := pre_get p15 ba0
  have ba1 := pre_get p15 ba1
  have bw := pre_get p15 bw
  have bx0 := pre_get p15 bx0
  have bx1 := pre_get p15 bx1
  have bg := pre_get p15 bg
  have ow := ow.pre p15
  have ox0 := ox0.pre p15
  have ox1 := ox1.pre p15
  have og := og.pre p15
  try simp (maxSteps := 3000000) (disch := first | omega | (simp only [len_new, len_put, len_kill]; omega)) only [↓xpre, xpost, ↓reduceIte, Nat.reduceEqDiff, Nat.reduceAdd, Nat.reduceSub, Nat.reduceLeDiff, Nat.zero_add, Nat.sub_zero, ne_eq, not_true_eq_false, rdn_of ba0, rdn_of ba1, rdn_of bw, rdn_of bx0, rdn_of bx1, rdn_of bg]
  try refine ⟨p15, ?_⟩
  try simp (maxSteps := 3000000) (disch := first | omega | (simp only [len_new, len_put, len_kill]; omega)) only [↓xpre, xpost, ↓reduceIte, Nat.reduceEqDiff, Nat.reduceAdd, Nat.reduceSub, Nat.reduceLeDiff, Nat.zero_add, Nat.sub_zero, ne_eq, not_true_eq_false, rdn_of ba0, rdn_of ba1, rdn_of bw, rdn_of bx0, rdn_of bx1, rdn_of bg]
  try refine ⟨p15, ?_⟩
  refine l_toTensor (hv0.pre ph) hl0' fun ve0 H16 p16 oe0 => ?_
  have l16 := pre_len p16
  have ph := ph.trans p16
  have ba0 := pre_get p16 ba0
  have ba1 := pre_get p16 ba1
  have bw := pre_get p16 bw
  have bx0 := pre_get p16 bx0
  have bx1 := pre_get p16 bx1
  have bg := pre_get p16 bg
  have ow := ow.pre p16
  have ox0 := ox0.pre p16
  have ox1 := ox1.pre p16
  have og := og.pre p16
  try simp (maxSteps := 3000000) (disch := first | omega | (simp only [len_new, len_put, len_kill]; omega)) only [↓xpre, xpost, ↓reduceIte, Nat.reduceEqDiff, Nat.reduceAdd, Nat.reduceSub, Nat.reduceLeDiff, Nat.zero_add, Nat.sub_zero, rdn_of ba0, rdn_of ba1, rdn_of bw, rdn_of bx0, rdn_of bx1, rdn_of bg]
  try refine ⟨p16, ?_⟩
  refine l_eqTensor ox0.ints oe0.ints hl0' fun H17 p17 => ?_
  have l17 := pre_len p17
  have ph := ph.trans p17
  have ba0 := pre_get p17 ba0
  have ba1 := pre_get p17 ba1
  have bw := pre_get p17 bw
  have bx0 := pre_get p17 bx0
  have bx1 := pre_get p17 bx1
  have bg := pre_get p17 bg
  have ow := ow.pre p17
  have ox0 := ox0.pre p17
  have ox1 := ox1.pre p17
  have og := og.pre p17
  try simp (maxSteps := 3000000) (disch := first | omega | (simp only [len_new, len_put, len_kill]; omega)) only [↓xpre, xpost, ↓reduceIte, Nat.reduceEqDiff, Nat.reduceAdd, Nat.reduceSub, Nat.reduceLeDiff, Nat.zero_add, Nat.sub_zero, rdn_of ba0, rdn_of ba1, rdn_of bw, rdn_of bx0, rdn_of bx1, rdn_of bg]
  try refine ⟨p17, ?_⟩
  try simp (maxSteps := 3000000) (disch := first | omega | (simp only [len_new, len_put, len_kill]; omega)) only [↓xpre, xpost, ↓reduceIte, Nat.reduceEqDiff, Nat.reduceAdd, Nat.reduceSub, Nat.reduceLeDiff, Nat.zero_add, Nat.sub_zero, ne_eq, not_true_eq_false, rdn_of ba0, rdn_of ba1, rdn_of bw, rdn_of bx0, rdn_of bx1, rdn_of bg]
  try refine ⟨p17, ?_⟩
  refine l_toTensor (hv1.pre ph) hl1' fun ve1 H18 p18 oe1 => ?_
  have l18 := pre_len p18
  have ph := ph.trans p18
  have ba0 := pre_get p18 ba0
  have ba1 := pre_get p18 ba1
  have bw := pre_get p18 bw
  have bx0 := pre_get p18 bx0
  have bx1 := pre_get p18 bx1
  have bg := pre_get p18 bg
  have ow := ow.pre p18
  have ox0 := ox0.pre p18
  have ox1 := ox1.pre p18
  have og := og.pre p18
  try simp (maxSteps := 3000000) (disch := first | omega | (simp only [len_new, len_put, len_kill]; omega)) only [↓xpre, xpost, ↓reduceIte, Nat.reduceEqDiff, Nat.reduceAdd, Nat.reduceSub, Nat.reduceLeDiff, Nat.zero_add, Nat.sub_zero, rdn_of ba0, rdn_of ba1, rdn_of bw, rdn_of bx0, rdn_of bx1, rdn_of bg]
  try refine ⟨p18, ?_⟩
  refine l_eqTensor ox1.ints oe1.ints hl1' fun H19 p19 => ?_
  have l19 := pre_len p19
  have ph := ph.trans p19
  have ba0 := pre_get p19 ba0
  have ba1 := pre_get p19 ba1
  have bw := pre_get p19 bw
  have bx0 := pre_get p19 bx0
  have bx1 := pre_get p19 bx1
  have bg := pre_get p19 bg
  have ow := ow.pre p19
  have ox0 := ox0.pre p19
  have ox1 := ox1.pre p19
  have og := og.pre p19
  try simp (maxSteps := 3000000) (disch := first | omega | (simp only [len_new, len_put, len_kill]; omega)) only [↓xpre, xpost, ↓reduceIte, Nat.reduceEqDiff, Nat.reduceAdd, Nat.reduceSub, Nat.reduceLeDiff, Nat.zero_add, Nat.sub_zero, rdn_of ba0, rdn_of ba1, rdn_of bw, rdn_of bx0, rdn_of bx1, rdn_of bg]
  try refine ⟨p19, ?_⟩
  try simp (maxSteps := 3000000) (disch := first | omega | (simp only [len_new, len_put, len_kill]; omega)) only [↓xpre, xpost, ↓reduceIte, Nat.reduceEqDiff, Nat.reduceAdd, Nat.reduceSub, Nat.reduceLeDiff, Nat.zero_add, Nat.sub_zero, rdn_of ba0, rdn_of ba1, rdn_of bw, rdn_of bx0, rdn_of bx1, rdn_of bg]
  try refine ⟨p19, ?_⟩
  refine l_markTensor (t := t0) ox0 hl0' (by omega) fun J20 H20 p20 w20 ox0' => ?_
  have l20 := pre_len p20
  have ll20 := w20.len
  have ph := ph.trans p20
  have ba0 := pre_get p20 ba0
  have ba1 := pre_get p20 ba1
  have bw := pre_get p20 bw
  have bx0 := pre_get p20 bx0
  have bx1 := pre_get p20 bx1
  have bg := pre_get p20 bg
  have ow := ow.pre p20
  have ox0 := ox0.pre p20
  have ox1 := ox1.pre p20
  have og := og.pre p20
  have ph := w20.pre ph (fun n hn => by have := kx0 n hn; omega)
  have ba0 := only_get w20 ba0 (fun n hn e => by have := kx0 n hn; omega)
  have ba1 := only_get w20 ba1 (fun n hn e => by have := kx0 n hn; omega)
  have bw := only_get w20 bw (fun n hn e => by have := kx0 n hn; omega)
  have bx0 := only_get w20 bx0 (fun n hn e => by have := kx0 n hn; omega)
  have bx1 := only_get w20 bx1 (fun n hn e => by have := kx0 n hn; omega)
  have bg := only_get w20 bg (fun n hn e => by have := kx0 n hn; omega)
  have ow := ow.only' w20 (fun n hn => .inr fun e => by have q1 := kx0 n hn; have q2 := kw n e; omega)
  have ox1 := ox1.only' w20 (fun n hn => .inr fun e => by have q1 := kx0 n hn; have q2 := kx1 n e; omega)
  have og := og.only' w20 (fun n hn => .inr fun e => by have q1 := kx0 n hn; have q2 := kg n e; omega)
  have ox0 := ox0'
  try simp (maxSteps := 3000000) (disch := first | omega | (simp only [len_new, len_put, len_kill]; omega)) only [↓xpre, xpost, ↓reduceIte, Nat.reduceEqDiff, Nat.reduceAdd, Nat.reduceSub, Nat.reduceLeDiff, Nat.zero_add, Nat.sub_zero, rdn_of ba0, rdn_of ba1, rdn_of bw, rdn_of bx0, rdn_of bx1, rdn_of bg]
  try refine ⟨p20, ?_⟩
  refine l_markTensor (t := t1) ox1 hl1' (by omega) fun J21 H21 p21 w21 ox1' => ?_
  have l21 := pre_len p21
  have ll21 := w21.len
  have ph := ph.trans p21
  have ba0 := pre_get p21 ba0
  have ba1 := pre_get p21 ba1
  have bw := pre_get p21 bw
  have bx0 := pre_get p21 bx0
  have bx1 := pre_get p21 bx1
  have bg := pre_get p21 bg
  have ow := ow.pre p21
  have ox1 := ox1.pre p21
  have og := og.pre p21
  have ph := w21.pre ph (fun n hn => by have := kx1 n hn; omega)
  have ba0 := only_get w21 ba0 (fun n hn e => by have := kx1 n hn; omega)
  have ba1 := only_get w21 ba1 (fun n hn e => by have := kx1 n hn; omega)
  have bw := only_get w21 bw (fun n hn e => by have := kx1 n hn; omega)
  have bx0 := only_get w21 bx0 (fun n hn e => by have := kx1 n hn; omega)
  have bx1 := only_get w21 bx1 (fun n hn e => by have := kx1 n hn; omega)
  have bg := only_get w21 bg (fun n hn e => by have := kx1 n hn; omega)
  have ow := ow.only' w21 (fun n hn => .inr fun e => by have q1 := kx1 n hn; have q2 := kw n e; omega)
  have og := og.only' w21 (fun n hn => .inr fun e => by have q1 := kx1 n hn; have q2 := kg n e; omega)
  have ox1 := ox1'
  try simp (maxSteps := 3000000) (disch := first | omega | (simp only [len_new, len_put, len_kill]; omega)) only [↓xpre, xpost, ↓reduceIte, Nat.reduceEqDiff, Nat.reduceAdd, Nat.reduceSub, Nat.reduceLeDiff, Nat.zero_add, Nat.sub_zero, rdn_of ba0, rdn_of ba1, rdn_of bw, rdn_of bx0, rdn_of bx1, rdn_of bg, IfW_dec]
  rw [decide_eq_false (by omega)]
  try simp (maxSteps := 3000000) (disch := first | omega | (simp only [len_new, len_put, len_kill]; omega)) only [↓xpre, xpost, ↓reduceIte, Nat.reduceEqDiff, Nat.reduceAdd, Nat.reduceSub, Nat.reduceLeDiff, Nat.zero_add, Nat.sub_zero, rdn_of ba0, rdn_of ba1, rdn_of bw, rdn_of bx0, rdn_of bx1, rdn_of bg]
  try refine ⟨p21, ?_⟩
  refine l_eqTensor og.ints ow.ints hlR fun H22 p22 => ?_
  have l22 := pre_len p22
  have ph := ph.trans p22
  have ba0 := pre_get p22 ba0
  have ba1 := pre_get p22 ba1
  have bw := pre_get p22 bw
  have bx0 := pre_get p22 bx0
  have bx1 := pre_get p22 bx1
  have bg := pre_get p22 bg
  have ow := ow.pre p22
  have og := og.pre p22
  try simp (maxSteps := 3000000) (disch := first | omega | (simp only [len_new, len_put, len_kill]; omega)) only [↓xpre, xpost, ↓reduceIte, Nat.reduceEqDiff, Nat.reduceAdd, Nat.reduceSub, Nat.reduceLeDiff, Nat.zero_add, Nat.sub_zero, ne_eq, not_true_eq_false, rdn_of ba0, rdn_of ba1, rdn_of bw, rdn_of bx0, rdn_of bx1, rdn_of bg]
  try refine ⟨p22, ?_⟩
  try simp (maxSteps := 3000000) (disch := first | omega | (simp only [len_new, len_put, len_kill]; omega)) only [↓xpre, xpost, ↓reduceIte, Nat.reduceEqDiff, Nat.reduceAdd, Nat.reduceSub, Nat.reduceLeDiff, Nat.zero_add, Nat.sub_zero, rdn_of ba0, rdn_of ba1, rdn_of bw, rdn_of bx0, rdn_of bx1, rdn_of bg]
  try refine ⟨p22, ?_⟩
  refine l_markTensor (t := (dsR t0 t1).1) og hlR (by omega) fun J23 H23 p23 w23 og' => ?_
  have l23 := pre_len p23
  have ll23 := w23.len
  have ph := ph.trans p23
  have ba0 := pre_get p23 ba0
  have ba1 := pre_get p23 ba1
  have bw := pre_get p23 bw
  have bx0 := pre_get p23 bx0
  have bx1 := pre_get p23 bx1
  have bg := pre_get p23 bg
  have ow := ow.pre p23
  have og := og.pre p23
  have ph := w23.pre ph (fun n hn => by have := kg n hn; omega)
  have ba0 := only_get w23 ba0 (fun n hn e => by have := kg n hn; omega)
  have ba1 := only_get w23 ba1 (fun n hn e => by have := kg n hn; omega)
  have bw := only_get w23 bw (fun n hn e => by have := kg n hn; omega)
  have bx0 := only_get w23 bx0 (fun n hn e => by have := kg n hn; omega)
  have bx1 := only_get w23 bx1 (fun n hn e => by have := kg n hn; omega)
  have bg := only_get w23 bg (fun n hn e => by have := kg n hn; omega)
  have ow := ow.only' w23 (fun n hn => .inr fun e => by have q1 := kg n hn; have q2 := kw n e; omega)
  have og := og'
  try simp (maxSteps := 3000000) (disch := first | omega | (simp only [len_new, len_put, len_kill]; omega)) only [↓xpre, xpost, ↓reduceIte, Nat.reduceEqDiff, Nat.reduceAdd, Nat.reduceSub, Nat.reduceLeDiff, Nat.zero_add, Nat.sub_zero, ne_eq, not_true_eq_false, rdn_of ba0, rdn_of ba1, rdn_of bw, rdn_of bx0, rdn_of bx1, rdn_of bg]
  try refine ⟨p23, ?_⟩
  refine l_heldTensor (t := (dsR t0 t1).1) og.ints hlR (by omega) fun H24 p24 => ?_
  have l24 := pre_len p24
  have ph := ph.trans p24
  have ba0 := pre_get p24 ba0
  have ba1 := pre_get p24 ba1
  have bw := pre_get p24 bw
  have bx0 := pre_get p24 bx0
  have bx1 := pre_get p24 bx1
  have bg := pre_get p24 bg
  have ow := ow.pre p24
  have og := og.pre p24
  try simp (maxSteps := 3000000) (disch := first | omega | (simp only [len_new, len_put, len_kill]; omega)) only [↓xpre, xpost, ↓reduceIte, Nat.reduceEqDiff, Nat.reduceAdd, Nat.reduceSub, Nat.reduceLeDiff, Nat.zero_add, Nat.sub_zero, IfW_dec, ne_eq, not_true_eq_false, rdn_of ba0, rdn_of ba1, rdn_of bw, rdn_of bx0, rdn_of bx1, rdn_of bg]
  try refine ⟨p24, ?_⟩
  refine ⟨fun hlt => by omega, fun _ => ?_⟩
  try simp (maxSteps := 3000000) (disch := first | omega | (simp only [len_new, len_put, len_kill]; omega)) only [↓xpre, xpost, ↓reduceIte, Nat.reduceEqDiff, Nat.reduceAdd, Nat.reduceSub, Nat.reduceLeDiff, Nat.zero_add, Nat.sub_zero, rdn_of ba0, rdn_of ba1, rdn_of bw, rdn_of bx0, rdn_of bx1, rdn_of bg]
  try refine ⟨p24, ?_⟩
  refine l_toTensor (hv0.pre ph) hl0' fun vd0 H25 p25 od0 => ?_
  have l25 := pre_len p25
  have ph := ph.trans p25
  have ba0 := pre_get p25 ba0
  have ba1 := pre_get p25 ba1
  have bw := pre_get p25 bw
  have bx0 := pre_get p25 bx0
  have bx1 := pre_get p25 bx1
  have bg := pre_get p25 bg
  have ow := ow.pre p25
  have og := og.pre p25
  try simp (maxSteps := 3000000) (disch := first | omega | (simp only [len_new, len_put, len_kill]; omega)) only [↓xpre, xpost, ↓reduceIte, Nat.reduceEqDiff, Nat.reduceAdd, Nat.reduceSub, Nat.reduceLeDiff, Nat.zero_add, Nat.sub_zero, rdn_of ba0, rdn_of ba1, rdn_of bw, rdn_of bx0, rdn_of bx1, rdn_of bg]
  try refine ⟨p25, ?_⟩
  refine l_toTensor (hv1.pre ph) hl1' fun vd1 H26 p26 od1 => ?_
  have l26 := pre_len p26
  have ph := ph.trans p26
  have ba0 := pre_get p26 ba0
  have ba1 := pre_get p26 ba1
  have bw := pre_get p26 bw
  have bx0 := pre_get p26 bx0
  have bx1 := pre_get p26 bx1
  have bg := pre_get p26 bg
  have ow := ow.pre p26
  have og := og.pre p26
  have od0 := od0.pre p26
  try simp (maxSteps := 3000000) (disch := first | omega | (simp only [len_new, len_put, len_kill]; omega)) only [↓xpre, xpost, ↓reduceIte, Nat.reduceEqDiff, Nat.reduceAdd, Nat.reduceSub, Nat.reduceLeDiff, Nat.zero_add, Nat.sub_zero, rdn_of ba0, rdn_of ba1, rdn_of bw, rdn_of bx0, rdn_of bx1, rdn_of bg]
  try refine ⟨p26, ?_⟩
  refine i_DirectSum od0.ints hl0' od1.ints hl1' fun vh H27 p27 oh => ?_
  have l27 := pre_len p27
  have ph := ph.trans p27
  have ba0 := pre_get p27 ba0
  have ba1 := pre_get p27 ba1
  have bw := pre_get p27 bw
  have bx0 := pre_get p27 bx0
  have bx1 := pre_get p27 bx1
  have bg := pre_get p27 bg
  have ow := ow.pre p27
  have og := og.pre p27
  have od0 := od0.pre p27
  have od1 := od1.pre p27
  try simp (maxSteps := 3000000) (disch := first | omega | (simp only [len_new, len_put, len_kill]; omega)) only [↓xpre, xpost, ↓reduceIte, Nat.reduceEqDiff, Nat.reduceAdd, Nat.reduceSub, Nat.reduceLeDiff, Nat.zero_add, Nat.sub_zero, tenV, oh.ints.one, rdn_of ba0, rdn_of ba1, rdn_of bw, rdn_of bx0, rdn_of bx1, rdn_of bg]
  try refine ⟨p27, ?_⟩
  generalize hH28 : AH.new H27 _ = H28
  obtain ⟨bh, p28, l28⟩ := new_facts hH28
  have ph := ph.trans p28
  have ba0 := pre_get p28 ba0
  have ba1 := pre_get p28 ba1
  have bw := pre_get p28 bw
  have bx0 := pre_get p28 bx0
  have bx1 := pre_get p28 bx1
  have bg := pre_get p28 bg
  have ow := ow.pre p28
  have og := og.pre p28
  have oh := oh.pre p28
  try simp (maxSteps := 3000000) (disch := first | omega | (simp only [len_new, len_put, len_kill]; omega)) only [↓xpre, xpost, ↓reduceIte, Nat.reduceEqDiff, Nat.reduceAdd, Nat.reduceSub, Nat.reduceLeDiff, Nat.zero_add, Nat.sub_zero, rdn_of ba0, rdn_of ba1, rdn_of bw, rdn_of bx0, rdn_of bx1, rdn_of bg, rdn_of bh]
  try refine ⟨p28, ?_⟩
  refine l_eqTensor oh.ints ow.ints hlR fun H29 p29 => ?_
  have l29 := pre_len p29
  have ph := ph.trans p29
  have ba0 := pre_get p29 ba0
  have ba1 := pre_get p29 ba1
  have bw := pre_get p29 bw
  have bx0 := pre_get p29 bx0
  have bx1 := pre_get p29 bx1
  have bg := pre_get p29 bg
  have bh := pre_get p29 bh
  have ow := ow.pre p29
  have og := og.pre p29
  have oh := oh.pre p29
  try simp (maxSteps := 3000000) (disch := first | omega | (simp only [len_new, len_put, len_kill]; omega)) only [↓xpre, xpost, ↓reduceIte, Nat.reduceEqDiff, Nat.reduceAdd, Nat.reduceSub, Nat.reduceLeDiff, Nat.zero_add, Nat.sub_zero, ne_eq, not_true_eq_false, rdn_of ba0, rdn_of ba1, rdn_of bw, rdn_of bx0, rdn_of bx1, rdn_of bg, rdn_of bh]
  try refine ⟨p29, ?_⟩
  try simp (maxSteps := 3000000) (disch := first | omega | (simp only [len_new, len_put, len_kill]; omega)) only [↓xpre, xpost, ↓reduceIte, Nat.reduceEqDiff, Nat.reduceAdd, Nat.reduceSub, Nat.reduceLeDiff, Nat.zero_add, Nat.sub_zero, ne_eq, not_true_eq_false, rdn_of ba0, rdn_of ba1, rdn_of bw, rdn_of bx0, rdn_of bx1, rdn_of bg, rdn_of bh]
  try refine ⟨p29, ?_⟩
  refine l_heldTensor (t := (dsR t0 t1).1) og.ints hlR (by omega) fun H30 p30 => ?_
  have l30 := pre_len p30
  have ph := ph.trans p30
  have ba0 := pre_get p30 ba0
  have ba1 := pre_get p30 ba1
  have bw := pre_get p30 bw
  have bx0 := pre_get p30 bx0
  have bx1 := pre_get p30 bx1
  have bg := pre_get p30 bg
  have bh := pre_get p30 bh
  have ow := ow.pre p30
  have og := og.pre p30
  have oh := oh.pre p30
  try simp (maxSteps := 3000000) (disch := first | omega | (simp only [len_new, len_put, len_kill]; omega)) only [↓xpre, xpost, ↓reduceIte, Nat.reduceEqDiff, Nat.reduceAdd, Nat.reduceSub, Nat.reduceLeDiff, Nat.zero_add, Nat.sub_zero, IfW_dec, ne_eq, not_true_eq_false, rdn_of ba0, rdn_of ba1, rdn_of bw, rdn_of bx0, rdn_of bx1, rdn_of bg, rdn_of bh]
  try refine ⟨p30, ?_⟩
  refine ⟨fun hlt => by omega, fun _ => ?_⟩
  trivial

end Go.Proofs.Ytnjhhgfpclngcaa.X
