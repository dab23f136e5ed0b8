/- The law on TurnTensor, on the abstract machine (printed by lawt.py). -/
import Derived.Test.YtnjhhgfpclngcaaXF9
set_option linter.unusedVariables false
set_option linter.unusedSimpArgs false
set_option maxRecDepth 20000
set_option maxHeartbeats 4000000
namespace Go.Proofs.Ytnjhhgfpclngcaa.X
open Go Go.RowKit

theorem law_TurnTensor {v0 : Value} {t0 : Ten} {h : AH} (hv0 : Ints h v0 t0.ns) (hl0 : (t0.ns.length : Int) ≤ 9223372036854775807) :
    WF S 7 [tenV t0 v0] h (fun v _ => v = .bool true) := by
  refine WF_fn (fn := c7) rfl rfl ?_
  unfold c7
  try simp (maxSteps := 3000000) (disch := first | omega | (simp only [len_new, len_put, len_kill]; omega)) only [↓xpre, xpost, ↓reduceIte, Nat.reduceEqDiff, Nat.reduceAdd, Nat.reduceSub, Nat.reduceLeDiff, Nat.zero_add, Nat.sub_zero, tenV, hv0.one]
  have ph : h <+: h := List.prefix_refl h
  generalize hH1 : AH.new h _ = H1
  obtain ⟨ba0, p1, l1⟩ := new_facts hH1
  have ph := ph.trans p1
  refine l_szTensor (hv0.pre ph) (by omega) hl0 fun m0 H2 p2 hm0 hm0' => ?_
  have l2 := pre_len p2
  have ph := ph.trans p2
  have ba0 := pre_get p2 ba0
  try simp (maxSteps := 3000000) (disch := first | omega | (simp only [len_new, len_put, len_kill]; omega)) only [↓xpre, xpost, ↓reduceIte, Nat.reduceEqDiff, Nat.reduceAdd, Nat.reduceSub, Nat.reduceLeDiff, Nat.zero_add, Nat.sub_zero, IfW_dec]
  refine ⟨fun _ => trivial, fun hm0z => ?_⟩
  have hl0' : (t0.ns.length : Int) ≤ 1048576 := by have := (hm0' (by omega)).1; omega
  try simp (maxSteps := 3000000) (disch := first | omega | (simp only [len_new, len_put, len_kill]; omega)) only [↓xpre, xpost, ↓reduceIte, Nat.reduceEqDiff, Nat.reduceAdd, Nat.reduceSub, Nat.reduceLeDiff, Nat.zero_add, Nat.sub_zero, rdn_of ba0]
  refine l_toTensor (hv0.pre ph) hl0' fun vc0 H3 p3 oc0 => ?_
  have l3 := pre_len p3
  have ph := ph.trans p3
  have ba0 := pre_get p3 ba0
  try simp (maxSteps := 3000000) (disch := first | omega | (simp only [len_new, len_put, len_kill]; omega)) only [↓xpre, xpost, ↓reduceIte, Nat.reduceEqDiff, Nat.reduceAdd, Nat.reduceSub, Nat.reduceLeDiff, Nat.zero_add, Nat.sub_zero, rdn_of ba0]
  refine s_TurnTensor oc0.ints hl0' fun vw H4 p4 ow => ?_
  have l4 := pre_len p4
  have ph := ph.trans p4
  have ba0 := pre_get p4 ba0
  have oc0 := oc0.pre p4
  have kw : ∀ n, blkOf vw = some n → H3.length ≤ n ∧ n < H4.length := ow.blk
  try simp (maxSteps := 3000000) (disch := first | omega | (simp only [len_new, len_put, len_kill]; omega)) only [↓xpre, xpost, ↓reduceIte, Nat.reduceEqDiff, Nat.reduceAdd, Nat.reduceSub, Nat.reduceLeDiff, Nat.zero_add, Nat.sub_zero, tenV, ow.ints.one, rdn_of ba0]
  generalize hH5 : AH.new H4 _ = H5
  obtain ⟨bw, p5, l5⟩ := new_facts hH5
  have ph := ph.trans p5
  have ba0 := pre_get p5 ba0
  have oc0 := oc0.pre p5
  have ow := ow.pre p5
  try simp (maxSteps := 3000000) (disch := first | omega | (simp only [len_new, len_put, len_kill]; omega)) only [↓xpre, xpost, ↓reduceIte, Nat.reduceEqDiff, Nat.reduceAdd, Nat.reduceSub, Nat.reduceLeDiff, Nat.zero_add, Nat.sub_zero, rdn_of ba0, rdn_of bw]
  refine l_toTensor (hv0.pre ph) hl0' fun vx0 H6 p6 ox0 => ?_
  have l6 := pre_len p6
  have ph := ph.trans p6
  have ba0 := pre_get p6 ba0
  have bw := pre_get p6 bw
  have ow := ow.pre p6
  have kx0 : ∀ n, blkOf vx0 = some n → H5.length ≤ n ∧ n < H6.length := ox0.ownR.blk
  have ox0 := ox0.ownR
  try simp (maxSteps := 3000000) (disch := first | omega | (simp only [len_new, len_put, len_kill]; omega)) only [↓xpre, xpost, ↓reduceIte, Nat.reduceEqDiff, Nat.reduceAdd, Nat.reduceSub, Nat.reduceLeDiff, Nat.zero_add, Nat.sub_zero, tenV, ox0.ints.one, rdn_of ba0, rdn_of bw]
  generalize hH7 : AH.new H6 _ = H7
  obtain ⟨bx0, p7, l7⟩ := new_facts hH7
  have ph := ph.trans p7
  have ba0 := pre_get p7 ba0
  have bw := pre_get p7 bw
  have ow := ow.pre p7
  have ox0 := ox0.pre p7
  try simp (maxSteps := 3000000) (disch := first | omega | (simp only [len_new, len_put, len_kill]; omega)) only [↓xpre, xpost, ↓reduceIte, Nat.reduceEqDiff, Nat.reduceAdd, Nat.reduceSub, Nat.reduceLeDiff, Nat.zero_add, Nat.sub_zero, rdn_of ba0, rdn_of bw, rdn_of bx0]
  refine i_TurnTensor ox0.ints hl0' fun vg H8 p8 og => ?_
  have l8 := pre_len p8
  have ph := ph.trans p8
  have ba0 := pre_get p8 ba0
  have bw := pre_get p8 bw
  have bx0 := pre_get p8 bx0
  have ow := ow.pre p8
  have ox0 := ox0.pre p8
  have kg : ∀ n, blkOf vg = some n → H7.length ≤ n ∧ n < H8.length := og.blk
  try simp (maxSteps := 3000000) (disch := first | omega | (simp only [len_new, len_put, len_kill]; omega)) only [↓xpre, xpost, ↓reduceIte, Nat.reduceEqDiff, Nat.reduceAdd, Nat.reduceSub, Nat.reduceLeDiff, Nat.zero_add, Nat.sub_zero, tenV, og.ints.one, rdn_of ba0, rdn_of bw, rdn_of bx0]
  generalize hH9 : AH.new H8 _ = H9
  obtain ⟨bg, p9, l9⟩ := new_facts hH9
  have ph := ph.trans p9
  have ba0 := pre_get p9 ba0
  have bw := pre_get p9 bw
  have bx0 := pre_get p9 bx0
  have ow := ow.pre p9
  have ox0 := ox0.pre p9
  have og := og.pre p9
  have hlR := turnR_len t0
  try simp (maxSteps := 3000000) (disch := first | omega | (simp only [len_new, len_put, len_kill]; omega)) only [↓xpre, xpost, ↓reduceIte, Nat.reduceEqDiff, Nat.reduceAdd, Nat.reduceSub, Nat.reduceLeDiff, Nat.zero_add, Nat.sub_zero, rdn_of ba0, rdn_of bw, rdn_of bx0, rdn_of bg]
  refine l_eqTensor og.ints ow.ints hlR fun H10 p10 => ?_
  have l10 := pre_len p10
  have ph := ph.trans p10
  have ba0 := pre_get p10 ba0
  have bw := pre_get p10 bw
  have bx0 := pre_get p10 bx0
  have bg := pre_get p10 bg
  have ow := ow.pre p10
  have ox0 := ox0.pre p10
  have og := og.pre p10
  try simp (maxSteps := 3000000) (disch := first | omega | (simp only [len_new, len_put, len_kill]; omega)) only [↓xpre, xpost, ↓reduceIte, Nat.reduceEqDiff, Nat.reduceAdd, Nat.reduceSub, Nat.reduceLeDiff, Nat.zero_add, Nat.sub_zero, ne_eq, not_true_eq_false, rdn_of ba0, rdn_of bw, rdn_of bx0, rdn_of bg]
  try simp (maxSteps := 3000000) (disch := first | omega | (simp only [len_new, len_put, len_kill]; omega)) only [↓xpre, xpost, ↓reduceIte, Nat.reduceEqDiff, Nat.reduceAdd, Nat.reduceSub, Nat.reduceLeDiff, Nat.zero_add, Nat.sub_zero, ne_eq, not_true_eq_false, rdn_of ba0, rdn_of bw, rdn_of bx0, rdn_of bg]
  refine l_toTensor (hv0.pre ph) hl0' fun ve0 H11 p11 oe0 => ?_
  have l11 := pre_len p11
  have ph := ph.trans p11
  have ba0 := pre_get p11 ba0
  have bw := pre_get p11 bw
  have bx0 := pre_get p11 bx0
  have bg := pre_get p11 bg
  have ow := ow.pre p11
  have ox0 := ox0.pre p11
  have og := og.pre p11
  try simp (maxSteps := 3000000) (disch := first | omega | (simp only [len_new, len_put, len_kill]; omega)) only [↓xpre, xpost, ↓reduceIte, Nat.reduceEqDiff, Nat.reduceAdd, Nat.reduceSub, Nat.reduceLeDiff, Nat.zero_add, Nat.sub_zero, rdn_of ba0, rdn_of bw, rdn_of bx0, rdn_of bg]
  refine ⟨p11, ?_⟩
  refine l_eqTensor ox0.ints oe0.ints hl0' fun H12 p12 => ?_
  have l12 := pre_len p12
  have ph := ph.trans p12
  have ba0 := pre_get p12 ba0
  have bw := pre_get p12 bw
  have bx0 := pre_get p12 bx0
  have bg := pre_get p12 bg
  have ow := ow.pre p12
  have ox0 := ox0.pre p12
  have og := og.pre p12
  try simp (maxSteps := 3000000) (disch := first | omega | (simp only [len_new, len_put, len_kill]; omega)) only [↓xpre, xpost, ↓reduceIte, Nat.reduceEqDiff, Nat.reduceAdd, Nat.reduceSub, Nat.reduceLeDiff, Nat.zero_add, Nat.sub_zero, rdn_of ba0, rdn_of bw, rdn_of bx0, rdn_of bg]
  try simp (maxSteps := 3000000) (disch := first | omega | (simp only [len_new, len_put, len_kill]; omega)) only [↓xpre, xpost, ↓reduceIte, Nat.reduceEqDiff, Nat.reduceAdd, Nat.reduceSub, Nat.reduceLeDiff, Nat.zero_add, Nat.sub_zero, rdn_of ba0, rdn_of bw, rdn_of bx0, rdn_of bg]
  refine l_markTensor (t := t0) ox0 hl0' (by omega) fun J13 H13 p13 w13 ox0' => ?_
  have l13 := pre_len p13
  have ll13 := w13.len
  have ph := ph.trans p13
  have ba0 := pre_get p13 ba0
  have bw := pre_get p13 bw
  have bx0 := pre_get p13 bx0
  have bg := pre_get p13 bg
  have ow := ow.pre p13
  have ox0 := ox0.pre p13
  have og := og.pre p13
  have ph := w13.pre ph (fun n hn => by have := kx0 n hn; omega)
  have ba0 := only_get w13 ba0 (fun n hn e => by have := kx0 n hn; omega)
  have bw := only_get w13 bw (fun n hn e => by have := kx0 n hn; omega)
  have bx0 := only_get w13 bx0 (fun n hn e => by have := kx0 n hn; omega)
  have bg := only_get w13 bg (fun n hn e => by have := kx0 n hn; omega)
  have ow := ow.only' w13 (fun n hn => .inr fun e => by have q1 := kx0 n hn; have q2 := kw n e; omega)
  have og := og.only' w13 (fun n hn => .inr fun e => by have q1 := kx0 n hn; have q2 := kg n e; omega)
  have ox0 := ox0'
  try simp (maxSteps := 3000000) (disch := first | omega | (simp only [len_new, len_put, len_kill]; omega)) only [↓xpre, xpost, ↓reduceIte, Nat.reduceEqDiff, Nat.reduceAdd, Nat.reduceSub, Nat.reduceLeDiff, Nat.zero_add, Nat.sub_zero, rdn_of ba0, rdn_of bw, rdn_of bx0, rdn_of bg, IfW_dec]
  rw [decide_eq_false (by omega)]
  try simp (maxSteps := 3000000) (disch := first | omega | (simp only [len_new, len_put, len_kill]; omega)) only [↓xpre, xpost, ↓reduceIte, Nat.reduceEqDiff, Nat.reduceAdd, Nat.reduceSub, Nat.reduceLeDiff, Nat.zero_add, Nat.sub_zero, rdn_of ba0, rdn_of bw, rdn_of bx0, rdn_of bg]
  refine l_eqTensor og.ints ow.ints hlR fun H14 p14 => ?_
  have l14 := pre_len p14
  have ph := ph.trans p14
  have ba0 := pre_get p14 ba0
  have bw := pre_get p14 bw
  have bx0 := pre_get p14 bx0
  have bg := pre_get p14 bg
  have ow := ow.pre p14
  have og := og.pre p14
  try simp (maxSteps := 3000000) (disch := first | omega | (simp only [len_new, len_put, len_kill]; omega)) only [↓xpre, xpost, ↓reduceIte, Nat.reduceEqDiff, Nat.reduceAdd, Nat.reduceSub, Nat.reduceLeDiff, Nat.zero_add, Nat.sub_zero, ne_eq, not_true_eq_false, rdn_of ba0, rdn_of bw, rdn_of bx0, rdn_of bg]
  try simp (maxSteps := 3000000) (disch := first | omega | (simp only [len_new, len_put, len_kill]; omega)) only [↓xpre, xpost, ↓reduceIte, Nat.reduceEqDiff, Nat.reduceAdd, Nat.reduceSub, Nat.reduceLeDiff, Nat.zero_add, Nat.sub_zero, rdn_of ba0, rdn_of bw, rdn_of bx0, rdn_of bg]
  refine l_markTensor (t := (turnR t0).1) og hlR (by omega) fun J15 H15 p15 w15 og' => ?_
  have l15 := pre_len p15
  have ll15 := w15.len
  have ph := ph.trans p15
  have ba0 := pre_get p15 ba0
  have bw := pre_get p15 bw
  have bx0 := pre_get p15 bx0
  have bg := pre_get p15 bg
  have ow := ow.pre p15
  have og := og.pre p15
  have ph := w15.pre ph (fun n hn => by have := kg n hn; omega)
  have ba0 := only_get w15 ba0 (fun n hn e => by have := kg n hn; omega)
  have bw := only_get w15 bw (fun n hn e => by have := kg n hn; omega)
  have bx0 := only_get w15 bx0 (fun n hn e => by have := kg n hn; omega)
  have bg := only_get w15 bg (fun n hn e => by have := kg n hn; omega)
  have ow := ow.only' w15 (fun n hn => .inr fun e => by have q1 := kg n hn; have q2 := kw n e; omega)
  have og := og'
  try simp (maxSteps := 3000000) (disch := first | omega | (simp only [len_new, len_put, len_kill]; omega)) only [↓xpre, xpost, ↓reduceIte, Nat.reduceEqDiff, Nat.reduceAdd, Nat.reduceSub, Nat.reduceLeDiff, Nat.zero_add, Nat.sub_zero, ne_eq, not_true_eq_false, rdn_of ba0, rdn_of bw, rdn_of bx0, rdn_of bg]
  refine l_heldTensor (t := (turnR t0).1) og.ints hlR (by omega) fun H16 p16 => ?_
  have l16 := pre_len p16
  have ph := ph.trans p16
  have ba0 := pre_get p16 ba0
  have bw := pre_get p16 bw
  have bx0 := pre_get p16 bx0
  have bg := pre_get p16 bg
  have ow := ow.pre p16
  have og := og.pre p16
  try simp (maxSteps := 3000000) (disch := first | omega | (simp only [len_new, len_put, len_kill]; omega)) only [↓xpre, xpost, ↓reduceIte, Nat.reduceEqDiff, Nat.reduceAdd, Nat.reduceSub, Nat.reduceLeDiff, Nat.zero_add, Nat.sub_zero, IfW_dec, ne_eq, not_true_eq_false, rdn_of ba0, rdn_of bw, rdn_of bx0, rdn_of bg]
  refine ⟨fun hlt => by omega, fun _ => ?_⟩
  try simp (maxSteps := 3000000) (disch := first | omega | (simp only [len_new, len_put, len_kill]; omega)) only [↓xpre, xpost, ↓reduceIte, Nat.reduceEqDiff, Nat.reduceAdd, Nat.reduceSub, Nat.reduceLeDiff, Nat.zero_add, Nat.sub_zero, rdn_of ba0, rdn_of bw, rdn_of bx0, rdn_of bg]
  refine l_toTensor (hv0.pre ph) hl0' fun vd0 H17 p17 od0 => ?_
  have l17 := pre_len p17
  have ph := ph.trans p17
  have ba0 := pre_get p17 ba0
  have bw := pre_get p17 bw
  have bx0 := pre_get p17 bx0
  have bg := pre_get p17 bg
  have ow := ow.pre p17
  have og := og.pre p17
  try simp (maxSteps := 3000000) (disch := first | omega | (simp only [len_new, len_put, len_kill]; omega)) only [↓xpre, xpost, ↓reduceIte, Nat.reduceEqDiff, Nat.reduceAdd, Nat.reduceSub, Nat.reduceLeDiff, Nat.zero_add, Nat.sub_zero, rdn_of ba0, rdn_of bw, rdn_of bx0, rdn_of bg]
  refine i_TurnTensor od0.ints hl0' fun vh H18 p18 oh => ?_
  have l18 := pre_len p18
  have ph := ph.trans p18
  have ba0 := pre_get p18 ba0
  have bw := pre_get p18 bw
  have bx0 := pre_get p18 bx0
  have bg := pre_get p18 bg
  have ow := ow.pre p18
  have og := og.pre p18
  have od0 := od0.pre p18
  try simp (maxSteps := 3000000) (disch := first | omega | (simp only [len_new, len_put, len_kill]; omega)) only [↓xpre, xpost, ↓reduceIte, Nat.reduceEqDiff, Nat.reduceAdd, Nat.reduceSub, Nat.reduceLeDiff, Nat.zero_add, Nat.sub_zero, tenV, oh.ints.one, rdn_of ba0, rdn_of bw, rdn_of bx0, rdn_of bg]
  generalize hH19 : AH.new H18 _ = H19
  obtain ⟨bh, p19, l19⟩ := new_facts hH19
  have ph := ph.trans p19
  have ba0 := pre_get p19 ba0
  have bw := pre_get p19 bw
  have bx0 := pre_get p19 bx0
  have bg := pre_get p19 bg
  have ow := ow.pre p19
  have og := og.pre p19
  have oh := oh.pre p19
  try simp (maxSteps := 3000000) (disch := first | omega | (simp only [len_new, len_put, len_kill]; omega)) only [↓xpre, xpost, ↓reduceIte, Nat.reduceEqDiff, Nat.reduceAdd, Nat.reduceSub, Nat.reduceLeDiff, Nat.zero_add, Nat.sub_zero, rdn_of ba0, rdn_of bw, rdn_of bx0, rdn_of bg, rdn_of bh]
  refine l_eqTensor oh.ints ow.ints hlR fun H20 p20 => ?_
  have l20 := pre_len p20
  have ph := ph.trans p20
  have ba0 := pre_get p20 ba0
  have bw := pre_get p20 bw
  have bx0 := pre_get p20 bx0
  have bg := pre_get p20 bg
  have bh := pre_get p20 bh
  have ow := ow.pre p20
  have og := og.pre p20
  have oh := oh.pre p20
  try simp (maxSteps := 3000000) (disch := first | omega | (simp only [len_new, len_put, len_kill]; omega)) only [↓xpre, xpost, ↓reduceIte, Nat.reduceEqDiff, Nat.reduceAdd, Nat.reduceSub, Nat.reduceLeDiff, Nat.zero_add, Nat.sub_zero, ne_eq, not_true_eq_false, rdn_of ba0, rdn_of bw, rdn_of bx0, rdn_of bg, rdn_of bh]
  try simp (maxSteps := 3000000) (disch := first | omega | (simp only [len_new, len_put, len_kill]; omega)) only [↓xpre, xpost, ↓reduceIte, Nat.reduceEqDiff, Nat.reduceAdd, Nat.reduceSub, Nat.reduceLeDiff, Nat.zero_add, Nat.sub_zero, ne_eq, not_true_eq_false, rdn_of ba0, rdn_of bw, rdn_of bx0, rdn_of bg, rdn_of bh]
  refine l_heldTensor (t := (turnR t0).1) og.ints hlR (by omega) fun H21 p21 => ?_
  have l21 := pre_len p21
  have ph := ph.trans p21
  have ba0 := pre_get p21 ba0
  have bw := pre_get p21 bw
  have bx0 := pre_get p21 bx0
  have bg := pre_get p21 bg
  have bh := pre_get p21 bh
  have ow := ow.pre p21
  have og := og.pre p21
  have oh := oh.pre p21
  try simp (maxSteps := 3000000) (disch := first | omega | (simp only [len_new, len_put, len_kill]; omega)) only [↓xpre, xpost, ↓reduceIte, Nat.reduceEqDiff, Nat.reduceAdd, Nat.reduceSub, Nat.reduceLeDiff, Nat.zero_add, Nat.sub_zero, IfW_dec, ne_eq, not_true_eq_false, rdn_of ba0, rdn_of bw, rdn_of bx0, rdn_of bg, rdn_of bh]
  refine ⟨fun hlt => by omega, fun _ => ?_⟩
  trivial

end Go.Proofs.Ytnjhhgfpclngcaa.X
