/- The law on NumberAt, on the abstract machine. -/
import Derived.Test.YtnjhhgfpclngcaaXF5
set_option linter.unusedVariables false
set_option linter.unusedSimpArgs false
namespace Go.Proofs.Ytnjhhgfpclngcaa.X
open Go Go.RowKit

theorem law_NumberAt {v : Value} {t : Ten} {i j k : Int} {h : AH} (hv : Ints h v t.ns) (hl : (t.ns.length : Int) ≤ 9223372036854775807) :
    WF S 5 [tenV t v, I64 i, I64 j, I64 k] h (fun v _ => v = .bool true) := by
  refine WF_fn (fn := c5) rfl rfl ?_
  unfold c5
  try simp (disch := first | omega | (simp only [len_new, len_put, len_kill]; omega)) only [↓xpre, xpost, ↓reduceIte, Nat.reduceEqDiff, Nat.reduceAdd, Nat.reduceSub, Nat.reduceLeDiff, Nat.zero_add, Nat.sub_zero, tenV, hv.one]
  generalize hH1 : AH.new h _ = H1
  obtain ⟨hb1, p1, n1⟩ := new_facts hH1
  refine l_szTensor (hv.pre p1) (by omega) hl fun m H2 p2 hm hm' => ?_
  have hb1 := pre_get p2 hb1
  have n2 := pre_len p2
  try simp (disch := first | omega | (simp only [len_new, len_put, len_kill]; omega)) only [↓xpre, xpost, ↓reduceIte, Nat.reduceEqDiff, Nat.reduceAdd, Nat.reduceSub, Nat.reduceLeDiff, Nat.zero_add, Nat.sub_zero, IfW_dec]
  refine ⟨fun _ => trivial, fun hm0 => ?_⟩
  have hl' := (hm' (by omega)).1
  try simp (disch := first | omega | (simp only [len_new, len_put, len_kill]; omega)) only [↓xpre, xpost, ↓reduceIte, Nat.reduceEqDiff, Nat.reduceAdd, Nat.reduceSub, Nat.reduceLeDiff, Nat.zero_add, Nat.sub_zero, rdn_of hb1]
  refine l_toTensor (hv.pre (p1.trans p2)) hl' fun v3 H3 p3 o3 => ?_
  have hb1 := pre_get p3 hb1
  have n3 := pre_len p3
  try simp (disch := first | omega | (simp only [len_new, len_put, len_kill]; omega)) only [↓xpre, xpost, ↓reduceIte, Nat.reduceEqDiff, Nat.reduceAdd, Nat.reduceSub, Nat.reduceLeDiff, Nat.zero_add, Nat.sub_zero]
  refine s_NumberAt o3.ints hl' fun H4 p4 => ?_
  have hb1 := pre_get p4 hb1
  have n4 := pre_len p4
  obtain ⟨a, b, hab⟩ := numAt_shape t i j k
  try simp (disch := first | omega | (simp only [len_new, len_put, len_kill]; omega)) only [↓xpre, xpost, ↓reduceIte, Nat.reduceEqDiff, Nat.reduceAdd, Nat.reduceSub, Nat.reduceLeDiff, Nat.zero_add, Nat.sub_zero, rdn_of hb1, hab]
  refine l_toTensor (hv.pre (((p1.trans p2).trans p3).trans p4)) hl' fun v5 H5 p5 o5 => ?_
  have hb1 := pre_get p5 hb1
  have n5 := pre_len p5
  try simp (disch := first | omega | (simp only [len_new, len_put, len_kill]; omega)) only [↓xpre, xpost, ↓reduceIte, Nat.reduceEqDiff, Nat.reduceAdd, Nat.reduceSub, Nat.reduceLeDiff, Nat.zero_add, Nat.sub_zero, tenV, o5.ints.one]
  generalize hH6 : AH.new H5 _ = H6
  obtain ⟨hb6, p6, n6⟩ := new_facts hH6
  have hb1 := pre_get p6 hb1
  have o6 := o5.pre p6
  refine i_NumberAt o6.ints hl' fun H7 p7 => ?_
  have hb1 := pre_get p7 hb1
  have hb6 := pre_get p7 hb6
  have o7 := o6.pre p7
  try simp (disch := first | omega | (simp only [len_new, len_put, len_kill]; omega)) only [↓xpre, xpost, ↓reduceIte, Nat.reduceEqDiff, Nat.reduceAdd, Nat.reduceSub, Nat.reduceLeDiff, Nat.zero_add, Nat.sub_zero, hab, ne_eq, not_true_eq_false, rdn_of hb1, rdn_of hb6]
  refine l_toTensor (hv.pre ((((((p1.trans p2).trans p3).trans p4).trans p5).trans p6).trans p7)) hl' fun v8 H8 p8 o8 => ?_
  try simp (disch := first | omega | (simp only [len_new, len_put, len_kill]; omega)) only [↓xpre, xpost, ↓reduceIte, Nat.reduceEqDiff, Nat.reduceAdd, Nat.reduceSub, Nat.reduceLeDiff, Nat.zero_add, Nat.sub_zero]
  refine ⟨p8, ?_⟩
  refine l_eqTensor (o7.pre p8).ints o8.ints hl' fun H9 p9 => ?_
  try simp (disch := first | omega | (simp only [len_new, len_put, len_kill]; omega)) only [↓xpre, xpost, ↓reduceIte, Nat.reduceEqDiff, Nat.reduceAdd, Nat.reduceSub, Nat.reduceLeDiff, Nat.zero_add, Nat.sub_zero]
end Go.Proofs.Ytnjhhgfpclngcaa.X
