/- The law on RowRank, on the abstract machine. -/
import Derived.Test.YtnjhhgfpclngcaaXF29
set_option linter.unusedVariables false
set_option linter.unusedSimpArgs false
set_option maxRecDepth 20000
set_option maxHeartbeats 4000000
namespace Go.Proofs.Ytnjhhgfpclngcaa.X
open Go Go.RowKit

theorem tot_nn {rows : List (List Int)} : ∀ {i : Nat}, 0 ≤ tot rows i
  | 0 => by simp [tot]
  | i + 1 => by
    by_cases h : i < rows.length
    · rw [tot_succ h]
      have := tot_nn (rows := rows) (i := i)
      omega
    · have := tot_nn (rows := rows) (i := i)
      unfold tot at *
      rw [List.take_of_length_le (by omega)] at *
      exact this
theorem law_RowRank {n0 : Int} {v1 : Value} {t1 : List (List Int)} {h : AH} (hv1 : Rows h v1 t1) (hl1 : (t1.length : Int) ≤ 9223372036854775807) (hm1 : ∀ i, i < t1.length → ((t1.getD i []).length : Int) ≤ 9223372036854775807) :
    WF S 11 [I64 n0, v1] h (fun v _ => v = .bool true) := by
  refine WF_fn (fn := c11) rfl rfl ?_
  unfold c11
  try simp (maxSteps := 3000000) (disch := first | omega | (simp only [len_new, len_put, len_kill]; omega)) only [↓xpre, xpost, ↓reduceIte, Nat.reduceEqDiff, Nat.reduceAdd, Nat.reduceSub, Nat.reduceLeDiff, Nat.zero_add, Nat.sub_zero]
  refine l_szInt64SS hv1 (by omega) hl1 hm1 fun m hm hm' => ?_
  try simp (maxSteps := 3000000) (disch := first | omega | (simp only [len_new, len_put, len_kill]; omega)) only [↓xpre, xpost, ↓reduceIte, Nat.reduceEqDiff, Nat.reduceAdd, Nat.reduceSub, Nat.reduceLeDiff, Nat.zero_add, Nat.sub_zero, IfW_dec]
  refine ⟨fun _ => trivial, fun hm0 => ?_⟩
  obtain ⟨e1, e2⟩ := hm' (by omega)
  have tn := tot_nn (rows := t1) (i := t1.length)
  have hl : (t1.length : Int) ≤ 1048576 := by omega
  try simp (maxSteps := 3000000) (disch := first | omega | (simp only [len_new, len_put, len_kill]; omega)) only [↓xpre, xpost, ↓reduceIte, Nat.reduceEqDiff, Nat.reduceAdd, Nat.reduceSub, Nat.reduceLeDiff, Nat.zero_add, Nat.sub_zero]
  refine l_toInt64SS hv1 hl e2 fun v3 H3 p3 o3 => ?_
  try simp (maxSteps := 3000000) (disch := first | omega | (simp only [len_new, len_put, len_kill]; omega)) only [↓xpre, xpost, ↓reduceIte, Nat.reduceEqDiff, Nat.reduceAdd, Nat.reduceSub, Nat.reduceLeDiff, Nat.zero_add, Nat.sub_zero]
  refine s_RowRank o3.rows hl e2 fun H4 p4 => ?_
  try simp (maxSteps := 3000000) (disch := first | omega | (simp only [len_new, len_put, len_kill]; omega)) only [↓xpre, xpost, ↓reduceIte, Nat.reduceEqDiff, Nat.reduceAdd, Nat.reduceSub, Nat.reduceLeDiff, Nat.zero_add, Nat.sub_zero]
  refine l_toInt64SS (hv1.pre (p3.trans p4)) hl e2 fun v5 H5 p5 o5 => ?_
  try simp (maxSteps := 3000000) (disch := first | omega | (simp only [len_new, len_put, len_kill]; omega)) only [↓xpre, xpost, ↓reduceIte, Nat.reduceEqDiff, Nat.reduceAdd, Nat.reduceSub, Nat.reduceLeDiff, Nat.zero_add, Nat.sub_zero]
  refine i_RowRank i_rank o5.rows hl e2 fun H6 p6 => ?_
  try simp (maxSteps := 3000000) (disch := first | omega | (simp only [len_new, len_put, len_kill]; omega)) only [↓xpre, xpost, ↓reduceIte, Nat.reduceEqDiff, Nat.reduceAdd, Nat.reduceSub, Nat.reduceLeDiff, Nat.zero_add, Nat.sub_zero, ne_eq, not_true_eq_false]
  refine l_toInt64SS (hv1.pre (((p3.trans p4).trans p5).trans p6)) hl e2 fun v7 H7 p7 o7 => ?_
  try simp (maxSteps := 3000000) (disch := first | omega | (simp only [len_new, len_put, len_kill]; omega)) only [↓xpre, xpost, ↓reduceIte, Nat.reduceEqDiff, Nat.reduceAdd, Nat.reduceSub, Nat.reduceLeDiff, Nat.zero_add, Nat.sub_zero]

  refine l_eqInt64SS (o5.pre (p6.trans p7)).rows o7.rows hl e2 ?_
  try simp (maxSteps := 3000000) (disch := first | omega | (simp only [len_new, len_put, len_kill]; omega)) only [↓xpre, xpost, ↓reduceIte, Nat.reduceEqDiff, Nat.reduceAdd, Nat.reduceSub, Nat.reduceLeDiff, Nat.zero_add, Nat.sub_zero]
end Go.Proofs.Ytnjhhgfpclngcaa.X
