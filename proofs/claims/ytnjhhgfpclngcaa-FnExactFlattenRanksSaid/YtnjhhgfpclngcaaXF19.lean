/- Matrices modulo a prime: the test; copies of one list. -/
import Derived.Test.YtnjhhgfpclngcaaXF18
set_option linter.unusedVariables false
set_option linter.unusedSimpArgs false
set_option maxRecDepth 20000
set_option maxHeartbeats 4000000
namespace Go.Proofs.Ytnjhhgfpclngcaa.X
open Go Go.RowKit

def isMat (p cols : Int) (rows : List (List Int)) : Bool := rows.all fun r => decide ((r.length : Int) = cols) && allIn p r
theorem isMat_iff {p cols : Int} {rows : List (List Int)} : isMat p cols rows = true ↔ ∀ j, j < rows.length → ((rows.getD j []).length : Int) = cols ∧ allIn p (rows.getD j []) = true := by
  simp only [isMat, List.all_eq_true, Bool.and_eq_true, decide_eq_true_eq]
  constructor
  · intro h j hj
    exact h _ (by simp [List.getD_eq_getElem?_getD, List.getElem?_eq_getElem hj])
  · intro h x hx
    obtain ⟨j, hj, rfl⟩ := List.mem_iff_getElem.1 hx
    have := h j hj
    simpa [List.getD_eq_getElem?_getD, List.getElem?_eq_getElem hj] using this
theorem isMat_no {p cols : Int} {rows : List (List Int)} {j : Nat} (hj : j < rows.length) (h : ¬ (((rows.getD j []).length : Int) = cols ∧ allIn p (rows.getD j []) = true)) : isMat p cols rows = false := by
  cases ha : isMat p cols rows with
  | false => rfl
  | true => exact (h (isMat_iff.1 ha j hj)).elim

theorem i_isMatrix {v : Value} {rows : List (List Int)} {p n cols : Int} {h : AH} {Q : Value → AH → Prop} (hv : Rows h v rows) (hl : (rows.length : Int) ≤ 1048576) (hl' : ∀ i, i < rows.length → ((rows.getD i []).length : Int) ≤ 1048576)
    (hQ : Q (.bool (isMat p cols rows && decide ((rows.length : Int) = n))) h) : WF S 86 [I64 p, I64 n, I64 cols, v] h Q := by
  refine WF_fn (fn := c86) rfl rfl ?_
  unfold c86
  obtain ⟨cs, hv, hcl, hr⟩ := hv
  try simp (maxSteps := 3000000) (disch := first | omega | (simp only [len_new, len_put, len_kill]; omega)) only [↓xpre, xpost, ↓reduceIte, Nat.reduceEqDiff, Nat.reduceAdd, Nat.reduceSub, Nat.reduceLeDiff, Nat.zero_add, Nat.sub_zero, hv.len, hcl]
  refine WC_loop_inv (fun m f h1 => ∃ i : Nat, m = rows.length - i ∧ i ≤ rows.length ∧ f 0 = I64 p ∧ f 1 = I64 n ∧ f 2 = I64 cols ∧ f 3 = v ∧ f 11 = v ∧ f 12 = I64 rows.length ∧ f 13 = I64 i ∧ h1 = h ∧
    ∀ j, j < i → ((rows.getD j []).length : Int) = cols ∧ allIn p (rows.getD j []) = true) ?_ rows.length _ _ ⟨0, rfl, Nat.zero_le _, rfl, rfl, rfl, rfl, rfl, rfl, rfl, rfl, by omega⟩
  rintro m f h1 ⟨i, rfl, hi, f0, f1, f2, f3, f11, f12, f13, rfl, hj⟩
  try simp (maxSteps := 3000000) (disch := first | omega | (simp only [len_new, len_put, len_kill]; omega)) only [↓xpre, xpost, ↓reduceIte, Nat.reduceEqDiff, Nat.reduceAdd, Nat.reduceSub, Nat.reduceLeDiff, Nat.zero_add, Nat.sub_zero, f0, f1, f2, f3, f11, f12, f13, IfW_dec]
  refine ⟨fun hlt => ?_, fun hge => ?_⟩
  · have hi' : i < rows.length := by omega
    have hix := hv.ix (k := .i64) (j := i) (by omega) (by omega)
    have hrd := hv.rd (j := i) (by omega) (by omega)
    have hri := hr i hi'
    try simp (maxSteps := 3000000) (disch := first | omega | (simp only [len_new, len_put, len_kill]; omega)) only [↓xpre, xpost, ↓reduceIte, Nat.reduceEqDiff, Nat.reduceAdd, Nat.reduceSub, Nat.reduceLeDiff, Nat.zero_add, Nat.sub_zero, f0, f1, f2, f3, f11, f12, f13, hix, hrd, Int.toNat_natCast, hri.len]
    by_cases h1 : ((rows.getD i []).length : Int) = cols
    · try simp (maxSteps := 3000000) (disch := first | omega | (simp only [len_new, len_put, len_kill]; omega)) only [↓xpre, xpost, ↓reduceIte, Nat.reduceEqDiff, Nat.reduceAdd, Nat.reduceSub, Nat.reduceLeDiff, Nat.zero_add, Nat.sub_zero, decide_eq_false (show ¬ (((rows.getD i []).length : Int) ≠ cols) from fun h => h h1), f0, f1, f2, f3, f11, f12, f13]
      refine i_areNumbers hri (hl' i hi') ?_
      cases h2 : allIn p (rows.getD i []) with
      | true =>
        try simp (maxSteps := 3000000) (disch := first | omega | (simp only [len_new, len_put, len_kill]; omega)) only [↓xpre, xpost, ↓reduceIte, Nat.reduceEqDiff, Nat.reduceAdd, Nat.reduceSub, Nat.reduceLeDiff, Nat.zero_add, Nat.sub_zero, f0, f1, f2, f3, f11, f12, f13, wrap64_in]
        refine InvQ_go (rows.length - (i + 1)) (by omega) ⟨i + 1, rfl, by omega, f0, f1, f2, f3, f11, f12, rfl, rfl, fun j hj' => ?_⟩
        rcases Nat.lt_succ_iff_lt_or_eq.1 hj' with hj' | rfl
        · exact hj j hj'
        · exact ⟨h1, h2⟩
      | false =>
        try simp (maxSteps := 3000000) (disch := first | omega | (simp only [len_new, len_put, len_kill]; omega)) only [↓xpre, xpost, ↓reduceIte, Nat.reduceEqDiff, Nat.reduceAdd, Nat.reduceSub, Nat.reduceLeDiff, Nat.zero_add, Nat.sub_zero]
        rw [isMat_no hi' (by rw [h2]; simp)] at hQ
        exact hQ
    · try simp (maxSteps := 3000000) (disch := first | omega | (simp only [len_new, len_put, len_kill]; omega)) only [↓xpre, xpost, ↓reduceIte, Nat.reduceEqDiff, Nat.reduceAdd, Nat.reduceSub, Nat.reduceLeDiff, Nat.zero_add, Nat.sub_zero, decide_eq_true (show ((rows.getD i []).length : Int) ≠ cols from h1)]
      rw [isMat_no hi' (fun h => h1 h.1)] at hQ
      exact hQ
  · try simp (maxSteps := 3000000) (disch := first | omega | (simp only [len_new, len_put, len_kill]; omega)) only [↓xpre, xpost, ↓reduceIte, Nat.reduceEqDiff, Nat.reduceAdd, Nat.reduceSub, Nat.reduceLeDiff, Nat.zero_add, Nat.sub_zero, f0, f1, f2, f3, f11, f12, f13, hv.len, hcl]
    rw [isMat_iff.2 (fun j hj' => hj j (by omega)), Bool.true_and] at hQ
    exact hQ
end Go.Proofs.Ytnjhhgfpclngcaa.X
