/- RowRank of the reference. -/
import Derived.Test.YtnjhhgfpclngcaaXF23
set_option linter.unusedVariables false
set_option linter.unusedSimpArgs false
set_option maxRecDepth 20000
set_option maxHeartbeats 4000000
namespace Go.Proofs.Ytnjhhgfpclngcaa.X
open Go Go.RowKit

def width (rows : List (List Int)) : Nat := (rows.getD 0 []).length
def rrOK (p : Int) (rows : List (List Int)) : Prop := isP p = true ∧ (1 ≤ rows.length ∧ rows.length ≤ 9) ∧ (1 ≤ width rows ∧ width rows ≤ 81) ∧ isMat p (width rows) rows = true
open Classical in
noncomputable def rrR (p : Int) (rows : List (List Int)) : Int × Int := if rrOK p rows then ((rankN p rows : Nat), 0) else (0, 2)
theorem good_of {p : Int} {rows : List (List Int)} (h : isMat p (width rows) rows = true) : Good p rows (width rows) := by
  intro i hi
  have := isMat_iff.1 h i hi
  refine ⟨by omega, fun l hl => ?_⟩
  exact allIn_iff.1 this.2 l (by omega)

theorem s_RowRank {v : Value} {rows : List (List Int)} {p : Int} {h : AH} {Q : Value → AH → Prop} (hv : Rows h v rows) (hl : (rows.length : Int) ≤ 1048576) (hl' : ∀ i, i < rows.length → ((rows.getD i []).length : Int) ≤ 1048576)
    (hQ : ∀ h', h <+: h' → Q (.tuple #[I64 (rrR p rows).1, I64 (rrR p rows).2]) h') : WF S 40 [I64 p, v] h Q := by
  refine WF_fn (fn := c40) rfl rfl ?_
  unfold c40
  have hrows := hv
  obtain ⟨cs, hv, hcl, hr⟩ := hv
  have no : ¬ rrOK p rows → Q (.tuple #[I64 0, I64 2]) h := fun hn => by
    have := hQ h (List.prefix_refl _)
    unfold rrR at this
    rw [if_neg hn] at this
    exact this
  try simp (maxSteps := 3000000) (disch := first | omega | (simp only [len_new, len_put, len_kill]; omega)) only [↓xpre, xpost, ↓reduceIte, Nat.reduceEqDiff, Nat.reduceAdd, Nat.reduceSub, Nat.reduceLeDiff, Nat.zero_add, Nat.sub_zero]
  refine s_l01Prime ?_
  cases h1 : isP p with
  | false =>
    try simp (maxSteps := 3000000) (disch := first | omega | (simp only [len_new, len_put, len_kill]; omega)) only [↓xpre, xpost, ↓reduceIte, Nat.reduceEqDiff, Nat.reduceAdd, Nat.reduceSub, Nat.reduceLeDiff, Nat.zero_add, Nat.sub_zero]
    exact no (fun h => by rw [h.1] at h1; cases h1)
  | true =>
    have hp5 := isP_in h1
    try simp (maxSteps := 3000000) (disch := first | omega | (simp only [len_new, len_put, len_kill]; omega)) only [↓xpre, xpost, ↓reduceIte, Nat.reduceEqDiff, Nat.reduceAdd, Nat.reduceSub, Nat.reduceLeDiff, Nat.zero_add, Nat.sub_zero, hv.len, hcl]
    by_cases h2 : (rows.length : Int) < 1
    · try simp (maxSteps := 3000000) (disch := first | omega | (simp only [len_new, len_put, len_kill]; omega)) only [↓xpre, xpost, ↓reduceIte, Nat.reduceEqDiff, Nat.reduceAdd, Nat.reduceSub, Nat.reduceLeDiff, Nat.zero_add, Nat.sub_zero, h2]
      exact no (fun h => by have := h.2.1; omega)
    try simp (maxSteps := 3000000) (disch := first | omega | (simp only [len_new, len_put, len_kill]; omega)) only [↓xpre, xpost, ↓reduceIte, Nat.reduceEqDiff, Nat.reduceAdd, Nat.reduceSub, Nat.reduceLeDiff, Nat.zero_add, Nat.sub_zero, h2, hv.len, hcl]
    by_cases h3 : 9 < (rows.length : Int)
    · try simp (maxSteps := 3000000) (disch := first | omega | (simp only [len_new, len_put, len_kill]; omega)) only [↓xpre, xpost, ↓reduceIte, Nat.reduceEqDiff, Nat.reduceAdd, Nat.reduceSub, Nat.reduceLeDiff, Nat.zero_add, Nat.sub_zero, h3]
      exact no (fun h => by have := h.2.1; omega)
    have hix0 := hv.ix (k := .i64) (j := 0) (by omega) (by omega)
    have hrd0 := hv.rd (j := 0) (by omega) (by omega)
    have r0 := (hr 0 (by omega)).len
    have hw : (rows.getD 0 []).length = width rows := rfl
    rw [hw] at r0
    try simp (maxSteps := 3000000) (disch := first | omega | (simp only [len_new, len_put, len_kill]; omega)) only [↓xpre, xpost, ↓reduceIte, Nat.reduceEqDiff, Nat.reduceAdd, Nat.reduceSub, Nat.reduceLeDiff, Nat.zero_add, Nat.sub_zero, h3, hix0, hrd0, Int.toNat_zero, r0]
    by_cases h4 : (width rows : Int) < 1
    · try simp (maxSteps := 3000000) (disch := first | omega | (simp only [len_new, len_put, len_kill]; omega)) only [↓xpre, xpost, ↓reduceIte, Nat.reduceEqDiff, Nat.reduceAdd, Nat.reduceSub, Nat.reduceLeDiff, Nat.zero_add, Nat.sub_zero, h4]
      exact no (fun h => by have := h.2.2.1; omega)
    try simp (maxSteps := 3000000) (disch := first | omega | (simp only [len_new, len_put, len_kill]; omega)) only [↓xpre, xpost, ↓reduceIte, Nat.reduceEqDiff, Nat.reduceAdd, Nat.reduceSub, Nat.reduceLeDiff, Nat.zero_add, Nat.sub_zero, h4, hix0, hrd0, Int.toNat_zero, r0]
    by_cases h5 : 81 < (width rows : Int)
    · try simp (maxSteps := 3000000) (disch := first | omega | (simp only [len_new, len_put, len_kill]; omega)) only [↓xpre, xpost, ↓reduceIte, Nat.reduceEqDiff, Nat.reduceAdd, Nat.reduceSub, Nat.reduceLeDiff, Nat.zero_add, Nat.sub_zero, h5]
      exact no (fun h => by have := h.2.2.1; omega)
    try simp (maxSteps := 3000000) (disch := first | omega | (simp only [len_new, len_put, len_kill]; omega)) only [↓xpre, xpost, ↓reduceIte, Nat.reduceEqDiff, Nat.reduceAdd, Nat.reduceSub, Nat.reduceLeDiff, Nat.zero_add, Nat.sub_zero, h5]
    refine WC_loop_inv (fun m f h1 => ∃ i : Nat, m = rows.length - i ∧ i ≤ rows.length ∧ f 0 = I64 p ∧ f 1 = v ∧ f 6 = I64 i ∧ h1 = h ∧ ∀ j, j < i → ((rows.getD j []).length : Int) = width rows ∧ allIn p (rows.getD j []) = true) ?_ rows.length _ _
      ⟨0, rfl, Nat.zero_le _, rfl, rfl, rfl, rfl, by omega⟩
    rintro m f h1' ⟨i, rfl, hi, f0, f1, f6, rfl, hj⟩
    try simp (maxSteps := 3000000) (disch := first | omega | (simp only [len_new, len_put, len_kill]; omega)) only [↓xpre, xpost, ↓reduceIte, Nat.reduceEqDiff, Nat.reduceAdd, Nat.reduceSub, Nat.reduceLeDiff, Nat.zero_add, Nat.sub_zero, f0, f1, f6, hv.len, hcl, IfW_dec]
    refine ⟨fun hlt => ?_, fun hge => ?_⟩
    · have hi' : i < rows.length := by omega
      have hix := hv.ix (k := .i64) (j := i) (by omega) (by omega)
      have hrd := hv.rd (j := i) (by omega) (by omega)
      try simp (maxSteps := 3000000) (disch := first | omega | (simp only [len_new, len_put, len_kill]; omega)) only [↓xpre, xpost, ↓reduceIte, Nat.reduceEqDiff, Nat.reduceAdd, Nat.reduceSub, Nat.reduceLeDiff, Nat.zero_add, Nat.sub_zero, f0, f1, f6, hix, hrd, Int.toNat_natCast, hix0, hrd0, Int.toNat_zero, r0]
      refine s_l05Numbers (hr i hi') (hl' i hi') hp5 ?_
      cases hb : (allIn p (rows.getD i []) && decide (((rows.getD i []).length : Int) = width rows)) with
      | true =>
        simp only [Bool.and_eq_true, decide_eq_true_eq] at hb
        try simp (maxSteps := 3000000) (disch := first | omega | (simp only [len_new, len_put, len_kill]; omega)) only [↓xpre, xpost, ↓reduceIte, Nat.reduceEqDiff, Nat.reduceAdd, Nat.reduceSub, Nat.reduceLeDiff, Nat.zero_add, Nat.sub_zero, f0, f1, f6, wrap64_in]
        refine InvQ_go (rows.length - (i + 1)) (by omega) ⟨i + 1, rfl, by omega, f0, f1, rfl, rfl, fun j hj' => ?_⟩
        rcases Nat.lt_succ_iff_lt_or_eq.1 hj' with hj' | rfl
        · exact hj j hj'
        · exact ⟨hb.2, hb.1⟩
      | false =>
        try simp (maxSteps := 3000000) (disch := first | omega | (simp only [len_new, len_put, len_kill]; omega)) only [↓xpre, xpost, ↓reduceIte, Nat.reduceEqDiff, Nat.reduceAdd, Nat.reduceSub, Nat.reduceLeDiff, Nat.zero_add, Nat.sub_zero]
        refine no fun h => ?_
        have := isMat_iff.1 h.2.2.2 i hi'
        rw [this.2, decide_eq_true this.1] at hb
        cases hb
    · have hm : isMat p (width rows) rows = true := isMat_iff.2 fun j hj' => hj j (by omega)
      try simp (maxSteps := 3000000) (disch := first | omega | (simp only [len_new, len_put, len_kill]; omega)) only [↓xpre, xpost, ↓reduceIte, Nat.reduceEqDiff, Nat.reduceAdd, Nat.reduceSub, Nat.reduceLeDiff, Nat.zero_add, Nat.sub_zero, f0, f1, f6]
      refine s_l05Rank hrows h1 (by omega) (good_of hm) (by omega) fun h' hp' => ?_
      try simp (maxSteps := 3000000) (disch := first | omega | (simp only [len_new, len_put, len_kill]; omega)) only [↓xpre, xpost, ↓reduceIte, Nat.reduceEqDiff, Nat.reduceAdd, Nat.reduceSub, Nat.reduceLeDiff, Nat.zero_add, Nat.sub_zero]
      have := hQ h' hp'
      unfold rrR at this
      rw [if_pos ⟨h1, by omega, by omega, hm⟩] at this
      exact this
end Go.Proofs.Ytnjhhgfpclngcaa.X
