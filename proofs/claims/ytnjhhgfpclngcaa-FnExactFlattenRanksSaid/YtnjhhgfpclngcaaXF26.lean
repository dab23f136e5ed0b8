/- RowRank of the program, out of its rank. -/
import Derived.Test.YtnjhhgfpclngcaaXF25
set_option linter.unusedVariables false
set_option linter.unusedSimpArgs false
set_option maxRecDepth 20000
set_option maxHeartbeats 4000000
namespace Go.Proofs.Ytnjhhgfpclngcaa.X
open Go Go.RowKit

/-- What the program's rank is to do (to be proved: i_rank). -/
def RankDoes (g : FuncId) : Prop := ∀ (v : Value) (rows : List (List Int)) (p : Int) (W : Nat) (h : AH) (Q : Value → AH → Prop), Rows h v rows → isP p = true → (1 ≤ rows.length ∧ rows.length ≤ 1048576) → Good p rows W → 1 ≤ W ∧ W ≤ 1048576 →
  (∀ h', h <+: h' → Q (I64 (rankN p rows)) h') → WF S g [I64 p, v] h Q

theorem i_RowRank (hrank : RankDoes 87) {v : Value} {rows : List (List Int)} {p : Int} {h : AH} {Q : Value → AH → Prop} (hv : Rows h v rows) (hl : (rows.length : Int) ≤ 1048576) (hl' : ∀ i, i < rows.length → ((rows.getD i []).length : Int) ≤ 1048576)
    (hQ : ∀ h', h <+: h' → Q (.tuple #[I64 (rrR p rows).1, I64 (rrR p rows).2]) h') : WF S 42 [I64 p, v] h Q := by
  refine WF_fn (fn := c42) rfl rfl ?_
  unfold c42
  have hrows := hv
  obtain ⟨cs, hv, hcl, hr⟩ := hv
  have no : ∀ h', h <+: h' → ¬ rrOK p rows → Q (.tuple #[I64 0, I64 2]) h' := fun h' hp hn => by
    have := hQ h' hp
    unfold rrR at this
    rw [if_neg hn] at this
    exact this
  try simp (maxSteps := 3000000) (disch := first | omega | (simp only [len_new, len_put, len_kill]; omega)) only [↓xpre, xpost, ↓reduceIte, Nat.reduceEqDiff, Nat.reduceAdd, Nat.reduceSub, Nat.reduceLeDiff, Nat.zero_add, Nat.sub_zero]
  refine i_isPrime ?_
  cases h1 : isP p with
  | false =>
    try simp (maxSteps := 3000000) (disch := first | omega | (simp only [len_new, len_put, len_kill]; omega)) only [↓xpre, xpost, ↓reduceIte, Nat.reduceEqDiff, Nat.reduceAdd, Nat.reduceSub, Nat.reduceLeDiff, Nat.zero_add, Nat.sub_zero]
    exact no _ (List.prefix_refl _) (fun h => by rw [h.1] at h1; cases h1)
  | true =>
    have hp5 := isP_in h1
    try simp (maxSteps := 3000000) (disch := first | omega | (simp only [len_new, len_put, len_kill]; omega)) only [↓xpre, xpost, ↓reduceIte, Nat.reduceEqDiff, Nat.reduceAdd, Nat.reduceSub, Nat.reduceLeDiff, Nat.zero_add, Nat.sub_zero, hv.len, hcl, fillL, zrep]
    generalize hH1 : AH.new h _ = H1
    obtain ⟨hb1, p1, n1⟩ := new_facts hH1
    refine i_isSide (ns := [(rows.length : Int)]) (Ints.own (ns := [(rows.length : Int)]) hb1 rfl) (by simp) ?_
    cases h2 : [(rows.length : Int)].all side with
    | false =>
      try simp (maxSteps := 3000000) (disch := first | omega | (simp only [len_new, len_put, len_kill]; omega)) only [↓xpre, xpost, ↓reduceIte, Nat.reduceEqDiff, Nat.reduceAdd, Nat.reduceSub, Nat.reduceLeDiff, Nat.zero_add, Nat.sub_zero]
      exact no _ p1 (fun h => by
        have h3 := h.2.1
        have : side (rows.length : Int) = true := side_iff.2 (by omega)
        simp [this] at h2)
    | true =>
      have h3 : 1 ≤ (rows.length : Int) ∧ (rows.length : Int) ≤ 9 := side_iff.1 (by simpa using h2)
      have hv1 := hv.pre p1
      have hix0 := hv1.ix (k := .i64) (j := 0) (by omega) (by omega)
      have hrd0 := hv1.rd (j := 0) (by omega) (by omega)
      have r0 := (hr 0 (by omega)).len
      have hw : (rows.getD 0 []).length = width rows := rfl
      rw [hw] at r0
      try simp (maxSteps := 3000000) (disch := first | omega | (simp only [len_new, len_put, len_kill]; omega)) only [↓xpre, xpost, ↓reduceIte, Nat.reduceEqDiff, Nat.reduceAdd, Nat.reduceSub, Nat.reduceLeDiff, Nat.zero_add, Nat.sub_zero, hix0, hrd0, Int.toNat_zero, r0]
      by_cases h4 : (width rows : Int) < 1
      · try simp (maxSteps := 3000000) (disch := first | omega | (simp only [len_new, len_put, len_kill]; omega)) only [↓xpre, xpost, ↓reduceIte, Nat.reduceEqDiff, Nat.reduceAdd, Nat.reduceSub, Nat.reduceLeDiff, Nat.zero_add, Nat.sub_zero, h4]
        exact no _ p1 (fun h => by have := h.2.2.1; omega)
      try simp (maxSteps := 3000000) (disch := first | omega | (simp only [len_new, len_put, len_kill]; omega)) only [↓xpre, xpost, ↓reduceIte, Nat.reduceEqDiff, Nat.reduceAdd, Nat.reduceSub, Nat.reduceLeDiff, Nat.zero_add, Nat.sub_zero, h4]
      by_cases h5 : 81 < (width rows : Int)
      · try simp (maxSteps := 3000000) (disch := first | omega | (simp only [len_new, len_put, len_kill]; omega)) only [↓xpre, xpost, ↓reduceIte, Nat.reduceEqDiff, Nat.reduceAdd, Nat.reduceSub, Nat.reduceLeDiff, Nat.zero_add, Nat.sub_zero, h5]
        exact no _ p1 (fun h => by have := h.2.2.1; omega)
      try simp (maxSteps := 3000000) (disch := first | omega | (simp only [len_new, len_put, len_kill]; omega)) only [↓xpre, xpost, ↓reduceIte, Nat.reduceEqDiff, Nat.reduceAdd, Nat.reduceSub, Nat.reduceLeDiff, Nat.zero_add, Nat.sub_zero, h5, hv.len, hcl]
      refine i_isMatrix (hrows.pre p1) hl hl' ?_
      rw [decide_eq_true rfl, Bool.and_true]
      cases hm : isMat p (width rows) rows with
      | false =>
        try simp (maxSteps := 3000000) (disch := first | omega | (simp only [len_new, len_put, len_kill]; omega)) only [↓xpre, xpost, ↓reduceIte, Nat.reduceEqDiff, Nat.reduceAdd, Nat.reduceSub, Nat.reduceLeDiff, Nat.zero_add, Nat.sub_zero]
        exact no _ p1 (fun h => by rw [h.2.2.2] at hm; cases hm)
      | true =>
        try simp (maxSteps := 3000000) (disch := first | omega | (simp only [len_new, len_put, len_kill]; omega)) only [↓xpre, xpost, ↓reduceIte, Nat.reduceEqDiff, Nat.reduceAdd, Nat.reduceSub, Nat.reduceLeDiff, Nat.zero_add, Nat.sub_zero]
        refine hrank _ _ _ _ _ _ (hrows.pre p1) h1 (by omega) (good_of hm) (by omega) fun h' hp' => ?_
        try simp (maxSteps := 3000000) (disch := first | omega | (simp only [len_new, len_put, len_kill]; omega)) only [↓xpre, xpost, ↓reduceIte, Nat.reduceEqDiff, Nat.reduceAdd, Nat.reduceSub, Nat.reduceLeDiff, Nat.zero_add, Nat.sub_zero]
        have := hQ h' (p1.trans hp')
        unfold rrR at this
        rw [if_pos ⟨h1, by omega, by omega, hm⟩] at this
        exact this
end Go.Proofs.Ytnjhhgfpclngcaa.X
