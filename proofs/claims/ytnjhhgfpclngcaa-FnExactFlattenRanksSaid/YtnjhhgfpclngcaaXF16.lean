/- Lists of lists of whole numbers. -/
import Derived.Test.YtnjhhgfpclngcaaXF9
set_option linter.unusedVariables false
set_option linter.unusedSimpArgs false
set_option maxRecDepth 20000
set_option maxHeartbeats 4000000
namespace Go.Proofs.Ytnjhhgfpclngcaa.X
open Go Go.RowKit

/-- A slice that reads values, one cell each. -/
def Vals (h : AH) (v : Value) (cs : List Value) : Prop :=
  (cs = [] ∧ ∃ t, t ≤ 2 ∧ v = .slice none 0 t) ∨
  ∃ b off blk, v = .slice (some ⟨b, off, none⟩) cs.length 1 ∧ h.get b = some blk ∧ off + cs.length ≤ blk.c.length ∧ ∀ i, i < cs.length → blk.c[off + i]? = some (cs.getD i undef)
section
variable {h h' : AH} {v : Value} {cs : List Value}
theorem Vals.pre (p : h <+: h') (hv : Vals h v cs) : Vals h' v cs := by
  rcases hv with hv | ⟨b, off, blk, h1, h2, h3, h4⟩
  · exact .inl hv
  · exact .inr ⟨b, off, blk, h1, pre_get p h2, h3, h4⟩
theorem Vals.len (hv : Vals h v cs) : lenV v = some (.int .i64 cs.length) := by
  rcases hv with ⟨rfl, t, _, rfl⟩ | ⟨b, off, blk, rfl, h2, h3, h4⟩ <;> rfl
theorem Vals.one (hv : Vals h v cs) : isOne v = true := by
  rcases hv with ⟨rfl, t, _, rfl⟩ | ⟨b, off, blk, rfl, h2, h3, h4⟩ <;> rfl
theorem Vals.cells (hv : Vals h v cs) : cellsL v = [v] := by
  rcases hv with ⟨rfl, t, _, rfl⟩ | ⟨b, off, blk, rfl, h2, h3, h4⟩ <;> rfl
theorem Vals.ix (hv : Vals h v cs) {k : IntKind} {j : Int} (h0 : 0 ≤ j) (h1 : j < cs.length) : ixsV 1 v (.int k j) = some (.pointer (some (pAt v 1 j))) := by
  rcases hv with ⟨rfl, t, _, rfl⟩ | ⟨b, off, blk, rfl, h2, h3, h4⟩
  · simp at h1; omega
  · simp [ixsV, h0, h1, pAt]
theorem Vals.rd (hv : Vals h v cs) {j : Int} (h0 : 0 ≤ j) (h1 : j < cs.length) : h.rd1 (pAt v 1 j).block (pAt v 1 j).off = some (cs.getD j.toNat undef) := by
  rcases hv with ⟨rfl, t, _, rfl⟩ | ⟨b, off, blk, rfl, h2, h3, h4⟩
  · simp at h1; omega
  · have := h4 j.toNat (by omega)
    simp [AH.rd1, pAt, h2, this]
end
/-- A list of lists. -/
def Rows (h : AH) (v : Value) (rows : List (List Int)) : Prop := ∃ cs, Vals h v cs ∧ cs.length = rows.length ∧ ∀ i, i < rows.length → Ints h (cs.getD i undef) (rows.getD i [])
theorem Rows.pre {h h' : AH} {v : Value} {rows : List (List Int)} (p : h <+: h') (hv : Rows h v rows) : Rows h' v rows := by
  obtain ⟨cs, h1, h2, h3⟩ := hv
  exact ⟨cs, h1.pre p, h2, fun i hi => (h3 i hi).pre p⟩
theorem Rows.one {h : AH} {v : Value} {rows : List (List Int)} (hv : Rows h v rows) : isOne v = true := by
  obtain ⟨cs, h1, h2, h3⟩ := hv
  exact h1.one

/-- All numbers of the rows ahead of one. -/
def tot (rows : List (List Int)) (i : Nat) : Int := ((rows.take i).map fun r => (r.length : Int)).sum
theorem tot_succ {rows : List (List Int)} {i : Nat} (hi : i < rows.length) : tot rows (i + 1) = tot rows i + ((rows.getD i []).length : Int) := by
  unfold tot
  rw [List.take_succ_eq_append_getElem hi]
  simp only [List.map_append, List.sum_append, List.map_cons, List.map_nil, List.sum_cons, List.sum_nil, Int.add_zero, List.getD_eq_getElem?_getD, List.getElem?_eq_getElem hi, Option.getD_some]

theorem l_szInt64SS {v : Value} {rows : List (List Int)} {n : Int} {h : AH} {Q : Value → AH → Prop} (hv : Rows h v rows) (h0 : 0 ≤ n ∧ n ≤ 1048576) (hl : (rows.length : Int) ≤ 9223372036854775807)
    (hl' : ∀ i, i < rows.length → ((rows.getD i []).length : Int) ≤ 9223372036854775807)
    (hQ : ∀ m : Int, m ≤ n → (0 ≤ m → m = n - rows.length - tot rows rows.length ∧ ∀ i, i < rows.length → ((rows.getD i []).length : Int) ≤ n) → Q (I64 m) h) : WF S 39 [v, I64 n] h Q := by
  refine WF_fn (fn := c39) rfl rfl ?_
  unfold c39
  obtain ⟨cs, hv, hcl, hr⟩ := hv
  try simp (maxSteps := 3000000) (disch := first | omega | (simp only [len_new, len_put, len_kill]; omega)) only [↓xpre, xpost, ↓reduceIte, Nat.reduceEqDiff, Nat.reduceAdd, Nat.reduceSub, Nat.reduceLeDiff, Nat.zero_add, Nat.sub_zero, hv.len, wrap64_in, hcl, IfW_dec]
  refine ⟨fun hm => hQ _ (by omega) (by omega), fun hm => ?_⟩
  refine WC_loop_inv (fun m f h1 => ∃ i : Nat, m = rows.length - i ∧ i ≤ rows.length ∧ f 0 = v ∧ f 1 = I64 (n - rows.length - tot rows i) ∧ 0 ≤ n - rows.length - tot rows i ∧ 0 ≤ tot rows i ∧ f 5 = I64 i ∧ h1 = h ∧
    ∀ j, j < i → ((rows.getD j []).length : Int) ≤ n) ?_ rows.length _ _ ⟨0, rfl, Nat.zero_le _, rfl, by simp [upd_apply, tot], by simp [tot]; omega, by simp [tot], rfl, rfl, by omega⟩
  rintro m f h1 ⟨i, rfl, hi, f0, f1, hpos, htot, f5, rfl, hj⟩
  try simp (maxSteps := 3000000) (disch := first | omega | (simp only [len_new, len_put, len_kill]; omega)) only [↓xpre, xpost, ↓reduceIte, Nat.reduceEqDiff, Nat.reduceAdd, Nat.reduceSub, Nat.reduceLeDiff, Nat.zero_add, Nat.sub_zero, f0, f1, f5, hv.len, hcl, IfW_dec]
  refine ⟨fun hlt => ?_, fun hge => ?_⟩
  · have hi' : i < rows.length := by omega
    have hix := hv.ix (k := .i64) (j := i) (by omega) (by omega)
    have hrd := hv.rd (j := i) (by omega) (by omega)
    try simp (maxSteps := 3000000) (disch := first | omega | (simp only [len_new, len_put, len_kill]; omega)) only [↓xpre, xpost, ↓reduceIte, Nat.reduceEqDiff, Nat.reduceAdd, Nat.reduceSub, Nat.reduceLeDiff, Nat.zero_add, Nat.sub_zero, f0, f1, f5, hix, hrd, Int.toNat_natCast]
    refine l_szInt64S (hr i hi') (by omega) (hl' i hi') fun m h1 h2 => ?_
    try simp (maxSteps := 3000000) (disch := first | omega | (simp only [len_new, len_put, len_kill]; omega)) only [↓xpre, xpost, ↓reduceIte, Nat.reduceEqDiff, Nat.reduceAdd, Nat.reduceSub, Nat.reduceLeDiff, Nat.zero_add, Nat.sub_zero, f0, f1, f5, IfW_dec]
    refine ⟨fun hm => hQ _ (by omega) (by omega), fun hm => ?_⟩
    try simp (maxSteps := 3000000) (disch := first | omega | (simp only [len_new, len_put, len_kill]; omega)) only [↓xpre, xpost, ↓reduceIte, Nat.reduceEqDiff, Nat.reduceAdd, Nat.reduceSub, Nat.reduceLeDiff, Nat.zero_add, Nat.sub_zero, f0, f1, f5, wrap64_in]
    have h3 := h2 (by omega)
    have h4 := tot_succ hi'
    refine InvQ_go (rows.length - (i + 1)) (by omega) ⟨i + 1, rfl, by omega, f0, ?_, by omega, by omega, rfl, rfl, fun j hj' => ?_⟩
    · show I64 m = _
      congr 1
      omega
    · rcases Nat.lt_succ_iff_lt_or_eq.1 hj' with hj' | rfl
      · exact hj j hj'
      · omega
  · have e : i = rows.length := by omega
    subst e
    try simp (maxSteps := 3000000) (disch := first | omega | (simp only [len_new, len_put, len_kill]; omega)) only [↓xpre, xpost, ↓reduceIte, Nat.reduceEqDiff, Nat.reduceAdd, Nat.reduceSub, Nat.reduceLeDiff, Nat.zero_add, Nat.sub_zero, f0, f1, f5]
    exact hQ _ (by omega) (fun _ => ⟨rfl, hj⟩)

theorem l_eqInt64SS {v v' : Value} {ns ms : List (List Int)} {h : AH} {Q : Value → AH → Prop} (hv : Rows h v ns) (hv' : Rows h v' ms) (hl : (ns.length : Int) ≤ 1048576)
    (hl' : ∀ i, i < ns.length → ((ns.getD i []).length : Int) ≤ 1048576) (hQ : Q (.bool (decide (ns = ms))) h) : WF S 43 [v, v'] h Q := by
  refine WF_fn (fn := c43) rfl rfl ?_
  unfold c43
  obtain ⟨cs, hv, hcl, hr⟩ := hv
  obtain ⟨cs', hv', hcl', hr'⟩ := hv'
  try simp (maxSteps := 3000000) (disch := first | omega | (simp only [len_new, len_put, len_kill]; omega)) only [↓xpre, xpost, ↓reduceIte, Nat.reduceEqDiff, Nat.reduceAdd, Nat.reduceSub, Nat.reduceLeDiff, Nat.zero_add, Nat.sub_zero, hv.len, hv'.len, hcl, hcl', IfW_dec]
  refine ⟨fun hne => ?_, fun heq => ?_⟩
  · have : ns ≠ ms := fun e => hne (by rw [e])
    simpa [this] using hQ
  · have hlen : ns.length = ms.length := by omega
    refine WC_loop_inv (fun n f h1 => ∃ i : Nat, n = ns.length - i ∧ i ≤ ns.length ∧ f 0 = v ∧ f 1 = v' ∧ f 5 = I64 i ∧ h1 = h ∧ ∀ j, j < i → ns.getD j [] = ms.getD j []) ?_ ns.length _ _ ⟨0, rfl, Nat.zero_le _, rfl, rfl, rfl, rfl, by omega⟩
    rintro n f h1 ⟨i, rfl, hi, f0, f1, f5, rfl, hj⟩
    try simp (maxSteps := 3000000) (disch := first | omega | (simp only [len_new, len_put, len_kill]; omega)) only [↓xpre, xpost, ↓reduceIte, Nat.reduceEqDiff, Nat.reduceAdd, Nat.reduceSub, Nat.reduceLeDiff, Nat.zero_add, Nat.sub_zero, f0, f1, f5, hv.len, hcl, IfW_dec]
    refine ⟨fun hlt => ?_, fun hge => ?_⟩
    · have hi' : i < ns.length := by omega
      have hix := hv.ix (k := .i64) (j := i) (by omega) (by omega)
      have hrd := hv.rd (j := i) (by omega) (by omega)
      have hix' := hv'.ix (k := .i64) (j := i) (by omega) (by omega)
      have hrd' := hv'.rd (j := i) (by omega) (by omega)
      try simp (maxSteps := 3000000) (disch := first | omega | (simp only [len_new, len_put, len_kill]; omega)) only [↓xpre, xpost, ↓reduceIte, Nat.reduceEqDiff, Nat.reduceAdd, Nat.reduceSub, Nat.reduceLeDiff, Nat.zero_add, Nat.sub_zero, f0, f1, f5, hix, hrd, hix', hrd', Int.toNat_natCast]
      refine l_eqInt64S (hr i hi') (hr' i (by omega)) (hl' i hi') ?_
      by_cases he : ns.getD i [] = ms.getD i []
      · try simp (maxSteps := 3000000) (disch := first | omega | (simp only [len_new, len_put, len_kill]; omega)) only [↓xpre, xpost, ↓reduceIte, Nat.reduceEqDiff, Nat.reduceAdd, Nat.reduceSub, Nat.reduceLeDiff, Nat.zero_add, Nat.sub_zero, decide_eq_true he, f0, f1, f5, wrap64_in]
        refine InvQ_go (ns.length - (i + 1)) (by omega) ⟨i + 1, rfl, by omega, f0, f1, rfl, rfl, fun j hj' => ?_⟩
        rcases Nat.lt_succ_iff_lt_or_eq.1 hj' with hj' | rfl
        · exact hj j hj'
        · exact he
      · try simp (maxSteps := 3000000) (disch := first | omega | (simp only [len_new, len_put, len_kill]; omega)) only [↓xpre, xpost, ↓reduceIte, Nat.reduceEqDiff, Nat.reduceAdd, Nat.reduceSub, Nat.reduceLeDiff, Nat.zero_add, Nat.sub_zero, decide_eq_false he, f0, f1, f5]
        have : ns ≠ ms := fun e => he (by rw [e])
        simpa [this] using hQ
    · try simp (maxSteps := 3000000) (disch := first | omega | (simp only [len_new, len_put, len_kill]; omega)) only [↓xpre, xpost, ↓reduceIte, Nat.reduceEqDiff, Nat.reduceAdd, Nat.reduceSub, Nat.reduceLeDiff, Nat.zero_add, Nat.sub_zero, f0, f1, f5]
      have : ns = ms := by
        refine List.ext_getElem? fun j => ?_
        by_cases h1 : j < ns.length
        · have := hj j (by omega)
          rw [List.getElem?_eq_getElem h1, List.getElem?_eq_getElem (by omega)]
          simpa [List.getD_eq_getElem?_getD, List.getElem?_eq_getElem h1, List.getElem?_eq_getElem (show j < ms.length by omega)] using this
        · rw [List.getElem?_eq_none (by omega), List.getElem?_eq_none (by omega)]
      simpa [this] using hQ
end Go.Proofs.Ytnjhhgfpclngcaa.X
