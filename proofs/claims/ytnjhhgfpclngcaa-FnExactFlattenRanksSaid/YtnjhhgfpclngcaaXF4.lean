/- Tensors: the program's own test, copies, comparisons. -/
import Derived.Test.YtnjhhgfpclngcaaXF3
set_option linter.unusedVariables false
set_option linter.unusedSimpArgs false
namespace Go.Proofs.Ytnjhhgfpclngcaa.X
open Go Go.RowKit

theorem side_no {n : Int} (h : ¬ (1 ≤ n ∧ n ≤ 9)) : side n = false := by simp [side]; omega
theorem all_iff {q : Int → Bool} {ns : List Int} : ns.all q = true ↔ ∀ j, j < ns.length → q (ns.getD j 0) = true := by
  simp only [List.all_eq_true]
  constructor
  · intro h j hj
    exact h _ (by simp [List.getD_eq_getElem?_getD, List.getElem?_eq_getElem hj])
  · intro h x hx
    obtain ⟨j, hj, rfl⟩ := List.mem_iff_getElem.1 hx
    have := h j hj
    simpa [List.getD_eq_getElem?_getD, List.getElem?_eq_getElem hj] using this
theorem all_not {q : Int → Bool} {ns : List Int} {j : Nat} (hj : j < ns.length) (h : q (ns.getD j 0) = false) : ns.all q = false := by
  cases ha : ns.all q with
  | false => rfl
  | true => rw [all_iff.1 ha j hj] at h; cases h

theorem i_isSide {v : Value} {ns : List Int} {h : AH} {Q : Value → AH → Prop} (hv : Ints h v ns) (hl : (ns.length : Int) ≤ 1048576)
    (hQ : Q (.bool (ns.all side)) h) : WF S 60 [v] h Q := by
  refine WF_fn (fn := c60) rfl rfl ?_
  unfold c60
  try simp (maxSteps := 3000000) (disch := first | omega | (simp only [len_new, len_put, len_kill]; omega)) only [↓xpre, xpost, ↓reduceIte, Nat.reduceEqDiff, Nat.reduceAdd, Nat.reduceSub, Nat.reduceLeDiff, Nat.zero_add, Nat.sub_zero, hv.len]
  refine WC_loop_inv (fun n f h1 => ∃ i : Nat, n = ns.length - i ∧ i ≤ ns.length ∧ f 5 = v ∧ f 6 = I64 ns.length ∧ f 7 = I64 i ∧ h1 = h ∧ ∀ j, j < i → side (ns.getD j 0) = true) ?_ ns.length _ _ ⟨0, rfl, Nat.zero_le _, rfl, rfl, rfl, rfl, by omega⟩
  rintro n f h1 ⟨i, rfl, hi, f5, f6, f7, rfl, hj⟩
  try simp (maxSteps := 3000000) (disch := first | omega | (simp only [len_new, len_put, len_kill]; omega)) only [↓xpre, xpost, ↓reduceIte, Nat.reduceEqDiff, Nat.reduceAdd, Nat.reduceSub, Nat.reduceLeDiff, Nat.zero_add, Nat.sub_zero, f5, f6, f7, IfW_dec]
  refine ⟨fun hlt => ?_, fun hge => ?_⟩
  · try simp (maxSteps := 3000000) (disch := first | omega | (simp only [len_new, len_put, len_kill]; omega)) only [↓xpre, xpost, ↓reduceIte, Nat.reduceEqDiff, Nat.reduceAdd, Nat.reduceSub, Nat.reduceLeDiff, Nat.zero_add, Nat.sub_zero, f5, f6, f7, hv.ix, hv.rd]
    simp only [nth, Int.toNat_natCast]
    by_cases h1 : ns.getD i 0 < 1
    · try simp (maxSteps := 3000000) (disch := first | omega | (simp only [len_new, len_put, len_kill]; omega)) only [↓xpre, xpost, ↓reduceIte, Nat.reduceEqDiff, Nat.reduceAdd, Nat.reduceSub, Nat.reduceLeDiff, Nat.zero_add, Nat.sub_zero, h1, f5, f6, f7]
      rw [all_not (j := i) (by omega) (side_no (by omega))] at hQ
      exact hQ
    · try simp (maxSteps := 3000000) (disch := first | omega | (simp only [len_new, len_put, len_kill]; omega)) only [↓xpre, xpost, ↓reduceIte, Nat.reduceEqDiff, Nat.reduceAdd, Nat.reduceSub, Nat.reduceLeDiff, Nat.zero_add, Nat.sub_zero, h1, f5, f6, f7, IfW_dec]
      refine ⟨fun h2 => ?_, fun h2 => ?_⟩
      · rw [all_not (j := i) (by omega) (side_no (by omega))] at hQ
        exact hQ
      · try simp (maxSteps := 3000000) (disch := first | omega | (simp only [len_new, len_put, len_kill]; omega)) only [↓xpre, xpost, ↓reduceIte, Nat.reduceEqDiff, Nat.reduceAdd, Nat.reduceSub, Nat.reduceLeDiff, Nat.zero_add, Nat.sub_zero, f5, f6, f7, wrap64_in]
        refine InvQ_go (ns.length - (i + 1)) (by omega) ⟨i + 1, rfl, by omega, f5, f6, rfl, rfl, fun j hj' => ?_⟩
        rcases Nat.lt_succ_iff_lt_or_eq.1 hj' with hj' | rfl
        · exact hj j hj'
        · rw [side_iff]; omega
  · rw [all_iff.2 fun j hj' => hj j (by omega)] at hQ
    exact hQ

theorem ints_lit {h : AH} {n : Nat} {a b c : Int} {e : TypeId} {ro full : Bool} (hb : h.get n = some ⟨[I64 a, I64 b, I64 c], e, ro, full⟩) : Ints h (.slice (some ⟨n, 0, none⟩) 3 1) [a, b, c] := Ints.own (ns := [a, b, c]) hb rfl

theorem i_IsTensor {v : Value} {t : Ten} {h : AH} {Q : Value → AH → Prop} (hv : Ints h v t.ns) (hl : (t.ns.length : Int) ≤ 1048576)
    (hQ : ∀ h', h <+: h' → Q (.bool (isT t)) h') : WF S 20 [tenV t v] h Q := by
  refine WF_fn (fn := c20) rfl rfl ?_
  unfold c20
  try simp (maxSteps := 3000000) (disch := first | omega | (simp only [len_new, len_put, len_kill]; omega)) only [↓xpre, xpost, ↓reduceIte, Nat.reduceEqDiff, Nat.reduceAdd, Nat.reduceSub, Nat.reduceLeDiff, Nat.zero_add, Nat.sub_zero, tenV, hv.one]
  generalize hH : AH.new h _ = H
  obtain ⟨hb, hp, hlen⟩ := new_facts hH
  have hv1 := hv.pre hp
  have hQ' := hQ _ hp
  refine i_isPrime ?_
  cases h1 : isP t.p with
  | false =>
    try simp (maxSteps := 3000000) (disch := first | omega | (simp only [len_new, len_put, len_kill]; omega)) only [↓xpre, xpost, ↓reduceIte, Nat.reduceEqDiff, Nat.reduceAdd, Nat.reduceSub, Nat.reduceLeDiff, Nat.zero_add, Nat.sub_zero, h1]
    simpa [isT, h1] using hQ'
  | true =>
    try simp (maxSteps := 3000000) (disch := first | omega | (simp only [len_new, len_put, len_kill]; omega)) only [↓xpre, xpost, ↓reduceIte, Nat.reduceEqDiff, Nat.reduceAdd, Nat.reduceSub, Nat.reduceLeDiff, Nat.zero_add, Nat.sub_zero, h1, rd1_of hb, fillL, zrep]
    generalize hH2 : AH.new H _ = H2
    obtain ⟨hb2, hp2, hlen2⟩ := new_facts hH2
    have hb := pre_get hp2 hb
    have hv2 := hv1.pre hp2
    have hQ2 := hQ _ (hp.trans hp2)
    have b1 := isP_in h1
    refine i_isSide (ints_lit hb2) (by simp) ?_
    cases h2 : [t.i, t.j, t.k].all side with
    | false =>
      try simp (maxSteps := 3000000) (disch := first | omega | (simp only [len_new, len_put, len_kill]; omega)) only [↓xpre, xpost, ↓reduceIte, Nat.reduceEqDiff, Nat.reduceAdd, Nat.reduceSub, Nat.reduceLeDiff, Nat.zero_add, Nat.sub_zero, h2]
      have : isT t = false := by
        simp only [List.all_cons, List.all_nil, Bool.and_true] at h2
        simp only [isT, Bool.and_assoc] at h2 ⊢
        cases h3 : side t.i <;> cases h4 : side t.j <;> cases h5 : side t.k <;> simp [h3, h4, h5] at h2 ⊢
      rw [this] at hQ2
      exact hQ2
    | true =>
      simp only [List.all_cons, List.all_nil, Bool.and_true, Bool.and_eq_true] at h2
      have h3 := side_iff.1 h2.1
      have h4 := side_iff.1 h2.2.1
      have h5 := side_iff.1 h2.2.2
      have b2 := mul_in (a := t.i) (b := t.j) (A := 9) (B := 9) (by omega) (by omega)
      have b3 := mul_in (a := t.i * t.j) (b := t.k) (A := 81) (B := 9) (by omega) (by omega)
      try simp (maxSteps := 3000000) (disch := first | omega | (simp only [len_new, len_put, len_kill]; omega)) only [↓xpre, xpost, ↓reduceIte, Nat.reduceEqDiff, Nat.reduceAdd, Nat.reduceSub, Nat.reduceLeDiff, Nat.zero_add, Nat.sub_zero, rd1_of hb, hv2.len, wrap64_in]
      by_cases he : (t.ns.length : Int) = t.i * t.j * t.k
      · try simp (maxSteps := 3000000) (disch := first | omega | (simp only [len_new, len_put, len_kill]; omega)) only [↓xpre, xpost, ↓reduceIte, Nat.reduceEqDiff, Nat.reduceAdd, Nat.reduceSub, Nat.reduceLeDiff, Nat.zero_add, Nat.sub_zero, rd1_of hb, ← he]
        refine i_areNumbers hv2 hl ?_
        try simp (maxSteps := 3000000) (disch := first | omega | (simp only [len_new, len_put, len_kill]; omega)) only [↓xpre, xpost, ↓reduceIte, Nat.reduceEqDiff, Nat.reduceAdd, Nat.reduceSub, Nat.reduceLeDiff, Nat.zero_add, Nat.sub_zero]
        have : isT t = allIn t.p t.ns := by simp [isT, h1, h2, ← he]
        rw [this] at hQ2
        exact hQ2
      · try simp (maxSteps := 3000000) (disch := first | omega | (simp only [len_new, len_put, len_kill]; omega)) only [↓xpre, xpost, ↓reduceIte, Nat.reduceEqDiff, Nat.reduceAdd, Nat.reduceSub, Nat.reduceLeDiff, Nat.zero_add, Nat.sub_zero, he]
        have : isT t = false := by simp [isT, he]
        rw [this] at hQ2
        exact hQ2

/-- A tensor of one's own numbers. -/
theorem l_toTensor {v : Value} {t : Ten} {h : AH} {Q : Value → AH → Prop} (hv : Ints h v t.ns) (hl : (t.ns.length : Int) ≤ 1048576)
    (hQ : ∀ v' h', h <+: h' → OwnI h h' v' t.ns → Q (tenV t v') h') : WF S 19 [tenV t v] h Q := by
  refine WF_fn (fn := c19) rfl rfl ?_
  unfold c19
  try simp (maxSteps := 3000000) (disch := first | omega | (simp only [len_new, len_put, len_kill]; omega)) only [↓xpre, xpost, ↓reduceIte, Nat.reduceEqDiff, Nat.reduceAdd, Nat.reduceSub, Nat.reduceLeDiff, Nat.zero_add, Nat.sub_zero, tenV, hv.one]
  refine l_toInt64S (hv.pre ?_) hl fun v' h' hp o => ?_
  · exact pre_new (pre_new (pre_new (List.prefix_refl _)))
  generalize hH1 : AH.new h _ = H1 at hp o ⊢
  obtain ⟨hb1, p1, n1⟩ := new_facts hH1
  generalize hH2 : AH.new H1 _ = H2 at hp o ⊢
  obtain ⟨hb2, p2, n2⟩ := new_facts hH2
  generalize hH3 : AH.new H2 _ = H3 at hp o ⊢
  obtain ⟨hb3, p3, n3⟩ := new_facts hH3
  have hb2 := pre_get hp (pre_get p3 hb2)
  have hb3 := pre_get hp hb3
  have nl := pre_len hp
  have hv' := o.ints
  try simp (maxSteps := 3000000) (disch := first | omega | (simp only [len_new, len_put, len_kill]; omega)) only [↓xpre, xpost, ↓reduceIte, Nat.reduceEqDiff, Nat.reduceAdd, Nat.reduceSub, Nat.reduceLeDiff, Nat.zero_add, Nat.sub_zero, hv'.one, hv'.cells, wr_of hb3, wr_of hb2]
  refine hQ _ _ (pre_put (pre_put (((p1.trans p2).trans p3).trans hp) ?_) ?_) ?_
  all_goals first | omega | skip
  obtain ⟨n, e, q1, q2, q3⟩ := o
  refine ⟨n, e, by omega, q2, ?_⟩
  rw [get_put_ne (by omega), get_put_ne (by omega)]
  exact q3

theorem l_eqTensor {v v' : Value} {t t' : Ten} {h : AH} {Q : Value → AH → Prop} (hv : Ints h v t.ns) (hv' : Ints h v' t'.ns) (hl : (t.ns.length : Int) ≤ 1048576)
    (hQ : ∀ h', h <+: h' → Q (.bool (decide (t = t'))) h') : WF S 21 [tenV t v, tenV t' v'] h Q := by
  refine WF_fn (fn := c21) rfl rfl ?_
  unfold c21
  try simp (maxSteps := 3000000) (disch := first | omega | (simp only [len_new, len_put, len_kill]; omega)) only [↓xpre, xpost, ↓reduceIte, Nat.reduceEqDiff, Nat.reduceAdd, Nat.reduceSub, Nat.reduceLeDiff, Nat.zero_add, Nat.sub_zero, tenV, hv.one, hv'.one, IfW_dec]
  generalize hH1 : AH.new h _ = H1
  obtain ⟨hb1, p1, n1⟩ := new_facts hH1
  generalize hH2 : AH.new H1 _ = H2
  obtain ⟨hb2, p2, n2⟩ := new_facts hH2
  have hQ' := hQ _ (p1.trans p2)
  have hv2 := hv.pre (p1.trans p2)
  have hv2' := hv'.pre (p1.trans p2)
  have hb1 := pre_get p2 hb1
  have fin : ∀ {q : Prop}, (q → t ≠ t') → q → Q (.bool false) H2 := fun hq h1 => by simpa [hq h1] using hQ'
  refine ⟨fin fun e h => e (by rw [h]), fun e1 => ?_⟩
  refine ⟨fin fun e h => e (by rw [h]), fun e2 => ?_⟩
  refine ⟨fin fun e h => e (by rw [h]), fun e3 => ?_⟩
  refine ⟨fin fun e h => e (by rw [h]), fun e4 => ?_⟩
  refine l_eqInt64S hv2 hv2' hl ?_
  try simp (maxSteps := 3000000) (disch := first | omega | (simp only [len_new, len_put, len_kill]; omega)) only [↓xpre, xpost, ↓reduceIte, Nat.reduceEqDiff, Nat.reduceAdd, Nat.reduceSub, Nat.reduceLeDiff, Nat.zero_add, Nat.sub_zero]
  by_cases he : t.ns = t'.ns
  · try simp (maxSteps := 3000000) (disch := first | omega | (simp only [len_new, len_put, len_kill]; omega)) only [↓xpre, xpost, ↓reduceIte, Nat.reduceEqDiff, Nat.reduceAdd, Nat.reduceSub, Nat.reduceLeDiff, Nat.zero_add, Nat.sub_zero, he]
    have : t = t' := by
      obtain ⟨a, b, c, d, e⟩ := t
      obtain ⟨a', b', c', d', e'⟩ := t'
      simp_all
    simpa [this] using hQ'
  · try simp (maxSteps := 3000000) (disch := first | omega | (simp only [len_new, len_put, len_kill]; omega)) only [↓xpre, xpost, ↓reduceIte, Nat.reduceEqDiff, Nat.reduceAdd, Nat.reduceSub, Nat.reduceLeDiff, Nat.zero_add, Nat.sub_zero, he]
    exact fin (q := True) (fun _ h => he (by rw [h])) trivial
end Go.Proofs.Ytnjhhgfpclngcaa.X
