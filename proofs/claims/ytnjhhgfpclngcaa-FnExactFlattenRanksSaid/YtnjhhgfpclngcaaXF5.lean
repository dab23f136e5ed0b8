/- The number at three places. -/
import Derived.Test.YtnjhhgfpclngcaaXF4
set_option linter.unusedVariables false
set_option linter.unusedSimpArgs false
namespace Go.Proofs.Ytnjhhgfpclngcaa.X
open Go Go.RowKit

structure TF (t : Ten) : Prop where
  p : 2 ≤ t.p ∧ t.p ≤ 5
  i : 1 ≤ t.i ∧ t.i ≤ 9
  j : 1 ≤ t.j ∧ t.j ≤ 9
  k : 1 ≤ t.k ∧ t.k ≤ 9
  len : (t.ns.length : Int) = t.i * t.j * t.k
  num : ∀ x : Int, 0 ≤ x → x < t.ns.length → 0 ≤ nth t.ns x ∧ nth t.ns x < t.p
  ij : 1 ≤ t.i * t.j ∧ t.i * t.j ≤ 81
  ijk : 1 ≤ t.i * t.j * t.k ∧ t.i * t.j * t.k ≤ 729
theorem mul_in1 {a b A B : Int} (ha : 1 ≤ a ∧ a ≤ A) (hb : 1 ≤ b ∧ b ≤ B) : 1 ≤ a * b ∧ a * b ≤ A * B := by
  refine ⟨?_, (mul_in (by omega) (by omega)).2⟩
  have := Int.mul_le_mul ha.1 hb.1 (by omega) (by omega)
  simpa using this
theorem isT_facts {t : Ten} (h : isT t = true) : TF t := by
  simp only [isT, Bool.and_eq_true, decide_eq_true_eq] at h
  obtain ⟨⟨⟨⟨⟨h1, h2⟩, h3⟩, h4⟩, h5⟩, h6⟩ := h
  have i2 := side_iff.1 h2
  have i3 := side_iff.1 h3
  have i4 := side_iff.1 h4
  have ij := mul_in1 (A := 9) (B := 9) i2 i3
  have ijk := mul_in1 (A := 81) (B := 9) ij i4
  exact ⟨isP_in h1, i2, i3, i4, h5, fun x h0 hx => allIn_iff.1 h6 x.toNat (by omega), ij, ijk⟩
theorem lin_in {i j I J : Int} (hi : 0 ≤ i ∧ i < I) (hj : 0 ≤ j ∧ j < J) : 0 ≤ i * J ∧ 0 ≤ i * J + j ∧ i * J + j < I * J := by
  have h1 := Int.mul_nonneg hi.1 (show 0 ≤ J by omega)
  have h2 := Int.mul_le_mul_of_nonneg_right (show i + 1 ≤ I by omega) (show 0 ≤ J by omega)
  rw [Int.add_mul, Int.one_mul] at h2
  omega
def tat (t : Ten) (i j k : Int) : Int := nth t.ns ((i * t.j + j) * t.k + k)

theorem s_l05At {v : Value} {t : Ten} {i j k : Int} {h : AH} {Q : Value → AH → Prop} (hv : Ints h v t.ns) (f : TF t) (hi : 0 ≤ i ∧ i < t.i) (hj : 0 ≤ j ∧ j < t.j) (hk : 0 ≤ k ∧ k < t.k)
    (hQ : ∀ h', h <+: h' → Q (I64 (tat t i j k)) h') : WF S 62 [tenV t v, I64 i, I64 j, I64 k] h Q := by
  refine WF_fn (fn := c62) rfl rfl ?_
  unfold c62
  have b1 := lin_in hi hj
  have b2 := lin_in b1.2 hk
  have b3 := f.ij
  have b4 := f.ijk
  have b5 := f.len
  have hv1 := hv.pre (pre_new (b := ⟨[I64 t.p, I64 t.i, I64 t.j, I64 t.k, v], 30, false, true⟩) (List.prefix_refl h))
  try simp (maxSteps := 3000000) (disch := first | omega | (simp only [len_new, len_put, len_kill]; omega)) only [↓xpre, xpost, ↓reduceIte, Nat.reduceEqDiff, Nat.reduceAdd, Nat.reduceSub, Nat.reduceLeDiff, Nat.zero_add, Nat.sub_zero, tenV, hv.one, wrap64_in, hv1.ix, hv1.rd]
  exact hQ _ (pre_new (List.prefix_refl _))
theorem i_at {v : Value} {t : Ten} {i j k : Int} {h : AH} {Q : Value → AH → Prop} (hv : Ints h v t.ns) (f : TF t) (hi : 0 ≤ i ∧ i < t.i) (hj : 0 ≤ j ∧ j < t.j) (hk : 0 ≤ k ∧ k < t.k)
    (hQ : ∀ h', h <+: h' → Q (I64 (tat t i j k)) h') : WF S 63 [tenV t v, I64 i, I64 j, I64 k] h Q := by
  refine WF_fn (fn := c63) rfl rfl ?_
  unfold c63
  have b1 := lin_in hi hj
  have b2 := lin_in b1.2 hk
  have b3 := f.ij
  have b4 := f.ijk
  have b5 := f.len
  have hv1 := hv.pre (pre_new (b := ⟨[I64 t.p, I64 t.i, I64 t.j, I64 t.k, v], 30, false, true⟩) (List.prefix_refl h))
  try simp (maxSteps := 3000000) (disch := first | omega | (simp only [len_new, len_put, len_kill]; omega)) only [↓xpre, xpost, ↓reduceIte, Nat.reduceEqDiff, Nat.reduceAdd, Nat.reduceSub, Nat.reduceLeDiff, Nat.zero_add, Nat.sub_zero, tenV, hv.one, wrap64_in, hv1.ix, hv1.rd]
  exact hQ _ (pre_new (List.prefix_refl _))

def numAt (t : Ten) (i j k : Int) : Value :=
  if isT t = true then (if (0 ≤ i ∧ i < t.i) ∧ (0 ≤ j ∧ j < t.j) ∧ (0 ≤ k ∧ k < t.k) then .tuple #[I64 (tat t i j k), I64 0] else .tuple #[I64 0, I64 2]) else .tuple #[I64 0, I64 1]

theorem s_NumberAt {v : Value} {t : Ten} {i j k : Int} {h : AH} {Q : Value → AH → Prop} (hv : Ints h v t.ns) (hl : (t.ns.length : Int) ≤ 1048576)
    (hQ : ∀ h', h <+: h' → Q (numAt t i j k) h') : WF S 22 [tenV t v, I64 i, I64 j, I64 k] h Q := by
  refine WF_fn (fn := c22) rfl rfl ?_
  unfold c22
  try simp (maxSteps := 3000000) (disch := first | omega | (simp only [len_new, len_put, len_kill]; omega)) only [↓xpre, xpost, ↓reduceIte, Nat.reduceEqDiff, Nat.reduceAdd, Nat.reduceSub, Nat.reduceLeDiff, Nat.zero_add, Nat.sub_zero, tenV, hv.one]
  generalize hH : AH.new h _ = H
  obtain ⟨hb, hp, hlen⟩ := new_facts hH
  refine s_l05Is (hv.pre hp) hl fun H2 p2 => ?_
  have hb := pre_get p2 hb
  have hv2 := hv.pre (hp.trans p2)
  have hQ' := hQ _ (hp.trans p2)
  unfold numAt at hQ'
  cases ht : isT t with
  | false =>
    try simp (maxSteps := 3000000) (disch := first | omega | (simp only [len_new, len_put, len_kill]; omega)) only [↓xpre, xpost, ↓reduceIte, Nat.reduceEqDiff, Nat.reduceAdd, Nat.reduceSub, Nat.reduceLeDiff, Nat.zero_add, Nat.sub_zero]
    simpa [ht] using hQ'
  | true =>
    have f := isT_facts ht
    have f1 := f.i
    have f2 := f.j
    have f3 := f.k
    try simp (maxSteps := 3000000) (disch := first | omega | (simp only [len_new, len_put, len_kill]; omega)) only [↓xpre, xpost, ↓reduceIte, Nat.reduceEqDiff, Nat.reduceAdd, Nat.reduceSub, Nat.reduceLeDiff, Nat.zero_add, Nat.sub_zero, rd1_of hb, wrap64_in]
    refine s_l01In ?_
    by_cases h1 : 0 ≤ i ∧ i ≤ t.i - 1
    case neg =>
      try simp (maxSteps := 3000000) (disch := first | omega | (simp only [len_new, len_put, len_kill]; omega)) only [↓xpre, xpost, ↓reduceIte, Nat.reduceEqDiff, Nat.reduceAdd, Nat.reduceSub, Nat.reduceLeDiff, Nat.zero_add, Nat.sub_zero, h1]
      rw [if_pos ht, if_neg (by omega)] at hQ'
      exact hQ'
    try simp (maxSteps := 3000000) (disch := first | omega | (simp only [len_new, len_put, len_kill]; omega)) only [↓xpre, xpost, ↓reduceIte, Nat.reduceEqDiff, Nat.reduceAdd, Nat.reduceSub, Nat.reduceLeDiff, Nat.zero_add, Nat.sub_zero, h1, rd1_of hb, wrap64_in]
    refine s_l01In ?_
    by_cases h2 : 0 ≤ j ∧ j ≤ t.j - 1
    case neg =>
      try simp (maxSteps := 3000000) (disch := first | omega | (simp only [len_new, len_put, len_kill]; omega)) only [↓xpre, xpost, ↓reduceIte, Nat.reduceEqDiff, Nat.reduceAdd, Nat.reduceSub, Nat.reduceLeDiff, Nat.zero_add, Nat.sub_zero, h2]
      rw [if_pos ht, if_neg (by omega)] at hQ'
      exact hQ'
    try simp (maxSteps := 3000000) (disch := first | omega | (simp only [len_new, len_put, len_kill]; omega)) only [↓xpre, xpost, ↓reduceIte, Nat.reduceEqDiff, Nat.reduceAdd, Nat.reduceSub, Nat.reduceLeDiff, Nat.zero_add, Nat.sub_zero, h2, rd1_of hb, wrap64_in]
    refine s_l01In ?_
    by_cases h3 : 0 ≤ k ∧ k ≤ t.k - 1
    case neg =>
      try simp (maxSteps := 3000000) (disch := first | omega | (simp only [len_new, len_put, len_kill]; omega)) only [↓xpre, xpost, ↓reduceIte, Nat.reduceEqDiff, Nat.reduceAdd, Nat.reduceSub, Nat.reduceLeDiff, Nat.zero_add, Nat.sub_zero, h3]
      rw [if_pos ht, if_neg (by omega)] at hQ'
      exact hQ'
    try simp (maxSteps := 3000000) (disch := first | omega | (simp only [len_new, len_put, len_kill]; omega)) only [↓xpre, xpost, ↓reduceIte, Nat.reduceEqDiff, Nat.reduceAdd, Nat.reduceSub, Nat.reduceLeDiff, Nat.zero_add, Nat.sub_zero, h3, rdn_of hb]
    refine s_l05At hv2 f (by omega) (by omega) (by omega) fun H3 p3 => ?_
    try simp (maxSteps := 3000000) (disch := first | omega | (simp only [len_new, len_put, len_kill]; omega)) only [↓xpre, xpost, ↓reduceIte, Nat.reduceEqDiff, Nat.reduceAdd, Nat.reduceSub, Nat.reduceLeDiff, Nat.zero_add, Nat.sub_zero]
    have hQ3 := hQ _ ((hp.trans p2).trans p3)
    unfold numAt at hQ3
    rw [if_pos ht, if_pos (by omega)] at hQ3
    exact hQ3

theorem i_NumberAt {v : Value} {t : Ten} {i j k : Int} {h : AH} {Q : Value → AH → Prop} (hv : Ints h v t.ns) (hl : (t.ns.length : Int) ≤ 1048576)
    (hQ : ∀ h', h <+: h' → Q (numAt t i j k) h') : WF S 23 [tenV t v, I64 i, I64 j, I64 k] h Q := by
  refine WF_fn (fn := c23) rfl rfl ?_
  unfold c23
  try simp (maxSteps := 3000000) (disch := first | omega | (simp only [len_new, len_put, len_kill]; omega)) only [↓xpre, xpost, ↓reduceIte, Nat.reduceEqDiff, Nat.reduceAdd, Nat.reduceSub, Nat.reduceLeDiff, Nat.zero_add, Nat.sub_zero, tenV, hv.one]
  generalize hH : AH.new h _ = H
  obtain ⟨hb, hp, hlen⟩ := new_facts hH
  refine i_IsTensor (hv.pre hp) hl fun H2 p2 => ?_
  have hb := pre_get p2 hb
  have hv2 := hv.pre (hp.trans p2)
  have hQ' := hQ _ (hp.trans p2)
  unfold numAt at hQ'
  cases ht : isT t with
  | false =>
    try simp (maxSteps := 3000000) (disch := first | omega | (simp only [len_new, len_put, len_kill]; omega)) only [↓xpre, xpost, ↓reduceIte, Nat.reduceEqDiff, Nat.reduceAdd, Nat.reduceSub, Nat.reduceLeDiff, Nat.zero_add, Nat.sub_zero]
    simpa [ht] using hQ'
  | true =>
    have f := isT_facts ht
    have f1 := f.i
    have f2 := f.j
    have f3 := f.k
    try simp (maxSteps := 3000000) (disch := first | omega | (simp only [len_new, len_put, len_kill]; omega)) only [↓xpre, xpost, ↓reduceIte, Nat.reduceEqDiff, Nat.reduceAdd, Nat.reduceSub, Nat.reduceLeDiff, Nat.zero_add, Nat.sub_zero, rd1_of hb]
    have no : ¬ ((0 ≤ i ∧ i < t.i) ∧ (0 ≤ j ∧ j < t.j) ∧ (0 ≤ k ∧ k < t.k)) → Q (.tuple #[I64 0, I64 2]) H2 := fun hn => by
      rw [if_pos ht, if_neg hn] at hQ'
      exact hQ'
    by_cases h1 : i < 0
    · try simp (maxSteps := 3000000) (disch := first | omega | (simp only [len_new, len_put, len_kill]; omega)) only [↓xpre, xpost, ↓reduceIte, Nat.reduceEqDiff, Nat.reduceAdd, Nat.reduceSub, Nat.reduceLeDiff, Nat.zero_add, Nat.sub_zero, h1]
      exact no (by omega)
    try simp (maxSteps := 3000000) (disch := first | omega | (simp only [len_new, len_put, len_kill]; omega)) only [↓xpre, xpost, ↓reduceIte, Nat.reduceEqDiff, Nat.reduceAdd, Nat.reduceSub, Nat.reduceLeDiff, Nat.zero_add, Nat.sub_zero, h1, rd1_of hb]
    by_cases h2 : t.i ≤ i
    · try simp (maxSteps := 3000000) (disch := first | omega | (simp only [len_new, len_put, len_kill]; omega)) only [↓xpre, xpost, ↓reduceIte, Nat.reduceEqDiff, Nat.reduceAdd, Nat.reduceSub, Nat.reduceLeDiff, Nat.zero_add, Nat.sub_zero, h2]
      exact no (by omega)
    try simp (maxSteps := 3000000) (disch := first | omega | (simp only [len_new, len_put, len_kill]; omega)) only [↓xpre, xpost, ↓reduceIte, Nat.reduceEqDiff, Nat.reduceAdd, Nat.reduceSub, Nat.reduceLeDiff, Nat.zero_add, Nat.sub_zero, h2, rd1_of hb]
    by_cases h3 : j < 0
    · try simp (maxSteps := 3000000) (disch := first | omega | (simp only [len_new, len_put, len_kill]; omega)) only [↓xpre, xpost, ↓reduceIte, Nat.reduceEqDiff, Nat.reduceAdd, Nat.reduceSub, Nat.reduceLeDiff, Nat.zero_add, Nat.sub_zero, h3]
      exact no (by omega)
    try simp (maxSteps := 3000000) (disch := first | omega | (simp only [len_new, len_put, len_kill]; omega)) only [↓xpre, xpost, ↓reduceIte, Nat.reduceEqDiff, Nat.reduceAdd, Nat.reduceSub, Nat.reduceLeDiff, Nat.zero_add, Nat.sub_zero, h3, rd1_of hb]
    by_cases h4 : t.j ≤ j
    · try simp (maxSteps := 3000000) (disch := first | omega | (simp only [len_new, len_put, len_kill]; omega)) only [↓xpre, xpost, ↓reduceIte, Nat.reduceEqDiff, Nat.reduceAdd, Nat.reduceSub, Nat.reduceLeDiff, Nat.zero_add, Nat.sub_zero, h4]
      exact no (by omega)
    try simp (maxSteps := 3000000) (disch := first | omega | (simp only [len_new, len_put, len_kill]; omega)) only [↓xpre, xpost, ↓reduceIte, Nat.reduceEqDiff, Nat.reduceAdd, Nat.reduceSub, Nat.reduceLeDiff, Nat.zero_add, Nat.sub_zero, h4, rd1_of hb]
    by_cases h5 : k < 0
    · try simp (maxSteps := 3000000) (disch := first | omega | (simp only [len_new, len_put, len_kill]; omega)) only [↓xpre, xpost, ↓reduceIte, Nat.reduceEqDiff, Nat.reduceAdd, Nat.reduceSub, Nat.reduceLeDiff, Nat.zero_add, Nat.sub_zero, h5]
      exact no (by omega)
    try simp (maxSteps := 3000000) (disch := first | omega | (simp only [len_new, len_put, len_kill]; omega)) only [↓xpre, xpost, ↓reduceIte, Nat.reduceEqDiff, Nat.reduceAdd, Nat.reduceSub, Nat.reduceLeDiff, Nat.zero_add, Nat.sub_zero, h5, rd1_of hb]
    by_cases h6 : t.k ≤ k
    · try simp (maxSteps := 3000000) (disch := first | omega | (simp only [len_new, len_put, len_kill]; omega)) only [↓xpre, xpost, ↓reduceIte, Nat.reduceEqDiff, Nat.reduceAdd, Nat.reduceSub, Nat.reduceLeDiff, Nat.zero_add, Nat.sub_zero, h6]
      exact no (by omega)
    try simp (maxSteps := 3000000) (disch := first | omega | (simp only [len_new, len_put, len_kill]; omega)) only [↓xpre, xpost, ↓reduceIte, Nat.reduceEqDiff, Nat.reduceAdd, Nat.reduceSub, Nat.reduceLeDiff, Nat.zero_add, Nat.sub_zero, h6, rdn_of hb]
    refine i_at hv2 f (by omega) (by omega) (by omega) fun H3 p3 => ?_
    try simp (maxSteps := 3000000) (disch := first | omega | (simp only [len_new, len_put, len_kill]; omega)) only [↓xpre, xpost, ↓reduceIte, Nat.reduceEqDiff, Nat.reduceAdd, Nat.reduceSub, Nat.reduceLeDiff, Nat.zero_add, Nat.sub_zero]
    have hQ3 := hQ _ ((hp.trans p2).trans p3)
    unfold numAt at hQ3
    rw [if_pos ht, if_pos (by omega)] at hQ3
    exact hQ3

theorem numAt_shape (t : Ten) (i j k : Int) : ∃ a b, numAt t i j k = .tuple #[I64 a, I64 b] := by
  unfold numAt
  split
  · split <;> exact ⟨_, _, rfl⟩
  · exact ⟨_, _, rfl⟩

end Go.Proofs.Ytnjhhgfpclngcaa.X
