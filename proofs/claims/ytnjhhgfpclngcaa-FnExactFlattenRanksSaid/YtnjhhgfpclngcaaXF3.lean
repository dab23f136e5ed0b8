/- Tensors: what they are, copies, comparisons. -/
import Derived.Test.YtnjhhgfpclngcaaXF2
set_option linter.unusedVariables false
set_option linter.unusedSimpArgs false
namespace Go.Proofs.Ytnjhhgfpclngcaa.X
open Go Go.RowKit

theorem new_facts {h H : AH} {b : Blk} (e : h.new b = H) : H.get h.length = some b ∧ h <+: H ∧ H.length = h.length + 1 := by
  subst e
  exact ⟨get_new_same, pre_new (List.prefix_refl _), len_new⟩

structure Ten where
  p : Int
  i : Int
  j : Int
  k : Int
  ns : List Int
  deriving DecidableEq
def tenV (t : Ten) (v : Value) : Value := .agg #[I64 t.p, I64 t.i, I64 t.j, I64 t.k, v]
def side (n : Int) : Bool := decide (1 ≤ n ∧ n ≤ 9)
def isT (t : Ten) : Bool := isP t.p && side t.i && side t.j && side t.k && decide ((t.ns.length : Int) = t.i * t.j * t.k) && allIn t.p t.ns
theorem side_iff {n : Int} : side n = true ↔ 1 ≤ n ∧ n ≤ 9 := by simp [side]
theorem isP_in {p : Int} (h : isP p = true) : 2 ≤ p ∧ p ≤ 5 := by
  simp [isP] at h
  omega
theorem mul_in {a b A B : Int} (ha : 0 ≤ a ∧ a ≤ A) (hb : 0 ≤ b ∧ b ≤ B) : 0 ≤ a * b ∧ a * b ≤ A * B :=
  ⟨Int.mul_nonneg ha.1 hb.1, Int.mul_le_mul ha.2 hb.2 hb.1 (by omega)⟩

theorem l_szTensor {v : Value} {t : Ten} {n : Int} {h : AH} {Q : Value → AH → Prop} (hv : Ints h v t.ns) (h0 : 0 ≤ n ∧ n ≤ 1048576) (hl : (t.ns.length : Int) ≤ 9223372036854775807)
    (hQ : ∀ (m : Int) h', h <+: h' → m ≤ n → (0 ≤ m → (t.ns.length : Int) ≤ n ∧ m = n - t.ns.length) → Q (I64 m) h') : WF S 17 [tenV t v, I64 n] h Q := by
  refine WF_fn (fn := c17) rfl rfl ?_
  unfold c17
  try simp (maxSteps := 3000000) (disch := first | omega | (simp only [len_new, len_put, len_kill]; omega)) only [↓xpre, xpost, ↓reduceIte, Nat.reduceEqDiff, Nat.reduceAdd, Nat.reduceSub, Nat.reduceLeDiff, Nat.zero_add, Nat.sub_zero, tenV, hv.one]
  refine l_szInt64S (hv.pre (pre_new (List.prefix_refl _))) h0 hl fun m h1 h2 => ?_
  try simp (maxSteps := 3000000) (disch := first | omega | (simp only [len_new, len_put, len_kill]; omega)) only [↓xpre, xpost, ↓reduceIte, Nat.reduceEqDiff, Nat.reduceAdd, Nat.reduceSub, Nat.reduceLeDiff, Nat.zero_add, Nat.sub_zero, IfW_dec]
  exact ⟨fun hm => hQ _ _ (pre_new (List.prefix_refl _)) (by omega) (by omega), fun hm => hQ _ _ (pre_new (List.prefix_refl _)) h1 h2⟩

theorem s_l05Is {v : Value} {t : Ten} {h : AH} {Q : Value → AH → Prop} (hv : Ints h v t.ns) (hl : (t.ns.length : Int) ≤ 1048576)
    (hQ : ∀ h', h <+: h' → Q (.bool (isT t)) h') : WF S 58 [tenV t v] h Q := by
  refine WF_fn (fn := c58) rfl rfl ?_
  unfold c58
  try simp (maxSteps := 3000000) (disch := first | omega | (simp only [len_new, len_put, len_kill]; omega)) only [↓xpre, xpost, ↓reduceIte, Nat.reduceEqDiff, Nat.reduceAdd, Nat.reduceSub, Nat.reduceLeDiff, Nat.zero_add, Nat.sub_zero, tenV, hv.one]
  generalize hH : AH.new h _ = H
  obtain ⟨hb, hp, hlen⟩ := new_facts hH
  have hv1 := hv.pre hp
  have hQ' := hQ _ hp
  refine s_l01Prime ?_
  cases h1 : isP t.p with
  | false =>
    try simp (maxSteps := 3000000) (disch := first | omega | (simp only [len_new, len_put, len_kill]; omega)) only [↓xpre, xpost, ↓reduceIte, Nat.reduceEqDiff, Nat.reduceAdd, Nat.reduceSub, Nat.reduceLeDiff, Nat.zero_add, Nat.sub_zero, h1]
    simpa [isT, h1] using hQ'
  | true =>
    try simp (maxSteps := 3000000) (disch := first | omega | (simp only [len_new, len_put, len_kill]; omega)) only [↓xpre, xpost, ↓reduceIte, Nat.reduceEqDiff, Nat.reduceAdd, Nat.reduceSub, Nat.reduceLeDiff, Nat.zero_add, Nat.sub_zero, h1, rd1_of hb]
    refine s_l01In ?_
    by_cases h2 : 1 ≤ t.i ∧ t.i ≤ 9
    case neg =>
      try simp (maxSteps := 3000000) (disch := first | omega | (simp only [len_new, len_put, len_kill]; omega)) only [↓xpre, xpost, ↓reduceIte, Nat.reduceEqDiff, Nat.reduceAdd, Nat.reduceSub, Nat.reduceLeDiff, Nat.zero_add, Nat.sub_zero, h2]
      simpa [isT, side, h2] using hQ'
    try simp (maxSteps := 3000000) (disch := first | omega | (simp only [len_new, len_put, len_kill]; omega)) only [↓xpre, xpost, ↓reduceIte, Nat.reduceEqDiff, Nat.reduceAdd, Nat.reduceSub, Nat.reduceLeDiff, Nat.zero_add, Nat.sub_zero, h2, rd1_of hb]
    refine s_l01In ?_
    by_cases h3 : 1 ≤ t.j ∧ t.j ≤ 9
    case neg =>
      try simp (maxSteps := 3000000) (disch := first | omega | (simp only [len_new, len_put, len_kill]; omega)) only [↓xpre, xpost, ↓reduceIte, Nat.reduceEqDiff, Nat.reduceAdd, Nat.reduceSub, Nat.reduceLeDiff, Nat.zero_add, Nat.sub_zero, h3]
      simpa [isT, side, h3] using hQ'
    try simp (maxSteps := 3000000) (disch := first | omega | (simp only [len_new, len_put, len_kill]; omega)) only [↓xpre, xpost, ↓reduceIte, Nat.reduceEqDiff, Nat.reduceAdd, Nat.reduceSub, Nat.reduceLeDiff, Nat.zero_add, Nat.sub_zero, h3, rd1_of hb]
    refine s_l01In ?_
    by_cases h4 : 1 ≤ t.k ∧ t.k ≤ 9
    case neg =>
      try simp (maxSteps := 3000000) (disch := first | omega | (simp only [len_new, len_put, len_kill]; omega)) only [↓xpre, xpost, ↓reduceIte, Nat.reduceEqDiff, Nat.reduceAdd, Nat.reduceSub, Nat.reduceLeDiff, Nat.zero_add, Nat.sub_zero, h4]
      simpa [isT, side, h4] using hQ'
    have b1 := isP_in h1
    have b2 := mul_in (a := t.i) (b := t.j) (A := 9) (B := 9) (by omega) (by omega)
    have b3 := mul_in (a := t.i * t.j) (b := t.k) (A := 81) (B := 9) (by omega) (by omega)
    try simp (maxSteps := 3000000) (disch := first | omega | (simp only [len_new, len_put, len_kill]; omega)) only [↓xpre, xpost, ↓reduceIte, Nat.reduceEqDiff, Nat.reduceAdd, Nat.reduceSub, Nat.reduceLeDiff, Nat.zero_add, Nat.sub_zero, h4, rd1_of hb, hv1.len, wrap64_in, IfW_dec]
    refine ⟨fun hne => ?_, fun he => ?_⟩
    · simpa [isT, hne] using hQ'
    refine WC_loop_inv (fun n f h1 => ∃ i : Nat, n = t.ns.length - i ∧ i ≤ t.ns.length ∧ f 1 = .pointer (some ⟨h.length, 0, none⟩) ∧ f 3 = I64 i ∧ h1 = H ∧
      ∀ j, j < i → 0 ≤ t.ns.getD j 0 ∧ t.ns.getD j 0 < t.p) ?_ t.ns.length _ _ ⟨0, rfl, Nat.zero_le _, rfl, rfl, rfl, by omega⟩
    rintro n f h1' ⟨i, rfl, hi, f1, f3, rfl, hj⟩
    try simp (maxSteps := 3000000) (disch := first | omega | (simp only [len_new, len_put, len_kill]; omega)) only [↓xpre, xpost, ↓reduceIte, Nat.reduceEqDiff, Nat.reduceAdd, Nat.reduceSub, Nat.reduceLeDiff, Nat.zero_add, Nat.sub_zero, f1, f3, rd1_of hb, hv1.len, IfW_dec]
    refine ⟨fun hlt => ?_, fun hge => ?_⟩
    · try simp (maxSteps := 3000000) (disch := first | omega | (simp only [len_new, len_put, len_kill]; omega)) only [↓xpre, xpost, ↓reduceIte, Nat.reduceEqDiff, Nat.reduceAdd, Nat.reduceSub, Nat.reduceLeDiff, Nat.zero_add, Nat.sub_zero, f1, f3, rd1_of hb, hv1.ix, hv1.rd, wrap64_in]
      refine s_l01In ?_
      simp only [nth, Int.toNat_natCast]
      by_cases h5 : 0 ≤ t.ns.getD i 0 ∧ t.ns.getD i 0 ≤ t.p - 1
      · try simp (maxSteps := 3000000) (disch := first | omega | (simp only [len_new, len_put, len_kill]; omega)) only [↓xpre, xpost, ↓reduceIte, Nat.reduceEqDiff, Nat.reduceAdd, Nat.reduceSub, Nat.reduceLeDiff, Nat.zero_add, Nat.sub_zero, h5, f1, f3, wrap64_in]
        refine InvQ_go (t.ns.length - (i + 1)) (by omega) ⟨i + 1, rfl, by omega, f1, rfl, rfl, fun j hj' => ?_⟩
        rcases Nat.lt_succ_iff_lt_or_eq.1 hj' with hj' | rfl
        · exact hj j hj'
        · omega
      · try simp (maxSteps := 3000000) (disch := first | omega | (simp only [len_new, len_put, len_kill]; omega)) only [↓xpre, xpost, ↓reduceIte, Nat.reduceEqDiff, Nat.reduceAdd, Nat.reduceSub, Nat.reduceLeDiff, Nat.zero_add, Nat.sub_zero, h5, f1, f3]
        have : allIn t.p t.ns = false := by
          cases ha : allIn t.p t.ns with
          | false => rfl
          | true =>
            have := allIn_iff.1 ha i (by omega)
            omega
        simpa [isT, this] using hQ'
    · try simp (maxSteps := 3000000) (disch := first | omega | (simp only [len_new, len_put, len_kill]; omega)) only [↓xpre, xpost, ↓reduceIte, Nat.reduceEqDiff, Nat.reduceAdd, Nat.reduceSub, Nat.reduceLeDiff, Nat.zero_add, Nat.sub_zero, f1, f3]
      have : allIn t.p t.ns = true := allIn_iff.2 fun j hj' => hj j (by omega)
      have e' := Decidable.not_not.1 he
      simpa [isT, this, h1, h2, h3, h4, e', side] using hQ'

theorem s_IsTensor {v : Value} {t : Ten} {h : AH} {Q : Value → AH → Prop} (hv : Ints h v t.ns) (hl : (t.ns.length : Int) ≤ 1048576)
    (hQ : ∀ h', h <+: h' → Q (.bool (isT t)) h') : WF S 18 [tenV t v] h Q := by
  refine WF_fn (fn := c18) rfl rfl ?_
  unfold c18
  try simp (maxSteps := 3000000) (disch := first | omega | (simp only [len_new, len_put, len_kill]; omega)) only [↓xpre, xpost, ↓reduceIte, Nat.reduceEqDiff, Nat.reduceAdd, Nat.reduceSub, Nat.reduceLeDiff, Nat.zero_add, Nat.sub_zero, tenV, hv.one]
  refine s_l05Is (hv.pre (pre_new (List.prefix_refl _))) hl fun h' hp => ?_
  try simp (maxSteps := 3000000) (disch := first | omega | (simp only [len_new, len_put, len_kill]; omega)) only [↓xpre, xpost, ↓reduceIte, Nat.reduceEqDiff, Nat.reduceAdd, Nat.reduceSub, Nat.reduceLeDiff, Nat.zero_add, Nat.sub_zero]
  exact hQ _ ((pre_new (List.prefix_refl _)).trans hp)

end Go.Proofs.Ytnjhhgfpclngcaa.X
