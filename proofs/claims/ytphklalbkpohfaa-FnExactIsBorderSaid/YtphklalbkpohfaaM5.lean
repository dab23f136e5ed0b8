/- Texts of one claim, put together by merge.py: XS6. -/
import Derived.Test.YtphklalbkpohfaaM4
/- Square schemes, powers; GreaterSize and IsExponentAtMost. -/
set_option linter.unusedVariables false
set_option linter.unusedSimpArgs false
set_option maxRecDepth 20000
set_option maxHeartbeats 4000000
namespace Go.Proofs.Ytphklalbkpohfaa.X
open Go Go.RowKit

def sq (x : Sch) : Bool := decide (2 ≤ x.n ∧ x.m = x.n ∧ x.k = x.n)
def sqC (x : Sch) (fine : Bool) : Int := if isX x = true then (if (sq x && fine) = true then 0 else 2) else 1
theorem sqC_0 {x : Sch} {b : Bool} (h : sqC x b = 0) : isX x = true ∧ sq x = true ∧ b = true := by
  unfold sqC at h
  split at h
  · split at h
    · rename_i h1 h2
      simp only [Bool.and_eq_true] at h2
      exact ⟨h1, h2⟩
    · cases h
  · cases h
theorem isX_sz {x : Sch} (h : isX x = true) : SZ x ∧ x.ps.length ≤ 30 := by
  unfold isX at h
  simp only [Bool.and_eq_true, decide_eq_true_eq] at h
  exact ⟨szX_facts h.1.1, h.1.2⟩
theorem s_l06Square {v : Value} {x : Sch} {h : AH} {Q : Value → AH → Prop} (hv : Prods h v x.ps) (hl : SmallX x.ps) (hQ : ∀ h', h <+: h' → Q (I64 (sqC x true)) h') : WF S 67 [schV x v] h Q := by
  refine WF_fn (fn := c67) rfl rfl ?_
  unfold c67
  try simp (maxSteps := 3000000) (disch := first | omega | (simp only [len_new, len_put, len_kill]; omega)) only [↓xpre, xpost, ↓reduceIte, Nat.reduceEqDiff, Nat.reduceAdd, Nat.reduceSub, Nat.reduceLeDiff, Nat.zero_add, Nat.sub_zero, schV, hv.one]
  generalize hH1 : AH.new h _ = H1
  obtain ⟨hb1, p1, n1⟩ := new_facts hH1
  try simp (maxSteps := 3000000) (disch := first | omega | (simp only [len_new, len_put, len_kill]; omega)) only [↓xpre, xpost, ↓reduceIte, Nat.reduceEqDiff, Nat.reduceAdd, Nat.reduceSub, Nat.reduceLeDiff, Nat.zero_add, Nat.sub_zero, rdn_of hb1]
  refine s_l01Is (hv.pre p1) hl fun H2 p2 => ?_
  have hb1 := pre_get p2 hb1
  have hQ2 := hQ _ (p1.trans p2)
  unfold sqC at hQ2
  cases c0 : isX x with
  | false =>
    rw [c0, if_neg (by decide)] at hQ2
    try simp (maxSteps := 3000000) (disch := first | omega | (simp only [len_new, len_put, len_kill]; omega)) only [↓xpre, xpost, ↓reduceIte, Nat.reduceEqDiff, Nat.reduceAdd, Nat.reduceSub, Nat.reduceLeDiff, Nat.zero_add, Nat.sub_zero]
    exact hQ2
  | true =>
    rw [c0, if_pos rfl, Bool.and_true] at hQ2
    by_cases c1 : x.n < 2
    · try simp (maxSteps := 3000000) (disch := first | omega | (simp only [len_new, len_put, len_kill]; omega)) only [↓xpre, xpost, ↓reduceIte, Nat.reduceEqDiff, Nat.reduceAdd, Nat.reduceSub, Nat.reduceLeDiff, Nat.zero_add, Nat.sub_zero, rd1_of hb1, decide_eq_true c1, WG_un]
      rw [if_neg (by simp [sq]; omega)] at hQ2
      exact hQ2
    by_cases c2 : x.m = x.n
    · by_cases c3 : x.k = x.n
      · try simp (maxSteps := 3000000) (disch := first | omega | (simp only [len_new, len_put, len_kill]; omega)) only [↓xpre, xpost, ↓reduceIte, Nat.reduceEqDiff, Nat.reduceAdd, Nat.reduceSub, Nat.reduceLeDiff, Nat.zero_add, Nat.sub_zero, rd1_of hb1, decide_eq_false c1, decide_eq_false (show ¬ (x.m ≠ x.n) from fun e => e c2), decide_eq_false (show ¬ (x.k ≠ x.n) from fun e => e c3)]
        rw [if_pos (by simp [sq]; omega)] at hQ2
        exact hQ2
      · try simp (maxSteps := 3000000) (disch := first | omega | (simp only [len_new, len_put, len_kill]; omega)) only [↓xpre, xpost, ↓reduceIte, Nat.reduceEqDiff, Nat.reduceAdd, Nat.reduceSub, Nat.reduceLeDiff, Nat.zero_add, Nat.sub_zero, rd1_of hb1, decide_eq_false c1, decide_eq_false (show ¬ (x.m ≠ x.n) from fun e => e c2), decide_eq_true (show x.k ≠ x.n from c3)]
        rw [if_neg (by simp [sq]; omega)] at hQ2
        exact hQ2
    · try simp (maxSteps := 3000000) (disch := first | omega | (simp only [len_new, len_put, len_kill]; omega)) only [↓xpre, xpost, ↓reduceIte, Nat.reduceEqDiff, Nat.reduceAdd, Nat.reduceSub, Nat.reduceLeDiff, Nat.zero_add, Nat.sub_zero, rd1_of hb1, decide_eq_false c1, decide_eq_true (show x.m ≠ x.n from c2), WG_un]
      rw [if_neg (by simp [sq]; omega)] at hQ2
      exact hQ2
theorem i_isSquareScheme {v : Value} {x : Sch} {h : AH} {Q : Value → AH → Prop} (hv : isOne v = true) (hQ : ∀ h', h <+: h' → Q (.bool (sq x)) h') : WF S 75 [schV x v] h Q := by
  refine WF_fn (fn := c75) rfl rfl ?_
  unfold c75
  try simp (maxSteps := 3000000) (disch := first | omega | (simp only [len_new, len_put, len_kill]; omega)) only [↓xpre, xpost, ↓reduceIte, Nat.reduceEqDiff, Nat.reduceAdd, Nat.reduceSub, Nat.reduceLeDiff, Nat.zero_add, Nat.sub_zero, schV, hv]
  generalize hH1 : AH.new h _ = H1
  obtain ⟨hb1, p1, n1⟩ := new_facts hH1
  have hQ2 := hQ _ p1
  unfold sq at hQ2
  by_cases c1 : 2 ≤ x.n
  · by_cases c2 : x.n = x.m
    · by_cases c3 : x.m = x.k
      · try simp (maxSteps := 3000000) (disch := first | omega | (simp only [len_new, len_put, len_kill]; omega)) only [↓xpre, xpost, ↓reduceIte, Nat.reduceEqDiff, Nat.reduceAdd, Nat.reduceSub, Nat.reduceLeDiff, Nat.zero_add, Nat.sub_zero, rd1_of hb1, decide_eq_true c1, decide_eq_true c2, decide_eq_true c3]
        rw [decide_eq_true (by omega)] at hQ2
        exact hQ2
      · try simp (maxSteps := 3000000) (disch := first | omega | (simp only [len_new, len_put, len_kill]; omega)) only [↓xpre, xpost, ↓reduceIte, Nat.reduceEqDiff, Nat.reduceAdd, Nat.reduceSub, Nat.reduceLeDiff, Nat.zero_add, Nat.sub_zero, rd1_of hb1, decide_eq_true c1, decide_eq_true c2, decide_eq_false c3]
        rw [decide_eq_false (by omega)] at hQ2
        exact hQ2
    · try simp (maxSteps := 3000000) (disch := first | omega | (simp only [len_new, len_put, len_kill]; omega)) only [↓xpre, xpost, ↓reduceIte, Nat.reduceEqDiff, Nat.reduceAdd, Nat.reduceSub, Nat.reduceLeDiff, Nat.zero_add, Nat.sub_zero, rd1_of hb1, decide_eq_true c1, decide_eq_false c2, WG_un]
      rw [decide_eq_false (by omega)] at hQ2
      exact hQ2
  · try simp (maxSteps := 3000000) (disch := first | omega | (simp only [len_new, len_put, len_kill]; omega)) only [↓xpre, xpost, ↓reduceIte, Nat.reduceEqDiff, Nat.reduceAdd, Nat.reduceSub, Nat.reduceLeDiff, Nat.zero_add, Nat.sub_zero, rd1_of hb1, decide_eq_false c1, WG_un]
    rw [decide_eq_false (by omega)] at hQ2
    exact hQ2
theorem i_squareCode {v : Value} {x : Sch} {b : Bool} {h : AH} {Q : Value → AH → Prop} (hv : Prods h v x.ps) (hl : SmallX x.ps) (hQ : ∀ h', h <+: h' → Q (I64 (sqC x b)) h') : WF S 71 [schV x v, .bool b] h Q := by
  refine WF_fn (fn := c71) rfl rfl ?_
  unfold c71
  try simp (maxSteps := 3000000) (disch := first | omega | (simp only [len_new, len_put, len_kill]; omega)) only [↓xpre, xpost, ↓reduceIte, Nat.reduceEqDiff, Nat.reduceAdd, Nat.reduceSub, Nat.reduceLeDiff, Nat.zero_add, Nat.sub_zero, schV, hv.one]
  generalize hH1 : AH.new h _ = H1
  obtain ⟨hb1, p1, n1⟩ := new_facts hH1
  try simp (maxSteps := 3000000) (disch := first | omega | (simp only [len_new, len_put, len_kill]; omega)) only [↓xpre, xpost, ↓reduceIte, Nat.reduceEqDiff, Nat.reduceAdd, Nat.reduceSub, Nat.reduceLeDiff, Nat.zero_add, Nat.sub_zero, rdn_of hb1]
  refine i_IsScheme (hv.pre p1) hl fun H2 p2 => ?_
  have hb1 := pre_get p2 hb1
  unfold sqC at hQ
  cases c0 : isX x with
  | false =>
    have hQ2 := hQ _ (p1.trans p2)
    rw [c0, if_neg (by decide)] at hQ2
    try simp (maxSteps := 3000000) (disch := first | omega | (simp only [len_new, len_put, len_kill]; omega)) only [↓xpre, xpost, ↓reduceIte, Nat.reduceEqDiff, Nat.reduceAdd, Nat.reduceSub, Nat.reduceLeDiff, Nat.zero_add, Nat.sub_zero]
    exact hQ2
  | true =>
    try simp (maxSteps := 3000000) (disch := first | omega | (simp only [len_new, len_put, len_kill]; omega)) only [↓xpre, xpost, ↓reduceIte, Nat.reduceEqDiff, Nat.reduceAdd, Nat.reduceSub, Nat.reduceLeDiff, Nat.zero_add, Nat.sub_zero, rdn_of hb1]
    refine i_isSquareScheme hv.one fun H3 p3 => ?_
    have hQ2 := hQ _ ((p1.trans p2).trans p3)
    rw [c0, if_pos rfl] at hQ2
    cases c1 : sq x with
    | false =>
      rw [c1, if_neg (by simp)] at hQ2
      try simp (maxSteps := 3000000) (disch := first | omega | (simp only [len_new, len_put, len_kill]; omega)) only [↓xpre, xpost, ↓reduceIte, Nat.reduceEqDiff, Nat.reduceAdd, Nat.reduceSub, Nat.reduceLeDiff, Nat.zero_add, Nat.sub_zero, WG_un]
      exact hQ2
    | true =>
      rw [c1] at hQ2
      cases b with
      | false =>
        rw [if_neg (by simp)] at hQ2
        try simp (maxSteps := 3000000) (disch := first | omega | (simp only [len_new, len_put, len_kill]; omega)) only [↓xpre, xpost, ↓reduceIte, Nat.reduceEqDiff, Nat.reduceAdd, Nat.reduceSub, Nat.reduceLeDiff, Nat.zero_add, Nat.sub_zero]
        exact hQ2
      | true =>
        rw [if_pos (by simp)] at hQ2
        try simp (maxSteps := 3000000) (disch := first | omega | (simp only [len_new, len_put, len_kill]; omega)) only [↓xpre, xpost, ↓reduceIte, Nat.reduceEqDiff, Nat.reduceAdd, Nat.reduceSub, Nat.reduceLeDiff, Nat.zero_add, Nat.sub_zero]
        exact hQ2

/-! ### Powers -/
theorem pow_in {n N : Int} (hn : 1 ≤ n ∧ n ≤ N) : ∀ j : Nat, 1 ≤ n ^ j ∧ n ^ j ≤ N ^ j
  | 0 => by simp
  | j + 1 => by
    rw [Int.pow_succ, Int.pow_succ]
    exact mul_in1 (pow_in hn j) hn
theorem pow_up {N : Int} (hN : 1 ≤ N) {j k : Nat} (h : j ≤ k) : N ^ j ≤ N ^ k := by
  obtain ⟨m, rfl⟩ : ∃ m, k = j + m := ⟨k - j, by omega⟩
  clear h
  induction m with
  | zero => exact Int.le_refl _
  | succ m ih =>
    rw [← Nat.add_assoc, Int.pow_succ]
    have h1 := (pow_in (n := N) (N := N) ⟨hN, Int.le_refl _⟩ (j + m)).1
    have := Int.mul_le_mul_of_nonneg_left hN (show 0 ≤ N ^ (j + m) by omega)
    rw [Int.mul_one] at this
    omega
theorem i_power {n : Int} {k : Nat} {h : AH} {Q : Value → AH → Prop} (hb : ∀ j, j ≤ k → 0 ≤ n ^ j ∧ n ^ j ≤ 9223372036854775807) (hk : (k : Int) ≤ 1048576) (hQ : Q (I64 (n ^ k)) h) : WF S 72 [I64 n, I64 k] h Q := by
  refine WF_fn (fn := c72) rfl rfl ?_
  unfold c72
  try simp (maxSteps := 3000000) (disch := first | omega | (simp only [len_new, len_put, len_kill]; omega)) only [↓xpre, xpost, ↓reduceIte, Nat.reduceEqDiff, Nat.reduceAdd, Nat.reduceSub, Nat.reduceLeDiff, Nat.zero_add, Nat.sub_zero]
  refine WC_loop_inv (fun m f K1 => ∃ (i : Nat), m = k - i ∧ i ≤ k ∧ f 0 = I64 n ∧ f 5 = I64 (n ^ i) ∧ f 6 = I64 k ∧ f 7 = I64 i ∧ (K1 = h)) ?_ (k - 0) _ _ ⟨0, rfl, by omega, (by first | rfl | (simp [upd_apply]; done)), (by first | rfl | (simp [upd_apply]; done)), (by first | rfl | (simp [upd_apply]; done)), (by first | rfl | (simp [upd_apply]; done)), rfl⟩
  rintro m f K1 ⟨i, rfl, hi, f0, f5, f6, f7, hK⟩
  subst hK
  try simp (maxSteps := 3000000) (disch := first | omega | (simp only [len_new, len_put, len_kill]; omega)) only [↓xpre, xpost, ↓reduceIte, Nat.reduceEqDiff, Nat.reduceAdd, Nat.reduceSub, Nat.reduceLeDiff, Nat.zero_add, Nat.sub_zero, f0, f5, f6, f7, IfW_dec]
  refine ⟨fun hlt => ?_, fun hge => ?_⟩
  · have b := hb (i + 1) (by omega)
    rw [Int.pow_succ] at b
    try simp (maxSteps := 3000000) (disch := first | omega | (simp only [len_new, len_put, len_kill]; omega)) only [↓xpre, xpost, ↓reduceIte, Nat.reduceEqDiff, Nat.reduceAdd, Nat.reduceSub, Nat.reduceLeDiff, Nat.zero_add, Nat.sub_zero, f0, f5, f6, f7, wrap64_in]
    refine InvQ_go (k - (i + 1)) (by omega) ⟨(i + 1), rfl, by omega, (by first | rfl | exact f0 | (simp only [upd_apply]; rfl) | (show I64 _ = _; congr 1; omega)), (by show I64 _ = I64 _; rw [Int.pow_succ]), (by first | rfl | exact f6 | (simp only [upd_apply]; rfl) | (show I64 _ = _; congr 1; omega)), (by first | rfl | exact f7 | (simp only [upd_apply]; rfl) | (show I64 _ = _; congr 1; omega)), rfl⟩
  · have e : i = k := by omega
    subst e
    try simp (maxSteps := 3000000) (disch := first | omega | (simp only [len_new, len_put, len_kill]; omega)) only [↓xpre, xpost, ↓reduceIte, Nat.reduceEqDiff, Nat.reduceAdd, Nat.reduceSub, Nat.reduceLeDiff, Nat.zero_add, Nat.sub_zero, f0, f5, f6, f7]
    exact hQ
theorem s_l06Power {n : Int} {k : Nat} {h : AH} {Q : Value → AH → Prop} (hb : ∀ j, j ≤ k → 0 ≤ n ^ j ∧ n ^ j ≤ 9223372036854775807) (hk : (k : Int) ≤ 1048576) (hQ : Q (I64 (n ^ k)) h) : WF S 69 [I64 n, I64 k] h Q := by
  refine WF_fn (fn := c69) rfl rfl ?_
  unfold c69
  try simp (maxSteps := 3000000) (disch := first | omega | (simp only [len_new, len_put, len_kill]; omega)) only [↓xpre, xpost, ↓reduceIte, Nat.reduceEqDiff, Nat.reduceAdd, Nat.reduceSub, Nat.reduceLeDiff, Nat.zero_add, Nat.sub_zero]
  refine WC_loop_inv (fun m f K1 => ∃ (i : Nat), m = k - i ∧ i ≤ k ∧ f 0 = I64 n ∧ f 1 = I64 ((k - i : Nat) : Int) ∧ f 5 = I64 (n ^ i) ∧ (K1 = h)) ?_ (k - 0) _ _ ⟨0, rfl, by omega, (by first | rfl | (simp [upd_apply]; done)), (by first | rfl | (simp [upd_apply]; done)), (by first | rfl | (simp [upd_apply]; done)), rfl⟩
  rintro m f K1 ⟨i, rfl, hi, f0, f1, f5, hK⟩
  subst hK
  try simp (maxSteps := 3000000) (disch := first | omega | (simp only [len_new, len_put, len_kill]; omega)) only [↓xpre, xpost, ↓reduceIte, Nat.reduceEqDiff, Nat.reduceAdd, Nat.reduceSub, Nat.reduceLeDiff, Nat.zero_add, Nat.sub_zero, f0, f1, f5, IfW_dec]
  refine ⟨fun hlt => ?_, fun hge => ?_⟩
  · have b := hb (i + 1) (by omega)
    rw [Int.pow_succ] at b
    try simp (maxSteps := 3000000) (disch := first | omega | (simp only [len_new, len_put, len_kill]; omega)) only [↓xpre, xpost, ↓reduceIte, Nat.reduceEqDiff, Nat.reduceAdd, Nat.reduceSub, Nat.reduceLeDiff, Nat.zero_add, Nat.sub_zero, f0, f1, f5, wrap64_in]
    refine InvQ_go (k - (i + 1)) (by omega) ⟨(i + 1), rfl, by omega, (by first | rfl | exact f0 | (simp only [upd_apply]; rfl) | (show I64 _ = _; congr 1; omega)), (by first | rfl | exact f1 | (simp only [upd_apply]; rfl) | (show I64 _ = _; congr 1; omega)), (by show I64 _ = I64 _; rw [Int.pow_succ]), rfl⟩
  · have e : i = k := by omega
    subst e
    try simp (maxSteps := 3000000) (disch := first | omega | (simp only [len_new, len_put, len_kill]; omega)) only [↓xpre, xpost, ↓reduceIte, Nat.reduceEqDiff, Nat.reduceAdd, Nat.reduceSub, Nat.reduceLeDiff, Nat.zero_add, Nat.sub_zero, f0, f1, f5]
    exact hQ

/-! ### GreaterSize -/
def gsF (n s : Int) : Nat → Nat → Int × Int
  | 0, l => (0, 4)
  | m + 1, l => if s ≤ n ^ l then (n ^ l, 0) else gsF n s m (l + 1)
def gsB (s : Int) : Bool := decide (1 ≤ s ∧ s ≤ 1000000)
def gsR (x : Sch) (s : Int) : Int × Int := if sqC x (gsB s) = 0 then gsF x.n s 9 0 else (0, sqC x (gsB s))
theorem sq_pow {x : Sch} (z : SZ x) {m j : Nat} (hj : j ≤ m) (hm : m ≤ 24) : 0 ≤ x.n ^ j ∧ x.n ^ j ≤ 9223372036854775807 := by
  have h1 := pow_in (n := x.n) (N := 3) ⟨z.n.1, z.n.2⟩ j
  have h2 := pow_up (N := 3) (by omega) (show j ≤ 24 by omega)
  have : (3 : Int) ^ 24 = 282429536481 := by decide
  omega
theorem sqC_ne {x : Sch} {b : Bool} (h : sqC x b ≠ 0) : sqC x b = 1 ∨ sqC x b = 2 := by
  unfold sqC at h ⊢
  split
  · split
    · rename_i h1 h2
      rw [if_pos h1, if_pos h2] at h
      exact absurd rfl h
    · exact .inr rfl
  · exact .inl rfl
theorem s_GreaterSize {v : Value} {x : Sch} {s : Int} {h : AH} {Q : Value → AH → Prop} (hv : Prods h v x.ps) (hl : SmallX x.ps)
    (hQ : ∀ h', h <+: h' → Q (.tuple #[I64 (gsR x s).1, I64 (gsR x s).2]) h') : WF S 30 [schV x v, I64 s] h Q := by
  refine WF_fn (fn := c30) rfl rfl ?_
  unfold c30
  try simp (maxSteps := 3000000) (disch := first | omega | (simp only [len_new, len_put, len_kill]; omega)) only [↓xpre, xpost, ↓reduceIte, Nat.reduceEqDiff, Nat.reduceAdd, Nat.reduceSub, Nat.reduceLeDiff, Nat.zero_add, Nat.sub_zero, schV, hv.one]
  generalize hH1 : AH.new h _ = H1
  obtain ⟨hb1, p1, n1⟩ := new_facts hH1
  try simp (maxSteps := 3000000) (disch := first | omega | (simp only [len_new, len_put, len_kill]; omega)) only [↓xpre, xpost, ↓reduceIte, Nat.reduceEqDiff, Nat.reduceAdd, Nat.reduceSub, Nat.reduceLeDiff, Nat.zero_add, Nat.sub_zero, rdn_of hb1]
  refine s_l06Square (hv.pre p1) hl fun H2 p2 => ?_
  have hb1 := pre_get p2 hb1
  have hQ2 := hQ _ (p1.trans p2)
  unfold gsR at hQ2
  by_cases c0 : sqC x true = 0
  · obtain ⟨q1, q2, -⟩ := sqC_0 c0
    have z := (isX_sz q1).1
    try simp (maxSteps := 3000000) (disch := first | omega | (simp only [len_new, len_put, len_kill]; omega)) only [↓xpre, xpost, ↓reduceIte, Nat.reduceEqDiff, Nat.reduceAdd, Nat.reduceSub, Nat.reduceLeDiff, Nat.zero_add, Nat.sub_zero, decide_eq_true c0, c0]
    refine s_l01In ?_
    by_cases c1 : 1 ≤ s ∧ s ≤ 1000000
    case neg =>
      have e : sqC x (gsB s) = 2 := by unfold sqC gsB; rw [q1, q2, decide_eq_false c1]; rfl
      rw [e, if_neg (by decide)] at hQ2
      try simp (maxSteps := 3000000) (disch := first | omega | (simp only [len_new, len_put, len_kill]; omega)) only [↓xpre, xpost, ↓reduceIte, Nat.reduceEqDiff, Nat.reduceAdd, Nat.reduceSub, Nat.reduceLeDiff, Nat.zero_add, Nat.sub_zero, c1, decide_eq_true (show (2 : Int) ≠ 0 by decide)]
      exact hQ2
    have e : sqC x (gsB s) = 0 := by unfold sqC gsB; rw [q1, q2, decide_eq_true c1]; rfl
    rw [e, if_pos rfl] at hQ2
    try simp (maxSteps := 3000000) (disch := first | omega | (simp only [len_new, len_put, len_kill]; omega)) only [↓xpre, xpost, ↓reduceIte, Nat.reduceEqDiff, Nat.reduceAdd, Nat.reduceSub, Nat.reduceLeDiff, Nat.zero_add, Nat.sub_zero, c1, decide_eq_false (show ¬ ((0 : Int) ≠ 0) by decide)]
    refine WC_loop_inv (fun m f K1 => ∃ (l : Nat), m = 9 - l ∧ l ≤ 9 ∧ f 1 = I64 s ∧ f 2 = .pointer (some ⟨h.length, 0, none⟩) ∧ f 7 = I64 (x.n ^ l) ∧ f 8 = I64 l ∧ (K1 = H2) ∧ (gsF x.n s (9 - l) l = gsF x.n s 9 0)) ?_ (9 - 0) _ _ ⟨0, rfl, by omega, (by first | rfl | (simp [upd_apply]; done)), (by first | rfl | (simp [upd_apply]; done)), (by first | rfl | (simp [upd_apply]; done)), (by first | rfl | (simp [upd_apply]; done)), rfl, rfl⟩
    rintro m f K1 ⟨l, rfl, hl, f1, f2, f7, f8, hK, hf⟩
    subst hK
    by_cases c2 : (l : Int) ≤ 8
    · have hs : gsF x.n s (9 - l) l = if s ≤ x.n ^ l then (x.n ^ l, 0) else gsF x.n s (9 - (l + 1)) (l + 1) := by
        rw [show 9 - l = (9 - (l + 1)) + 1 by omega]
        rfl
      by_cases c3 : s ≤ x.n ^ l
      · try simp (maxSteps := 3000000) (disch := first | omega | (simp only [len_new, len_put, len_kill]; omega)) only [↓xpre, xpost, ↓reduceIte, Nat.reduceEqDiff, Nat.reduceAdd, Nat.reduceSub, Nat.reduceLeDiff, Nat.zero_add, Nat.sub_zero, f1, f2, f7, f8, decide_eq_true c2, decide_eq_true c3]
        rw [← hf, hs, if_pos c3] at hQ2
        exact hQ2
      · have b := sq_pow z (j := l + 1) (m := 9) (by omega) (by omega)
        rw [Int.pow_succ] at b
        try simp (maxSteps := 3000000) (disch := first | omega | (simp only [len_new, len_put, len_kill]; omega)) only [↓xpre, xpost, ↓reduceIte, Nat.reduceEqDiff, Nat.reduceAdd, Nat.reduceSub, Nat.reduceLeDiff, Nat.zero_add, Nat.sub_zero, f1, f2, f7, f8, decide_eq_true c2, decide_eq_false c3, rd1_of hb1, wrap64_in]
        refine InvQ_go (9 - (l + 1)) (by omega) ⟨(l + 1), rfl, by omega, (by first | rfl | exact f1 | (simp only [upd_apply]; rfl) | (show I64 _ = _; congr 1; omega)), (by first | rfl | exact f2 | (simp only [upd_apply]; rfl) | (show I64 _ = _; congr 1; omega)), (by show I64 _ = I64 _; rw [Int.pow_succ]), (by first | rfl | exact f8 | (simp only [upd_apply]; rfl) | (show I64 _ = _; congr 1; omega)), rfl, (by rw [← hf, hs, if_neg c3])⟩
    · have e9 : l = 9 := by omega
      subst e9
      try simp (maxSteps := 3000000) (disch := first | omega | (simp only [len_new, len_put, len_kill]; omega)) only [↓xpre, xpost, ↓reduceIte, Nat.reduceEqDiff, Nat.reduceAdd, Nat.reduceSub, Nat.reduceLeDiff, Nat.zero_add, Nat.sub_zero, f1, f2, f7, f8, decide_eq_false c2]
      rw [← hf] at hQ2
      exact hQ2
  · have c1 := sqC_ne c0
    have e : sqC x (gsB s) ≠ 0 ∧ sqC x (gsB s) = sqC x true := by
      unfold sqC at c0 ⊢
      split
      · rename_i h1
        rw [if_pos h1] at c0
        have : sq x = false := by
          cases hs : sq x with
          | false => rfl
          | true => rw [hs] at c0; simp at c0
        rw [this]
        simp
      · simp
    rw [if_neg e.1, e.2] at hQ2
    try simp (maxSteps := 3000000) (disch := first | omega | (simp only [len_new, len_put, len_kill]; omega)) only [↓xpre, xpost, ↓reduceIte, Nat.reduceEqDiff, Nat.reduceAdd, Nat.reduceSub, Nat.reduceLeDiff, Nat.zero_add, Nat.sub_zero, decide_eq_false c0, decide_eq_true (show sqC x true ≠ 0 from c0), WG_un]
    exact hQ2
theorem sqC_f {x : Sch} : sqC x false ≠ 0 := fun h => by have := (sqC_0 h).2.2; cases this
theorem i_GreaterSize {v : Value} {x : Sch} {s : Int} {h : AH} {Q : Value → AH → Prop} (hv : Prods h v x.ps) (hl : SmallX x.ps)
    (hQ : ∀ h', h <+: h' → Q (.tuple #[I64 (gsR x s).1, I64 (gsR x s).2]) h') : WF S 31 [schV x v, I64 s] h Q := by
  refine WF_fn (fn := c31) rfl rfl ?_
  unfold c31
  try simp (maxSteps := 3000000) (disch := first | omega | (simp only [len_new, len_put, len_kill]; omega)) only [↓xpre, xpost, ↓reduceIte, Nat.reduceEqDiff, Nat.reduceAdd, Nat.reduceSub, Nat.reduceLeDiff, Nat.zero_add, Nat.sub_zero, schV, hv.one]
  generalize hH1 : AH.new h _ = H1
  obtain ⟨hb1, p1, n1⟩ := new_facts hH1
  unfold gsR at hQ
  have bad : gsB s = false → ∀ h', h <+: h' → Q (.tuple #[I64 0, I64 (sqC x false)]) h' := fun e h' p => by
    have := hQ _ p
    rw [e, if_neg sqC_f] at this
    exact this
  by_cases c1 : 1 ≤ s
  case neg =>
    try simp (maxSteps := 3000000) (disch := first | omega | (simp only [len_new, len_put, len_kill]; omega)) only [↓xpre, xpost, ↓reduceIte, Nat.reduceEqDiff, Nat.reduceAdd, Nat.reduceSub, Nat.reduceLeDiff, Nat.zero_add, Nat.sub_zero, rdn_of hb1, decide_eq_false c1, WG_un]
    refine i_squareCode (hv.pre p1) hl fun H2 p2 => ?_
    try simp (maxSteps := 3000000) (disch := first | omega | (simp only [len_new, len_put, len_kill]; omega)) only [↓xpre, xpost, ↓reduceIte, Nat.reduceEqDiff, Nat.reduceAdd, Nat.reduceSub, Nat.reduceLeDiff, Nat.zero_add, Nat.sub_zero, decide_eq_true (show sqC x false ≠ 0 from sqC_f)]
    exact bad (by unfold gsB; exact decide_eq_false (by omega)) _ (p1.trans p2)
  by_cases c2 : s ≤ 1000000
  case neg =>
    try simp (maxSteps := 3000000) (disch := first | omega | (simp only [len_new, len_put, len_kill]; omega)) only [↓xpre, xpost, ↓reduceIte, Nat.reduceEqDiff, Nat.reduceAdd, Nat.reduceSub, Nat.reduceLeDiff, Nat.zero_add, Nat.sub_zero, rdn_of hb1, decide_eq_true c1, decide_eq_false c2]
    refine i_squareCode (hv.pre p1) hl fun H2 p2 => ?_
    try simp (maxSteps := 3000000) (disch := first | omega | (simp only [len_new, len_put, len_kill]; omega)) only [↓xpre, xpost, ↓reduceIte, Nat.reduceEqDiff, Nat.reduceAdd, Nat.reduceSub, Nat.reduceLeDiff, Nat.zero_add, Nat.sub_zero, decide_eq_true (show sqC x false ≠ 0 from sqC_f)]
    exact bad (by unfold gsB; exact decide_eq_false (by omega)) _ (p1.trans p2)
  have eb : gsB s = true := by unfold gsB; exact decide_eq_true ⟨c1, c2⟩
  rw [eb] at hQ
  try simp (maxSteps := 3000000) (disch := first | omega | (simp only [len_new, len_put, len_kill]; omega)) only [↓xpre, xpost, ↓reduceIte, Nat.reduceEqDiff, Nat.reduceAdd, Nat.reduceSub, Nat.reduceLeDiff, Nat.zero_add, Nat.sub_zero, rdn_of hb1, decide_eq_true c1, decide_eq_true c2]
  refine i_squareCode (hv.pre p1) hl fun H2 p2 => ?_
  have hb1 := pre_get p2 hb1
  have hQ2 := hQ _ (p1.trans p2)
  by_cases c0 : sqC x true = 0
  case neg =>
    rw [if_neg c0] at hQ2
    try simp (maxSteps := 3000000) (disch := first | omega | (simp only [len_new, len_put, len_kill]; omega)) only [↓xpre, xpost, ↓reduceIte, Nat.reduceEqDiff, Nat.reduceAdd, Nat.reduceSub, Nat.reduceLeDiff, Nat.zero_add, Nat.sub_zero, decide_eq_true (show sqC x true ≠ 0 from c0)]
    exact hQ2
  rw [if_pos c0] at hQ2
  have z := (isX_sz (sqC_0 c0).1).1
  try simp (maxSteps := 3000000) (disch := first | omega | (simp only [len_new, len_put, len_kill]; omega)) only [↓xpre, xpost, ↓reduceIte, Nat.reduceEqDiff, Nat.reduceAdd, Nat.reduceSub, Nat.reduceLeDiff, Nat.zero_add, Nat.sub_zero, decide_eq_false (show ¬ (sqC x true ≠ 0) from fun e => e c0)]
  refine WC_loop_inv (fun m f K1 => ∃ (l : Nat), m = 9 - l ∧ l ≤ 9 ∧ f 1 = I64 s ∧ f 2 = .pointer (some ⟨h.length, 0, none⟩) ∧ f 20 = I64 l ∧ (K1 = H2) ∧ (gsF x.n s (9 - l) l = gsF x.n s 9 0)) ?_ (9 - 0) _ _ ⟨0, rfl, by omega, (by first | rfl | (simp [upd_apply]; done)), (by first | rfl | (simp [upd_apply]; done)), (by first | rfl | (simp [upd_apply]; done)), rfl, rfl⟩
  rintro m f K1 ⟨l, rfl, hl, f1, f2, f20, hK, hf⟩
  subst hK
  by_cases c3 : (l : Int) < 9
  · have hs : gsF x.n s (9 - l) l = if s ≤ x.n ^ l then (x.n ^ l, 0) else gsF x.n s (9 - (l + 1)) (l + 1) := by
      rw [show 9 - l = (9 - (l + 1)) + 1 by omega]
      rfl
    try simp (maxSteps := 3000000) (disch := first | omega | (simp only [len_new, len_put, len_kill]; omega)) only [↓xpre, xpost, ↓reduceIte, Nat.reduceEqDiff, Nat.reduceAdd, Nat.reduceSub, Nat.reduceLeDiff, Nat.zero_add, Nat.sub_zero, f1, f2, f20, decide_eq_true c3, rd1_of hb1]
    refine i_power (fun j hj => sq_pow z (m := 9) (by omega) (by omega)) (by omega) ?_
    by_cases c4 : s ≤ x.n ^ l
    · try simp (maxSteps := 3000000) (disch := first | omega | (simp only [len_new, len_put, len_kill]; omega)) only [↓xpre, xpost, ↓reduceIte, Nat.reduceEqDiff, Nat.reduceAdd, Nat.reduceSub, Nat.reduceLeDiff, Nat.zero_add, Nat.sub_zero, f1, f2, f20, decide_eq_true c4]
      rw [← hf, hs, if_pos c4] at hQ2
      exact hQ2
    · try simp (maxSteps := 3000000) (disch := first | omega | (simp only [len_new, len_put, len_kill]; omega)) only [↓xpre, xpost, ↓reduceIte, Nat.reduceEqDiff, Nat.reduceAdd, Nat.reduceSub, Nat.reduceLeDiff, Nat.zero_add, Nat.sub_zero, f1, f2, f20, decide_eq_false c4, wrap64_in]
      refine InvQ_go (9 - (l + 1)) (by omega) ⟨(l + 1), rfl, by omega, (by first | rfl | exact f1 | (simp only [upd_apply]; rfl) | (show I64 _ = _; congr 1; omega)), (by first | rfl | exact f2 | (simp only [upd_apply]; rfl) | (show I64 _ = _; congr 1; omega)), (by first | rfl | exact f20 | (simp only [upd_apply]; rfl) | (show I64 _ = _; congr 1; omega)), rfl, (by rw [← hf, hs, if_neg c4])⟩
  · have e9 : l = 9 := by omega
    subst e9
    try simp (maxSteps := 3000000) (disch := first | omega | (simp only [len_new, len_put, len_kill]; omega)) only [↓xpre, xpost, ↓reduceIte, Nat.reduceEqDiff, Nat.reduceAdd, Nat.reduceSub, Nat.reduceLeDiff, Nat.zero_add, Nat.sub_zero, f1, f2, f20, decide_eq_false c3]
    rw [← hf] at hQ2
    exact hQ2
end Go.Proofs.Ytphklalbkpohfaa.X
