/- Texts of one claim, put together by merge.py: XS7. -/
import Derived.Test.YtphklalbkpohfaaM5
/- IsExponentAtMost and CompareExponents. -/
set_option linter.unusedVariables false
set_option linter.unusedSimpArgs false
set_option maxRecDepth 20000
set_option maxHeartbeats 4000000
namespace Go.Proofs.Ytphklalbkpohfaa.X
open Go Go.RowKit

def exB (x : Sch) (a b : Int) : Bool := decide (0 < x.ps.length ∧ (0 ≤ a ∧ a ≤ 24) ∧ 1 ≤ b ∧ b ≤ 8)
def exR (x : Sch) (a b : Int) : Bool × Int := if sqC x (exB x a b) = 0 then (decide ((x.ps.length : Int) ^ b.toNat ≤ x.n ^ a.toNat), 0) else (false, sqC x (exB x a b))
theorem sqC_same {x : Sch} {b : Bool} (h : sqC x true ≠ 0) : sqC x b = sqC x true := by
  unfold sqC at h ⊢
  split
  · rename_i h1
    rw [if_pos h1] at h
    cases hs : sq x with
    | false => simp
    | true => rw [hs] at h; simp at h
  · rfl
theorem sqC_2 {x : Sch} (h : sqC x true = 0) : sqC x false = 2 := by
  have := (sqC_0 h).1
  unfold sqC
  rw [if_pos this]
  simp
theorem len_pow {x : Sch} (h : x.ps.length ≤ 30) (h0 : 0 < x.ps.length) {j : Nat} (hj : j ≤ 8) : 0 ≤ (x.ps.length : Int) ^ j ∧ (x.ps.length : Int) ^ j ≤ 9223372036854775807 := by
  have h1 := pow_in (n := (x.ps.length : Int)) (N := 30) (by omega) j
  have h2 := pow_up (N := 30) (by omega) hj
  have : (30 : Int) ^ 8 = 656100000000 := by decide
  omega
theorem s_IsExponentAtMost {v : Value} {x : Sch} {a b : Int} {h : AH} {Q : Value → AH → Prop} (hv : Prods h v x.ps) (hl : SmallX x.ps)
    (hQ : ∀ h', h <+: h' → Q (.tuple #[.bool (exR x a b).1, I64 (exR x a b).2]) h') : WF S 26 [schV x v, I64 a, I64 b] h Q := by
  refine WF_fn (fn := c26) rfl rfl ?_
  unfold c26
  try simp (maxSteps := 3000000) (disch := first | omega | (simp only [len_new, len_put, len_kill]; omega)) only [↓xpre, xpost, ↓reduceIte, Nat.reduceEqDiff, Nat.reduceAdd, Nat.reduceSub, Nat.reduceLeDiff, Nat.zero_add, Nat.sub_zero, schV, hv.one]
  generalize hH1 : AH.new h _ = H1
  obtain ⟨hb1, p1, n1⟩ := new_facts hH1
  try simp (maxSteps := 3000000) (disch := first | omega | (simp only [len_new, len_put, len_kill]; omega)) only [↓xpre, xpost, ↓reduceIte, Nat.reduceEqDiff, Nat.reduceAdd, Nat.reduceSub, Nat.reduceLeDiff, Nat.zero_add, Nat.sub_zero, rdn_of hb1]
  refine s_l06Square (hv.pre p1) hl fun H2 p2 => ?_
  have hb1 := pre_get p2 hb1
  have hQ2 := hQ _ (p1.trans p2)
  have hvl := (hv.pre (p1.trans p2)).1.len
  unfold exR at hQ2
  by_cases c0 : sqC x true = 0
  case neg =>
    rw [sqC_same c0, if_neg c0] at hQ2
    try simp (maxSteps := 3000000) (disch := first | omega | (simp only [len_new, len_put, len_kill]; omega)) only [↓xpre, xpost, ↓reduceIte, Nat.reduceEqDiff, Nat.reduceAdd, Nat.reduceSub, Nat.reduceLeDiff, Nat.zero_add, Nat.sub_zero, decide_eq_false c0, decide_eq_true (show sqC x true ≠ 0 from c0), WG_un]
    exact hQ2
  have z := isX_sz (sqC_0 c0).1
  have bad : exB x a b = false → Q (.tuple #[.bool false, I64 2]) H2 := fun e => by
    rw [e, sqC_2 c0, if_neg (by decide)] at hQ2
    exact hQ2
  have n20 := decide_eq_true (show (2 : Int) ≠ 0 by decide)
  by_cases c1 : (x.ps.length : Int) = 0
  · try simp (maxSteps := 3000000) (disch := first | omega | (simp only [len_new, len_put, len_kill]; omega)) only [↓xpre, xpost, ↓reduceIte, Nat.reduceEqDiff, Nat.reduceAdd, Nat.reduceSub, Nat.reduceLeDiff, Nat.zero_add, Nat.sub_zero, decide_eq_true c0, c0, rd1_of hb1, hvl, decide_eq_true c1, WG_un, n20]
    exact bad (by unfold exB; exact decide_eq_false (by omega))
  try simp (maxSteps := 3000000) (disch := first | omega | (simp only [len_new, len_put, len_kill]; omega)) only [↓xpre, xpost, ↓reduceIte, Nat.reduceEqDiff, Nat.reduceAdd, Nat.reduceSub, Nat.reduceLeDiff, Nat.zero_add, Nat.sub_zero, decide_eq_true c0, c0, rd1_of hb1, hvl, decide_eq_false c1]
  refine s_l01In ?_
  by_cases c2 : 0 ≤ a ∧ a ≤ 24
  case neg =>
    try simp (maxSteps := 3000000) (disch := first | omega | (simp only [len_new, len_put, len_kill]; omega)) only [↓xpre, xpost, ↓reduceIte, Nat.reduceEqDiff, Nat.reduceAdd, Nat.reduceSub, Nat.reduceLeDiff, Nat.zero_add, Nat.sub_zero, decide_eq_false c2, WG_un, n20]
    exact bad (by unfold exB; exact decide_eq_false (fun e => c2 e.2.1))
  try simp (maxSteps := 3000000) (disch := first | omega | (simp only [len_new, len_put, len_kill]; omega)) only [↓xpre, xpost, ↓reduceIte, Nat.reduceEqDiff, Nat.reduceAdd, Nat.reduceSub, Nat.reduceLeDiff, Nat.zero_add, Nat.sub_zero, decide_eq_true c2]
  refine s_l01In ?_
  by_cases c3 : 1 ≤ b ∧ b ≤ 8
  case neg =>
    try simp (maxSteps := 3000000) (disch := first | omega | (simp only [len_new, len_put, len_kill]; omega)) only [↓xpre, xpost, ↓reduceIte, Nat.reduceEqDiff, Nat.reduceAdd, Nat.reduceSub, Nat.reduceLeDiff, Nat.zero_add, Nat.sub_zero, decide_eq_false c3, n20]
    exact bad (by unfold exB; exact decide_eq_false (fun e => c3 e.2.2))
  have e : exB x a b = true := by unfold exB; exact decide_eq_true ⟨by omega, c2, c3⟩
  rw [e, if_pos c0] at hQ2
  obtain ⟨A, rfl⟩ : ∃ A : Nat, a = A := ⟨a.toNat, by omega⟩
  obtain ⟨B, rfl⟩ : ∃ B : Nat, b = B := ⟨b.toNat, by omega⟩
  try simp (maxSteps := 3000000) (disch := first | omega | (simp only [len_new, len_put, len_kill]; omega)) only [↓xpre, xpost, ↓reduceIte, Nat.reduceEqDiff, Nat.reduceAdd, Nat.reduceSub, Nat.reduceLeDiff, Nat.zero_add, Nat.sub_zero, decide_eq_true c3, decide_eq_false (show ¬ ((0 : Int) ≠ 0) by decide), rd1_of hb1, hvl]
  refine s_l06Power (fun j hj => len_pow z.2 (by omega) (by omega)) (by omega) ?_
  try simp (maxSteps := 3000000) (disch := first | omega | (simp only [len_new, len_put, len_kill]; omega)) only [↓xpre, xpost, ↓reduceIte, Nat.reduceEqDiff, Nat.reduceAdd, Nat.reduceSub, Nat.reduceLeDiff, Nat.zero_add, Nat.sub_zero, rd1_of hb1]
  refine ⟨List.prefix_refl _, ?_⟩
  refine s_l06Power (fun j hj => sq_pow z.1 hj (by omega)) (by omega) ?_
  try simp (maxSteps := 3000000) (disch := first | omega | (simp only [len_new, len_put, len_kill]; omega)) only [↓xpre, xpost, ↓reduceIte, Nat.reduceEqDiff, Nat.reduceAdd, Nat.reduceSub, Nat.reduceLeDiff, Nat.zero_add, Nat.sub_zero]
  exact hQ2
theorem i_IsExponentAtMost {v : Value} {x : Sch} {a b : Int} {h : AH} {Q : Value → AH → Prop} (hv : Prods h v x.ps) (hl : SmallX x.ps)
    (hQ : ∀ h', h <+: h' → Q (.tuple #[.bool (exR x a b).1, I64 (exR x a b).2]) h') : WF S 28 [schV x v, I64 a, I64 b] h Q := by
  refine WF_fn (fn := c28) rfl rfl ?_
  unfold c28
  try simp (maxSteps := 3000000) (disch := first | omega | (simp only [len_new, len_put, len_kill]; omega)) only [↓xpre, xpost, ↓reduceIte, Nat.reduceEqDiff, Nat.reduceAdd, Nat.reduceSub, Nat.reduceLeDiff, Nat.zero_add, Nat.sub_zero, schV, hv.one]
  generalize hH1 : AH.new h _ = H1
  obtain ⟨hb1, p1, n1⟩ := new_facts hH1
  have hvl := (hv.pre p1).1.len
  unfold exR at hQ
  have bad : exB x a b = false → ∀ h', h <+: h' → Q (.tuple #[.bool false, I64 (sqC x false)]) h' := fun e h' p => by
    have := hQ _ p
    rw [e, if_neg sqC_f] at this
    exact this
  have nf := decide_eq_true (show sqC x false ≠ 0 from sqC_f)
  by_cases c1 : 0 ≤ a
  case neg =>
    try simp (maxSteps := 3000000) (disch := first | omega | (simp only [len_new, len_put, len_kill]; omega)) only [↓xpre, xpost, ↓reduceIte, Nat.reduceEqDiff, Nat.reduceAdd, Nat.reduceSub, Nat.reduceLeDiff, Nat.zero_add, Nat.sub_zero, rdn_of hb1, decide_eq_false c1, WG_un]
    refine i_squareCode (hv.pre p1) hl fun H2 p2 => ?_
    try simp (maxSteps := 3000000) (disch := first | omega | (simp only [len_new, len_put, len_kill]; omega)) only [↓xpre, xpost, ↓reduceIte, Nat.reduceEqDiff, Nat.reduceAdd, Nat.reduceSub, Nat.reduceLeDiff, Nat.zero_add, Nat.sub_zero, nf]
    exact bad (by unfold exB; exact decide_eq_false (by omega)) _ (p1.trans p2)
  by_cases c2 : a ≤ 24
  case neg =>
    try simp (maxSteps := 3000000) (disch := first | omega | (simp only [len_new, len_put, len_kill]; omega)) only [↓xpre, xpost, ↓reduceIte, Nat.reduceEqDiff, Nat.reduceAdd, Nat.reduceSub, Nat.reduceLeDiff, Nat.zero_add, Nat.sub_zero, rdn_of hb1, decide_eq_true c1, decide_eq_false c2, WG_un]
    refine i_squareCode (hv.pre p1) hl fun H2 p2 => ?_
    try simp (maxSteps := 3000000) (disch := first | omega | (simp only [len_new, len_put, len_kill]; omega)) only [↓xpre, xpost, ↓reduceIte, Nat.reduceEqDiff, Nat.reduceAdd, Nat.reduceSub, Nat.reduceLeDiff, Nat.zero_add, Nat.sub_zero, nf]
    exact bad (by unfold exB; exact decide_eq_false (by omega)) _ (p1.trans p2)
  by_cases c3 : 1 ≤ b
  case neg =>
    try simp (maxSteps := 3000000) (disch := first | omega | (simp only [len_new, len_put, len_kill]; omega)) only [↓xpre, xpost, ↓reduceIte, Nat.reduceEqDiff, Nat.reduceAdd, Nat.reduceSub, Nat.reduceLeDiff, Nat.zero_add, Nat.sub_zero, rdn_of hb1, decide_eq_true c1, decide_eq_true c2, decide_eq_false c3, WG_un]
    refine i_squareCode (hv.pre p1) hl fun H2 p2 => ?_
    try simp (maxSteps := 3000000) (disch := first | omega | (simp only [len_new, len_put, len_kill]; omega)) only [↓xpre, xpost, ↓reduceIte, Nat.reduceEqDiff, Nat.reduceAdd, Nat.reduceSub, Nat.reduceLeDiff, Nat.zero_add, Nat.sub_zero, nf]
    exact bad (by unfold exB; exact decide_eq_false (by omega)) _ (p1.trans p2)
  by_cases c4 : b ≤ 8
  case neg =>
    try simp (maxSteps := 3000000) (disch := first | omega | (simp only [len_new, len_put, len_kill]; omega)) only [↓xpre, xpost, ↓reduceIte, Nat.reduceEqDiff, Nat.reduceAdd, Nat.reduceSub, Nat.reduceLeDiff, Nat.zero_add, Nat.sub_zero, rdn_of hb1, decide_eq_true c1, decide_eq_true c2, decide_eq_true c3, decide_eq_false c4, WG_un]
    refine i_squareCode (hv.pre p1) hl fun H2 p2 => ?_
    try simp (maxSteps := 3000000) (disch := first | omega | (simp only [len_new, len_put, len_kill]; omega)) only [↓xpre, xpost, ↓reduceIte, Nat.reduceEqDiff, Nat.reduceAdd, Nat.reduceSub, Nat.reduceLeDiff, Nat.zero_add, Nat.sub_zero, nf]
    exact bad (by unfold exB; exact decide_eq_false (by omega)) _ (p1.trans p2)
  by_cases c5 : 0 < (x.ps.length : Int)
  case neg =>
    try simp (maxSteps := 3000000) (disch := first | omega | (simp only [len_new, len_put, len_kill]; omega)) only [↓xpre, xpost, ↓reduceIte, Nat.reduceEqDiff, Nat.reduceAdd, Nat.reduceSub, Nat.reduceLeDiff, Nat.zero_add, Nat.sub_zero, rdn_of hb1, decide_eq_true c1, decide_eq_true c2, decide_eq_true c3, decide_eq_true c4, rd1_of hb1, hvl, decide_eq_false c5]
    refine i_squareCode (hv.pre p1) hl fun H2 p2 => ?_
    try simp (maxSteps := 3000000) (disch := first | omega | (simp only [len_new, len_put, len_kill]; omega)) only [↓xpre, xpost, ↓reduceIte, Nat.reduceEqDiff, Nat.reduceAdd, Nat.reduceSub, Nat.reduceLeDiff, Nat.zero_add, Nat.sub_zero, nf]
    exact bad (by unfold exB; exact decide_eq_false (by omega)) _ (p1.trans p2)
  have e : exB x a b = true := by unfold exB; exact decide_eq_true ⟨by omega, by omega, by omega⟩
  rw [e] at hQ
  try simp (maxSteps := 3000000) (disch := first | omega | (simp only [len_new, len_put, len_kill]; omega)) only [↓xpre, xpost, ↓reduceIte, Nat.reduceEqDiff, Nat.reduceAdd, Nat.reduceSub, Nat.reduceLeDiff, Nat.zero_add, Nat.sub_zero, rdn_of hb1, decide_eq_true c1, decide_eq_true c2, decide_eq_true c3, decide_eq_true c4, rd1_of hb1, hvl, decide_eq_true c5]
  refine i_squareCode (hv.pre p1) hl fun H2 p2 => ?_
  have hb1 := pre_get p2 hb1
  have hQ2 := hQ _ (p1.trans p2)
  have hvl := (hv.pre (p1.trans p2)).1.len
  by_cases c0 : sqC x true = 0
  case neg =>
    rw [if_neg c0] at hQ2
    try simp (maxSteps := 3000000) (disch := first | omega | (simp only [len_new, len_put, len_kill]; omega)) only [↓xpre, xpost, ↓reduceIte, Nat.reduceEqDiff, Nat.reduceAdd, Nat.reduceSub, Nat.reduceLeDiff, Nat.zero_add, Nat.sub_zero, decide_eq_true (show sqC x true ≠ 0 from c0)]
    exact hQ2
  rw [if_pos c0] at hQ2
  have z := isX_sz (sqC_0 c0).1
  obtain ⟨A, rfl⟩ : ∃ A : Nat, a = A := ⟨a.toNat, by omega⟩
  obtain ⟨B, rfl⟩ : ∃ B : Nat, b = B := ⟨b.toNat, by omega⟩
  try simp (maxSteps := 3000000) (disch := first | omega | (simp only [len_new, len_put, len_kill]; omega)) only [↓xpre, xpost, ↓reduceIte, Nat.reduceEqDiff, Nat.reduceAdd, Nat.reduceSub, Nat.reduceLeDiff, Nat.zero_add, Nat.sub_zero, decide_eq_false (show ¬ (sqC x true ≠ 0) from fun e => e c0), rd1_of hb1, hvl]
  refine i_power (fun j hj => len_pow z.2 (by omega) (by omega)) (by omega) ?_
  try simp (maxSteps := 3000000) (disch := first | omega | (simp only [len_new, len_put, len_kill]; omega)) only [↓xpre, xpost, ↓reduceIte, Nat.reduceEqDiff, Nat.reduceAdd, Nat.reduceSub, Nat.reduceLeDiff, Nat.zero_add, Nat.sub_zero, rd1_of hb1]
  refine ⟨List.prefix_refl _, ?_⟩
  refine i_power (fun j hj => sq_pow z.1 hj (by omega)) (by omega) ?_
  try simp (maxSteps := 3000000) (disch := first | omega | (simp only [len_new, len_put, len_kill]; omega)) only [↓xpre, xpost, ↓reduceIte, Nat.reduceEqDiff, Nat.reduceAdd, Nat.reduceSub, Nat.reduceLeDiff, Nat.zero_add, Nat.sub_zero]
  exact hQ2

/-! ### CompareExponents -/
def cmpI (a b : Int) : Int := if a < b then -1 else if b < a then 1 else 0
def ceR (x y : Sch) : Int × Int := if isX x = true ∧ isX y = true then (if (sq x = true ∧ sq y = true) ∧ x.n = y.n ∧ 0 < x.ps.length ∧ 0 < y.ps.length then (cmpI x.ps.length y.ps.length, 0) else (0, 2)) else (0, 1)
theorem i_isNaN {a : Int} {h : AH} {Q : Value → AH → Prop} (hQ : Q (.bool false) h) : WF S 108 [I64 a] h Q := by
  refine WF_fn (fn := c108) rfl rfl ?_
  unfold c108
  try simp (maxSteps := 3000000) (disch := first | omega | (simp only [len_new, len_put, len_kill]; omega)) only [↓xpre, xpost, ↓reduceIte, Nat.reduceEqDiff, Nat.reduceAdd, Nat.reduceSub, Nat.reduceLeDiff, Nat.zero_add, Nat.sub_zero, ne_eq, not_true_eq_false]
  exact hQ
theorem i_Compare {a b : Int} {h : AH} {Q : Value → AH → Prop} (hQ : Q (I64 (cmpI a b)) h) : WF S 76 [I64 a, I64 b] h Q := by
  refine WF_fn (fn := c76) rfl rfl ?_
  unfold c76
  try simp (maxSteps := 3000000) (disch := first | omega | (simp only [len_new, len_put, len_kill]; omega)) only [↓xpre, xpost, ↓reduceIte, Nat.reduceEqDiff, Nat.reduceAdd, Nat.reduceSub, Nat.reduceLeDiff, Nat.zero_add, Nat.sub_zero]
  refine i_isNaN ?_
  try simp (maxSteps := 3000000) (disch := first | omega | (simp only [len_new, len_put, len_kill]; omega)) only [↓xpre, xpost, ↓reduceIte, Nat.reduceEqDiff, Nat.reduceAdd, Nat.reduceSub, Nat.reduceLeDiff, Nat.zero_add, Nat.sub_zero]
  refine i_isNaN ?_
  unfold cmpI at hQ
  by_cases c1 : a < b
  · try simp (maxSteps := 3000000) (disch := first | omega | (simp only [len_new, len_put, len_kill]; omega)) only [↓xpre, xpost, ↓reduceIte, Nat.reduceEqDiff, Nat.reduceAdd, Nat.reduceSub, Nat.reduceLeDiff, Nat.zero_add, Nat.sub_zero, decide_eq_true c1]
    rw [if_pos c1] at hQ
    exact hQ
  · rw [if_neg c1] at hQ
    by_cases c2 : b < a
    · try simp (maxSteps := 3000000) (disch := first | omega | (simp only [len_new, len_put, len_kill]; omega)) only [↓xpre, xpost, ↓reduceIte, Nat.reduceEqDiff, Nat.reduceAdd, Nat.reduceSub, Nat.reduceLeDiff, Nat.zero_add, Nat.sub_zero, decide_eq_false c1, decide_eq_true c2]
      rw [if_pos c2] at hQ
      exact hQ
    · try simp (maxSteps := 3000000) (disch := first | omega | (simp only [len_new, len_put, len_kill]; omega)) only [↓xpre, xpost, ↓reduceIte, Nat.reduceEqDiff, Nat.reduceAdd, Nat.reduceSub, Nat.reduceLeDiff, Nat.zero_add, Nat.sub_zero, decide_eq_false c1, decide_eq_false c2]
      rw [if_neg c2] at hQ
      exact hQ
theorem sqC_1 {x : Sch} {b : Bool} : sqC x b = 1 ↔ isX x = false := by
  unfold sqC
  cases isX x with
  | false => simp
  | true =>
    simp only [if_true]
    split <;> simp
theorem sqC_z {x : Sch} (hx : isX x = true) : sqC x true = 0 ↔ sq x = true := by
  unfold sqC
  rw [hx, if_pos rfl, Bool.and_true]
  cases sq x <;> simp
theorem s_CompareExponents {v w : Value} {x y : Sch} {h : AH} {Q : Value → AH → Prop} (hv : Prods h v x.ps) (hl : SmallX x.ps) (hw : Prods h w y.ps) (hl' : SmallX y.ps)
    (hQ : ∀ h', h <+: h' → Q (.tuple #[I64 (ceR x y).1, I64 (ceR x y).2]) h') : WF S 32 [schV x v, schV y w] h Q := by
  refine WF_fn (fn := c32) rfl rfl ?_
  unfold c32
  try simp (maxSteps := 3000000) (disch := first | omega | (simp only [len_new, len_put, len_kill]; omega)) only [↓xpre, xpost, ↓reduceIte, Nat.reduceEqDiff, Nat.reduceAdd, Nat.reduceSub, Nat.reduceLeDiff, Nat.zero_add, Nat.sub_zero, schV, hv.one, hw.one]
  generalize hH1 : AH.new h _ = H1
  obtain ⟨hb1, p1, n1⟩ := new_facts hH1
  generalize hH2 : AH.new H1 _ = H2
  obtain ⟨hb2, p2, n2⟩ := new_facts hH2
  have hb1 := pre_get p2 hb1
  try simp (maxSteps := 3000000) (disch := first | omega | (simp only [len_new, len_put, len_kill]; omega)) only [↓xpre, xpost, ↓reduceIte, Nat.reduceEqDiff, Nat.reduceAdd, Nat.reduceSub, Nat.reduceLeDiff, Nat.zero_add, Nat.sub_zero, rdn_of hb1]
  refine s_l06Square (hv.pre (p1.trans p2)) hl fun H3 p3 => ?_
  have hb2 := pre_get p3 hb2
  try simp (maxSteps := 3000000) (disch := first | omega | (simp only [len_new, len_put, len_kill]; omega)) only [↓xpre, xpost, ↓reduceIte, Nat.reduceEqDiff, Nat.reduceAdd, Nat.reduceSub, Nat.reduceLeDiff, Nat.zero_add, Nat.sub_zero, rdn_of hb2]
  refine ⟨p3, ?_⟩
  refine s_l06Square (hw.pre ((p1.trans p2).trans p3)) hl' fun H4 p4 => ?_
  have hb1 := pre_get (p3.trans p4) hb1
  have hb2 := pre_get p4 hb2
  have ph := (p1.trans p2).trans (p3.trans p4)
  have hQ2 := hQ _ ph
  have vl := (hv.pre ph).1.len
  have wl := (hw.pre ph).1.len
  unfold ceR at hQ2
  by_cases c0 : sqC x true = 1
  · try simp (maxSteps := 3000000) (disch := first | omega | (simp only [len_new, len_put, len_kill]; omega)) only [↓xpre, xpost, ↓reduceIte, Nat.reduceEqDiff, Nat.reduceAdd, Nat.reduceSub, Nat.reduceLeDiff, Nat.zero_add, Nat.sub_zero, decide_eq_true c0, WG_un]
    rw [if_neg (fun e => by rw [sqC_1.1 c0] at e; simp at e)] at hQ2
    exact hQ2
  by_cases c1 : sqC y true = 1
  · try simp (maxSteps := 3000000) (disch := first | omega | (simp only [len_new, len_put, len_kill]; omega)) only [↓xpre, xpost, ↓reduceIte, Nat.reduceEqDiff, Nat.reduceAdd, Nat.reduceSub, Nat.reduceLeDiff, Nat.zero_add, Nat.sub_zero, decide_eq_false c0, decide_eq_true c1]
    rw [if_neg (fun e => by rw [sqC_1.1 c1] at e; simp at e)] at hQ2
    exact hQ2
  have ix : isX x = true := by cases e : isX x with | true => rfl | false => exact absurd (sqC_1.2 e) c0
  have iy : isX y = true := by cases e : isX y with | true => rfl | false => exact absurd (sqC_1.2 e) c1
  have zx := (isX_sz ix).2
  have zy := (isX_sz iy).2
  rw [if_pos ⟨ix, iy⟩] at hQ2
  by_cases c2 : sqC x true = 0
  case neg =>
    try simp (maxSteps := 3000000) (disch := first | omega | (simp only [len_new, len_put, len_kill]; omega)) only [↓xpre, xpost, ↓reduceIte, Nat.reduceEqDiff, Nat.reduceAdd, Nat.reduceSub, Nat.reduceLeDiff, Nat.zero_add, Nat.sub_zero, decide_eq_false c0, decide_eq_false c1, decide_eq_true (show sqC x true ≠ 0 from c2), WG_un]
    rw [if_neg (fun e => c2 ((sqC_z ix).2 e.1.1))] at hQ2
    exact hQ2
  by_cases c3 : sqC y true = 0
  case neg =>
    try simp (maxSteps := 3000000) (disch := first | omega | (simp only [len_new, len_put, len_kill]; omega)) only [↓xpre, xpost, ↓reduceIte, Nat.reduceEqDiff, Nat.reduceAdd, Nat.reduceSub, Nat.reduceLeDiff, Nat.zero_add, Nat.sub_zero, decide_eq_false c0, decide_eq_false c1, decide_eq_false (show ¬ (sqC x true ≠ 0) from fun e => e c2), decide_eq_true (show sqC y true ≠ 0 from c3), WG_un]
    rw [if_neg (fun e => c3 ((sqC_z iy).2 e.1.2))] at hQ2
    exact hQ2
  by_cases c4 : x.n = y.n
  case neg =>
    try simp (maxSteps := 3000000) (disch := first | omega | (simp only [len_new, len_put, len_kill]; omega)) only [↓xpre, xpost, ↓reduceIte, Nat.reduceEqDiff, Nat.reduceAdd, Nat.reduceSub, Nat.reduceLeDiff, Nat.zero_add, Nat.sub_zero, decide_eq_false c0, decide_eq_false c1, decide_eq_false (show ¬ (sqC x true ≠ 0) from fun e => e c2), decide_eq_false (show ¬ (sqC y true ≠ 0) from fun e => e c3), rd1_of hb1, rd1_of hb2, decide_eq_true (show x.n ≠ y.n from c4), WG_un]
    rw [if_neg (fun e => c4 e.2.1)] at hQ2
    exact hQ2
  have d0 := decide_eq_false c0
  have d1 := decide_eq_false c1
  have d2 := decide_eq_false (show ¬ (sqC x true ≠ 0) from fun e => e c2)
  have d3 := decide_eq_false (show ¬ (sqC y true ≠ 0) from fun e => e c3)
  have d4 := decide_eq_false (show ¬ (x.n ≠ y.n) from fun e => e c4)
  by_cases c5 : (x.ps.length : Int) = 0
  · try simp (maxSteps := 3000000) (disch := first | omega | (simp only [len_new, len_put, len_kill]; omega)) only [↓xpre, xpost, ↓reduceIte, Nat.reduceEqDiff, Nat.reduceAdd, Nat.reduceSub, Nat.reduceLeDiff, Nat.zero_add, Nat.sub_zero, d0, d1, d2, d3, d4, rd1_of hb1, rd1_of hb2, vl, wl, decide_eq_true c5, WG_un]
    rw [if_neg (fun e => by omega)] at hQ2
    exact hQ2
  by_cases c6 : (y.ps.length : Int) = 0
  · try simp (maxSteps := 3000000) (disch := first | omega | (simp only [len_new, len_put, len_kill]; omega)) only [↓xpre, xpost, ↓reduceIte, Nat.reduceEqDiff, Nat.reduceAdd, Nat.reduceSub, Nat.reduceLeDiff, Nat.zero_add, Nat.sub_zero, d0, d1, d2, d3, d4, rd1_of hb1, rd1_of hb2, vl, wl, decide_eq_false c5, decide_eq_true c6, WG_un]
    rw [if_neg (fun e => by omega)] at hQ2
    exact hQ2
  rw [if_pos ⟨⟨(sqC_z ix).1 c2, (sqC_z iy).1 c3⟩, c4, by omega, by omega⟩] at hQ2
  unfold cmpI at hQ2
  by_cases c7 : (x.ps.length : Int) < y.ps.length
  · try simp (maxSteps := 3000000) (disch := first | omega | (simp only [len_new, len_put, len_kill]; omega)) only [↓xpre, xpost, ↓reduceIte, Nat.reduceEqDiff, Nat.reduceAdd, Nat.reduceSub, Nat.reduceLeDiff, Nat.zero_add, Nat.sub_zero, d0, d1, d2, d3, d4, rd1_of hb1, rd1_of hb2, vl, wl, decide_eq_false c5, decide_eq_false c6, decide_eq_true c7]
    rw [if_pos c7] at hQ2
    exact hQ2
  rw [if_neg c7] at hQ2
  by_cases c8 : (y.ps.length : Int) < x.ps.length
  · try simp (maxSteps := 3000000) (disch := first | omega | (simp only [len_new, len_put, len_kill]; omega)) only [↓xpre, xpost, ↓reduceIte, Nat.reduceEqDiff, Nat.reduceAdd, Nat.reduceSub, Nat.reduceLeDiff, Nat.zero_add, Nat.sub_zero, d0, d1, d2, d3, d4, rd1_of hb1, rd1_of hb2, vl, wl, decide_eq_false c5, decide_eq_false c6, decide_eq_false c7, decide_eq_true c8]
    rw [if_pos c8] at hQ2
    exact hQ2
  · try simp (maxSteps := 3000000) (disch := first | omega | (simp only [len_new, len_put, len_kill]; omega)) only [↓xpre, xpost, ↓reduceIte, Nat.reduceEqDiff, Nat.reduceAdd, Nat.reduceSub, Nat.reduceLeDiff, Nat.zero_add, Nat.sub_zero, d0, d1, d2, d3, d4, rd1_of hb1, rd1_of hb2, vl, wl, decide_eq_false c5, decide_eq_false c6, decide_eq_false c7, decide_eq_false c8]
    rw [if_neg c8] at hQ2
    exact hQ2
theorem i_areSchemes {v u : Value} {t s : Sch} {h : AH} {n : Nat} {e : TypeId} {ro full : Bool} {Q : Value → AH → Prop} (hv : Prods h v t.ps) (hu : Prods h u s.ps) (hl : SmallX t.ps) (hl' : SmallX s.ps)
    (hb : h.get n = some ⟨[I64 t.p, I64 t.n, I64 t.m, I64 t.k, v, I64 s.p, I64 s.n, I64 s.m, I64 s.k, u], e, ro, full⟩)
    (hQ : ∀ h', h <+: h' → Q (.bool (isX t && isX s)) h') : WF S 74 [.slice (some ⟨n, 0, none⟩) 2 5] h Q := by
  refine WF_fn (fn := c74) rfl rfl ?_
  unfold c74
  try simp (maxSteps := 3000000) (disch := first | omega | (simp only [len_new, len_put, len_kill]; omega)) only [↓xpre, xpost, ↓reduceIte, Nat.reduceEqDiff, Nat.reduceAdd, Nat.reduceSub, Nat.reduceLeDiff, Nat.zero_add, Nat.sub_zero]
  refine WC_loop ?_
  try simp (maxSteps := 3000000) (disch := first | omega | (simp only [len_new, len_put, len_kill]; omega)) only [↓xpre, xpost, ↓reduceIte, Nat.reduceEqDiff, Nat.reduceAdd, Nat.reduceSub, Nat.reduceLeDiff, Nat.zero_add, Nat.sub_zero, IfW_dec]
  refine ⟨fun _ => ?_, fun h => absurd h (by decide)⟩
  try simp (maxSteps := 3000000) (disch := first | omega | (simp only [len_new, len_put, len_kill]; omega)) only [↓xpre, xpost, ↓reduceIte, Nat.reduceEqDiff, Nat.reduceAdd, Nat.reduceSub, Nat.reduceLeDiff, Nat.zero_add, Nat.sub_zero, ixsV_some]
  refine ⟨by decide, ?_⟩
  try simp (maxSteps := 3000000) (disch := first | omega | (simp only [len_new, len_put, len_kill]; omega)) only [↓xpre, xpost, ↓reduceIte, Nat.reduceEqDiff, Nat.reduceAdd, Nat.reduceSub, Nat.reduceLeDiff, Nat.zero_add, Nat.sub_zero, rdn_of hb, Int.toNat_zero, Nat.zero_mul, hv.one]
  generalize hH1 : AH.new h _ = H1
  obtain ⟨hb1, p1, n1⟩ := new_facts hH1
  refine i_IsScheme (x := t) (hv.pre p1) hl fun H2 p2 => ?_
  cases h1 : isX t with
  | false =>
    try simp (maxSteps := 3000000) (disch := first | omega | (simp only [len_new, len_put, len_kill]; omega)) only [↓xpre, xpost, ↓reduceIte, Nat.reduceEqDiff, Nat.reduceAdd, Nat.reduceSub, Nat.reduceLeDiff, Nat.zero_add, Nat.sub_zero]
    have := hQ _ (p1.trans p2)
    rw [h1] at this
    exact this
  | true =>
    try simp (maxSteps := 3000000) (disch := first | omega | (simp only [len_new, len_put, len_kill]; omega)) only [↓xpre, xpost, ↓reduceIte, Nat.reduceEqDiff, Nat.reduceAdd, Nat.reduceSub, Nat.reduceLeDiff, Nat.zero_add, Nat.sub_zero, wrap64_in]
    rw [LoopQ_n]
    refine WC_loop ?_
    try simp (maxSteps := 3000000) (disch := first | omega | (simp only [len_new, len_put, len_kill]; omega)) only [↓xpre, xpost, ↓reduceIte, Nat.reduceEqDiff, Nat.reduceAdd, Nat.reduceSub, Nat.reduceLeDiff, Nat.zero_add, Nat.sub_zero, IfW_dec]
    refine ⟨fun _ => ?_, fun h => absurd h (by decide)⟩
    try simp (maxSteps := 3000000) (disch := first | omega | (simp only [len_new, len_put, len_kill]; omega)) only [↓xpre, xpost, ↓reduceIte, Nat.reduceEqDiff, Nat.reduceAdd, Nat.reduceSub, Nat.reduceLeDiff, Nat.zero_add, Nat.sub_zero, ixsV_some]
    refine ⟨by decide, ?_⟩
    have hb := pre_get (p1.trans p2) hb
    have e1 : ((0 + 1 : Int).toNat * 5) = 5 := by decide
    try simp (maxSteps := 3000000) (disch := first | omega | (simp only [len_new, len_put, len_kill]; omega)) only [↓xpre, xpost, ↓reduceIte, Nat.reduceEqDiff, Nat.reduceAdd, Nat.reduceSub, Nat.reduceLeDiff, Nat.zero_add, Nat.sub_zero, e1, rdn_of hb, hu.one]
    generalize hH3 : AH.new H2 _ = H3
    obtain ⟨hb3, p3, n3⟩ := new_facts hH3
    refine i_IsScheme (x := s) (hu.pre ((p1.trans p2).trans p3)) hl' fun H4 p4 => ?_
    cases h2 : isX s with
    | false =>
      try simp (maxSteps := 3000000) (disch := first | omega | (simp only [len_new, len_put, len_kill]; omega)) only [↓xpre, xpost, ↓reduceIte, Nat.reduceEqDiff, Nat.reduceAdd, Nat.reduceSub, Nat.reduceLeDiff, Nat.zero_add, Nat.sub_zero]
      have := hQ _ (((p1.trans p2).trans p3).trans p4)
      rw [h1, h2] at this
      exact this
    | true =>
      try simp (maxSteps := 3000000) (disch := first | omega | (simp only [len_new, len_put, len_kill]; omega)) only [↓xpre, xpost, ↓reduceIte, Nat.reduceEqDiff, Nat.reduceAdd, Nat.reduceSub, Nat.reduceLeDiff, Nat.zero_add, Nat.sub_zero, wrap64_in]
      rw [LoopQ_n]
      refine WC_loop ?_
      try simp (maxSteps := 3000000) (disch := first | omega | (simp only [len_new, len_put, len_kill]; omega)) only [↓xpre, xpost, ↓reduceIte, Nat.reduceEqDiff, Nat.reduceAdd, Nat.reduceSub, Nat.reduceLeDiff, Nat.zero_add, Nat.sub_zero, IfW_dec]
      refine ⟨fun h => absurd h (by decide), fun _ => ?_⟩
      try simp (maxSteps := 3000000) (disch := first | omega | (simp only [len_new, len_put, len_kill]; omega)) only [↓xpre, xpost, ↓reduceIte, Nat.reduceEqDiff, Nat.reduceAdd, Nat.reduceSub, Nat.reduceLeDiff, Nat.zero_add, Nat.sub_zero]
      have := hQ _ (((p1.trans p2).trans p3).trans p4)
      rw [h1, h2] at this
      exact this

theorem i_CompareExponents {v w : Value} {x y : Sch} {h : AH} {Q : Value → AH → Prop} (hv : Prods h v x.ps) (hl : SmallX x.ps) (hw : Prods h w y.ps) (hl' : SmallX y.ps)
    (hQ : ∀ h', h <+: h' → Q (.tuple #[I64 (ceR x y).1, I64 (ceR x y).2]) h') : WF S 33 [schV x v, schV y w] h Q := by
  refine WF_fn (fn := c33) rfl rfl ?_
  unfold c33
  try simp (maxSteps := 3000000) (disch := first | omega | (simp only [len_new, len_put, len_kill]; omega)) only [↓xpre, xpost, ↓reduceIte, Nat.reduceEqDiff, Nat.reduceAdd, Nat.reduceSub, Nat.reduceLeDiff, Nat.zero_add, Nat.sub_zero, schV, hv.one, hw.one]
  generalize hH1 : AH.new h _ = H1
  obtain ⟨hb1, p1, n1⟩ := new_facts hH1
  generalize hH2 : AH.new H1 _ = H2
  obtain ⟨hb2, p2, n2⟩ := new_facts hH2
  have hb1 := pre_get p2 hb1
  try simp (maxSteps := 3000000) (disch := first | omega | (simp only [len_new, len_put, len_kill]; omega)) only [↓xpre, xpost, ↓reduceIte, Nat.reduceEqDiff, Nat.reduceAdd, Nat.reduceSub, Nat.reduceLeDiff, Nat.zero_add, Nat.sub_zero, rdn_of hb1, rdn_of hb2, fillL, zrep, hv.one, hw.one]
  generalize hH3 : AH.new H2 _ = H3
  obtain ⟨hb3, p3, n3⟩ := new_facts hH3
  have hb1 := pre_get p3 hb1
  have hb2 := pre_get p3 hb2
  have ph := (p1.trans p2).trans p3
  refine i_areSchemes (hv.pre ph) (hw.pre ph) hl hl' hb3 fun H4 p4 => ?_
  have hb1 := pre_get p4 hb1
  have hb2 := pre_get p4 hb2
  have ph := ph.trans p4
  unfold ceR at hQ
  cases c0 : (isX x && isX y) with
  | false =>
    have hQ2 := hQ _ ph
    rw [if_neg (fun e => by rw [e.1, e.2] at c0; cases c0)] at hQ2
    try simp (maxSteps := 3000000) (disch := first | omega | (simp only [len_new, len_put, len_kill]; omega)) only [↓xpre, xpost, ↓reduceIte, Nat.reduceEqDiff, Nat.reduceAdd, Nat.reduceSub, Nat.reduceLeDiff, Nat.zero_add, Nat.sub_zero]
    exact hQ2
  | true =>
    simp only [Bool.and_eq_true] at c0
    rw [if_pos c0] at hQ
    have zx := (isX_sz c0.1).2
    have zy := (isX_sz c0.2).2
    try simp (maxSteps := 3000000) (disch := first | omega | (simp only [len_new, len_put, len_kill]; omega)) only [↓xpre, xpost, ↓reduceIte, Nat.reduceEqDiff, Nat.reduceAdd, Nat.reduceSub, Nat.reduceLeDiff, Nat.zero_add, Nat.sub_zero, rdn_of hb1]
    refine i_isSquareScheme hv.one fun H5 p5 => ?_
    have hb1 := pre_get p5 hb1
    have hb2 := pre_get p5 hb2
    have ph := ph.trans p5
    cases c1 : sq x with
    | false =>
      have hQ2 := hQ _ ph
      rw [if_neg (fun e => by rw [c1] at e; cases e.1.1)] at hQ2
      try simp (maxSteps := 3000000) (disch := first | omega | (simp only [len_new, len_put, len_kill]; omega)) only [↓xpre, xpost, ↓reduceIte, Nat.reduceEqDiff, Nat.reduceAdd, Nat.reduceSub, Nat.reduceLeDiff, Nat.zero_add, Nat.sub_zero, WG_un]
      exact hQ2
    | true =>
      try simp (maxSteps := 3000000) (disch := first | omega | (simp only [len_new, len_put, len_kill]; omega)) only [↓xpre, xpost, ↓reduceIte, Nat.reduceEqDiff, Nat.reduceAdd, Nat.reduceSub, Nat.reduceLeDiff, Nat.zero_add, Nat.sub_zero, rdn_of hb2]
      refine i_isSquareScheme hw.one fun H6 p6 => ?_
      have hb1 := pre_get p6 hb1
      have hb2 := pre_get p6 hb2
      have ph := ph.trans p6
      have hQ2 := hQ _ ph
      have vl := (hv.pre ph).1.len
      have wl := (hw.pre ph).1.len
      cases c2 : sq y with
      | false =>
        rw [if_neg (fun e => by rw [c2] at e; cases e.1.2)] at hQ2
        try simp (maxSteps := 3000000) (disch := first | omega | (simp only [len_new, len_put, len_kill]; omega)) only [↓xpre, xpost, ↓reduceIte, Nat.reduceEqDiff, Nat.reduceAdd, Nat.reduceSub, Nat.reduceLeDiff, Nat.zero_add, Nat.sub_zero, WG_un]
        exact hQ2
      | true =>
        by_cases c4 : x.n = y.n
        case neg =>
          try simp (maxSteps := 3000000) (disch := first | omega | (simp only [len_new, len_put, len_kill]; omega)) only [↓xpre, xpost, ↓reduceIte, Nat.reduceEqDiff, Nat.reduceAdd, Nat.reduceSub, Nat.reduceLeDiff, Nat.zero_add, Nat.sub_zero, rd1_of hb1, rd1_of hb2, decide_eq_true (show x.n ≠ y.n from c4), WG_un]
          rw [if_neg (fun e => c4 e.2.1)] at hQ2
          exact hQ2
        have d4 := decide_eq_false (show ¬ (x.n ≠ y.n) from fun e => e c4)
        by_cases c5 : (x.ps.length : Int) = 0
        · try simp (maxSteps := 3000000) (disch := first | omega | (simp only [len_new, len_put, len_kill]; omega)) only [↓xpre, xpost, ↓reduceIte, Nat.reduceEqDiff, Nat.reduceAdd, Nat.reduceSub, Nat.reduceLeDiff, Nat.zero_add, Nat.sub_zero, d4, rd1_of hb1, rd1_of hb2, vl, wl, decide_eq_true c5, WG_un]
          rw [if_neg (fun e => by omega)] at hQ2
          exact hQ2
        by_cases c6 : (y.ps.length : Int) = 0
        · try simp (maxSteps := 3000000) (disch := first | omega | (simp only [len_new, len_put, len_kill]; omega)) only [↓xpre, xpost, ↓reduceIte, Nat.reduceEqDiff, Nat.reduceAdd, Nat.reduceSub, Nat.reduceLeDiff, Nat.zero_add, Nat.sub_zero, d4, rd1_of hb1, rd1_of hb2, vl, wl, decide_eq_false c5, decide_eq_true c6]
          rw [if_neg (fun e => by omega)] at hQ2
          exact hQ2
        rw [if_pos ⟨⟨c1, c2⟩, c4, by omega, by omega⟩] at hQ2
        try simp (maxSteps := 3000000) (disch := first | omega | (simp only [len_new, len_put, len_kill]; omega)) only [↓xpre, xpost, ↓reduceIte, Nat.reduceEqDiff, Nat.reduceAdd, Nat.reduceSub, Nat.reduceLeDiff, Nat.zero_add, Nat.sub_zero, d4, rd1_of hb1, rd1_of hb2, vl, wl, decide_eq_false c5, decide_eq_false c6]
        refine i_Compare ?_
        try simp (maxSteps := 3000000) (disch := first | omega | (simp only [len_new, len_put, len_kill]; omega)) only [↓xpre, xpost, ↓reduceIte, Nat.reduceEqDiff, Nat.reduceAdd, Nat.reduceSub, Nat.reduceLeDiff, Nat.zero_add, Nat.sub_zero]
        exact hQ2
end Go.Proofs.Ytphklalbkpohfaa.X
