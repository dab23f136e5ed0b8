/- Texts of one claim, put together by merge.py: XS15. -/
import Derived.Test.YtphklalbkpohfaaM8
/- FirstGain and BestLevels, both sides. -/
set_option linter.unusedVariables false
set_option linter.unusedSimpArgs false
set_option maxRecDepth 20000
set_option maxHeartbeats 4000000
namespace Go.Proofs.Ytphklalbkpohfaa.X
open Go Go.RowKit

def gain (n z : Int) : Prop := 80000 < z ∨ n < 2 * z * z * z - z * z
instance {n z : Int} : Decidable (gain n z) := by unfold gain; infer_instance
def fgF (x : Sch) (b : Int) : Nat → Nat → Int × Int
  | 0, _ => (0, 4)
  | m + 1, l => match mixB x l b with
    | none => (0, 3)
    | some n => if gain n (b * x.n ^ l) then (l, 0) else fgF x b m (l + 1)
def fgR (x : Sch) (b : Int) : Int × Int := if sqC x (isB b) = 0 then fgF x b 8 1 else (0, sqC x (isB b))
theorem cube_in {z A : Int} (hz : 1 ≤ z ∧ z ≤ A) : (0 ≤ 2 * z ∧ 2 * z ≤ 2 * A) ∧ (0 ≤ 2 * z * z ∧ 2 * z * z ≤ 2 * A * A) ∧ (0 ≤ 2 * z * z * z ∧ 2 * z * z * z ≤ 2 * A * A * A) ∧ (1 ≤ z * z ∧ z * z ≤ A * A) := by
  have h1 := mul_in (a := 2 * z) (b := z) (A := 2 * A) (B := A) (by omega) (by omega)
  have h2 := mul_in (a := 2 * z * z) (b := z) (A := 2 * A * A) (B := A) h1 (by omega)
  exact ⟨by omega, h1, h2, mul_in1 hz hz⟩
theorem gain_min {n z : Int} (hz : 1 ≤ z) (hn : 0 ≤ n ∧ n ≤ 1000000000000000) :
    (n < 2 * (if 100000 < z then 100000 else z) * (if 100000 < z then 100000 else z) * (if 100000 < z then 100000 else z) - (if 100000 < z then 100000 else z) * (if 100000 < z then 100000 else z)) ↔ gain n z := by
  unfold gain
  by_cases h : 80000 < z
  · refine ⟨fun _ => .inl h, fun _ => ?_⟩
    generalize hm : (if 100000 < z then (100000 : Int) else z) = m
    have hm1 : 80001 ≤ m := by rw [← hm]; split <;> omega
    have e : 2 * m * m * m - m * m = (2 * m - 1) * (m * m) := by rw [Int.sub_mul, Int.one_mul, Int.mul_assoc (2 * m)]
    rw [e]
    have q1 := Int.mul_le_mul hm1 hm1 (by omega) (show 0 ≤ m by omega)
    have q2 := Int.mul_le_mul (show 160001 ≤ 2 * m - 1 by omega) (show (6400160001 : Int) ≤ m * m by omega) (by omega) (by omega)
    omega
  · rw [if_neg (by omega)]
    exact ⟨fun h' => .inr h', fun h' => by rcases h' with h' | h' <;> omega⟩
theorem s_FirstGain {v : Value} {x : Sch} {b : Int} {h : AH} {Q : Value → AH → Prop} (hv : Prods h v x.ps) (hl : SmallX x.ps)
    (hQ : ∀ h', h <+: h' → Q (.tuple #[I64 (fgR x b).1, I64 (fgR x b).2]) h') : WF S 46 [schV x v, I64 b] h Q := by
  refine WF_fn (fn := c46) rfl rfl ?_
  unfold c46
  try simp (maxSteps := 3000000) (disch := first | omega | (simp only [len_new, len_put, len_kill]; omega)) only [↓xpre, xpost, ↓reduceIte, Nat.reduceEqDiff, Nat.reduceAdd, Nat.reduceSub, Nat.reduceLeDiff, Nat.zero_add, Nat.sub_zero, schV, hv.one]
  generalize hH1 : AH.new h _ = H1
  obtain ⟨hb1, p1, n1⟩ := new_facts hH1
  try simp (maxSteps := 3000000) (disch := first | omega | (simp only [len_new, len_put, len_kill]; omega)) only [↓xpre, xpost, ↓reduceIte, Nat.reduceEqDiff, Nat.reduceAdd, Nat.reduceSub, Nat.reduceLeDiff, Nat.zero_add, Nat.sub_zero, rdn_of hb1]
  refine s_l06Code (hv.pre p1) hl fun H2 p2 => ?_
  have hb1 := pre_get p2 hb1
  have e0 : (isL 0 && isB b) = isB b := by rw [show isL 0 = true from rfl, Bool.true_and]
  rw [e0]
  unfold fgR at hQ
  by_cases c0 : sqC x (isB b) = 0
  case neg =>
    have hQ2 := hQ _ (p1.trans p2)
    rw [if_neg c0] at hQ2
    try simp (maxSteps := 3000000) (disch := first | omega | (simp only [len_new, len_put, len_kill]; omega)) only [↓xpre, xpost, ↓reduceIte, Nat.reduceEqDiff, Nat.reduceAdd, Nat.reduceSub, Nat.reduceLeDiff, Nat.zero_add, Nat.sub_zero, decide_eq_true (show sqC x (isB b) ≠ 0 from c0)]
    exact hQ2
  rw [if_pos c0] at hQ
  obtain ⟨x1, x2, x3⟩ := sqC_0 c0
  have b1 : 1 ≤ b ∧ b ≤ 1000 := by unfold isB at x3; exact of_decide_eq_true x3
  have z := (isX_sz x1).1
  try simp (maxSteps := 3000000) (disch := first | omega | (simp only [len_new, len_put, len_kill]; omega)) only [↓xpre, xpost, ↓reduceIte, Nat.reduceEqDiff, Nat.reduceAdd, Nat.reduceSub, Nat.reduceLeDiff, Nat.zero_add, Nat.sub_zero, decide_eq_false (show ¬ (sqC x (isB b) ≠ 0) from fun e => e c0)]
  refine WC_loop_inv (fun m f K1 => ∃ (l : Nat), m = 9 - l ∧ l ≤ 9 ∧ f 1 = I64 b ∧ f 2 = .pointer (some ⟨h.length, 0, none⟩) ∧ f 7 = I64 (b * x.n ^ (l - 1)) ∧ f 8 = I64 l ∧ (H2 <+: K1) ∧ (1 ≤ l) ∧ (fgF x b (9 - l) l = fgF x b 8 1)) ?_ (9 - 1) _ _ ⟨1, rfl, by omega, (by first | rfl | (simp [upd_apply]; done)), (by first | rfl | (simp [upd_apply]; done)), (by first | rfl | (simp [upd_apply]; done)), (by first | rfl | (simp [upd_apply]; done)), List.prefix_refl _, Nat.le_refl _, rfl⟩
  rintro m f K1 ⟨l, rfl, hl, f1, f2, f7, f8, pp, h1l, hf⟩
  have hbK := pre_get pp hb1
  have ph := (p1.trans p2).trans pp
  by_cases hlt : (l : Int) ≤ 8
  · have hl8 : l ≤ 8 := by omega
    have bl := base_in z hl8 b1
    have bp := (mul_in1 (a := b) (b := x.n ^ l) (A := b) (B := x.n ^ l) (by omega) ⟨(pow_in (n := x.n) (N := 3) ⟨z.n.1, z.n.2⟩ l).1, Int.le_refl _⟩).1
    have es : b * x.n ^ (l - 1) * x.n = b * x.n ^ l := by
      rw [Int.mul_assoc, ← Int.pow_succ, show (l - 1).succ = l by omega]
    have hs : fgF x b (9 - l) l = match mixB x l b with | none => (0, 3) | some n => if gain n (b * x.n ^ l) then ((l : Int), 0) else fgF x b (9 - (l + 1)) (l + 1) := by
      rw [show 9 - l = (9 - (l + 1)) + 1 by omega]
      rfl
    rw [hs] at hf
    try simp (maxSteps := 3000000) (disch := first | omega | (simp only [len_new, len_put, len_kill]; omega)) only [↓xpre, xpost, ↓reduceIte, Nat.reduceEqDiff, Nat.reduceAdd, Nat.reduceSub, Nat.reduceLeDiff, Nat.zero_add, Nat.sub_zero, f1, f2, f7, f8, decide_eq_true hlt, rd1_of hbK, rdn_of hbK, es, wrap64_in]
    refine s_l06Mixed (hv.pre ph) x1 hl8 (by omega) bl fun H3 p3 => ⟨fun n hn => ?_, fun hn n => ?_⟩
    · have hn2 := mixB_in x1 hv.1.widL b1.1 hn
      have hQ2 := hQ _ (ph.trans p3)
      rw [hn] at hf
      simp only at hf
      generalize hw : b * x.n ^ l = w at *
      by_cases g1 : 80000 < w
      · try simp (maxSteps := 3000000) (disch := first | omega | (simp only [len_new, len_put, len_kill]; omega)) only [↓xpre, xpost, ↓reduceIte, Nat.reduceEqDiff, Nat.reduceAdd, Nat.reduceSub, Nat.reduceLeDiff, Nat.zero_add, Nat.sub_zero, f1, f2, f7, f8, decide_eq_true g1, WG_un]
        rw [← hf, if_pos (.inl g1)] at hQ2
        exact hQ2
      · have cb := cube_in (z := w) (A := 80000) (by omega)
        by_cases g2 : n < 2 * w * w * w - w * w
        · try simp (maxSteps := 3000000) (disch := first | omega | (simp only [len_new, len_put, len_kill]; omega)) only [↓xpre, xpost, ↓reduceIte, Nat.reduceEqDiff, Nat.reduceAdd, Nat.reduceSub, Nat.reduceLeDiff, Nat.zero_add, Nat.sub_zero, f1, f2, f7, f8, decide_eq_false g1, wrap64_in, decide_eq_true g2]
          rw [← hf, if_pos (.inr g2)] at hQ2
          exact hQ2
        · try simp (maxSteps := 3000000) (disch := first | omega | (simp only [len_new, len_put, len_kill]; omega)) only [↓xpre, xpost, ↓reduceIte, Nat.reduceEqDiff, Nat.reduceAdd, Nat.reduceSub, Nat.reduceLeDiff, Nat.zero_add, Nat.sub_zero, f1, f2, f7, f8, decide_eq_false g1, wrap64_in, decide_eq_false g2]
          rw [if_neg (fun e => by rcases e with e | e <;> omega)] at hf
          refine InvQ_go (9 - (l + 1)) (by omega) ⟨(l + 1), rfl, by omega, (by first | rfl | exact f1 | (simp only [upd_apply]; rfl) | (show I64 _ = _; congr 1; omega)), (by first | rfl | exact f2 | (simp only [upd_apply]; rfl) | (show I64 _ = _; congr 1; omega)), (by show I64 _ = I64 _; rw [show l + 1 - 1 = l by omega, hw]), (by first | rfl | exact f8 | (simp only [upd_apply]; rfl) | (show I64 _ = _; congr 1; omega)), (pp.trans p3), (by omega), hf⟩
    · have hQ2 := hQ _ (ph.trans p3)
      rw [hn] at hf
      simp only at hf
      rw [← hf] at hQ2
      try simp (maxSteps := 3000000) (disch := first | omega | (simp only [len_new, len_put, len_kill]; omega)) only [↓xpre, xpost, ↓reduceIte, Nat.reduceEqDiff, Nat.reduceAdd, Nat.reduceSub, Nat.reduceLeDiff, Nat.zero_add, Nat.sub_zero, f1, f2, f7, f8]
      exact hQ2
  · have e9 : l = 9 := by omega
    subst e9
    try simp (maxSteps := 3000000) (disch := first | omega | (simp only [len_new, len_put, len_kill]; omega)) only [↓xpre, xpost, ↓reduceIte, Nat.reduceEqDiff, Nat.reduceAdd, Nat.reduceSub, Nat.reduceLeDiff, Nat.zero_add, Nat.sub_zero, f1, f2, f7, f8, decide_eq_false hlt]
    have hQ2 := hQ _ ph
    rw [← hf] at hQ2
    exact hQ2
theorem i_FirstGain {v : Value} {x : Sch} {b : Int} {h : AH} {Q : Value → AH → Prop} (hv : Prods h v x.ps) (hl : SmallX x.ps)
    (hQ : ∀ h', h <+: h' → Q (.tuple #[I64 (fgR x b).1, I64 (fgR x b).2]) h') : WF S 47 [schV x v, I64 b] h Q := by
  refine WF_fn (fn := c47) rfl rfl ?_
  unfold c47
  try simp (maxSteps := 3000000) (disch := first | omega | (simp only [len_new, len_put, len_kill]; omega)) only [↓xpre, xpost, ↓reduceIte, Nat.reduceEqDiff, Nat.reduceAdd, Nat.reduceSub, Nat.reduceLeDiff, Nat.zero_add, Nat.sub_zero, schV, hv.one]
  generalize hH1 : AH.new h _ = H1
  obtain ⟨hb1, p1, n1⟩ := new_facts hH1
  try simp (maxSteps := 3000000) (disch := first | omega | (simp only [len_new, len_put, len_kill]; omega)) only [↓xpre, xpost, ↓reduceIte, Nat.reduceEqDiff, Nat.reduceAdd, Nat.reduceSub, Nat.reduceLeDiff, Nat.zero_add, Nat.sub_zero, rdn_of hb1]
  refine i_isBase ?_
  try simp (maxSteps := 3000000) (disch := first | omega | (simp only [len_new, len_put, len_kill]; omega)) only [↓xpre, xpost, ↓reduceIte, Nat.reduceEqDiff, Nat.reduceAdd, Nat.reduceSub, Nat.reduceLeDiff, Nat.zero_add, Nat.sub_zero]
  refine ⟨List.prefix_refl _, ?_⟩
  refine i_squareCode (hv.pre p1) hl fun H2 p2 => ?_
  have hb1 := pre_get p2 hb1
  unfold fgR at hQ
  by_cases c0 : sqC x (isB b) = 0
  case neg =>
    have hQ2 := hQ _ (p1.trans p2)
    rw [if_neg c0] at hQ2
    try simp (maxSteps := 3000000) (disch := first | omega | (simp only [len_new, len_put, len_kill]; omega)) only [↓xpre, xpost, ↓reduceIte, Nat.reduceEqDiff, Nat.reduceAdd, Nat.reduceSub, Nat.reduceLeDiff, Nat.zero_add, Nat.sub_zero, decide_eq_true (show sqC x (isB b) ≠ 0 from c0)]
    exact hQ2
  rw [if_pos c0] at hQ
  obtain ⟨x1, x2, x3⟩ := sqC_0 c0
  have b1 : 1 ≤ b ∧ b ≤ 1000 := by unfold isB at x3; exact of_decide_eq_true x3
  have z := (isX_sz x1).1
  try simp (maxSteps := 3000000) (disch := first | omega | (simp only [len_new, len_put, len_kill]; omega)) only [↓xpre, xpost, ↓reduceIte, Nat.reduceEqDiff, Nat.reduceAdd, Nat.reduceSub, Nat.reduceLeDiff, Nat.zero_add, Nat.sub_zero, decide_eq_false (show ¬ (sqC x (isB b) ≠ 0) from fun e => e c0)]
  refine WC_loop_inv (fun m f K1 => ∃ (l : Nat), m = 9 - l ∧ l ≤ 9 ∧ f 1 = I64 b ∧ f 2 = .pointer (some ⟨h.length, 0, none⟩) ∧ f 7 = I64 l ∧ (H2 <+: K1) ∧ (1 ≤ l) ∧ (fgF x b (9 - l) l = fgF x b 8 1)) ?_ (9 - 1) _ _ ⟨1, rfl, by omega, (by first | rfl | (simp [upd_apply]; done)), (by first | rfl | (simp [upd_apply]; done)), (by first | rfl | (simp [upd_apply]; done)), List.prefix_refl _, Nat.le_refl _, rfl⟩
  rintro m f K1 ⟨l, rfl, hl, f1, f2, f7, pp, h1l, hf⟩
  have hbK := pre_get pp hb1
  have ph := (p1.trans p2).trans pp
  by_cases hlt : (l : Int) ≤ 8
  · have hl8 : l ≤ 8 := by omega
    have bl := base_in z hl8 b1
    have bp := (mul_in1 (a := b) (b := x.n ^ l) (A := b) (B := x.n ^ l) (by omega) ⟨(pow_in (n := x.n) (N := 3) ⟨z.n.1, z.n.2⟩ l).1, Int.le_refl _⟩).1
    have hs : fgF x b (9 - l) l = match mixB x l b with | none => (0, 3) | some n => if gain n (b * x.n ^ l) then ((l : Int), 0) else fgF x b (9 - (l + 1)) (l + 1) := by
      rw [show 9 - l = (9 - (l + 1)) + 1 by omega]
      rfl
    rw [hs] at hf
    try simp (maxSteps := 3000000) (disch := first | omega | (simp only [len_new, len_put, len_kill]; omega)) only [↓xpre, xpost, ↓reduceIte, Nat.reduceEqDiff, Nat.reduceAdd, Nat.reduceSub, Nat.reduceLeDiff, Nat.zero_add, Nat.sub_zero, f1, f2, f7, decide_eq_true hlt, rdn_of hbK]
    refine i_mixed (hv.pre ph) x1 hl8 (by omega) (by omega) bl fun H3 p3 => ⟨fun n hn => ?_, fun hn n => ?_⟩
    · have hn2 := mixB_in x1 hv.1.widL b1.1 hn
      have hQ2 := hQ _ (ph.trans p3)
      have hb3 := pre_get p3 hbK
      rw [hn] at hf
      simp only at hf
      try simp (maxSteps := 3000000) (disch := first | omega | (simp only [len_new, len_put, len_kill]; omega)) only [↓xpre, xpost, ↓reduceIte, Nat.reduceEqDiff, Nat.reduceAdd, Nat.reduceSub, Nat.reduceLeDiff, Nat.zero_add, Nat.sub_zero, f1, f2, f7, rd1_of hb3]
      refine i_power (fun j hj => sq_pow z hj (by omega)) (by omega) ?_
      have ec : x.n ^ l * b = b * x.n ^ l := Int.mul_comm _ _
      generalize hw : b * x.n ^ l = w at *
      have m3 : mm1 false (I64 w) (I64 100000) = some (I64 (if 100000 < w then 100000 else w)) := rfl
      have gm := gain_min bp hn2
      generalize hm : (if 100000 < w then (100000 : Int) else w) = m at *
      have cb := cube_in (z := m) (A := 100000) (by rw [← hm]; split <;> omega)
      by_cases g2 : n < 2 * m * m * m - m * m
      · try simp (maxSteps := 3000000) (disch := first | omega | (simp only [len_new, len_put, len_kill]; omega)) only [↓xpre, xpost, ↓reduceIte, Nat.reduceEqDiff, Nat.reduceAdd, Nat.reduceSub, Nat.reduceLeDiff, Nat.zero_add, Nat.sub_zero, f1, f2, f7, ec, wrap64_in, ↓WX_mm1, m3, decide_eq_true g2]
        rw [← hf, if_pos (gm.1 g2)] at hQ2
        exact hQ2
      · try simp (maxSteps := 3000000) (disch := first | omega | (simp only [len_new, len_put, len_kill]; omega)) only [↓xpre, xpost, ↓reduceIte, Nat.reduceEqDiff, Nat.reduceAdd, Nat.reduceSub, Nat.reduceLeDiff, Nat.zero_add, Nat.sub_zero, f1, f2, f7, ec, wrap64_in, ↓WX_mm1, m3, decide_eq_false g2]
        rw [if_neg (fun e => g2 (gm.2 e))] at hf
        refine InvQ_go (9 - (l + 1)) (by omega) ⟨(l + 1), rfl, by omega, (by first | rfl | exact f1 | (simp only [upd_apply]; rfl) | (show I64 _ = _; congr 1; omega)), (by first | rfl | exact f2 | (simp only [upd_apply]; rfl) | (show I64 _ = _; congr 1; omega)), (by first | rfl | exact f7 | (simp only [upd_apply]; rfl) | (show I64 _ = _; congr 1; omega)), (pp.trans p3), (by omega), hf⟩
    · have hQ2 := hQ _ (ph.trans p3)
      rw [hn] at hf
      simp only at hf
      rw [← hf] at hQ2
      try simp (maxSteps := 3000000) (disch := first | omega | (simp only [len_new, len_put, len_kill]; omega)) only [↓xpre, xpost, ↓reduceIte, Nat.reduceEqDiff, Nat.reduceAdd, Nat.reduceSub, Nat.reduceLeDiff, Nat.zero_add, Nat.sub_zero, f1, f2, f7]
      exact hQ2
  · have e9 : l = 9 := by omega
    subst e9
    try simp (maxSteps := 3000000) (disch := first | omega | (simp only [len_new, len_put, len_kill]; omega)) only [↓xpre, xpost, ↓reduceIte, Nat.reduceEqDiff, Nat.reduceAdd, Nat.reduceSub, Nat.reduceLeDiff, Nat.zero_add, Nat.sub_zero, f1, f2, f7, decide_eq_false hlt]
    have hQ2 := hQ _ ph
    rw [← hf] at hQ2
    exact hQ2

/-! ### BestLevels -/
def blF (x : Sch) (b : Int) (L : Nat) : Nat → Nat → Int → Int → Int × Int
  | 0, _, best, _ => (best, 0)
  | m + 1, l, best, least => match mixB x l (x.n ^ (L - l) * b) with
    | none => (0, 3)
    | some v => if l = 0 ∨ v < least then blF x b L m (l + 1) l v else blF x b L m (l + 1) best least
def blR (x : Sch) (lv b : Int) : Int × Int := if sqC x (isL lv && isB b) = 0 then blF x b lv.toNat (lv.toNat + 1) 0 0 0 else (0, sqC x (isL lv && isB b))
theorem pow_add' (n : Int) (i : Nat) : ∀ j : Nat, n ^ (i + j) = n ^ i * n ^ j
  | 0 => by simp
  | j + 1 => by rw [← Nat.add_assoc, Int.pow_succ, Int.pow_succ, pow_add' n i j, Int.mul_assoc]
theorem lev_in {x : Sch} {b : Int} {L l : Nat} (z : SZ x) (hL : L ≤ 8) (hl : l ≤ L) (hb : 1 ≤ b ∧ b ≤ 1000) : 1 ≤ x.n ^ (L - l) * b ∧ x.n ^ (L - l) * b ≤ x.n ^ L * b ∧ x.n ^ (L - l) * b * x.n ^ l = x.n ^ L * b ∧ x.n ^ L * b ≤ 6561000 := by
  have h1 := pow_in (n := x.n) (N := x.n) ⟨z.n.1, Int.le_refl _⟩ (L - l)
  have h2 := pow_up (N := x.n) z.n.1 (show L - l ≤ L by omega)
  have h3 := base_in z hL hb
  refine ⟨(mul_in1 (A := x.n ^ (L - l)) (B := b) ⟨h1.1, Int.le_refl _⟩ ⟨hb.1, Int.le_refl _⟩).1, Int.mul_le_mul_of_nonneg_right h2 (by omega), ?_, by rw [Int.mul_comm]; exact h3⟩
  rw [Int.mul_assoc, Int.mul_comm b, ← Int.mul_assoc, ← pow_add', show L - l + l = L by omega]
theorem s_BestLevels {v : Value} {x : Sch} {lv b : Int} {h : AH} {Q : Value → AH → Prop} (hv : Prods h v x.ps) (hl : SmallX x.ps)
    (hQ : ∀ h', h <+: h' → Q (.tuple #[I64 (blR x lv b).1, I64 (blR x lv b).2]) h') : WF S 48 [schV x v, I64 lv, I64 b] h Q := by
  refine WF_fn (fn := c48) rfl rfl ?_
  unfold c48
  try simp (maxSteps := 3000000) (disch := first | omega | (simp only [len_new, len_put, len_kill]; omega)) only [↓xpre, xpost, ↓reduceIte, Nat.reduceEqDiff, Nat.reduceAdd, Nat.reduceSub, Nat.reduceLeDiff, Nat.zero_add, Nat.sub_zero, schV, hv.one]
  generalize hH1 : AH.new h _ = H1
  obtain ⟨hb1, p1, n1⟩ := new_facts hH1
  try simp (maxSteps := 3000000) (disch := first | omega | (simp only [len_new, len_put, len_kill]; omega)) only [↓xpre, xpost, ↓reduceIte, Nat.reduceEqDiff, Nat.reduceAdd, Nat.reduceSub, Nat.reduceLeDiff, Nat.zero_add, Nat.sub_zero, rdn_of hb1]
  refine s_l06Code (hv.pre p1) hl fun H2 p2 => ?_
  have hb1 := pre_get p2 hb1
  unfold blR at hQ
  by_cases c0 : sqC x (isL lv && isB b) = 0
  case neg =>
    have hQ2 := hQ _ (p1.trans p2)
    rw [if_neg c0] at hQ2
    try simp (maxSteps := 3000000) (disch := first | omega | (simp only [len_new, len_put, len_kill]; omega)) only [↓xpre, xpost, ↓reduceIte, Nat.reduceEqDiff, Nat.reduceAdd, Nat.reduceSub, Nat.reduceLeDiff, Nat.zero_add, Nat.sub_zero, decide_eq_true (show sqC x (isL lv && isB b) ≠ 0 from c0)]
    exact hQ2
  rw [if_pos c0] at hQ
  obtain ⟨x1, x2, x3⟩ := sqC_0 c0
  simp only [Bool.and_eq_true] at x3
  have l1 : 0 ≤ lv ∧ lv ≤ 8 := by have := x3.1; unfold isL at this; exact of_decide_eq_true this
  have b1 : 1 ≤ b ∧ b ≤ 1000 := by have := x3.2; unfold isB at this; exact of_decide_eq_true this
  have z := (isX_sz x1).1
  obtain ⟨L, rfl⟩ : ∃ L : Nat, lv = L := ⟨lv.toNat, by omega⟩
  rw [Int.toNat_natCast] at hQ
  have hL8 : L ≤ 8 := by omega
  try simp (maxSteps := 3000000) (disch := first | omega | (simp only [len_new, len_put, len_kill]; omega)) only [↓xpre, xpost, ↓reduceIte, Nat.reduceEqDiff, Nat.reduceAdd, Nat.reduceSub, Nat.reduceLeDiff, Nat.zero_add, Nat.sub_zero, decide_eq_false (show ¬ (sqC x (isL L && isB b) ≠ 0) from fun e => e c0)]
  refine WC_loop_inv (fun m f K1 => ∃ (k : Nat), m = L - k ∧ k ≤ L ∧ f 1 = I64 L ∧ f 3 = .pointer (some ⟨h.length, 0, none⟩) ∧ f 9 = I64 0 ∧ f 10 = I64 0 ∧ f 11 = I64 (b * x.n ^ k) ∧ f 12 = I64 k ∧ (K1 = H2)) ?_ (L - 0) _ _ ⟨0, rfl, by omega, (by first | rfl | (simp [upd_apply]; done)), (by first | rfl | (simp [upd_apply]; done)), (by first | rfl | (simp [upd_apply]; done)), (by first | rfl | (simp [upd_apply]; done)), (by first | rfl | (simp [upd_apply]; done)), (by first | rfl | (simp [upd_apply]; done)), rfl⟩
  rintro m f K1 ⟨k, rfl, hk, f1, f3, f9, f10, f11, f12, hK⟩
  subst hK
  by_cases hlk : (k : Int) < L
  · have bk := base_in z (k := k + 1) (by omega) b1
    have bp := (mul_in1 (a := b) (b := x.n ^ (k + 1)) (A := b) (B := x.n ^ (k + 1)) (by omega) ⟨(pow_in (n := x.n) (N := 3) ⟨z.n.1, z.n.2⟩ (k + 1)).1, Int.le_refl _⟩).1
    have es : b * x.n ^ k * x.n = b * x.n ^ (k + 1) := by rw [Int.mul_assoc, ← Int.pow_succ]
    try simp (maxSteps := 3000000) (disch := first | omega | (simp only [len_new, len_put, len_kill]; omega)) only [↓xpre, xpost, ↓reduceIte, Nat.reduceEqDiff, Nat.reduceAdd, Nat.reduceSub, Nat.reduceLeDiff, Nat.zero_add, Nat.sub_zero, f1, f3, f9, f10, f11, f12, decide_eq_true hlk, rd1_of hb1, es, wrap64_in]
    refine InvQ_go (L - (k + 1)) (by omega) ⟨(k + 1), rfl, by omega, (by first | rfl | exact f1 | (simp only [upd_apply]; rfl) | (show I64 _ = _; congr 1; omega)), (by first | rfl | exact f3 | (simp only [upd_apply]; rfl) | (show I64 _ = _; congr 1; omega)), (by first | rfl | exact f9 | (simp only [upd_apply]; rfl) | (show I64 _ = _; congr 1; omega)), (by first | rfl | exact f10 | (simp only [upd_apply]; rfl) | (show I64 _ = _; congr 1; omega)), (by first | rfl | exact f11 | (simp only [upd_apply]; rfl) | (show I64 _ = _; congr 1; omega)), (by first | rfl | exact f12 | (simp only [upd_apply]; rfl) | (show I64 _ = _; congr 1; omega)), rfl⟩
  have ek : k = L := by omega
  subst ek
  have e11 : b * x.n ^ k = x.n ^ (k - 0) * b := by rw [Nat.sub_zero, Int.mul_comm]
  rw [e11] at f11
  try simp (maxSteps := 3000000) (disch := first | omega | (simp only [len_new, len_put, len_kill]; omega)) only [↓xpre, xpost, ↓reduceIte, Nat.reduceEqDiff, Nat.reduceAdd, Nat.reduceSub, Nat.reduceLeDiff, Nat.zero_add, Nat.sub_zero, f1, f3, f9, f10, f11, f12, decide_eq_false hlk]
  refine WC_loop_inv (fun m f K2 => ∃ (l : Nat) (best : Int) (least : Int) (w : Int), m = ((k + 1)) - l ∧ l ≤ ((k + 1)) ∧ f 1 = I64 k ∧ f 3 = .pointer (some ⟨h.length, 0, none⟩) ∧ f 9 = I64 best ∧ f 10 = I64 least ∧ f 11 = I64 w ∧ f 13 = I64 l ∧ (K1 <+: K2) ∧ (l ≤ k → w = x.n ^ (k - l) * b) ∧ (blF x b k (k + 1 - l) l best least = blF x b k (k + 1) 0 0 0)) ?_ (((k + 1)) - 0) _ _ ⟨0, 0, 0, x.n ^ (k - 0) * b, rfl, by omega, (by first | rfl | exact f1 | (simp [upd_apply]; done)), (by first | rfl | exact f3 | (simp [upd_apply]; done)), (by first | rfl | exact f9 | (simp [upd_apply]; done)), (by first | rfl | exact f10 | (simp [upd_apply]; done)), (by first | rfl | exact f11 | (simp [upd_apply]; done)), (by first | rfl | (simp [upd_apply]; done)), List.prefix_refl _, fun _ => rfl, rfl⟩
  rintro m f K2 ⟨l, best, least, w, rfl, hl, f1, f3, f9, f10, f11, f13, pp, hw, hf⟩
  have hbK := pre_get pp hb1
  have ph := (p1.trans p2).trans pp
  by_cases hlt : (l : Int) ≤ k
  · have hlk' : l ≤ k := by omega
    have hw' := hw hlk'
    have li := lev_in z hL8 hlk' b1
    rw [← hw'] at li
    have hs : blF x b k (k + 1 - l) l best least = match mixB x l (x.n ^ (k - l) * b) with | none => (0, 3) | some v => if l = 0 ∨ v < least then blF x b k (k + 1 - (l + 1)) (l + 1) l v else blF x b k (k + 1 - (l + 1)) (l + 1) best least := by
      rw [show k + 1 - l = (k + 1 - (l + 1)) + 1 by omega]
      rfl
    rw [hs, ← hw'] at hf
    by_cases g1 : 100000 < w
    · have hQ2 := hQ _ ph
      have hn : mixB x l w = none := by unfold mixB; rw [if_neg (by omega)]
      rw [hn] at hf
      simp only at hf
      rw [← hf] at hQ2
      try simp (maxSteps := 3000000) (disch := first | omega | (simp only [len_new, len_put, len_kill]; omega)) only [↓xpre, xpost, ↓reduceIte, Nat.reduceEqDiff, Nat.reduceAdd, Nat.reduceSub, Nat.reduceLeDiff, Nat.zero_add, Nat.sub_zero, f1, f3, f9, f10, f11, f13, decide_eq_true hlt, decide_eq_true g1]
      exact hQ2
    try simp (maxSteps := 3000000) (disch := first | omega | (simp only [len_new, len_put, len_kill]; omega)) only [↓xpre, xpost, ↓reduceIte, Nat.reduceEqDiff, Nat.reduceAdd, Nat.reduceSub, Nat.reduceLeDiff, Nat.zero_add, Nat.sub_zero, f1, f3, f9, f10, f11, f13, decide_eq_true hlt, decide_eq_false g1, rdn_of hbK]
    refine s_l06Mixed (hv.pre ph) x1 (by omega) (by omega) (by rw [li.2.2.1]; exact li.2.2.2) fun H3 p3 => ⟨fun n hn => ?_, fun hn n => ?_⟩
    · rw [hn] at hf
      simp only at hf
      have hb3 := pre_get p3 hbK
      have zn := z.n
      have tq : 0 ≤ w.tdiv x.n ∧ w.tdiv x.n ≤ 6561000 := by
        rw [Int.tdiv_eq_ediv_of_nonneg (by omega)]
        exact ⟨Int.ediv_nonneg (by omega) (by omega), Int.le_trans (Int.ediv_le_self _ (by omega)) (by omega)⟩
      have hwn : l + 1 ≤ k → w.tdiv x.n = x.n ^ (k - (l + 1)) * b := fun hk => by
        rw [hw', show k - l = (k - (l + 1)) + 1 by omega, Int.pow_succ, Int.mul_comm (x.n ^ _) x.n, Int.mul_assoc]
        exact Int.mul_tdiv_cancel_left _ (by omega)
      by_cases g2 : (l : Int) = 0
      · rw [if_pos (.inl (by omega))] at hf
        try simp (maxSteps := 3000000) (disch := first | omega | (simp only [len_new, len_put, len_kill]; omega)) only [↓xpre, xpost, ↓reduceIte, Nat.reduceEqDiff, Nat.reduceAdd, Nat.reduceSub, Nat.reduceLeDiff, Nat.zero_add, Nat.sub_zero, f1, f3, f9, f10, f11, f13, decide_eq_true g2, WG_un, rd1_of hb3, bin_quo, wrap64_in]
        refine InvQ_go (((k + 1)) - (l + 1)) (by omega) ⟨(l + 1), (l : Int), n, (w.tdiv x.n), rfl, by omega, (by first | rfl | exact f1 | (simp only [upd_apply]; rfl) | (show I64 _ = _; congr 1; omega)), (by first | rfl | exact f3 | (simp only [upd_apply]; rfl) | (show I64 _ = _; congr 1; omega)), (by first | rfl | exact f9 | (simp only [upd_apply]; rfl) | (show I64 _ = _; congr 1; omega)), (by first | rfl | exact f10 | (simp only [upd_apply]; rfl) | (show I64 _ = _; congr 1; omega)), (by first | rfl | exact f11 | (simp only [upd_apply]; rfl) | (show I64 _ = _; congr 1; omega)), (by first | rfl | exact f13 | (simp only [upd_apply]; rfl) | (show I64 _ = _; congr 1; omega)), (pp.trans p3), hwn, hf⟩
      · by_cases g3 : n < least
        · rw [if_pos (.inr g3)] at hf
          try simp (maxSteps := 3000000) (disch := first | omega | (simp only [len_new, len_put, len_kill]; omega)) only [↓xpre, xpost, ↓reduceIte, Nat.reduceEqDiff, Nat.reduceAdd, Nat.reduceSub, Nat.reduceLeDiff, Nat.zero_add, Nat.sub_zero, f1, f3, f9, f10, f11, f13, decide_eq_false g2, decide_eq_true g3, rd1_of hb3, bin_quo, wrap64_in]
          refine InvQ_go (((k + 1)) - (l + 1)) (by omega) ⟨(l + 1), (l : Int), n, (w.tdiv x.n), rfl, by omega, (by first | rfl | exact f1 | (simp only [upd_apply]; rfl) | (show I64 _ = _; congr 1; omega)), (by first | rfl | exact f3 | (simp only [upd_apply]; rfl) | (show I64 _ = _; congr 1; omega)), (by first | rfl | exact f9 | (simp only [upd_apply]; rfl) | (show I64 _ = _; congr 1; omega)), (by first | rfl | exact f10 | (simp only [upd_apply]; rfl) | (show I64 _ = _; congr 1; omega)), (by first | rfl | exact f11 | (simp only [upd_apply]; rfl) | (show I64 _ = _; congr 1; omega)), (by first | rfl | exact f13 | (simp only [upd_apply]; rfl) | (show I64 _ = _; congr 1; omega)), (pp.trans p3), hwn, hf⟩
        · rw [if_neg (by omega)] at hf
          try simp (maxSteps := 3000000) (disch := first | omega | (simp only [len_new, len_put, len_kill]; omega)) only [↓xpre, xpost, ↓reduceIte, Nat.reduceEqDiff, Nat.reduceAdd, Nat.reduceSub, Nat.reduceLeDiff, Nat.zero_add, Nat.sub_zero, f1, f3, f9, f10, f11, f13, decide_eq_false g2, decide_eq_false g3, rd1_of hb3, bin_quo, wrap64_in]
          refine InvQ_go (((k + 1)) - (l + 1)) (by omega) ⟨(l + 1), best, least, (w.tdiv x.n), rfl, by omega, (by first | rfl | exact f1 | (simp only [upd_apply]; rfl) | (show I64 _ = _; congr 1; omega)), (by first | rfl | exact f3 | (simp only [upd_apply]; rfl) | (show I64 _ = _; congr 1; omega)), (by first | rfl | exact f9 | (simp only [upd_apply]; rfl) | (show I64 _ = _; congr 1; omega)), (by first | rfl | exact f10 | (simp only [upd_apply]; rfl) | (show I64 _ = _; congr 1; omega)), (by first | rfl | exact f11 | (simp only [upd_apply]; rfl) | (show I64 _ = _; congr 1; omega)), (by first | rfl | exact f13 | (simp only [upd_apply]; rfl) | (show I64 _ = _; congr 1; omega)), (pp.trans p3), hwn, hf⟩
    · have hQ2 := hQ _ (ph.trans p3)
      rw [hn] at hf
      simp only at hf
      rw [← hf] at hQ2
      try simp (maxSteps := 3000000) (disch := first | omega | (simp only [len_new, len_put, len_kill]; omega)) only [↓xpre, xpost, ↓reduceIte, Nat.reduceEqDiff, Nat.reduceAdd, Nat.reduceSub, Nat.reduceLeDiff, Nat.zero_add, Nat.sub_zero, f1, f3, f9, f10, f11, f13]
      exact hQ2
  · have e9 : l = k + 1 := by omega
    subst e9
    try simp (maxSteps := 3000000) (disch := first | omega | (simp only [len_new, len_put, len_kill]; omega)) only [↓xpre, xpost, ↓reduceIte, Nat.reduceEqDiff, Nat.reduceAdd, Nat.reduceSub, Nat.reduceLeDiff, Nat.zero_add, Nat.sub_zero, f1, f3, f9, f10, f11, f13, decide_eq_false hlt]
    have hQ2 := hQ _ ph
    rw [← hf, Nat.sub_self] at hQ2
    exact hQ2
theorem i_BestLevels {v : Value} {x : Sch} {lv b : Int} {h : AH} {Q : Value → AH → Prop} (hv : Prods h v x.ps) (hl : SmallX x.ps)
    (hQ : ∀ h', h <+: h' → Q (.tuple #[I64 (blR x lv b).1, I64 (blR x lv b).2]) h') : WF S 49 [schV x v, I64 lv, I64 b] h Q := by
  refine WF_fn (fn := c49) rfl rfl ?_
  unfold c49
  try simp (maxSteps := 3000000) (disch := first | omega | (simp only [len_new, len_put, len_kill]; omega)) only [↓xpre, xpost, ↓reduceIte, Nat.reduceEqDiff, Nat.reduceAdd, Nat.reduceSub, Nat.reduceLeDiff, Nat.zero_add, Nat.sub_zero, schV, hv.one]
  generalize hH1 : AH.new h _ = H1
  obtain ⟨hb1, p1, n1⟩ := new_facts hH1
  unfold blR at hQ
  try simp (maxSteps := 3000000) (disch := first | omega | (simp only [len_new, len_put, len_kill]; omega)) only [↓xpre, xpost, ↓reduceIte, Nat.reduceEqDiff, Nat.reduceAdd, Nat.reduceSub, Nat.reduceLeDiff, Nat.zero_add, Nat.sub_zero, rdn_of hb1]
  refine i_isLevels ?_
  have stop : sqC x (isL lv && isB b) ≠ 0 → ∀ H2, H1 <+: H2 → Q (.tuple #[I64 0, I64 (sqC x (isL lv && isB b))]) H2 := fun e H2 p => by
    have := hQ _ (p1.trans p)
    rw [if_neg e] at this
    exact this
  cases c1 : isL lv with
  | false =>
    rw [c1, Bool.false_and] at stop
    try simp (maxSteps := 3000000) (disch := first | omega | (simp only [len_new, len_put, len_kill]; omega)) only [↓xpre, xpost, ↓reduceIte, Nat.reduceEqDiff, Nat.reduceAdd, Nat.reduceSub, Nat.reduceLeDiff, Nat.zero_add, Nat.sub_zero, WG_un]
    refine ⟨List.prefix_refl _, ?_⟩
    refine i_squareCode (hv.pre p1) hl fun H2 p2 => ?_
    try simp (maxSteps := 3000000) (disch := first | omega | (simp only [len_new, len_put, len_kill]; omega)) only [↓xpre, xpost, ↓reduceIte, Nat.reduceEqDiff, Nat.reduceAdd, Nat.reduceSub, Nat.reduceLeDiff, Nat.zero_add, Nat.sub_zero, decide_eq_true (show sqC x false ≠ 0 from sqC_f)]
    exact stop sqC_f _ p2
  | true =>
    rw [c1, Bool.true_and] at stop hQ
    try simp (maxSteps := 3000000) (disch := first | omega | (simp only [len_new, len_put, len_kill]; omega)) only [↓xpre, xpost, ↓reduceIte, Nat.reduceEqDiff, Nat.reduceAdd, Nat.reduceSub, Nat.reduceLeDiff, Nat.zero_add, Nat.sub_zero]
    refine ⟨List.prefix_refl _, ?_⟩
    refine i_isBase ?_
    try simp (maxSteps := 3000000) (disch := first | omega | (simp only [len_new, len_put, len_kill]; omega)) only [↓xpre, xpost, ↓reduceIte, Nat.reduceEqDiff, Nat.reduceAdd, Nat.reduceSub, Nat.reduceLeDiff, Nat.zero_add, Nat.sub_zero]
    refine ⟨List.prefix_refl _, ?_⟩
    refine i_squareCode (hv.pre p1) hl fun H2 p2 => ?_
    have hb1 := pre_get p2 hb1
    by_cases c0 : sqC x (isB b) = 0
    case neg =>
      try simp (maxSteps := 3000000) (disch := first | omega | (simp only [len_new, len_put, len_kill]; omega)) only [↓xpre, xpost, ↓reduceIte, Nat.reduceEqDiff, Nat.reduceAdd, Nat.reduceSub, Nat.reduceLeDiff, Nat.zero_add, Nat.sub_zero, decide_eq_true (show sqC x (isB b) ≠ 0 from c0)]
      exact stop c0 _ p2
    rw [if_pos c0] at hQ
    obtain ⟨x1, x2, x3⟩ := sqC_0 c0
    have l1 : 0 ≤ lv ∧ lv ≤ 8 := by unfold isL at c1; exact of_decide_eq_true c1
    have b1 : 1 ≤ b ∧ b ≤ 1000 := by unfold isB at x3; exact of_decide_eq_true x3
    have z := (isX_sz x1).1
    obtain ⟨k, rfl⟩ : ∃ k : Nat, lv = k := ⟨lv.toNat, by omega⟩
    rw [Int.toNat_natCast] at hQ
    have hL8 : k ≤ 8 := by omega
    try simp (maxSteps := 3000000) (disch := first | omega | (simp only [len_new, len_put, len_kill]; omega)) only [↓xpre, xpost, ↓reduceIte, Nat.reduceEqDiff, Nat.reduceAdd, Nat.reduceSub, Nat.reduceLeDiff, Nat.zero_add, Nat.sub_zero, decide_eq_false (show ¬ (sqC x (isB b) ≠ 0) from fun e => e c0), wrap64_in]
    refine WC_loop_inv (fun m f K1 => ∃ (l : Nat) (best : Int) (least : Int) (lt : Int), m = ((k + 1)) - l ∧ l ≤ ((k + 1)) ∧ f 1 = I64 k ∧ f 2 = I64 b ∧ f 3 = .pointer (some ⟨h.length, 0, none⟩) ∧ f 9 = I64 best ∧ f 10 = I64 lt ∧ f 26 = I64 ((k : Int) + 1) ∧ f 27 = I64 l ∧ (H2 <+: K1) ∧ (lt < 0 ↔ l = 0) ∧ (0 < l → lt = least) ∧ (0 < l → x.n ^ k * b ≤ 100000) ∧ (blF x b k (k + 1 - l) l best least = blF x b k (k + 1) 0 0 0)) ?_ (((k + 1)) - 0) _ _ ⟨0, 0, 0, -1, rfl, by omega, (by first | rfl | (simp [upd_apply]; done)), (by first | rfl | (simp [upd_apply]; done)), (by first | rfl | (simp [upd_apply]; done)), (by first | rfl | (simp [upd_apply]; done)), (by first | rfl | (simp [upd_apply]; done)), (by first | rfl | (simp [upd_apply]; done)), (by first | rfl | (simp [upd_apply]; done)), List.prefix_refl _, (by omega), (by omega), (by omega), rfl⟩
    rintro m f K1 ⟨l, best, least, lt, rfl, hl, f1, f2, f3, f9, f10, f26, f27, pp, hlt, hll, hsm, hf⟩
    have hbK := pre_get pp hb1
    have ph := (p1.trans p2).trans pp
    by_cases hlk : (l : Int) < (k : Int) + 1
    · have hlk' : l ≤ k := by omega
      have li := lev_in z hL8 hlk' b1
      have hs : blF x b k (k + 1 - l) l best least = match mixB x l (x.n ^ (k - l) * b) with | none => (0, 3) | some v => if l = 0 ∨ v < least then blF x b k (k + 1 - (l + 1)) (l + 1) l v else blF x b k (k + 1 - (l + 1)) (l + 1) best least := by
        rw [show k + 1 - l = (k + 1 - (l + 1)) + 1 by omega]
        rfl
      rw [hs] at hf
      have ekl : (k : Int) - (l : Int) = ((k - l : Nat) : Int) := by omega
      try simp (maxSteps := 3000000) (disch := first | omega | (simp only [len_new, len_put, len_kill]; omega)) only [↓xpre, xpost, ↓reduceIte, Nat.reduceEqDiff, Nat.reduceAdd, Nat.reduceSub, Nat.reduceLeDiff, Nat.zero_add, Nat.sub_zero, f1, f2, f3, f9, f10, f26, f27, decide_eq_true hlk, rdn_of hbK, rd1_of hbK, wrap64_in, ekl]
      refine i_power (fun j hj => sq_pow z (m := 8) (by omega) (by omega)) (by omega) ?_
      try simp (maxSteps := 3000000) (disch := first | omega | (simp only [len_new, len_put, len_kill]; omega)) only [↓xpre, xpost, ↓reduceIte, Nat.reduceEqDiff, Nat.reduceAdd, Nat.reduceSub, Nat.reduceLeDiff, Nat.zero_add, Nat.sub_zero, f1, f2, f3, f9, f10, f26, f27, wrap64_in]
      refine ⟨List.prefix_refl _, ?_⟩
      refine i_mixed (hv.pre ph) x1 (by omega) (by omega) (by omega) (by rw [li.2.2.1]; exact li.2.2.2) fun H3 p3 => ⟨fun n hn => ?_, fun hn n => ?_⟩
      · have hn2 := mixB_in x1 hv.1.widL li.1 hn
        have hsm' : x.n ^ k * b ≤ 100000 := by
          by_cases hl0 : l = 0
          · subst hl0
            apply Decidable.byContradiction
            intro hc
            unfold mixB at hn
            rw [Nat.sub_zero, if_neg hc] at hn
            cases hn
          · exact hsm (by omega)
        rw [hn] at hf
        simp only at hf
        by_cases g2 : lt < 0
        · rw [if_pos (.inl (hlt.1 g2))] at hf
          try simp (maxSteps := 3000000) (disch := first | omega | (simp only [len_new, len_put, len_kill]; omega)) only [↓xpre, xpost, ↓reduceIte, Nat.reduceEqDiff, Nat.reduceAdd, Nat.reduceSub, Nat.reduceLeDiff, Nat.zero_add, Nat.sub_zero, f1, f2, f3, f9, f10, f26, f27, decide_eq_true g2, WG_un, wrap64_in]
          refine InvQ_go (((k + 1)) - (l + 1)) (by omega) ⟨(l + 1), (l : Int), n, n, rfl, by omega, (by first | rfl | exact f1 | (simp only [upd_apply]; rfl) | (show I64 _ = _; congr 1; omega)), (by first | rfl | exact f2 | (simp only [upd_apply]; rfl) | (show I64 _ = _; congr 1; omega)), (by first | rfl | exact f3 | (simp only [upd_apply]; rfl) | (show I64 _ = _; congr 1; omega)), (by first | rfl | exact f9 | (simp only [upd_apply]; rfl) | (show I64 _ = _; congr 1; omega)), (by first | rfl | exact f10 | (simp only [upd_apply]; rfl) | (show I64 _ = _; congr 1; omega)), (by first | rfl | exact f26 | (simp only [upd_apply]; rfl) | (show I64 _ = _; congr 1; omega)), (by first | rfl | exact f27 | (simp only [upd_apply]; rfl) | (show I64 _ = _; congr 1; omega)), (pp.trans p3), (by omega), (fun _ => rfl), (fun _ => hsm'), hf⟩
        · have hl0 : l ≠ 0 := fun e => g2 (hlt.2 e)
          have hle := hll (by omega)
          by_cases g3 : n < lt
          · rw [if_pos (.inr (by omega))] at hf
            try simp (maxSteps := 3000000) (disch := first | omega | (simp only [len_new, len_put, len_kill]; omega)) only [↓xpre, xpost, ↓reduceIte, Nat.reduceEqDiff, Nat.reduceAdd, Nat.reduceSub, Nat.reduceLeDiff, Nat.zero_add, Nat.sub_zero, f1, f2, f3, f9, f10, f26, f27, decide_eq_false g2, decide_eq_true g3, wrap64_in]
            refine InvQ_go (((k + 1)) - (l + 1)) (by omega) ⟨(l + 1), (l : Int), n, n, rfl, by omega, (by first | rfl | exact f1 | (simp only [upd_apply]; rfl) | (show I64 _ = _; congr 1; omega)), (by first | rfl | exact f2 | (simp only [upd_apply]; rfl) | (show I64 _ = _; congr 1; omega)), (by first | rfl | exact f3 | (simp only [upd_apply]; rfl) | (show I64 _ = _; congr 1; omega)), (by first | rfl | exact f9 | (simp only [upd_apply]; rfl) | (show I64 _ = _; congr 1; omega)), (by first | rfl | exact f10 | (simp only [upd_apply]; rfl) | (show I64 _ = _; congr 1; omega)), (by first | rfl | exact f26 | (simp only [upd_apply]; rfl) | (show I64 _ = _; congr 1; omega)), (by first | rfl | exact f27 | (simp only [upd_apply]; rfl) | (show I64 _ = _; congr 1; omega)), (pp.trans p3), (by omega), (fun _ => rfl), (fun _ => hsm'), hf⟩
          · rw [if_neg (by omega)] at hf
            try simp (maxSteps := 3000000) (disch := first | omega | (simp only [len_new, len_put, len_kill]; omega)) only [↓xpre, xpost, ↓reduceIte, Nat.reduceEqDiff, Nat.reduceAdd, Nat.reduceSub, Nat.reduceLeDiff, Nat.zero_add, Nat.sub_zero, f1, f2, f3, f9, f10, f26, f27, decide_eq_false g2, decide_eq_false g3, wrap64_in]
            refine InvQ_go (((k + 1)) - (l + 1)) (by omega) ⟨(l + 1), best, least, lt, rfl, by omega, (by first | rfl | exact f1 | (simp only [upd_apply]; rfl) | (show I64 _ = _; congr 1; omega)), (by first | rfl | exact f2 | (simp only [upd_apply]; rfl) | (show I64 _ = _; congr 1; omega)), (by first | rfl | exact f3 | (simp only [upd_apply]; rfl) | (show I64 _ = _; congr 1; omega)), (by first | rfl | exact f9 | (simp only [upd_apply]; rfl) | (show I64 _ = _; congr 1; omega)), (by first | rfl | exact f10 | (simp only [upd_apply]; rfl) | (show I64 _ = _; congr 1; omega)), (by first | rfl | exact f26 | (simp only [upd_apply]; rfl) | (show I64 _ = _; congr 1; omega)), (by first | rfl | exact f27 | (simp only [upd_apply]; rfl) | (show I64 _ = _; congr 1; omega)), (pp.trans p3), (by omega), (fun _ => hle), (fun _ => hsm'), hf⟩
      · have hQ2 := hQ _ (ph.trans p3)
        rw [hn] at hf
        simp only at hf
        rw [← hf] at hQ2
        try simp (maxSteps := 3000000) (disch := first | omega | (simp only [len_new, len_put, len_kill]; omega)) only [↓xpre, xpost, ↓reduceIte, Nat.reduceEqDiff, Nat.reduceAdd, Nat.reduceSub, Nat.reduceLeDiff, Nat.zero_add, Nat.sub_zero, f1, f2, f3, f9, f10, f26, f27]
        exact hQ2
    · have e9 : l = k + 1 := by omega
      subst e9
      try simp (maxSteps := 3000000) (disch := first | omega | (simp only [len_new, len_put, len_kill]; omega)) only [↓xpre, xpost, ↓reduceIte, Nat.reduceEqDiff, Nat.reduceAdd, Nat.reduceSub, Nat.reduceLeDiff, Nat.zero_add, Nat.sub_zero, f1, f2, f3, f9, f10, f26, f27, decide_eq_false hlk]
      have hQ2 := hQ _ ph
      rw [← hf, Nat.sub_self] at hQ2
      exact hQ2
end Go.Proofs.Ytphklalbkpohfaa.X
