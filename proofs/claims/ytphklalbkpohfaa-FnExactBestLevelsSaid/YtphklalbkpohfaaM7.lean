/- Texts of one claim, put together by merge.py: XS8, XS9, XS10. -/
import Derived.Test.YtphklalbkpohfaaM5
/- The cost of a scheme. -/
set_option linter.unusedVariables false
set_option linter.unusedSimpArgs false
set_option maxRecDepth 20000
set_option maxHeartbeats 4000000
namespace Go.Proofs.Ytphklalbkpohfaa.X
open Go Go.RowKit

def mm1 (b : Bool) (x y : Value) : Option Value := match x, y with
  | .int k a, .int _ c => some (.int k (if b then (if c > a then c else a) else (if c < a then c else a)))
  | _, _ => none
theorem WX_mm1 {S : XS} {f : Fr} {h : AH} {Q : Value → AH → Prop} {b : Bool} {x y : Operand} : WX S (.mm b x [y]) f h Q = WV (mm1 b (ev f x) (ev f y)) fun v => Q v h := by
  refine WX_of (fun _ => rfl) ?_
  simp only [xop, List.map_cons, List.map_nil]
  generalize ev f x = vx
  generalize ev f y = vy
  cases vx <;> first | rfl | skip
  cases vy <;> rfl
theorem mm1_max {a c : Int} {k k' : IntKind} : mm1 true (.int k a) (.int k' c) = some (.int k (if c > a then c else a)) := rfl
theorem mm1_min {a c : Int} {k k' : IntKind} : mm1 false (.int k a) (.int k' c) = some (.int k (if c < a then c else a)) := rfl
/-- Sums of the first numbers. -/
def sm (g : Nat → Int) : Nat → Int
  | 0 => 0
  | n + 1 => sm g n + g n
theorem sm_in {g : Nat → Int} {a b : Int} (h : ∀ j, a ≤ g j ∧ g j ≤ b) : ∀ n : Nat, a * n ≤ sm g n ∧ sm g n ≤ b * n
  | 0 => by simp [sm]
  | n + 1 => by
    have h1 := sm_in h n
    have h2 := h n
    simp only [sm]
    rw [show ((n + 1 : Nat) : Int) = (n : Int) + 1 by omega, Int.mul_add, Int.mul_add, Int.mul_one, Int.mul_one]
    omega
def nz (a : Int) : Int := if a = 0 then 0 else 1
theorem nz_in (a : Int) : 0 ≤ nz a ∧ nz a ≤ 1 := by unfold nz; split <;> omega
def wt (f : List Int) (i : Nat) : Int := sm (fun j => nz (f.getD j 0)) i
theorem wt_in (f : List Int) (i : Nat) : 0 ≤ wt f i ∧ wt f i ≤ i := by
  have := sm_in (g := fun j => nz (f.getD j 0)) (a := 0) (b := 1) (fun j => nz_in _) i
  unfold wt
  omega
theorem s_l06Weight {q : List Int} {h : AH} {Q : Value → AH → Prop} (hq : q.length = 9) (hQ : ∀ h', h <+: h' → Q (I64 (wt q 9)) h') : WF S 110 [aggV .u8 q] h Q := by
  refine WF_fn (fn := c110) rfl rfl ?_
  unfold c110
  try simp (maxSteps := 3000000) (disch := first | omega | (simp only [len_new, len_put, len_kill]; omega)) only [↓xpre, xpost, ↓reduceIte, Nat.reduceEqDiff, Nat.reduceAdd, Nat.reduceSub, Nat.reduceLeDiff, Nat.zero_add, Nat.sub_zero, aggV, cel_all]
  generalize hH1 : AH.new h _ = H1
  obtain ⟨hb1, p1, n1⟩ := new_facts hH1
  refine WC_loop_inv (fun m f K1 => ∃ (i : Nat), m = 9 - i ∧ i ≤ 9 ∧ f 1 = .pointer (some ⟨h.length, 0, none⟩) ∧ f 3 = I64 (wt q i) ∧ f 4 = I64 i ∧ (K1 = H1)) ?_ (9 - 0) _ _ ⟨0, rfl, by omega, (by first | rfl | (simp [upd_apply]; done)), (by first | rfl | (simp [upd_apply]; done)), (by first | rfl | (simp [upd_apply]; done)), rfl⟩
  rintro m f K1 ⟨i, rfl, hi, f1, f3, f4, hK⟩
  subst hK
  have w := wt_in q i
  by_cases hlt : (i : Int) < 9
  · have g1 := cel_get (k := .u8) (q := q) (j := i) (by omega)
    have e1 : wt q (i + 1) = wt q i + nz (q.getD i 0) := rfl
    by_cases c1 : q.getD i 0 = 0
    · try simp (maxSteps := 3000000) (disch := first | omega | (simp only [len_new, len_put, len_kill]; omega)) only [↓xpre, xpost, ↓reduceIte, Nat.reduceEqDiff, Nat.reduceAdd, Nat.reduceSub, Nat.reduceLeDiff, Nat.zero_add, Nat.sub_zero, f1, f3, f4, decide_eq_true hlt, ↓WX_ixa, ixaV_ptr, Int.toNat_natCast, Nat.mul_one, rd1_of hb1, g1, decide_eq_false (show ¬ (q.getD i 0 ≠ 0) from fun e => e c1), wrap64_in]
      refine InvQ_go (9 - (i + 1)) (by omega) ⟨(i + 1), rfl, by omega, (by first | rfl | exact f1 | (simp only [upd_apply]; rfl) | (show I64 _ = _; congr 1; omega)), (by show f 3 = _; rw [e1, f3]; unfold nz; rw [if_pos c1, Int.add_zero]), (by first | rfl | exact f4 | (simp only [upd_apply]; rfl) | (show I64 _ = _; congr 1; omega)), rfl⟩
    · try simp (maxSteps := 3000000) (disch := first | omega | (simp only [len_new, len_put, len_kill]; omega)) only [↓xpre, xpost, ↓reduceIte, Nat.reduceEqDiff, Nat.reduceAdd, Nat.reduceSub, Nat.reduceLeDiff, Nat.zero_add, Nat.sub_zero, f1, f3, f4, decide_eq_true hlt, ↓WX_ixa, ixaV_ptr, Int.toNat_natCast, Nat.mul_one, rd1_of hb1, g1, decide_eq_true (show q.getD i 0 ≠ 0 from c1), wrap64_in]
      refine InvQ_go (9 - (i + 1)) (by omega) ⟨(i + 1), rfl, by omega, (by first | rfl | exact f1 | (simp only [upd_apply]; rfl) | (show I64 _ = _; congr 1; omega)), (by show I64 _ = I64 _; rw [e1]; unfold nz; rw [if_neg c1]), (by first | rfl | exact f4 | (simp only [upd_apply]; rfl) | (show I64 _ = _; congr 1; omega)), rfl⟩
  · have e9 : i = 9 := by omega
    subst e9
    try simp (maxSteps := 3000000) (disch := first | omega | (simp only [len_new, len_put, len_kill]; omega)) only [↓xpre, xpost, ↓reduceIte, Nat.reduceEqDiff, Nat.reduceAdd, Nat.reduceSub, Nat.reduceLeDiff, Nat.zero_add, Nat.sub_zero, f1, f3, f4, decide_eq_false hlt]
    exact hQ _ p1
theorem i_weight {q : List Int} {h : AH} {Q : Value → AH → Prop} (hq : q.length = 9) (hQ : ∀ h', h <+: h' → Q (I64 (wt q 9)) h') : WF S 111 [aggV .u8 q] h Q := by
  refine WF_fn (fn := c111) rfl rfl ?_
  unfold c111
  have tk : q.take 9 = q := List.take_of_length_le (by omega)
  try simp (maxSteps := 3000000) (disch := first | omega | (simp only [len_new, len_put, len_kill]; omega)) only [↓xpre, xpost, ↓reduceIte, Nat.reduceEqDiff, Nat.reduceAdd, Nat.reduceSub, Nat.reduceLeDiff, Nat.zero_add, Nat.sub_zero, aggV, cel_all]
  generalize hH1 : AH.new h _ = H1
  obtain ⟨hb1, p1, n1⟩ := new_facts hH1
  try simp (maxSteps := 3000000) (disch := first | omega | (simp only [len_new, len_put, len_kill]; omega)) only [↓xpre, xpost, ↓reduceIte, Nat.reduceEqDiff, Nat.reduceAdd, Nat.reduceSub, Nat.reduceLeDiff, Nat.zero_add, Nat.sub_zero, rdn_of hb1, cel_len, hq, cel_take, tk]
  refine WC_loop_inv (fun m f K1 => ∃ (i : Nat), m = 9 - i ∧ i ≤ 9 ∧ f 3 = I64 (wt q i) ∧ f 6 = .agg (cel .u8 q).toArray ∧ f 7 = I64 i ∧ (K1 = H1)) ?_ (9 - 0) _ _ ⟨0, rfl, by omega, (by first | rfl | (simp [upd_apply]; done)), (by first | rfl | (simp [upd_apply]; done)), (by first | rfl | (simp [upd_apply]; done)), rfl⟩
  rintro m f K1 ⟨i, rfl, hi, f3, f6, f7, hK⟩
  subst hK
  have w := wt_in q i
  by_cases hlt : (i : Int) < 9
  · have g1 := idx1V_cel (k := .u8) (q := q) (n := 9) (j := i) (kk := .i64) (by omega) (by omega)
    have e1 : wt q (i + 1) = wt q i + nz (q.getD i 0) := rfl
    by_cases c1 : q.getD i 0 = 0
    · try simp (maxSteps := 3000000) (disch := first | omega | (simp only [len_new, len_put, len_kill]; omega)) only [↓xpre, xpost, ↓reduceIte, Nat.reduceEqDiff, Nat.reduceAdd, Nat.reduceSub, Nat.reduceLeDiff, Nat.zero_add, Nat.sub_zero, f3, f6, f7, decide_eq_true hlt, ↓WX_idx1, g1, decide_eq_false (show ¬ (q.getD i 0 ≠ 0) from fun e => e c1), wrap64_in]
      refine InvQ_go (9 - (i + 1)) (by omega) ⟨(i + 1), rfl, by omega, (by show f 3 = _; rw [e1, f3]; unfold nz; rw [if_pos c1, Int.add_zero]), (by first | rfl | exact f6 | (simp only [upd_apply]; rfl) | (show I64 _ = _; congr 1; omega)), (by first | rfl | exact f7 | (simp only [upd_apply]; rfl) | (show I64 _ = _; congr 1; omega)), rfl⟩
    · try simp (maxSteps := 3000000) (disch := first | omega | (simp only [len_new, len_put, len_kill]; omega)) only [↓xpre, xpost, ↓reduceIte, Nat.reduceEqDiff, Nat.reduceAdd, Nat.reduceSub, Nat.reduceLeDiff, Nat.zero_add, Nat.sub_zero, f3, f6, f7, decide_eq_true hlt, ↓WX_idx1, g1, decide_eq_true (show q.getD i 0 ≠ 0 from c1), wrap64_in]
      refine InvQ_go (9 - (i + 1)) (by omega) ⟨(i + 1), rfl, by omega, (by show I64 _ = I64 _; rw [e1]; unfold nz; rw [if_neg c1]), (by first | rfl | exact f6 | (simp only [upd_apply]; rfl) | (show I64 _ = _; congr 1; omega)), (by first | rfl | exact f7 | (simp only [upd_apply]; rfl) | (show I64 _ = _; congr 1; omega)), rfl⟩
  · have e9 : i = 9 := by omega
    subst e9
    try simp (maxSteps := 3000000) (disch := first | omega | (simp only [len_new, len_put, len_kill]; omega)) only [↓xpre, xpost, ↓reduceIte, Nat.reduceEqDiff, Nat.reduceAdd, Nat.reduceSub, Nat.reduceLeDiff, Nat.zero_add, Nat.sub_zero, f3, f6, f7, decide_eq_false hlt]
    exact hQ _ p1

/-- The sum of the weights of the first factors, less one each. -/
def cw (L : List (List Int)) (s : Nat) (i : Nat) : Int := sm (fun j => wt (seg (L.getD j []) s) 9 - 1) i
theorem cw_in (L : List (List Int)) (s i : Nat) : -i ≤ cw L s i ∧ cw L s i ≤ 8 * i := by
  have := sm_in (g := fun j => wt (seg (L.getD j []) s) 9 - 1) (a := -1) (b := 8) (fun j => by have := wt_in (seg (L.getD j []) s) 9; omega) i
  unfold cw
  omega
/-- How many of the first products have a number other than 0 at a place of the last factor. -/
def cc (L : List (List Int)) (c i : Nat) : Int := sm (fun j => nz ((L.getD j []).getD (18 + c) 0)) i
theorem cc_in (L : List (List Int)) (c i : Nat) : 0 ≤ cc L c i ∧ cc L c i ≤ i := by
  have := sm_in (g := fun j => nz ((L.getD j []).getD (18 + c) 0)) (a := 0) (b := 1) (fun j => nz_in _) i
  unfold cc
  omega
def mx (a : Int) : Int := if 0 > a then 0 else a
def cq (L : List (List Int)) (n c : Nat) : Int := sm (fun c => mx (cc L c n - 1)) c
theorem cq_in (L : List (List Int)) (n c : Nat) : 0 ≤ cq L n c ∧ cq L n c ≤ (n : Int) * c := by
  have := sm_in (g := fun c => mx (cc L c n - 1)) (a := 0) (b := n) (fun j => by have := cc_in L j n; unfold mx; split <;> omega) c
  unfold cq
  omega
def costL (x : Sch) : List Int := [x.ps.length, cw x.ps 0 x.ps.length, cw x.ps 1 x.ps.length, cq x.ps x.ps.length 9]
theorem s_l06Cost {v : Value} {x : Sch} {h : AH} {Q : Value → AH → Prop} (hv : Prods h v x.ps) (hl : x.ps.length ≤ 30)
    (hQ : ∀ v' h', h <+: h' → OwnR h h' v' (costL x) → Q v' h') : WF S 83 [schV x v] h Q := by
  refine WF_fn (fn := c83) rfl rfl ?_
  unfold c83
  try simp (maxSteps := 3000000) (disch := first | omega | (simp only [len_new, len_put, len_kill]; omega)) only [↓xpre, xpost, ↓reduceIte, Nat.reduceEqDiff, Nat.reduceAdd, Nat.reduceSub, Nat.reduceLeDiff, Nat.zero_add, Nat.sub_zero, schV, hv.one]
  generalize hH1 : AH.new h _ = H1
  obtain ⟨hb1, p1, n1⟩ := new_facts hH1
  refine WC_loop_inv (fun m f K1 => ∃ (i : Nat), m = x.ps.length - i ∧ i ≤ x.ps.length ∧ f 1 = .pointer (some ⟨h.length, 0, none⟩) ∧ f 3 = I64 (cw x.ps 0 i) ∧ f 4 = I64 (cw x.ps 1 i) ∧ f 5 = I64 0 ∧ f 6 = I64 i ∧ (H1 <+: K1)) ?_ (x.ps.length - 0) _ _ ⟨0, rfl, by omega, (by first | rfl | (simp [upd_apply]; done)), (by first | rfl | (simp [upd_apply]; done)), (by first | rfl | (simp [upd_apply]; done)), (by first | rfl | (simp [upd_apply]; done)), (by first | rfl | (simp [upd_apply]; done)), List.prefix_refl _⟩
  rintro m f K1 ⟨i, rfl, hi, f1, f3, f4, f5, f6, pp⟩
  have hb := pre_get pp hb1
  have hvK := hv.pre (p1.trans pp)
  have b0 := cw_in x.ps 0 i
  have b1 := cw_in x.ps 1 i
  by_cases hlt : (i : Int) < x.ps.length
  · have hi' : i < x.ps.length := by omega
    obtain ⟨n, off, hix, hrn, hr1⟩ := hvK.1.at hi'
    have r0 := hrn 0 9 (by omega)
    have r1 := hrn 9 9 (by omega)
    rw [List.drop_zero, Nat.add_zero] at r0
    have s0 : (x.ps.getD i []).take 9 = seg (x.ps.getD i []) 0 := by unfold seg; simp
    have s1 : ((x.ps.getD i []).drop 9).take 9 = seg (x.ps.getD i []) 1 := rfl
    rw [s0] at r0
    rw [s1] at r1
    have w0 := wt_in (seg (x.ps.getD i []) 0) 9
    have w1 := wt_in (seg (x.ps.getD i []) 1) 9
    have e0 : cw x.ps 0 (i + 1) = cw x.ps 0 i + (wt (seg (x.ps.getD i []) 0) 9 - 1) := rfl
    have e1 : cw x.ps 1 (i + 1) = cw x.ps 1 i + (wt (seg (x.ps.getD i []) 1) 9 - 1) := rfl
    try simp (maxSteps := 3000000) (disch := first | omega | (simp only [len_new, len_put, len_kill]; omega)) only [↓xpre, xpost, ↓reduceIte, Nat.reduceEqDiff, Nat.reduceAdd, Nat.reduceSub, Nat.reduceLeDiff, Nat.zero_add, Nat.sub_zero, f1, f3, f4, f5, f6, rd1_of hb, hvK.1.len, decide_eq_true hlt, hix, Nat.add_zero, r0]
    refine s_l06Weight ((hvK.by hi').seg (by omega)).1 fun H2 p2 => ?_
    have hb2 := pre_get p2 hb
    have hv2 := hvK.pre p2
    obtain ⟨n', off', hix', hrn', hr1'⟩ := hv2.1.at hi'
    have r1' := hrn' 9 9 (by omega)
    rw [s1] at r1'
    try simp (maxSteps := 3000000) (disch := first | omega | (simp only [len_new, len_put, len_kill]; omega)) only [↓xpre, xpost, ↓reduceIte, Nat.reduceEqDiff, Nat.reduceAdd, Nat.reduceSub, Nat.reduceLeDiff, Nat.zero_add, Nat.sub_zero, f1, f3, f4, f5, f6, rd1_of hb2, hix', r1', wrap64_in]
    refine s_l06Weight ((hvK.by hi').seg (by omega)).1 fun H3 p3 => ?_
    try simp (maxSteps := 3000000) (disch := first | omega | (simp only [len_new, len_put, len_kill]; omega)) only [↓xpre, xpost, ↓reduceIte, Nat.reduceEqDiff, Nat.reduceAdd, Nat.reduceSub, Nat.reduceLeDiff, Nat.zero_add, Nat.sub_zero, f1, f3, f4, f5, f6, wrap64_in]
    refine InvQ_go (x.ps.length - (i + 1)) (by omega) ⟨(i + 1), rfl, by omega, (by first | rfl | exact f1 | (simp only [upd_apply]; rfl) | (show I64 _ = _; congr 1; omega)), (by show I64 _ = I64 _; rw [e0]; congr 1; omega), (by show I64 _ = I64 _; rw [e1]; congr 1; omega), (by first | rfl | exact f5 | (simp only [upd_apply]; rfl) | (show I64 _ = _; congr 1; omega)), (by first | rfl | exact f6 | (simp only [upd_apply]; rfl) | (show I64 _ = _; congr 1; omega)), (pp.trans (p2.trans p3))⟩
  · have ei : i = x.ps.length := by omega
    try simp (maxSteps := 3000000) (disch := first | omega | (simp only [len_new, len_put, len_kill]; omega)) only [↓xpre, xpost, ↓reduceIte, Nat.reduceEqDiff, Nat.reduceAdd, Nat.reduceSub, Nat.reduceLeDiff, Nat.zero_add, Nat.sub_zero, f1, f3, f4, f5, f6, rd1_of hb, hvK.1.len, decide_eq_false hlt]
    subst ei
    refine WC_loop_inv (fun m f K2 => ∃ (c : Nat), m = 9 - c ∧ c ≤ 9 ∧ f 1 = .pointer (some ⟨h.length, 0, none⟩) ∧ f 3 = I64 (cw x.ps 0 x.ps.length) ∧ f 4 = I64 (cw x.ps 1 x.ps.length) ∧ f 5 = I64 (cq x.ps x.ps.length c) ∧ f 7 = I64 c ∧ (K2 = K1)) ?_ (9 - 0) _ _ ⟨0, rfl, by omega, (by first | rfl | exact f1 | (simp [upd_apply]; done)), (by first | rfl | exact f3 | (simp [upd_apply]; done)), (by first | rfl | exact f4 | (simp [upd_apply]; done)), (by first | rfl | exact f5 | (simp [upd_apply]; done)), (by first | rfl | (simp [upd_apply]; done)), rfl⟩
    rintro m f K2 ⟨c, rfl, hc, f1, f3, f4, f5, f7, hK⟩
    subst hK
    have b3 := cq_in x.ps x.ps.length c
    have b3' : (x.ps.length : Int) * c ≤ 30 * 9 := (mul_in (A := 30) (B := 9) (by omega) (by omega)).2
    by_cases hlc : (c : Int) < 9
    · try simp (maxSteps := 3000000) (disch := first | omega | (simp only [len_new, len_put, len_kill]; omega)) only [↓xpre, xpost, ↓reduceIte, Nat.reduceEqDiff, Nat.reduceAdd, Nat.reduceSub, Nat.reduceLeDiff, Nat.zero_add, Nat.sub_zero, f1, f3, f4, f5, f7, decide_eq_true hlc]
      refine WC_loop_inv (fun m f K3 => ∃ (j : Nat), m = x.ps.length - j ∧ j ≤ x.ps.length ∧ f 1 = .pointer (some ⟨h.length, 0, none⟩) ∧ f 3 = I64 (cw x.ps 0 x.ps.length) ∧ f 4 = I64 (cw x.ps 1 x.ps.length) ∧ f 5 = I64 (cq x.ps x.ps.length c) ∧ f 7 = I64 c ∧ f 8 = I64 (cc x.ps c j) ∧ f 9 = I64 j ∧ (K3 = K2)) ?_ (x.ps.length - 0) _ _ ⟨0, rfl, by omega, (by first | rfl | exact f1 | (simp [upd_apply]; done)), (by first | rfl | exact f3 | (simp [upd_apply]; done)), (by first | rfl | exact f4 | (simp [upd_apply]; done)), (by first | rfl | exact f5 | (simp [upd_apply]; done)), (by first | rfl | exact f7 | (simp [upd_apply]; done)), (by first | rfl | (simp [upd_apply]; done)), (by first | rfl | (simp [upd_apply]; done)), rfl⟩
      rintro m f K3 ⟨j, rfl, hj, f1, f3, f4, f5, f7, f8, f9, hK⟩
      subst hK
      have b4 := cc_in x.ps c j
      by_cases hlj : (j : Int) < x.ps.length
      · have hj' : j < x.ps.length := by omega
        obtain ⟨n, off, hix, hrn, hr1⟩ := hvK.1.at hj'
        have r1 := hr1 (18 + c) (by omega)
        have e1 : cc x.ps c (j + 1) = cc x.ps c j + nz ((x.ps.getD j []).getD (18 + c) 0) := rfl
        by_cases cz : (x.ps.getD j []).getD (18 + c) 0 = 0
        · try simp (maxSteps := 3000000) (disch := first | omega | (simp only [len_new, len_put, len_kill]; omega)) only [↓xpre, xpost, ↓reduceIte, Nat.reduceEqDiff, Nat.reduceAdd, Nat.reduceSub, Nat.reduceLeDiff, Nat.zero_add, Nat.sub_zero, f1, f3, f4, f5, f7, f8, f9, rd1_of hb, hvK.1.len, decide_eq_true hlj, hix, ↓WX_ixa, ixaV_ptr, Int.toNat_natCast, Nat.mul_one, Nat.add_assoc, r1, decide_eq_false (show ¬ ((x.ps.getD j []).getD (18 + c) 0 ≠ 0) from fun e => e cz), wrap64_in]
          refine InvQ_go (x.ps.length - (j + 1)) (by omega) ⟨(j + 1), rfl, by omega, (by first | rfl | exact f1 | (simp only [upd_apply]; rfl) | (show I64 _ = _; congr 1; omega)), (by first | rfl | exact f3 | (simp only [upd_apply]; rfl) | (show I64 _ = _; congr 1; omega)), (by first | rfl | exact f4 | (simp only [upd_apply]; rfl) | (show I64 _ = _; congr 1; omega)), (by first | rfl | exact f5 | (simp only [upd_apply]; rfl) | (show I64 _ = _; congr 1; omega)), (by first | rfl | exact f7 | (simp only [upd_apply]; rfl) | (show I64 _ = _; congr 1; omega)), (by show f 8 = _; rw [e1, f8]; unfold nz; rw [if_pos cz, Int.add_zero]), (by first | rfl | exact f9 | (simp only [upd_apply]; rfl) | (show I64 _ = _; congr 1; omega)), rfl⟩
        · try simp (maxSteps := 3000000) (disch := first | omega | (simp only [len_new, len_put, len_kill]; omega)) only [↓xpre, xpost, ↓reduceIte, Nat.reduceEqDiff, Nat.reduceAdd, Nat.reduceSub, Nat.reduceLeDiff, Nat.zero_add, Nat.sub_zero, f1, f3, f4, f5, f7, f8, f9, rd1_of hb, hvK.1.len, decide_eq_true hlj, hix, ↓WX_ixa, ixaV_ptr, Int.toNat_natCast, Nat.mul_one, Nat.add_assoc, r1, decide_eq_true (show (x.ps.getD j []).getD (18 + c) 0 ≠ 0 from cz), wrap64_in]
          refine InvQ_go (x.ps.length - (j + 1)) (by omega) ⟨(j + 1), rfl, by omega, (by first | rfl | exact f1 | (simp only [upd_apply]; rfl) | (show I64 _ = _; congr 1; omega)), (by first | rfl | exact f3 | (simp only [upd_apply]; rfl) | (show I64 _ = _; congr 1; omega)), (by first | rfl | exact f4 | (simp only [upd_apply]; rfl) | (show I64 _ = _; congr 1; omega)), (by first | rfl | exact f5 | (simp only [upd_apply]; rfl) | (show I64 _ = _; congr 1; omega)), (by first | rfl | exact f7 | (simp only [upd_apply]; rfl) | (show I64 _ = _; congr 1; omega)), (by show I64 _ = I64 _; rw [e1]; unfold nz; rw [if_neg cz]), (by first | rfl | exact f9 | (simp only [upd_apply]; rfl) | (show I64 _ = _; congr 1; omega)), rfl⟩
      · have ej : j = x.ps.length := by omega
        subst ej
        have e1 : cq x.ps x.ps.length (c + 1) = cq x.ps x.ps.length c + mx (cc x.ps c x.ps.length - 1) := rfl
        have b5 : 0 ≤ mx (cc x.ps c x.ps.length - 1) ∧ mx (cc x.ps c x.ps.length - 1) ≤ 30 := by unfold mx; split <;> omega
        have m1 : mm1 true (I64 (cc x.ps c x.ps.length - 1)) (I64 0) = some (I64 (mx (cc x.ps c x.ps.length - 1))) := rfl
        try simp (maxSteps := 3000000) (disch := first | omega | (simp only [len_new, len_put, len_kill]; omega)) only [↓xpre, xpost, ↓reduceIte, Nat.reduceEqDiff, Nat.reduceAdd, Nat.reduceSub, Nat.reduceLeDiff, Nat.zero_add, Nat.sub_zero, f1, f3, f4, f5, f7, f8, f9, rd1_of hb, hvK.1.len, decide_eq_false hlj, wrap64_in, ↓WX_mm1, m1]
        refine InvQ_go (9 - (c + 1)) (by omega) ⟨(c + 1), rfl, by omega, (by first | rfl | exact f1 | (simp only [upd_apply]; rfl) | (show I64 _ = _; congr 1; omega)), (by first | rfl | exact f3 | (simp only [upd_apply]; rfl) | (show I64 _ = _; congr 1; omega)), (by first | rfl | exact f4 | (simp only [upd_apply]; rfl) | (show I64 _ = _; congr 1; omega)), (by show I64 _ = I64 _; rw [e1]), (by first | rfl | exact f7 | (simp only [upd_apply]; rfl) | (show I64 _ = _; congr 1; omega)), rfl⟩
    · have e9 : c = 9 := by omega
      subst e9
      try simp (maxSteps := 3000000) (disch := first | omega | (simp only [len_new, len_put, len_kill]; omega)) only [↓xpre, xpost, ↓reduceIte, Nat.reduceEqDiff, Nat.reduceAdd, Nat.reduceSub, Nat.reduceLeDiff, Nat.zero_add, Nat.sub_zero, f1, f3, f4, f5, f7, rd1_of hb, hvK.1.len, decide_eq_false hlc, fillL, zrep]
      exact hQ _ _ (p1.trans (pp.trans (pre_new (List.prefix_refl _)))) (.inr ⟨K2.length, _, true, pre_len (p1.trans pp), rfl, get_new_same⟩)
end Go.Proofs.Ytphklalbkpohfaa.X

/- The program's cost; CostOf, both sides. -/
set_option linter.unusedVariables false
set_option linter.unusedSimpArgs false
set_option maxRecDepth 20000
set_option maxHeartbeats 4000000
namespace Go.Proofs.Ytphklalbkpohfaa.X
open Go Go.RowKit

/-- The places' counts: those below j with one product more. -/
def plN (L : List (List Int)) (i j : Nat) : List Int := gen 9 fun c => if c < j then cc L c (i + 1) else cc L c i
theorem plN_len {L : List (List Int)} {i j : Nat} : (plN L i j).length = 9 := gen_len
theorem plN_get {L : List (List Int)} {i j : Nat} (hj : j < 9) : (plN L i j).getD j 0 = cc L j i := by
  unfold plN
  rw [gen_get hj, if_neg (by omega)]
theorem plN0_get {L : List (List Int)} {i j : Nat} (hj : j < 9) : (plN L i 0).getD j 0 = cc L j i := by
  unfold plN
  rw [gen_get hj, if_neg (by omega)]
theorem plN_set {L : List (List Int)} {i j : Nat} (hj : j < 9) : (plN L i j).set j (cc L j (i + 1)) = plN L i (j + 1) := by
  refine gen_ext (by rw [List.length_set, plN_len]) fun c hc => ?_
  rw [set_getD (by rw [plN_len]; exact hj)]
  by_cases h : c = j
  · subst h
    rw [if_pos rfl, if_pos (by omega)]
  · rw [if_neg h]
    unfold plN
    rw [gen_get hc]
    by_cases h2 : c < j
    · rw [if_pos h2, if_pos (by omega)]
    · rw [if_neg h2, if_neg (by omega)]
theorem plN_same {L : List (List Int)} {i j : Nat} (hj : j < 9) (h : cc L j (i + 1) = cc L j i) : plN L i j = plN L i (j + 1) := by
  rw [← plN_set hj, h]
  refine (gen_ext (by rw [List.length_set, plN_len]) fun c hc => ?_).symm
  rw [set_getD (by rw [plN_len]; exact hj)]
  split
  · rename_i e
    subst e
    rw [if_neg (by omega)]
  · unfold plN
    rw [gen_get hc]
theorem plN_next {L : List (List Int)} {i : Nat} : plN L i 9 = plN L (i + 1) 0 := gen_congr fun c hc => by rw [if_pos hc, if_neg (by omega)]
theorem plN_zero {L : List (List Int)} : plN L 0 0 = [0, 0, 0, 0, 0, 0, 0, 0, 0] := rfl
theorem i_costOf {v : Value} {x : Sch} {h : AH} {Q : Value → AH → Prop} (hv : Prods h v x.ps) (hl : x.ps.length ≤ 30)
    (hQ : ∀ h', h <+: h' → Q (aggV .i64 (costL x)) h') : WF S 84 [schV x v] h Q := by
  refine WF_fn (fn := c84) rfl rfl ?_
  unfold c84
  have z9 : ∀ (k : IntKind), ([.int .i64 0, .int .i64 0, .int .i64 0, .int .i64 0, .int .i64 0, .int .i64 0, .int .i64 0, .int .i64 0, .int .i64 0] : List Value) = cel .i64 (plN x.ps 0 0) := fun _ => rfl
  try simp (maxSteps := 3000000) (disch := first | omega | (simp only [len_new, len_put, len_kill]; omega)) only [↓xpre, xpost, ↓reduceIte, Nat.reduceEqDiff, Nat.reduceAdd, Nat.reduceSub, Nat.reduceLeDiff, Nat.zero_add, Nat.sub_zero, schV, hv.one]
  generalize hH1 : AH.new h _ = H1
  obtain ⟨hb1, p1, n1⟩ := new_facts hH1
  generalize hH2 : AH.new H1 _ = H2
  obtain ⟨hb2, p2, n2⟩ := new_facts hH2
  have hb1 := pre_get p2 hb1
  try simp (maxSteps := 3000000) (disch := first | omega | (simp only [len_new, len_put, len_kill]; omega)) only [↓xpre, xpost, ↓reduceIte, Nat.reduceEqDiff, Nat.reduceAdd, Nat.reduceSub, Nat.reduceLeDiff, Nat.zero_add, Nat.sub_zero, rd1_of hb1, (hv.pre (p1.trans p2)).1.len, fillL]
  have eL : ∀ e : TypeId, (H2.new ⟨[I64 0, I64 0, I64 0, I64 0], e, false, true⟩).length = (H2.new ⟨[I64 x.ps.length, I64 0, I64 0, I64 0], e, false, true⟩).length := fun e => by rw [len_new, len_new]
  rw [eL]
  rw [z9 .i64]
  generalize hH3 : AH.new H2 _ = H3
  obtain ⟨hb3, p3, n3⟩ := new_facts hH3
  have w9 : ∀ e : TypeId, (H3.new ⟨cel .i64 (plN x.ps 0 0), e, false, true⟩).wr H3.length 0 (cel .i64 (plN x.ps 0 0)) = some (H3.new ⟨cel .i64 (plN x.ps 0 0), e, false, true⟩) := fun e => wr_all rfl
  have hb1 := pre_get p3 hb1
  try simp (maxSteps := 3000000) (disch := first | omega | (simp only [len_new, len_put, len_kill]; omega)) only [↓xpre, xpost, ↓reduceIte, Nat.reduceEqDiff, Nat.reduceAdd, Nat.reduceSub, Nat.reduceLeDiff, Nat.zero_add, Nat.sub_zero, ↓w9, rd1_of hb1, (hv.pre (p1.trans p2)).1.len]
  generalize hH4 : AH.new H3 _ = H4
  obtain ⟨hb4, p4, n4⟩ := new_facts hH4
  have lt2 : H1.length < H2.length := by omega
  refine WC_loop_inv (fun m f K1 => ∃ (i : Nat), m = x.ps.length - i ∧ i ≤ x.ps.length ∧ f 1 = .pointer (some ⟨h.length, 0, none⟩) ∧ f 2 = .pointer (some ⟨H1.length, 0, none⟩) ∧ f 3 = .pointer (some ⟨H2.length, 0, none⟩) ∧ f 4 = .pointer (some ⟨H3.length, 0, none⟩) ∧ f 17 = v ∧ f 18 = I64 x.ps.length ∧ f 19 = I64 i ∧ (H2 <+: K1) ∧ (OwnB K1 H2.length [I64 x.ps.length, I64 (cw x.ps 0 i), I64 (cw x.ps 1 i), I64 0] true) ∧ (OwnB K1 H3.length (cel .i64 (plN x.ps i 0)) true)) ?_ (x.ps.length - 0) _ _ ⟨0, rfl, by omega, (by first | rfl | (simp [upd_apply]; done)), (by first | rfl | (simp [upd_apply]; done)), (by first | rfl | (simp [upd_apply]; done)), (by first | rfl | (simp [upd_apply]; done)), (by first | rfl | (simp [upd_apply]; done)), (by first | rfl | (simp [upd_apply]; done)), (by first | rfl | (simp [upd_apply]; done)), p3.trans p4, ⟨_, pre_get p4 hb3⟩, ⟨_, hb4⟩⟩
  rintro m f K1 ⟨i, rfl, hi, f1, f2, f3, f4, f17, f18, f19, pp, hb3, hb4⟩
  obtain ⟨e3, hb3⟩ := hb3
  obtain ⟨e4, hb4⟩ := hb4
  have hvK := hv.pre ((p1.trans p2).trans pp)
  have b0 := cw_in x.ps 0 i
  have b1 := cw_in x.ps 1 i
  have lt4 := get_lt hb4
  by_cases hlt : (i : Int) < x.ps.length
  · have hi' : i < x.ps.length := by omega
    obtain ⟨n, off, hix, hrn, hr1⟩ := hvK.1.at hi'
    have r27 := hrn 0 27 (by omega)
    have wi := hvK.1.wid hi'
    rw [List.drop_zero, List.take_of_length_le (by omega), Nat.add_zero] at r27
    generalize hq : x.ps.getD i [] = q at *
    have w1 : ∀ (h1 : AH) (e : TypeId), (h1.new ⟨[.int .u8 0, .int .u8 0, .int .u8 0, .int .u8 0, .int .u8 0, .int .u8 0, .int .u8 0, .int .u8 0, .int .u8 0, .int .u8 0, .int .u8 0, .int .u8 0, .int .u8 0, .int .u8 0, .int .u8 0, .int .u8 0, .int .u8 0, .int .u8 0, .int .u8 0, .int .u8 0, .int .u8 0, .int .u8 0, .int .u8 0, .int .u8 0, .int .u8 0, .int .u8 0, .int .u8 0], e, false, true⟩).wr h1.length 0 (cel .u8 q) = some (h1.new ⟨cel .u8 q, e, false, true⟩) := fun h1 e => wr_all (by rw [cel_len, wi]; rfl)
    have s0 : q.take 9 = seg q 0 := by unfold seg; simp
    have s1 : (q.drop 9).take 9 = seg q 1 := rfl
    have s2 : (q.drop 18).take 9 = seg q 2 := rfl
    have byq : By 27 q := by rw [← hq]; exact hvK.by hi'
    have u0 := wt_in (seg q 0) 9
    have u1 := wt_in (seg q 1) 9
    have e0 : cw x.ps 0 (i + 1) = cw x.ps 0 i + (wt (seg q 0) 9 - 1) := by rw [← hq]; rfl
    have e1 : cw x.ps 1 (i + 1) = cw x.ps 1 i + (wt (seg q 1) 9 - 1) := by rw [← hq]; rfl
    have ix : ∀ (n : Nat) (j : Nat), j < 4 → ixaV 4 1 (.pointer (some ⟨n, 0, none⟩)) (I64 j) = some (.pointer (some ⟨n, j, none⟩)) := fun n j hj => by
      rw [ixaV_ptr (by omega)]
      simp
    have ix1 : ∀ n : Nat, ixaV 4 1 (.pointer (some ⟨n, 0, none⟩)) (I64 1) = some (.pointer (some ⟨n, 1, none⟩)) := fun n => ix n 1 (by omega)
    have ix2 : ∀ n : Nat, ixaV 4 1 (.pointer (some ⟨n, 0, none⟩)) (I64 2) = some (.pointer (some ⟨n, 2, none⟩)) := fun n => ix n 2 (by omega)
    have lt3 := get_lt hb3
    try simp (maxSteps := 3000000) (disch := first | omega | (simp only [len_new, len_put, len_kill]; omega)) only [↓xpre, xpost, ↓reduceIte, Nat.reduceEqDiff, Nat.reduceAdd, Nat.reduceSub, Nat.reduceLeDiff, Nat.zero_add, Nat.sub_zero, f1, f2, f3, f4, f17, f18, f19, decide_eq_true hlt, hix, r27, cel_all, cel_len, wi, ↓w1, ↓WX_ixa, ix1, rd1_of hb3, cel_take, cel_drop, List.drop_zero, s0]
    generalize hH5 : AH.new K1 _ = H5
    obtain ⟨hb5, p5, n5⟩ := new_facts hH5
    have hb3 := pre_get p5 hb3
    have hb4 := pre_get p5 hb4
    refine i_weight (byq.seg (by omega)).1 fun H6 p6 => ?_
    have hb3 := pre_get p6 hb3
    have hb4 := pre_get p6 hb4
    have hb5 := pre_get p6 hb5
    have lt3 := get_lt hb3
    have lt5 := get_lt hb5
    try simp (maxSteps := 3000000) (disch := first | omega | (simp only [len_new, len_put, len_kill]; omega)) only [↓xpre, xpost, ↓reduceIte, Nat.reduceEqDiff, Nat.reduceAdd, Nat.reduceSub, Nat.reduceLeDiff, Nat.zero_add, Nat.sub_zero, f1, f2, f3, f4, f17, f18, f19, wrap64_in, ↓WX_ixa, ix1, ix2, wr_of hb3, rdn_of hb5, cel_len, wi, cel_take, cel_drop, s1]
    refine ⟨p6, ?_⟩
    generalize hH7 : AH.put H6 _ _ = H7
    have k3 : OwnB H7 H2.length [I64 x.ps.length, I64 (cw x.ps 0 i + (wt (seg q 0) 9 - 1)), I64 (cw x.ps 1 i), I64 0] true := by rw [← hH7]; exact ⟨_, get_put_same lt3⟩
    have k4 : OwnB H7 H3.length (cel .i64 (plN x.ps i 0)) true := by rw [← hH7]; exact OwnB.put_ne ⟨_, hb4⟩ (by omega)
    have k5 : OwnB H7 K1.length (cel .u8 q) true := by rw [← hH7]; exact OwnB.put_ne ⟨_, hb5⟩ (by omega)
    have p7 : H2 <+: H7 := by rw [← hH7]; exact pre_put (pp.trans (p5.trans p6)) (Nat.le_refl _)
    clear hb3 hb4 hb5 hH7
    refine i_weight (byq.seg (by omega)).1 fun H8 p8 => ?_
    obtain ⟨e7, k3⟩ := k3.pre p8
    obtain ⟨e8, k4⟩ := k4.pre p8
    obtain ⟨e9, k5⟩ := k5.pre p8
    have m3 := get_lt k3
    have m5 := get_lt k5
    try simp (maxSteps := 3000000) (disch := first | omega | (simp only [len_new, len_put, len_kill]; omega)) only [↓xpre, xpost, ↓reduceIte, Nat.reduceEqDiff, Nat.reduceAdd, Nat.reduceSub, Nat.reduceLeDiff, Nat.zero_add, Nat.sub_zero, f1, f2, f3, f4, f17, f18, f19, wrap64_in, wr_of k3, rdn_of k5, cel_len, wi, cel_take, cel_drop, s2]
    refine ⟨p8, ?_⟩
    generalize hH9 : AH.put H8 _ _ = H9
    have j3 : OwnB H9 H2.length [I64 x.ps.length, I64 (cw x.ps 0 (i + 1)), I64 (cw x.ps 1 (i + 1)), I64 0] true := by rw [← hH9, e0, e1]; exact ⟨_, get_put_same m3⟩
    have j4 : OwnB H9 H3.length (cel .i64 (plN x.ps i 0)) true := by rw [← hH9]; exact OwnB.put_ne ⟨_, k4⟩ (by omega)
    have p9 : H2 <+: H9 := by rw [← hH9]; exact pre_put (p7.trans p8) (Nat.le_refl _)
    have sl := (byq.seg (i := 2) (by omega)).1
    refine WC_loop_inv (fun m f K2 => ∃ (j : Nat), m = 9 - j ∧ j ≤ 9 ∧ f 1 = .pointer (some ⟨h.length, 0, none⟩) ∧ f 2 = .pointer (some ⟨H1.length, 0, none⟩) ∧ f 3 = .pointer (some ⟨H2.length, 0, none⟩) ∧ f 4 = .pointer (some ⟨H3.length, 0, none⟩) ∧ f 17 = v ∧ f 18 = I64 x.ps.length ∧ f 19 = I64 i ∧ f 40 = .agg (cel .u8 (seg q 2)).toArray ∧ f 41 = I64 j ∧ (H2 <+: K2) ∧ (OwnB K2 H2.length [I64 x.ps.length, I64 (cw x.ps 0 (i + 1)), I64 (cw x.ps 1 (i + 1)), I64 0] true) ∧ (OwnB K2 H3.length (cel .i64 (plN x.ps i j)) true)) ?_ (9 - 0) _ _ ⟨0, rfl, by omega, (by first | rfl | exact f1 | (simp [upd_apply]; done)), (by first | rfl | exact f2 | (simp [upd_apply]; done)), (by first | rfl | exact f3 | (simp [upd_apply]; done)), (by first | rfl | exact f4 | (simp [upd_apply]; done)), (by first | rfl | exact f17 | (simp [upd_apply]; done)), (by first | rfl | exact f18 | (simp [upd_apply]; done)), (by first | rfl | exact f19 | (simp [upd_apply]; done)), (by first | rfl | (simp [upd_apply]; done)), (by first | rfl | (simp [upd_apply]; done)), p9, j3, j4⟩
    rintro m f K2 ⟨j, rfl, hj, f1, f2, f3, f4, f17, f18, f19, f40, f41, pj, j3, j4⟩
    by_cases hlj : (j : Int) < 9
    · have hj' : j < 9 := by omega
      have g1 := idx1V_cel (k := .u8) (q := seg q 2) (n := 9) (j := j) (kk := .i64) hj' (by omega)
      have sg : (seg q 2).getD j 0 = q.getD (18 + j) 0 := by unfold seg; rw [cut_get hj']
      have ec : cc x.ps j (i + 1) = cc x.ps j i + nz (q.getD (18 + j) 0) := by rw [← hq]; rfl
      have bc := cc_in x.ps j i
      rw [sg] at g1
      by_cases cz : q.getD (18 + j) 0 = 0
      · try simp (maxSteps := 3000000) (disch := first | omega | (simp only [len_new, len_put, len_kill]; omega)) only [↓xpre, xpost, ↓reduceIte, Nat.reduceEqDiff, Nat.reduceAdd, Nat.reduceSub, Nat.reduceLeDiff, Nat.zero_add, Nat.sub_zero, f1, f2, f3, f4, f17, f18, f19, f40, f41, decide_eq_true hlj, ↓WX_idx1, g1, decide_eq_false (show ¬ (q.getD (18 + j) 0 ≠ 0) from fun e => e cz), wrap64_in]
        refine InvQ_go (9 - (j + 1)) (by omega) ⟨(j + 1), rfl, by omega, (by first | rfl | exact f1 | (simp only [upd_apply]; rfl) | (show I64 _ = _; congr 1; omega)), (by first | rfl | exact f2 | (simp only [upd_apply]; rfl) | (show I64 _ = _; congr 1; omega)), (by first | rfl | exact f3 | (simp only [upd_apply]; rfl) | (show I64 _ = _; congr 1; omega)), (by first | rfl | exact f4 | (simp only [upd_apply]; rfl) | (show I64 _ = _; congr 1; omega)), (by first | rfl | exact f17 | (simp only [upd_apply]; rfl) | (show I64 _ = _; congr 1; omega)), (by first | rfl | exact f18 | (simp only [upd_apply]; rfl) | (show I64 _ = _; congr 1; omega)), (by first | rfl | exact f19 | (simp only [upd_apply]; rfl) | (show I64 _ = _; congr 1; omega)), (by first | rfl | exact f40 | (simp only [upd_apply]; rfl) | (show I64 _ = _; congr 1; omega)), (by first | rfl | exact f41 | (simp only [upd_apply]; rfl) | (show I64 _ = _; congr 1; omega)), pj, j3, (by rw [← plN_same hj' (by rw [ec]; unfold nz; rw [if_pos cz, Int.add_zero])]; exact j4)⟩
      · obtain ⟨ej, j4⟩ := j4
        have g4 := cel_get (k := .i64) (q := plN x.ps i j) (j := j) (by rw [plN_len]; exact hj')
        rw [plN_get hj'] at g4
        have ec' : cc x.ps j (i + 1) = cc x.ps j i + 1 := by rw [ec]; unfold nz; rw [if_neg cz]
        have s4 : splice (cel .i64 (plN x.ps i j)) j [I64 (cc x.ps j i + 1)] = cel .i64 (plN x.ps i (j + 1)) := by
          rw [cel_set (by rw [plN_len]; exact hj'), ← ec', plN_set hj']
        have lt9 := get_lt j4
        try simp (maxSteps := 3000000) (disch := first | omega | (simp only [len_new, len_put, len_kill]; omega)) only [↓xpre, xpost, ↓reduceIte, Nat.reduceEqDiff, Nat.reduceAdd, Nat.reduceSub, Nat.reduceLeDiff, Nat.zero_add, Nat.sub_zero, f1, f2, f3, f4, f17, f18, f19, f40, f41, decide_eq_true hlj, ↓WX_idx1, g1, decide_eq_true (show q.getD (18 + j) 0 ≠ 0 from cz), ↓WX_ixa, ixaV_ptr, Int.toNat_natCast, Nat.mul_one, rd1_of j4, g4, wr_of j4, wrap64_in, s4, cel_len, plN_len]
        refine ⟨by omega, ?_⟩
        refine InvQ_go (9 - (j + 1)) (by omega) ⟨(j + 1), rfl, by omega, (by first | rfl | exact f1 | (simp only [upd_apply]; rfl) | (show I64 _ = _; congr 1; omega)), (by first | rfl | exact f2 | (simp only [upd_apply]; rfl) | (show I64 _ = _; congr 1; omega)), (by first | rfl | exact f3 | (simp only [upd_apply]; rfl) | (show I64 _ = _; congr 1; omega)), (by first | rfl | exact f4 | (simp only [upd_apply]; rfl) | (show I64 _ = _; congr 1; omega)), (by first | rfl | exact f17 | (simp only [upd_apply]; rfl) | (show I64 _ = _; congr 1; omega)), (by first | rfl | exact f18 | (simp only [upd_apply]; rfl) | (show I64 _ = _; congr 1; omega)), (by first | rfl | exact f19 | (simp only [upd_apply]; rfl) | (show I64 _ = _; congr 1; omega)), (by first | rfl | exact f40 | (simp only [upd_apply]; rfl) | (show I64 _ = _; congr 1; omega)), (by first | rfl | exact f41 | (simp only [upd_apply]; rfl) | (show I64 _ = _; congr 1; omega)), (pre_put pj (by omega)), (j3.put_ne (by omega)), ⟨_, get_put_same lt9⟩⟩
    · have ej : j = 9 := by omega
      subst ej
      try simp (maxSteps := 3000000) (disch := first | omega | (simp only [len_new, len_put, len_kill]; omega)) only [↓xpre, xpost, ↓reduceIte, Nat.reduceEqDiff, Nat.reduceAdd, Nat.reduceSub, Nat.reduceLeDiff, Nat.zero_add, Nat.sub_zero, f1, f2, f3, f4, f17, f18, f19, f40, f41, decide_eq_false hlj, wrap64_in]
      refine InvQ_go (x.ps.length - (i + 1)) (by omega) ⟨(i + 1), rfl, by omega, (by first | rfl | exact f1 | (simp only [upd_apply]; rfl) | (show I64 _ = _; congr 1; omega)), (by first | rfl | exact f2 | (simp only [upd_apply]; rfl) | (show I64 _ = _; congr 1; omega)), (by first | rfl | exact f3 | (simp only [upd_apply]; rfl) | (show I64 _ = _; congr 1; omega)), (by first | rfl | exact f4 | (simp only [upd_apply]; rfl) | (show I64 _ = _; congr 1; omega)), (by first | rfl | exact f17 | (simp only [upd_apply]; rfl) | (show I64 _ = _; congr 1; omega)), (by first | rfl | exact f18 | (simp only [upd_apply]; rfl) | (show I64 _ = _; congr 1; omega)), (by first | rfl | exact f19 | (simp only [upd_apply]; rfl) | (show I64 _ = _; congr 1; omega)), pj, j3, (by rw [← plN_next]; exact j4)⟩
  · have ei : i = x.ps.length := by omega
    subst ei
    have t9 : (plN x.ps x.ps.length 0).take 9 = plN x.ps x.ps.length 0 := List.take_of_length_le (by rw [plN_len]; exact Nat.le_refl _)
    try simp (maxSteps := 3000000) (disch := first | omega | (simp only [len_new, len_put, len_kill]; omega)) only [↓xpre, xpost, ↓reduceIte, Nat.reduceEqDiff, Nat.reduceAdd, Nat.reduceSub, Nat.reduceLeDiff, Nat.zero_add, Nat.sub_zero, f1, f2, f3, f4, f17, f18, f19, decide_eq_false hlt, rdn_of hb4, cel_len, plN_len, cel_take, t9]
    refine WC_loop_inv (fun m f K3 => ∃ (c : Nat), m = 9 - c ∧ c ≤ 9 ∧ f 2 = .pointer (some ⟨H1.length, 0, none⟩) ∧ f 3 = .pointer (some ⟨H2.length, 0, none⟩) ∧ f 54 = .agg (cel .i64 (plN x.ps x.ps.length 0)).toArray ∧ f 55 = I64 c ∧ (H2 <+: K3) ∧ (OwnB K3 H2.length [I64 x.ps.length, I64 (cw x.ps 0 x.ps.length), I64 (cw x.ps 1 x.ps.length), I64 (cq x.ps x.ps.length c)] true)) ?_ (9 - 0) _ _ ⟨0, rfl, by omega, (by first | rfl | exact f2 | (simp [upd_apply]; done)), (by first | rfl | exact f3 | (simp [upd_apply]; done)), (by first | rfl | (simp [upd_apply]; done)), (by first | rfl | (simp [upd_apply]; done)), pp, ⟨_, hb3⟩⟩
    rintro m f K3 ⟨c, rfl, hc, f2, f3, f54, f55, pc, hc3⟩
    obtain ⟨ec3, hc3⟩ := hc3
    have lt3 := get_lt hc3
    have b3 := cq_in x.ps x.ps.length c
    have b3' : (x.ps.length : Int) * c ≤ 30 * 9 := (mul_in (A := 30) (B := 9) (by omega) (by omega)).2
    by_cases hlc : (c : Int) < 9
    · have hc' : c < 9 := by omega
      have g1 := idx1V_cel (k := .i64) (q := plN x.ps x.ps.length 0) (n := 9) (j := c) (kk := .i64) hc' (by rw [plN_len]; exact hc')
      rw [plN0_get hc'] at g1
      have bc := cc_in x.ps c x.ps.length
      have b5 : 0 ≤ mx (cc x.ps c x.ps.length - 1) ∧ mx (cc x.ps c x.ps.length - 1) ≤ 30 := by unfold mx; split <;> omega
      have m1 : mm1 true (I64 (cc x.ps c x.ps.length - 1)) (I64 0) = some (I64 (mx (cc x.ps c x.ps.length - 1))) := rfl
      have ix3 : ∀ n : Nat, ixaV 4 1 (.pointer (some ⟨n, 0, none⟩)) (I64 3) = some (.pointer (some ⟨n, 3, none⟩)) := fun n => rfl
      try simp (maxSteps := 3000000) (disch := first | omega | (simp only [len_new, len_put, len_kill]; omega)) only [↓xpre, xpost, ↓reduceIte, Nat.reduceEqDiff, Nat.reduceAdd, Nat.reduceSub, Nat.reduceLeDiff, Nat.zero_add, Nat.sub_zero, f2, f3, f54, f55, decide_eq_true hlc, ↓WX_idx1, g1, ↓WX_ixa, ix3, rd1_of hc3, wr_of hc3, wrap64_in, ↓WX_mm1, m1]
      refine InvQ_go (9 - (c + 1)) (by omega) ⟨(c + 1), rfl, by omega, (by first | rfl | exact f2 | (simp only [upd_apply]; rfl) | (show I64 _ = _; congr 1; omega)), (by first | rfl | exact f3 | (simp only [upd_apply]; rfl) | (show I64 _ = _; congr 1; omega)), (by first | rfl | exact f54 | (simp only [upd_apply]; rfl) | (show I64 _ = _; congr 1; omega)), (by first | rfl | exact f55 | (simp only [upd_apply]; rfl) | (show I64 _ = _; congr 1; omega)), (pre_put pc (Nat.le_refl _)), ⟨_, get_put_same lt3⟩⟩
    · have e9 : c = 9 := by omega
      subst e9
      have hb2' := pre_get pc hb2
      have lt2' := get_lt hb2'
      try simp (maxSteps := 3000000) (disch := first | omega | (simp only [len_new, len_put, len_kill]; omega)) only [↓xpre, xpost, ↓reduceIte, Nat.reduceEqDiff, Nat.reduceAdd, Nat.reduceSub, Nat.reduceLeDiff, Nat.zero_add, Nat.sub_zero, f2, f3, f54, f55, decide_eq_false hlc, rdn_of hc3, wr_of hb2']
      exact hQ _ (pre_put ((p1.trans p2).trans pc) (show h.length ≤ H1.length by omega))
theorem costL_len {x : Sch} : (costL x).length = 4 := rfl
end Go.Proofs.Ytphklalbkpohfaa.X

/- CostOf, both sides. -/
set_option linter.unusedVariables false
set_option linter.unusedSimpArgs false
set_option maxRecDepth 20000
set_option maxHeartbeats 4000000
namespace Go.Proofs.Ytphklalbkpohfaa.X
open Go Go.RowKit

def slcaV (len sz : Nat) (x : Value) (h : AH) : Option (Value × AH) := xop (.slca len sz (.const x) none none) (fun _ => undef) h
theorem WX_slca {S : XS} {f : Fr} {h : AH} {Q : Value → AH → Prop} {len sz : Nat} {x : Operand} : WX S (.slca len sz x none none) f h Q = OQ (slcaV len sz (ev f x) h) Q := by
  rw [WX_op (fun _ => rfl)]
  rfl
theorem slcaV_of {h : AH} {n len : Nat} {c : List Value} {e : TypeId} (hg : h.get n = some ⟨c, e, false, true⟩) (hl : len = c.length) (h0 : 0 < len) : slcaV len 1 (.pointer (some ⟨n, 0, none⟩)) h = some (.slice (some ⟨n, 0, none⟩) len 1, h) := by
  simp only [slcaV, xop, ev, hg, bound]
  rw [if_pos ⟨trivial, trivial, by omega, by omega, by omega, by omega⟩]
  simp
def coR (x : Sch) : List Int × Int := if isX x = true then (costL x, 0) else ([], 1)
theorem coR_small (x : Sch) : SmallS (coR x).1 := by
  unfold coR SmallS
  split
  · simp [costL_len]
  · simp
theorem s_CostOf {v : Value} {x : Sch} {h : AH} {Q : Value → AH → Prop} (hv : Prods h v x.ps) (hl : SmallX x.ps)
    (hQ : ∀ v' h', h <+: h' → OwnR h h' v' (coR x).1 → Q (.tuple #[v', I64 (coR x).2]) h') : WF S 36 [schV x v] h Q := by
  refine WF_fn (fn := c36) rfl rfl ?_
  unfold c36
  try simp (maxSteps := 3000000) (disch := first | omega | (simp only [len_new, len_put, len_kill]; omega)) only [↓xpre, xpost, ↓reduceIte, Nat.reduceEqDiff, Nat.reduceAdd, Nat.reduceSub, Nat.reduceLeDiff, Nat.zero_add, Nat.sub_zero, schV, hv.one]
  generalize hH1 : AH.new h _ = H1
  obtain ⟨hb1, p1, n1⟩ := new_facts hH1
  try simp (maxSteps := 3000000) (disch := first | omega | (simp only [len_new, len_put, len_kill]; omega)) only [↓xpre, xpost, ↓reduceIte, Nat.reduceEqDiff, Nat.reduceAdd, Nat.reduceSub, Nat.reduceLeDiff, Nat.zero_add, Nat.sub_zero, rdn_of hb1]
  refine s_l01Is (hv.pre p1) hl fun H2 p2 => ?_
  have hb1 := pre_get p2 hb1
  unfold coR at hQ
  cases c0 : isX x with
  | false =>
    rw [c0, if_neg (by decide)] at hQ
    try simp (maxSteps := 3000000) (disch := first | omega | (simp only [len_new, len_put, len_kill]; omega)) only [↓xpre, xpost, ↓reduceIte, Nat.reduceEqDiff, Nat.reduceAdd, Nat.reduceSub, Nat.reduceLeDiff, Nat.zero_add, Nat.sub_zero]
    exact hQ _ _ (p1.trans p2) (.inl ⟨rfl, rfl⟩)
  | true =>
    rw [c0, if_pos rfl] at hQ
    try simp (maxSteps := 3000000) (disch := first | omega | (simp only [len_new, len_put, len_kill]; omega)) only [↓xpre, xpost, ↓reduceIte, Nat.reduceEqDiff, Nat.reduceAdd, Nat.reduceSub, Nat.reduceLeDiff, Nat.zero_add, Nat.sub_zero, rdn_of hb1]
    refine s_l06Cost (hv.pre (p1.trans p2)) (isX_sz c0).2 fun v3 H3 p3 o3 => ?_
    try simp (maxSteps := 3000000) (disch := first | omega | (simp only [len_new, len_put, len_kill]; omega)) only [↓xpre, xpost, ↓reduceIte, Nat.reduceEqDiff, Nat.reduceAdd, Nat.reduceSub, Nat.reduceLeDiff, Nat.zero_add, Nat.sub_zero]
    exact hQ _ _ ((p1.trans p2).trans p3) (o3.lo (pre_len (p1.trans p2)))
theorem i_CostOf {v : Value} {x : Sch} {h : AH} {Q : Value → AH → Prop} (hv : Prods h v x.ps) (hl : SmallX x.ps)
    (hQ : ∀ v' h', h <+: h' → OwnR h h' v' (coR x).1 → Q (.tuple #[v', I64 (coR x).2]) h') : WF S 37 [schV x v] h Q := by
  refine WF_fn (fn := c37) rfl rfl ?_
  unfold c37
  try simp (maxSteps := 3000000) (disch := first | omega | (simp only [len_new, len_put, len_kill]; omega)) only [↓xpre, xpost, ↓reduceIte, Nat.reduceEqDiff, Nat.reduceAdd, Nat.reduceSub, Nat.reduceLeDiff, Nat.zero_add, Nat.sub_zero, schV, hv.one]
  generalize hH1 : AH.new h _ = H1
  obtain ⟨hb1, p1, n1⟩ := new_facts hH1
  try simp (maxSteps := 3000000) (disch := first | omega | (simp only [len_new, len_put, len_kill]; omega)) only [↓xpre, xpost, ↓reduceIte, Nat.reduceEqDiff, Nat.reduceAdd, Nat.reduceSub, Nat.reduceLeDiff, Nat.zero_add, Nat.sub_zero, rdn_of hb1]
  refine i_IsScheme (hv.pre p1) hl fun H2 p2 => ?_
  have hb1 := pre_get p2 hb1
  unfold coR at hQ
  cases c0 : isX x with
  | false =>
    rw [c0, if_neg (by decide)] at hQ
    try simp (maxSteps := 3000000) (disch := first | omega | (simp only [len_new, len_put, len_kill]; omega)) only [↓xpre, xpost, ↓reduceIte, Nat.reduceEqDiff, Nat.reduceAdd, Nat.reduceSub, Nat.reduceLeDiff, Nat.zero_add, Nat.sub_zero]
    exact hQ _ _ (p1.trans p2) (.inl ⟨rfl, rfl⟩)
  | true =>
    rw [c0, if_pos rfl] at hQ
    try simp (maxSteps := 3000000) (disch := first | omega | (simp only [len_new, len_put, len_kill]; omega)) only [↓xpre, xpost, ↓reduceIte, Nat.reduceEqDiff, Nat.reduceAdd, Nat.reduceSub, Nat.reduceLeDiff, Nat.zero_add, Nat.sub_zero, rdn_of hb1]
    refine i_costOf (hv.pre (p1.trans p2)) (isX_sz c0).2 fun H3 p3 => ?_
    have w1 : ∀ (h1 : AH) (e : TypeId), (h1.new ⟨[.int .i64 0, .int .i64 0, .int .i64 0, .int .i64 0], e, false, true⟩).wr h1.length 0 (cel .i64 (costL x)) = some (h1.new ⟨cel .i64 (costL x), e, false, true⟩) := fun h1 e => wr_all rfl
    have s1 : ∀ (h1 : AH) (e : TypeId), slcaV 4 1 (.pointer (some ⟨h1.length, 0, none⟩)) (h1.new ⟨cel .i64 (costL x), e, false, true⟩) = some (.slice (some ⟨h1.length, 0, none⟩) 4 1, h1.new ⟨cel .i64 (costL x), e, false, true⟩) := fun h1 e => slcaV_of get_new_same rfl (by omega)
    try simp (maxSteps := 3000000) (disch := first | omega | (simp only [len_new, len_put, len_kill]; omega)) only [↓xpre, xpost, ↓reduceIte, Nat.reduceEqDiff, Nat.reduceAdd, Nat.reduceSub, Nat.reduceLeDiff, Nat.zero_add, Nat.sub_zero, aggV, cel_all, cel_len, costL_len, ↓w1, List.append_nil, ↓WX_slca, s1]
    exact hQ _ _ (((p1.trans p2).trans p3).trans (pre_new (List.prefix_refl _))) (.inr ⟨H3.length, _, true, pre_len ((p1.trans p2).trans p3), rfl, get_new_same⟩)
end Go.Proofs.Ytphklalbkpohfaa.X
