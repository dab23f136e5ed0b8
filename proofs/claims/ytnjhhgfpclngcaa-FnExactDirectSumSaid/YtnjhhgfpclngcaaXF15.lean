/- The direct sum, the program's side. -/
import Derived.Test.YtnjhhgfpclngcaaXF14
set_option linter.unusedVariables false
set_option linter.unusedSimpArgs false
set_option maxRecDepth 20000
set_option maxHeartbeats 4000000
namespace Go.Proofs.Ytnjhhgfpclngcaa.X
open Go Go.RowKit

theorem i_ds1 {v w : Value} {t u : Ten} {i j k : Int} {h : AH} {n m : Nat} {e e' : TypeId} {ro full ro' full' : Bool} {Q : Value → AH → Prop} (hb : h.get n = some ⟨[I64 t.p, I64 t.i, I64 t.j, I64 t.k, v], e, ro, full⟩)
    (hb' : h.get m = some ⟨[I64 u.p, I64 u.i, I64 u.j, I64 u.k, w], e', ro', full'⟩) (hv : Ints h v t.ns) (hw : Ints h w u.ns) (f : TF t) (fu : TF u) (ep : t.p = u.p)
    (h9 : t.i + u.i ≤ 9 ∧ t.j + u.j ≤ 9 ∧ t.k + u.k ≤ 9)
    (hi : 0 ≤ i ∧ i < t.i + u.i) (hj : 0 ≤ j ∧ j < t.j + u.j) (hk : 0 ≤ k ∧ k < t.k + u.k) (hQ : ∀ h', h <+: h' → Q (I64 (dsN t u i j k)) h') :
    WF S 82 [I64 i, I64 j, I64 k, .pointer (some ⟨n, 0, none⟩), .pointer (some ⟨m, 0, none⟩)] h Q := by
  refine WF_fn (fn := c82) rfl rfl ?_
  unfold c82
  have fi := f.i
  have fj := f.j
  have fk := f.k
  have zero : ¬ (i < t.i ∧ j < t.j ∧ k < t.k) → ¬ (t.i ≤ i ∧ t.j ≤ j ∧ t.k ≤ k) → Q (I64 0) h := fun a1 a2 => by
    have := hQ h (List.prefix_refl _)
    unfold dsN at this
    rw [if_neg a1, if_neg a2] at this
    exact this
  try simp (maxSteps := 3000000) (disch := first | omega | (simp only [len_new, len_put, len_kill]; omega)) only [↓xpre, xpost, ↓reduceIte, Nat.reduceEqDiff, Nat.reduceAdd, Nat.reduceSub, Nat.reduceLeDiff, Nat.zero_add, Nat.sub_zero, rd1_of hb]
  by_cases x1 : i < t.i
  · have y1 : ¬ t.i ≤ i := by omega
    by_cases x2 : j < t.j
    · by_cases x3 : k < t.k
      · try simp (maxSteps := 3000000) (disch := first | omega | (simp only [len_new, len_put, len_kill]; omega)) only [↓xpre, xpost, ↓reduceIte, Nat.reduceEqDiff, Nat.reduceAdd, Nat.reduceSub, Nat.reduceLeDiff, Nat.zero_add, Nat.sub_zero, rd1_of hb, rdn_of hb, x1, x2, x3]
        refine i_at (t := t) hv f (by omega) (by omega) (by omega) fun h1 p1 => ?_
        try simp (maxSteps := 3000000) (disch := first | omega | (simp only [len_new, len_put, len_kill]; omega)) only [↓xpre, xpost, ↓reduceIte, Nat.reduceEqDiff, Nat.reduceAdd, Nat.reduceSub, Nat.reduceLeDiff, Nat.zero_add, Nat.sub_zero]
        have := hQ h1 p1
        unfold dsN at this
        rw [if_pos ⟨x1, x2, x3⟩] at this
        exact this
      · try simp (maxSteps := 3000000) (disch := first | omega | (simp only [len_new, len_put, len_kill]; omega)) only [↓xpre, xpost, ↓reduceIte, Nat.reduceEqDiff, Nat.reduceAdd, Nat.reduceSub, Nat.reduceLeDiff, Nat.zero_add, Nat.sub_zero, rd1_of hb, x1, x2, x3, y1]
        exact zero (by omega) (by omega)
    · try simp (maxSteps := 3000000) (disch := first | omega | (simp only [len_new, len_put, len_kill]; omega)) only [↓xpre, xpost, ↓reduceIte, Nat.reduceEqDiff, Nat.reduceAdd, Nat.reduceSub, Nat.reduceLeDiff, Nat.zero_add, Nat.sub_zero, rd1_of hb, x1, x2, y1]
      exact zero (by omega) (by omega)
  · have y1 : t.i ≤ i := by omega
    by_cases y2 : t.j ≤ j
    · by_cases y3 : t.k ≤ k
      · try simp (maxSteps := 3000000) (disch := first | omega | (simp only [len_new, len_put, len_kill]; omega)) only [↓xpre, xpost, ↓reduceIte, Nat.reduceEqDiff, Nat.reduceAdd, Nat.reduceSub, Nat.reduceLeDiff, Nat.zero_add, Nat.sub_zero, rd1_of hb, rdn_of hb', x1, y1, y2, y3, wrap64_in]
        refine i_at (t := u) hw fu (by omega) (by omega) (by omega) fun h1 p1 => ?_
        try simp (maxSteps := 3000000) (disch := first | omega | (simp only [len_new, len_put, len_kill]; omega)) only [↓xpre, xpost, ↓reduceIte, Nat.reduceEqDiff, Nat.reduceAdd, Nat.reduceSub, Nat.reduceLeDiff, Nat.zero_add, Nat.sub_zero]
        have := hQ h1 p1
        unfold dsN at this
        rw [if_neg (by omega), if_pos ⟨y1, y2, y3⟩] at this
        exact this
      · try simp (maxSteps := 3000000) (disch := first | omega | (simp only [len_new, len_put, len_kill]; omega)) only [↓xpre, xpost, ↓reduceIte, Nat.reduceEqDiff, Nat.reduceAdd, Nat.reduceSub, Nat.reduceLeDiff, Nat.zero_add, Nat.sub_zero, rd1_of hb, x1, y1, y2, y3]
        exact zero (by omega) (by omega)
    · try simp (maxSteps := 3000000) (disch := first | omega | (simp only [len_new, len_put, len_kill]; omega)) only [↓xpre, xpost, ↓reduceIte, Nat.reduceEqDiff, Nat.reduceAdd, Nat.reduceSub, Nat.reduceLeDiff, Nat.zero_add, Nat.sub_zero, rd1_of hb, x1, y1, y2]
      exact zero (by omega) (by omega)

theorem i_DirectSum {v w : Value} {t u : Ten} {h : AH} {Q : Value → AH → Prop} (hv : Ints h v t.ns) (hl : (t.ns.length : Int) ≤ 1048576) (hw : Ints h w u.ns) (hl' : (u.ns.length : Int) ≤ 1048576)
    (hQ : ∀ v' h', h <+: h' → OwnR h h' v' (dsR t u).1.ns → Q (.tuple #[tenV (dsR t u).1 v', I64 (dsR t u).2]) h') : WF S 38 [tenV t v, tenV u w] h Q := by
  refine WF_fn (fn := c38) rfl rfl ?_
  unfold c38
  try simp (maxSteps := 3000000) (disch := first | omega | (simp only [len_new, len_put, len_kill]; omega)) only [↓xpre, xpost, ↓reduceIte, Nat.reduceEqDiff, Nat.reduceAdd, Nat.reduceSub, Nat.reduceLeDiff, Nat.zero_add, Nat.sub_zero, tenV, hv.one, hw.one, fillL, zrep]
  generalize hH1 : AH.new h _ = H1
  obtain ⟨hb1, p1, n1⟩ := new_facts hH1
  generalize hH2 : AH.new H1 _ = H2
  obtain ⟨hb2, p2, n2⟩ := new_facts hH2
  generalize hH3 : AH.new H2 _ = H3
  obtain ⟨hb3, p3, n3⟩ := new_facts hH3
  generalize hH4 : AH.new H3 _ = H4
  obtain ⟨hb4, p4, n4⟩ := new_facts hH4
  have hb1 := pre_get ((p2.trans p3).trans p4) hb1
  have hb2 := pre_get (p3.trans p4) hb2
  have hb3 := pre_get p4 hb3
  have ph := ((p1.trans p2).trans p3).trans p4
  refine i_twoTensors (hv.pre ph) hl (hw.pre ph) hl' (ints_lit hb4) (by simp) fun H5 p5 => ?_
  have hb1 := pre_get p5 hb1
  have hb2 := pre_get p5 hb2
  have hb3 := pre_get p5 hb3
  have ph := ph.trans p5
  have l5 := get_lt hb3
  unfold dsR at hQ
  unfold twoS
  by_cases hd : isT t = true ∧ isT u = true
  case neg =>
    rw [if_neg hd] at hQ ⊢
    try simp (maxSteps := 3000000) (disch := first | omega | (simp only [len_new, len_put, len_kill]; omega)) only [↓xpre, xpost, ↓reduceIte, Nat.reduceEqDiff, Nat.reduceAdd, Nat.reduceSub, Nat.reduceLeDiff, Nat.zero_add, Nat.sub_zero, decide_eq_true (show (1 : Int) ≠ 0 by decide), fillL, wr_of hb3]
    exact hQ (.slice none 0 0) _ (pre_put ph (by omega)) (.inl ⟨rfl, rfl⟩)
  rw [if_pos hd] at hQ ⊢
  by_cases e1 : t.p = u.p
  case neg =>
    rw [if_neg e1] at hQ ⊢
    try simp (maxSteps := 3000000) (disch := first | omega | (simp only [len_new, len_put, len_kill]; omega)) only [↓xpre, xpost, ↓reduceIte, Nat.reduceEqDiff, Nat.reduceAdd, Nat.reduceSub, Nat.reduceLeDiff, Nat.zero_add, Nat.sub_zero, decide_eq_true (show (2 : Int) ≠ 0 by decide), fillL, wr_of hb3]
    exact hQ (.slice none 0 0) _ (pre_put ph (by omega)) (.inl ⟨rfl, rfl⟩)
  rw [if_pos e1] at hQ ⊢
  have f := isT_facts hd.1
  have fu := isT_facts hd.2
  have mi := f.i
  have mj := f.j
  have mk := f.k
  have ni := fu.i
  have nj := fu.j
  have nk := fu.k
  have hs : ([IntKind.i64.wrap (t.i + u.i), IntKind.i64.wrap (t.j + u.j), IntKind.i64.wrap (t.k + u.k)].all side = true) ↔ (t.i + u.i ≤ 9 ∧ t.j + u.j ≤ 9 ∧ t.k + u.k ≤ 9) := by
    rw [wrap64_in (by omega) (by omega), wrap64_in (by omega) (by omega), wrap64_in (by omega) (by omega)]
    simp only [List.all_cons, List.all_nil, Bool.and_true, Bool.and_eq_true, side_iff]
    omega
  by_cases e2 : t.i + u.i ≤ 9 ∧ t.j + u.j ≤ 9 ∧ t.k + u.k ≤ 9
  case neg =>
    rw [if_neg e2] at hQ
    rw [if_neg (fun h => e2 (hs.1 h))]
    try simp (maxSteps := 3000000) (disch := first | omega | (simp only [len_new, len_put, len_kill]; omega)) only [↓xpre, xpost, ↓reduceIte, Nat.reduceEqDiff, Nat.reduceAdd, Nat.reduceSub, Nat.reduceLeDiff, Nat.zero_add, Nat.sub_zero, decide_eq_true (show (3 : Int) ≠ 0 by decide), fillL, wr_of hb3]
    exact hQ (.slice none 0 0) _ (pre_put ph (by omega)) (.inl ⟨rfl, rfl⟩)
  rw [if_pos e2] at hQ
  rw [if_pos (hs.2 e2)]
  try simp (maxSteps := 3000000) (disch := first | omega | (simp only [len_new, len_put, len_kill]; omega)) only [↓xpre, xpost, ↓reduceIte, Nat.reduceEqDiff, Nat.reduceAdd, Nat.reduceSub, Nat.reduceLeDiff, Nat.zero_add, Nat.sub_zero, decide_eq_false (show ¬ ((0 : Int) ≠ 0) by decide), rd1_of hb1, rd1_of hb2, wrap64_in]
  have hf : Tells S H5 (.func (.func 82) #[] #[.pointer (some ⟨h.length, 0, none⟩), .pointer (some ⟨H1.length, 0, none⟩)]) (t.i + u.i) (t.j + u.j) (t.k + u.k) (dsN t u) := by
    intro i j k hi hj hk h1 hp Q hQ
    rw [WK_func]
    exact i_ds1 (pre_get hp hb1) (pre_get hp hb2) (hv.pre (ph.trans hp)) (hw.pre (ph.trans hp)) f fu e1 e2 hi hj hk hQ
  have fp := f.p
  refine i_tensor (num := dsN t u) (by omega) (by omega) (by omega) (by omega) hf fun v' H9 p9 o => ?_
  have hb3 := pre_get p9 hb3
  have l9 := get_lt hb3
  try simp (maxSteps := 3000000) (disch := first | omega | (simp only [len_new, len_put, len_kill]; omega)) only [↓xpre, xpost, ↓reduceIte, Nat.reduceEqDiff, Nat.reduceAdd, Nat.reduceSub, Nat.reduceLeDiff, Nat.zero_add, Nat.sub_zero, tenV, o.ints.one, wr_of hb3]
  exact hQ v' _ (pre_put (ph.trans p9) (by omega)) ((o.put_ne (by omega)).lo (by have := pre_len ph; omega))
end Go.Proofs.Ytnjhhgfpclngcaa.X
