/- The program's sum of two tensors. -/
import Derived.Test.YtnjhhgfpclngcaaXF10
set_option linter.unusedVariables false
set_option linter.unusedSimpArgs false
set_option maxRecDepth 20000
set_option maxHeartbeats 4000000
namespace Go.Proofs.Ytnjhhgfpclngcaa.X
open Go Go.RowKit

theorem i_AddTensors {v w : Value} {t u : Ten} {c : Int} {h : AH} {Q : Value → AH → Prop} (hv : Ints h v t.ns) (hl : (t.ns.length : Int) ≤ 1048576) (hw : Ints h w u.ns) (hl' : (u.ns.length : Int) ≤ 1048576)
    (hQ : ∀ v' h', h <+: h' → OwnR h h' v' (addR t u c).1.ns → Q (.tuple #[tenV (addR t u c).1 v', I64 (addR t u c).2]) h') : WF S 34 [tenV t v, tenV u w, I64 c] h Q := by
  refine WF_fn (fn := c34) rfl rfl ?_
  unfold c34
  try simp (maxSteps := 3000000) (disch := first | omega | (simp only [len_new, len_put, len_kill]; omega)) only [↓xpre, xpost, ↓reduceIte, Nat.reduceEqDiff, Nat.reduceAdd, Nat.reduceSub, Nat.reduceLeDiff, Nat.zero_add, Nat.sub_zero, tenV, hv.one, hw.one, fillL, zrep]
  generalize hH1 : AH.new h _ = H1
  obtain ⟨hb1, p1, n1⟩ := new_facts hH1
  generalize hH2 : AH.new H1 _ = H2
  obtain ⟨hb2, p2, n2⟩ := new_facts hH2
  generalize hH3 : AH.new H2 _ = H3
  obtain ⟨hb3, p3, n3⟩ := new_facts hH3
  generalize hH4 : AH.new H3 _ = H4
  obtain ⟨hb4, p4, n4⟩ := new_facts hH4
  generalize hH5 : AH.new H4 _ = H5
  obtain ⟨hb5, p5, n5⟩ := new_facts hH5
  have hb1 := pre_get (((p2.trans p3).trans p4).trans p5) hb1
  have hb2 := pre_get ((p3.trans p4).trans p5) hb2
  have hb3 := pre_get (p4.trans p5) hb3
  have hb4 := pre_get p5 hb4
  have ph := (((p1.trans p2).trans p3).trans p4).trans p5
  refine i_areTensors (hv.pre ph) (hw.pre ph) hl hl' hb5 fun H6 p6 => ?_
  have hb1 := pre_get p6 hb1
  have hb2 := pre_get p6 hb2
  have hb3 := pre_get p6 hb3
  have hb4 := pre_get p6 hb4
  have ph := ph.trans p6
  have l6 := get_lt hb4
  by_cases hd : isT t = true ∧ isT u = true
  case neg =>
    have e : (isT t && isT u) = false := by
      cases h1 : isT t <;> cases h2 : isT u <;> simp_all
    try simp (maxSteps := 3000000) (disch := first | omega | (simp only [len_new, len_put, len_kill]; omega)) only [↓xpre, xpost, ↓reduceIte, Nat.reduceEqDiff, Nat.reduceAdd, Nat.reduceSub, Nat.reduceLeDiff, Nat.zero_add, Nat.sub_zero, e, fillL, wr_of hb4]
    rw [show addR t u c = (noT, 1) by unfold addR; rw [if_neg hd]] at hQ
    exact hQ (.slice none 0 0) _ (pre_put ph (by omega)) (.inl ⟨rfl, rfl⟩)
  have f := isT_facts hd.1
  have fu := isT_facts hd.2
  have fp := f.p
  have bad2 : ∀ H7, H6 <+: H7 → ¬ (t.p = u.p ∧ t.i = u.i ∧ t.j = u.j ∧ t.k = u.k ∧ 0 ≤ c ∧ c < t.p) → ∀ b, Q (.tuple #[.agg #[I64 0, I64 0, I64 0, I64 0, .slice none 0 0], I64 2]) (AH.put H7 H3.length b) := fun H7 p7 hn b => by
    rw [show addR t u c = (noT, 2) by unfold addR; rw [if_pos hd, if_neg hn]] at hQ
    exact hQ (.slice none 0 0) _ (pre_put (ph.trans p7) (by omega)) (.inl ⟨rfl, rfl⟩)
  try simp (maxSteps := 3000000) (disch := first | omega | (simp only [len_new, len_put, len_kill]; omega)) only [↓xpre, xpost, ↓reduceIte, Nat.reduceEqDiff, Nat.reduceAdd, Nat.reduceSub, Nat.reduceLeDiff, Nat.zero_add, Nat.sub_zero, hd.1, hd.2, rd1_of hb1, rd1_of hb2]
  by_cases e1 : t.p = u.p
  case neg =>
    try simp (maxSteps := 3000000) (disch := first | omega | (simp only [len_new, len_put, len_kill]; omega)) only [↓xpre, xpost, ↓reduceIte, Nat.reduceEqDiff, Nat.reduceAdd, Nat.reduceSub, Nat.reduceLeDiff, Nat.zero_add, Nat.sub_zero, e1, ne_eq, not_false_eq_true, fillL, wr_of hb4]
    exact bad2 _ (List.prefix_refl _) (fun h => e1 h.1) _
  try simp (maxSteps := 3000000) (disch := first | omega | (simp only [len_new, len_put, len_kill]; omega)) only [↓xpre, xpost, ↓reduceIte, Nat.reduceEqDiff, Nat.reduceAdd, Nat.reduceSub, Nat.reduceLeDiff, Nat.zero_add, Nat.sub_zero, decide_eq_false (show ¬ (t.p ≠ u.p) from fun h => h e1), rdn_of hb1, rdn_of hb2]
  refine i_sides (t := t) hv.one fun H7 p7 => ?_
  have hb1 := pre_get p7 hb1
  have hb2 := pre_get p7 hb2
  have hb3 := pre_get p7 hb3
  have hb4 := pre_get p7 hb4
  have l7 := pre_len p7
  try simp (maxSteps := 3000000) (disch := first | omega | (simp only [len_new, len_put, len_kill]; omega)) only [↓xpre, xpost, ↓reduceIte, Nat.reduceEqDiff, Nat.reduceAdd, Nat.reduceSub, Nat.reduceLeDiff, Nat.zero_add, Nat.sub_zero, rdn_of hb1, rdn_of hb2]
  refine ⟨p7, ?_⟩
  refine i_sides (t := u) hw.one fun H8 p8 => ?_
  have hb1 := pre_get p8 hb1
  have hb2 := pre_get p8 hb2
  have hb3 := pre_get p8 hb3
  have hb4 := pre_get p8 hb4
  have l8 := pre_len p8
  have p78 := p7.trans p8
  try simp (maxSteps := 3000000) (disch := first | omega | (simp only [len_new, len_put, len_kill]; omega)) only [↓xpre, xpost, ↓reduceIte, Nat.reduceEqDiff, Nat.reduceAdd, Nat.reduceSub, Nat.reduceLeDiff, Nat.zero_add, Nat.sub_zero]
  by_cases e2 : t.i = u.i ∧ t.j = u.j ∧ t.k = u.k
  case neg =>
    try simp (maxSteps := 3000000) (disch := first | omega | (simp only [len_new, len_put, len_kill]; omega)) only [↓xpre, xpost, ↓reduceIte, Nat.reduceEqDiff, Nat.reduceAdd, Nat.reduceSub, Nat.reduceLeDiff, Nat.zero_add, Nat.sub_zero, decide_eq_false e2, bne, Bool.false_bne, fillL, wr_of hb4, show ((false == true) = false) from rfl]
    exact bad2 _ p78 (fun h => e2 ⟨h.2.1, h.2.2.1, h.2.2.2.1⟩) _
  try simp (maxSteps := 3000000) (disch := first | omega | (simp only [len_new, len_put, len_kill]; omega)) only [↓xpre, xpost, ↓reduceIte, Nat.reduceEqDiff, Nat.reduceAdd, Nat.reduceSub, Nat.reduceLeDiff, Nat.zero_add, Nat.sub_zero, decide_eq_true e2, bne, show ((true == true) = true) from rfl, rd1_of hb1, rd1_of hb2, rd1_of hb3]
  by_cases e3 : c < 0
  · try simp (maxSteps := 3000000) (disch := first | omega | (simp only [len_new, len_put, len_kill]; omega)) only [↓xpre, xpost, ↓reduceIte, Nat.reduceEqDiff, Nat.reduceAdd, Nat.reduceSub, Nat.reduceLeDiff, Nat.zero_add, Nat.sub_zero, e3, fillL, wr_of hb4]
    exact bad2 _ p78 (fun h => by omega) _
  try simp (maxSteps := 3000000) (disch := first | omega | (simp only [len_new, len_put, len_kill]; omega)) only [↓xpre, xpost, ↓reduceIte, Nat.reduceEqDiff, Nat.reduceAdd, Nat.reduceSub, Nat.reduceLeDiff, Nat.zero_add, Nat.sub_zero, e3, rd1_of hb1, rd1_of hb3]
  by_cases e4 : t.p ≤ c
  · try simp (maxSteps := 3000000) (disch := first | omega | (simp only [len_new, len_put, len_kill]; omega)) only [↓xpre, xpost, ↓reduceIte, Nat.reduceEqDiff, Nat.reduceAdd, Nat.reduceSub, Nat.reduceLeDiff, Nat.zero_add, Nat.sub_zero, e4, fillL, wr_of hb4]
    exact bad2 _ p78 (fun h => by omega) _
  try simp (maxSteps := 3000000) (disch := first | omega | (simp only [len_new, len_put, len_kill]; omega)) only [↓xpre, xpost, ↓reduceIte, Nat.reduceEqDiff, Nat.reduceAdd, Nat.reduceSub, Nat.reduceLeDiff, Nat.zero_add, Nat.sub_zero, e4, rd1_of hb1]
  have hcc : 0 ≤ c ∧ c < t.p := by omega
  rw [show addR t u c = (addT t u c, 0) by unfold addR; rw [if_pos hd, if_pos ⟨e1, e2.1, e2.2.1, e2.2.2, hcc.1, hcc.2⟩]] at hQ
  have ph := ph.trans p78
  have hf : Tells S H8 (.func (.func 77) #[] #[.pointer (some ⟨h.length, 0, none⟩), .pointer (some ⟨H2.length, 0, none⟩), .pointer (some ⟨H1.length, 0, none⟩)]) t.i t.j t.k (fun i j k => tat t i j k + c * tat u i j k) := by
    intro i j k hi hj hk h1 hp Q hQ
    rw [WK_func]
    exact i_add1 (pre_get hp hb1) (pre_get hp hb2) (pre_get hp hb3) (hv.pre (ph.trans hp)) (hw.pre (ph.trans hp)) f fu e1 hcc e2 hi hj hk hQ
  refine i_tensor (num := fun i j k => tat t i j k + c * tat u i j k) (by omega) f.i f.j f.k hf fun v' H9 p9 o => ?_
  rw [add_eq e2] at o ⊢
  have hb4 := pre_get p9 hb4
  have l9 := get_lt hb4
  try simp (maxSteps := 3000000) (disch := first | omega | (simp only [len_new, len_put, len_kill]; omega)) only [↓xpre, xpost, ↓reduceIte, Nat.reduceEqDiff, Nat.reduceAdd, Nat.reduceSub, Nat.reduceLeDiff, Nat.zero_add, Nat.sub_zero, tenV, o.ints.one, wr_of hb4]
  exact hQ v' _ (pre_put (ph.trans p9) (by omega)) ((o.put_ne (by omega)).lo (by have := pre_len ph; omega))
end Go.Proofs.Ytnjhhgfpclngcaa.X
