/- The Kronecker product, both sides. -/
import Derived.Test.YtnjhhgfpclngcaaXF12
set_option linter.unusedVariables false
set_option linter.unusedSimpArgs false
set_option maxRecDepth 20000
set_option maxHeartbeats 4000000
namespace Go.Proofs.Ytnjhhgfpclngcaa.X
open Go Go.RowKit

def krR (t u : Ten) : Ten × Int :=
  if isT t = true ∧ isT u = true then (if t.p = u.p then (if t.i * u.i ≤ 9 ∧ t.j * u.j ≤ 9 ∧ t.k * u.k ≤ 9 then (krT t u, 0) else (noT, 3)) else (noT, 2)) else (noT, 1)
theorem gen_le {i j k : Int} {g : Nat → Int} (h1 : 1 ≤ i ∧ i ≤ 9) (h2 : 1 ≤ j ∧ j ≤ 9) (h3 : 1 ≤ k ∧ k ≤ 9) : (((gen (i * j * k).toNat g).length : Nat) : Int) ≤ 1048576 := by
  have ij := mul_in1 (A := 9) (B := 9) h1 h2
  have ijk := mul_in1 (A := 81) (B := 9) ij h3
  rw [gen_len]
  omega
theorem krR_len (t u : Ten) : (((krR t u).1.ns.length : Nat) : Int) ≤ 1048576 := by
  unfold krR
  split
  · rename_i h
    have f := isT_facts h.1
    have fu := isT_facts h.2
    split
    · split
      · rename_i h9
        have mi := mul_in1 (A := 9) (B := 9) f.i fu.i
        have mj := mul_in1 (A := 9) (B := 9) f.j fu.j
        have mk := mul_in1 (A := 9) (B := 9) f.k fu.k
        exact gen_le (by omega) (by omega) (by omega)
      · simp [noT]
    · simp [noT]
  · simp [noT]

theorem s_KroneckerTensors {v w : Value} {t u : Ten} {h : AH} {Q : Value → AH → Prop} (hv : Ints h v t.ns) (hl : (t.ns.length : Int) ≤ 1048576) (hw : Ints h w u.ns) (hl' : (u.ns.length : Int) ≤ 1048576)
    (hQ : ∀ v' h', h <+: h' → OwnR h h' v' (krR t u).1.ns → Q (.tuple #[tenV (krR t u).1 v', I64 (krR t u).2]) h') : WF S 35 [tenV t v, tenV u w] h Q := by
  refine WF_fn (fn := c35) rfl rfl ?_
  unfold c35
  try simp (maxSteps := 3000000) (disch := first | omega | (simp only [len_new, len_put, len_kill]; omega)) only [↓xpre, xpost, ↓reduceIte, Nat.reduceEqDiff, Nat.reduceAdd, Nat.reduceSub, Nat.reduceLeDiff, Nat.zero_add, Nat.sub_zero, tenV, hv.one, hw.one]
  generalize hH1 : AH.new h _ = H1
  obtain ⟨hb1, p1, n1⟩ := new_facts hH1
  generalize hH2 : AH.new H1 _ = H2
  obtain ⟨hb2, p2, n2⟩ := new_facts hH2
  generalize hH3 : AH.new H2 _ = H3
  obtain ⟨hb3, p3, n3⟩ := new_facts hH3
  have hb1 := pre_get (p2.trans p3) hb1
  have hb2 := pre_get p3 hb2
  have ph := (p1.trans p2).trans p3
  try simp (maxSteps := 3000000) (disch := first | omega | (simp only [len_new, len_put, len_kill]; omega)) only [↓xpre, xpost, ↓reduceIte, Nat.reduceEqDiff, Nat.reduceAdd, Nat.reduceSub, Nat.reduceLeDiff, Nat.zero_add, Nat.sub_zero, rdn_of hb1, rdn_of hb2]
  refine s_l05Two (hv.pre ph) hl (hw.pre ph) hl' fun H4 p4 => ?_
  have hb1 := pre_get p4 hb1
  have hb2 := pre_get p4 hb2
  have hb3 := pre_get p4 hb3
  have ph := ph.trans p4
  have l4 := get_lt hb3
  unfold krR at hQ
  unfold twoC
  by_cases hd : isT t = true ∧ isT u = true
  case neg =>
    rw [if_neg hd] at hQ ⊢
    try simp (maxSteps := 3000000) (disch := first | omega | (simp only [len_new, len_put, len_kill]; omega)) only [↓xpre, xpost, ↓reduceIte, Nat.reduceEqDiff, Nat.reduceAdd, Nat.reduceSub, Nat.reduceLeDiff, Nat.zero_add, Nat.sub_zero, decide_eq_true (show (1 : Int) ≠ 0 by decide), fillL, wr_of hb3]
    exact hQ (.slice none 0 0) _ (pre_put ph (by omega)) (.inl ⟨rfl, rfl⟩)
  rw [if_pos hd] at hQ ⊢
  by_cases e1 : t.p = u.p
  case neg =>
    rw [if_neg e1] at hQ ⊢
    try simp (maxSteps := 3000000) (disch := first | omega | (simp only [len_new, len_put, len_kill]; omega)) only [↓xpre, xpost, ↓reduceIte, Nat.reduceEqDiff, Nat.reduceAdd, Nat.reduceSub, Nat.reduceLeDiff, Nat.zero_add, Nat.sub_zero, decide_eq_true (show (2 : Int) ≠ 0 by decide), fillL, wr_of hb3]
    exact hQ (.slice none 0 0) _ (pre_put ph (by omega)) (.inl ⟨rfl, rfl⟩)
  rw [if_pos e1] at hQ ⊢
  have f := isT_facts hd.1
  have fu := isT_facts hd.2
  have mi := mul_in1 (A := 9) (B := 9) f.i fu.i
  have mj := mul_in1 (A := 9) (B := 9) f.j fu.j
  have mk := mul_in1 (A := 9) (B := 9) f.k fu.k
  try simp (maxSteps := 3000000) (disch := first | omega | (simp only [len_new, len_put, len_kill]; omega)) only [↓xpre, xpost, ↓reduceIte, Nat.reduceEqDiff, Nat.reduceAdd, Nat.reduceSub, Nat.reduceLeDiff, Nat.zero_add, Nat.sub_zero, decide_eq_false (show ¬ ((0 : Int) ≠ 0) by decide), rd1_of hb1, rd1_of hb2, ↓WX_mm, mmV_3, wrap64_in, max3]
  by_cases e2 : t.i * u.i ≤ 9 ∧ t.j * u.j ≤ 9 ∧ t.k * u.k ≤ 9
  case neg =>
    rw [if_neg e2] at hQ
    try simp (maxSteps := 3000000) (disch := first | omega | (simp only [len_new, len_put, len_kill]; omega)) only [↓xpre, xpost, ↓reduceIte, Nat.reduceEqDiff, Nat.reduceAdd, Nat.reduceSub, Nat.reduceLeDiff, Nat.zero_add, Nat.sub_zero, decide_eq_true e2, fillL, wr_of hb3]
    exact hQ (.slice none 0 0) _ (pre_put ph (by omega)) (.inl ⟨rfl, rfl⟩)
  rw [if_pos e2] at hQ
  try simp (maxSteps := 3000000) (disch := first | omega | (simp only [len_new, len_put, len_kill]; omega)) only [↓xpre, xpost, ↓reduceIte, Nat.reduceEqDiff, Nat.reduceAdd, Nat.reduceSub, Nat.reduceLeDiff, Nat.zero_add, Nat.sub_zero, decide_eq_false (show ¬ ¬ (t.i * u.i ≤ 9 ∧ t.j * u.j ≤ 9 ∧ t.k * u.k ≤ 9) from fun h => h e2), rdn_of hb1, rdn_of hb2]
  refine s_l05Kronecker (hv.pre ph) (hw.pre ph) f fu e1 e2.1 e2.2.1 e2.2.2 fun v' H5 p5 o => ?_
  have hb3 := pre_get p5 hb3
  have l5 := get_lt hb3
  try simp (maxSteps := 3000000) (disch := first | omega | (simp only [len_new, len_put, len_kill]; omega)) only [↓xpre, xpost, ↓reduceIte, Nat.reduceEqDiff, Nat.reduceAdd, Nat.reduceSub, Nat.reduceLeDiff, Nat.zero_add, Nat.sub_zero, tenV, o.ints.one, wr_of hb3]
  exact hQ v' _ (pre_put (ph.trans p5) (by omega)) ((o.put_ne (by omega)).lo (by have := pre_len ph; omega))

theorem i_kr1 {v w : Value} {t u : Ten} {i j k : Int} {h : AH} {n m : Nat} {e e' : TypeId} {ro full ro' full' : Bool} {Q : Value → AH → Prop} (hb : h.get n = some ⟨[I64 t.p, I64 t.i, I64 t.j, I64 t.k, v], e, ro, full⟩)
    (hb' : h.get m = some ⟨[I64 u.p, I64 u.i, I64 u.j, I64 u.k, w], e', ro', full'⟩) (hv : Ints h v t.ns) (hw : Ints h w u.ns) (f : TF t) (fu : TF u)
    (h9 : t.i * u.i ≤ 9 ∧ t.j * u.j ≤ 9 ∧ t.k * u.k ≤ 9)
    (hi : 0 ≤ i ∧ i < t.i * u.i) (hj : 0 ≤ j ∧ j < t.j * u.j) (hk : 0 ≤ k ∧ k < t.k * u.k) (hQ : ∀ h', h <+: h' → Q (I64 (krN t u i j k)) h') :
    WF S 81 [I64 i, I64 j, I64 k, .pointer (some ⟨n, 0, none⟩), .pointer (some ⟨m, 0, none⟩)] h Q := by
  refine WF_fn (fn := c81) rfl rfl ?_
  unfold c81
  have ui := fu.i
  have uj := fu.j
  have uk := fu.k
  have ti := f.i
  have tj := f.j
  have tk := f.k
  have d1 := tdiv_in hi ui.1
  have d2 := tdiv_in hj uj.1
  have d3 := tdiv_in hk uk.1
  have m1 := tmod_in hi.1 ui.1
  have m2 := tmod_in hj.1 uj.1
  have m3 := tmod_in hk.1 uk.1
  try simp (maxSteps := 3000000) (disch := first | omega | (simp only [len_new, len_put, len_kill]; omega)) only [↓xpre, xpost, ↓reduceIte, Nat.reduceEqDiff, Nat.reduceAdd, Nat.reduceSub, Nat.reduceLeDiff, Nat.zero_add, Nat.sub_zero, rdn_of hb, rd1_of hb', bin_quo, wrap64_in]
  refine i_at (t := t) hv f d1 d2 d3 fun h1 p1 => ?_
  have hb' := pre_get p1 hb'
  try simp (maxSteps := 3000000) (disch := first | omega | (simp only [len_new, len_put, len_kill]; omega)) only [↓xpre, xpost, ↓reduceIte, Nat.reduceEqDiff, Nat.reduceAdd, Nat.reduceSub, Nat.reduceLeDiff, Nat.zero_add, Nat.sub_zero, rdn_of hb', rd1_of hb', bin_rem]
  refine ⟨p1, ?_⟩
  refine i_at (t := u) (hw.pre p1) fu m1 m2 m3 fun h2 p2 => ?_
  have a1 := tat_in f d1 d2 d3
  have a2 := tat_in fu m1 m2 m3
  have fp := f.p
  have fup := fu.p
  have a3 := mul_in (a := tat t (i.tdiv u.i) (j.tdiv u.j) (k.tdiv u.k)) (b := tat u (i.tmod u.i) (j.tmod u.j) (k.tmod u.k)) (A := 5) (B := 5) (by omega) (by omega)
  try simp (maxSteps := 3000000) (disch := first | omega | (simp only [len_new, len_put, len_kill]; omega)) only [↓xpre, xpost, ↓reduceIte, Nat.reduceEqDiff, Nat.reduceAdd, Nat.reduceSub, Nat.reduceLeDiff, Nat.zero_add, Nat.sub_zero, wrap64_in]
  exact hQ _ (p1.trans p2)

theorem i_KroneckerTensors {v w : Value} {t u : Ten} {h : AH} {Q : Value → AH → Prop} (hv : Ints h v t.ns) (hl : (t.ns.length : Int) ≤ 1048576) (hw : Ints h w u.ns) (hl' : (u.ns.length : Int) ≤ 1048576)
    (hQ : ∀ v' h', h <+: h' → OwnR h h' v' (krR t u).1.ns → Q (.tuple #[tenV (krR t u).1 v', I64 (krR t u).2]) h') : WF S 36 [tenV t v, tenV u w] h Q := by
  refine WF_fn (fn := c36) rfl rfl ?_
  unfold c36
  try simp (maxSteps := 3000000) (disch := first | omega | (simp only [len_new, len_put, len_kill]; omega)) only [↓xpre, xpost, ↓reduceIte, Nat.reduceEqDiff, Nat.reduceAdd, Nat.reduceSub, Nat.reduceLeDiff, Nat.zero_add, Nat.sub_zero, tenV, hv.one, hw.one, fillL, zrep]
  generalize hH1 : AH.new h _ = H1
  obtain ⟨hb1, p1, n1⟩ := new_facts hH1
  generalize hH2 : AH.new H1 _ = H2
  obtain ⟨hb2, p2, n2⟩ := new_facts hH2
  generalize hH3 : AH.new H2 _ = H3
  obtain ⟨hb3, p3, n3⟩ := new_facts hH3
  generalize hH4 : AH.new H3 _ = H4
  obtain ⟨hb4, p4, n4⟩ := new_facts hH4
  have hb1 := pre_get ((p2.trans p3).trans p4) hb1
  have hb2 := pre_get (p3.trans p4) hb2
  have hb3 := pre_get p4 hb3
  have ph := ((p1.trans p2).trans p3).trans p4
  refine i_twoTensors (hv.pre ph) hl (hw.pre ph) hl' (ints_lit hb4) (by simp) fun H5 p5 => ?_
  have hb1 := pre_get p5 hb1
  have hb2 := pre_get p5 hb2
  have hb3 := pre_get p5 hb3
  have ph := ph.trans p5
  have l5 := get_lt hb3
  unfold krR at hQ
  unfold twoS
  by_cases hd : isT t = true ∧ isT u = true
  case neg =>
    rw [if_neg hd] at hQ ⊢
    try simp (maxSteps := 3000000) (disch := first | omega | (simp only [len_new, len_put, len_kill]; omega)) only [↓xpre, xpost, ↓reduceIte, Nat.reduceEqDiff, Nat.reduceAdd, Nat.reduceSub, Nat.reduceLeDiff, Nat.zero_add, Nat.sub_zero, decide_eq_true (show (1 : Int) ≠ 0 by decide), fillL, wr_of hb3]
    exact hQ (.slice none 0 0) _ (pre_put ph (by omega)) (.inl ⟨rfl, rfl⟩)
  rw [if_pos hd] at hQ ⊢
  by_cases e1 : t.p = u.p
  case neg =>
    rw [if_neg e1] at hQ ⊢
    try simp (maxSteps := 3000000) (disch := first | omega | (simp only [len_new, len_put, len_kill]; omega)) only [↓xpre, xpost, ↓reduceIte, Nat.reduceEqDiff, Nat.reduceAdd, Nat.reduceSub, Nat.reduceLeDiff, Nat.zero_add, Nat.sub_zero, decide_eq_true (show (2 : Int) ≠ 0 by decide), fillL, wr_of hb3]
    exact hQ (.slice none 0 0) _ (pre_put ph (by omega)) (.inl ⟨rfl, rfl⟩)
  rw [if_pos e1] at hQ ⊢
  have f := isT_facts hd.1
  have fu := isT_facts hd.2
  have mi := mul_in1 (A := 9) (B := 9) f.i fu.i
  have mj := mul_in1 (A := 9) (B := 9) f.j fu.j
  have mk := mul_in1 (A := 9) (B := 9) f.k fu.k
  have hs : ([IntKind.i64.wrap (t.i * u.i), IntKind.i64.wrap (t.j * u.j), IntKind.i64.wrap (t.k * u.k)].all side = true) ↔ (t.i * u.i ≤ 9 ∧ t.j * u.j ≤ 9 ∧ t.k * u.k ≤ 9) := by
    rw [wrap64_in (by omega) (by omega), wrap64_in (by omega) (by omega), wrap64_in (by omega) (by omega)]
    simp only [List.all_cons, List.all_nil, Bool.and_true, Bool.and_eq_true, side_iff]
    omega
  by_cases e2 : t.i * u.i ≤ 9 ∧ t.j * u.j ≤ 9 ∧ t.k * u.k ≤ 9
  case neg =>
    rw [if_neg e2] at hQ
    rw [if_neg (fun h => e2 (hs.1 h))]
    try simp (maxSteps := 3000000) (disch := first | omega | (simp only [len_new, len_put, len_kill]; omega)) only [↓xpre, xpost, ↓reduceIte, Nat.reduceEqDiff, Nat.reduceAdd, Nat.reduceSub, Nat.reduceLeDiff, Nat.zero_add, Nat.sub_zero, decide_eq_true (show (3 : Int) ≠ 0 by decide), fillL, wr_of hb3]
    exact hQ (.slice none 0 0) _ (pre_put ph (by omega)) (.inl ⟨rfl, rfl⟩)
  rw [if_pos e2] at hQ
  rw [if_pos (hs.2 e2)]
  try simp (maxSteps := 3000000) (disch := first | omega | (simp only [len_new, len_put, len_kill]; omega)) only [↓xpre, xpost, ↓reduceIte, Nat.reduceEqDiff, Nat.reduceAdd, Nat.reduceSub, Nat.reduceLeDiff, Nat.zero_add, Nat.sub_zero, decide_eq_false (show ¬ ((0 : Int) ≠ 0) by decide), rd1_of hb1, rd1_of hb2, wrap64_in]
  have hf : Tells S H5 (.func (.func 81) #[] #[.pointer (some ⟨h.length, 0, none⟩), .pointer (some ⟨H1.length, 0, none⟩)]) (t.i * u.i) (t.j * u.j) (t.k * u.k) (krN t u) := by
    intro i j k hi hj hk h1 hp Q hQ
    rw [WK_func]
    exact i_kr1 (pre_get hp hb1) (pre_get hp hb2) (hv.pre (ph.trans hp)) (hw.pre (ph.trans hp)) f fu e2 hi hj hk hQ
  have fp := f.p
  refine i_tensor (num := krN t u) (by omega) (by omega) (by omega) (by omega) hf fun v' H9 p9 o => ?_
  have hb3 := pre_get p9 hb3
  have l9 := get_lt hb3
  try simp (maxSteps := 3000000) (disch := first | omega | (simp only [len_new, len_put, len_kill]; omega)) only [↓xpre, xpost, ↓reduceIte, Nat.reduceEqDiff, Nat.reduceAdd, Nat.reduceSub, Nat.reduceLeDiff, Nat.zero_add, Nat.sub_zero, tenV, o.ints.one, wr_of hb3]
  exact hQ v' _ (pre_put (ph.trans p9) (by omega)) ((o.put_ne (by omega)).lo (by have := pre_len ph; omega))
end Go.Proofs.Ytnjhhgfpclngcaa.X
