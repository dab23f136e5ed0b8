/- SliceOf, both sides. -/
import Derived.Test.YtnjhhgfpclngcaaXF32
import Derived.Test.YtnjhhgfpclngcaaXF10
set_option linter.unusedVariables false
set_option linter.unusedSimpArgs false
set_option maxRecDepth 20000
set_option maxHeartbeats 4000000
namespace Go.Proofs.Ytnjhhgfpclngcaa.X
open Go Go.RowKit

theorem cut_get {α : Type} {d : α} {l : List α} {a n k : Nat} (h : k < n) : ((l.drop a).take n).getD k d = l.getD (a + k) d := by
  simp [List.getD_eq_getElem?_getD, List.getElem?_take, List.getElem?_drop, h]
theorem parts_slice {u : Ten} {a J K : Nat} (f : TF u) (hj : u.j = J) (hk : u.k = K) (ha : (a : Int) < u.i) : parts ((u.ns.drop (a * (J * K))).take (J * K)) K J = sliceT u a := by
  have hJ : u.j.toNat = J := by omega
  have hK : u.k.toNat = K := by omega
  have hl : (u.ns.length : Int) = u.i * u.j * u.k := f.len
  obtain ⟨I, hI⟩ : ∃ I : Nat, u.i = I := ⟨u.i.toNat, by have := f.i; omega⟩
  have hl' : u.ns.length = I * (J * K) := by
    rw [hI, hj, hk, Int.mul_assoc] at hl
    exact_mod_cast hl
  have ham : a * (J * K) + J * K ≤ u.ns.length := by rw [hl']; exact mul_row (by omega)
  refine getD_ext (by rw [parts_len, sliceT_len, hJ]) fun j hj' => ?_
  rw [parts_len] at hj'
  rw [parts_get hj', sliceT_get (by omega), hK]
  have hr := mul_row (w := K) hj'
  refine gen_ext (by simp; omega) fun k hk' => ?_
  rw [cut_get hk', cut_get (by omega)]
  unfold tat nth
  congr 1
  rw [hj, hk]
  have e1 : ((a : Int) * (J : Int) + (j : Int)) * (K : Int) + (k : Int) = (((a * J + j) * K + k : Nat) : Int) := by push_cast; rfl
  rw [e1, Int.toNat_natCast, Nat.add_mul, Nat.mul_assoc]
  omega
def sideN (t : Ten) (s : Nat) : Int := if s = 0 then t.i else if s = 1 then t.j else t.k
theorem turnN_side {t : Ten} {s : Nat} (h : s ≤ 2) : (turnN s t).i = sideN t s := by
  have : s = 0 ∨ s = 1 ∨ s = 2 := by omega
  rcases this with rfl | rfl | rfl <;> rfl
theorem s_l05Side {v : Value} {t : Ten} {s : Int} {h : AH} {Q : Value → AH → Prop} (hv : isOne v = true) (hs : 0 ≤ s ∧ s ≤ 2) (hQ : ∀ h', h <+: h' → Q (I64 (sideN t s.toNat)) h') : WF S 88 [tenV t v, I64 s] h Q := by
  refine WF_fn (fn := c88) rfl rfl ?_
  unfold c88
  try simp (maxSteps := 3000000) (disch := first | omega | (simp only [len_new, len_put, len_kill]; omega)) only [↓xpre, xpost, ↓reduceIte, Nat.reduceEqDiff, Nat.reduceAdd, Nat.reduceSub, Nat.reduceLeDiff, Nat.zero_add, Nat.sub_zero, tenV, hv]
  have : s = 0 ∨ s = 1 ∨ s = 2 := by omega
  rcases this with rfl | rfl | rfl
  · try simp (maxSteps := 3000000) (disch := first | omega | (simp only [len_new, len_put, len_kill]; omega)) only [↓xpre, xpost, ↓reduceIte, Nat.reduceEqDiff, Nat.reduceAdd, Nat.reduceSub, Nat.reduceLeDiff, Nat.zero_add, Nat.sub_zero]
    exact hQ _ (pre_new (List.prefix_refl _))
  · try simp (maxSteps := 3000000) (disch := first | omega | (simp only [len_new, len_put, len_kill]; omega)) only [↓xpre, xpost, ↓reduceIte, Nat.reduceEqDiff, Nat.reduceAdd, Nat.reduceSub, Nat.reduceLeDiff, Nat.zero_add, Nat.sub_zero, decide_eq_false (show ¬ (1 : Int) = 0 by decide)]
    exact hQ _ (pre_new (List.prefix_refl _))
  · try simp (maxSteps := 3000000) (disch := first | omega | (simp only [len_new, len_put, len_kill]; omega)) only [↓xpre, xpost, ↓reduceIte, Nat.reduceEqDiff, Nat.reduceAdd, Nat.reduceSub, Nat.reduceLeDiff, Nat.zero_add, Nat.sub_zero, decide_eq_false (show ¬ (2 : Int) = 0 by decide), decide_eq_false (show ¬ (2 : Int) = 1 by decide)]
    exact hQ _ (pre_new (List.prefix_refl _))
def slOK (t : Ten) (s a : Int) : Prop := (0 ≤ s ∧ s ≤ 2) ∧ 0 ≤ a ∧ a < sideN t s.toNat
instance {t : Ten} {s a : Int} : Decidable (slOK t s a) := by unfold slOK; infer_instance
def slR (t : Ten) (s a : Int) : List (List Int) × Int := if isT t = true then (if slOK t s a then (sliceT (turnN s.toNat t) a, 0) else ([], 2)) else ([], 1)

theorem s_SliceOf {v : Value} {t : Ten} {s a : Int} {h : AH} {Q : Value → AH → Prop} (hv : Ints h v t.ns) (hl : (t.ns.length : Int) ≤ 1048576)
    (hQ : ∀ v' h', h <+: h' → OwnRows h h' v' (slR t s a).1 → Q (.tuple #[v', I64 (slR t s a).2]) h') : WF S 44 [tenV t v, I64 s, I64 a] h Q := by
  refine WF_fn (fn := c44) rfl rfl ?_
  unfold c44
  try simp (maxSteps := 3000000) (disch := first | omega | (simp only [len_new, len_put, len_kill]; omega)) only [↓xpre, xpost, ↓reduceIte, Nat.reduceEqDiff, Nat.reduceAdd, Nat.reduceSub, Nat.reduceLeDiff, Nat.zero_add, Nat.sub_zero, tenV, hv.one]
  generalize hH1 : AH.new h _ = H1
  obtain ⟨hb1, p1, n1⟩ := new_facts hH1
  try simp (maxSteps := 3000000) (disch := first | omega | (simp only [len_new, len_put, len_kill]; omega)) only [↓xpre, xpost, ↓reduceIte, Nat.reduceEqDiff, Nat.reduceAdd, Nat.reduceSub, Nat.reduceLeDiff, Nat.zero_add, Nat.sub_zero, rdn_of hb1]
  refine s_l05Is (hv.pre p1) hl fun H2 p2 => ?_
  have hb2 := pre_get p2 hb1
  unfold slR at hQ
  cases h1 : isT t with
  | false =>
    rw [h1, if_neg (by decide)] at hQ
    try simp (maxSteps := 3000000) (disch := first | omega | (simp only [len_new, len_put, len_kill]; omega)) only [↓xpre, xpost, ↓reduceIte, Nat.reduceEqDiff, Nat.reduceAdd, Nat.reduceSub, Nat.reduceLeDiff, Nat.zero_add, Nat.sub_zero]
    exact hQ _ _ (p1.trans p2) (.inl ⟨rfl, rfl⟩)
  | true =>
    rw [h1, if_pos rfl] at hQ
    have f := isT_facts h1
    have no : ¬ slOK t s a → ∀ h', h <+: h' → Q (.tuple #[.slice none 0 0, I64 2]) h' := fun hn h' p => by
      rw [if_neg hn] at hQ
      exact hQ _ _ p (.inl ⟨rfl, rfl⟩)
    try simp (maxSteps := 3000000) (disch := first | omega | (simp only [len_new, len_put, len_kill]; omega)) only [↓xpre, xpost, ↓reduceIte, Nat.reduceEqDiff, Nat.reduceAdd, Nat.reduceSub, Nat.reduceLeDiff, Nat.zero_add, Nat.sub_zero]
    refine s_l01In ?_
    by_cases h2 : 0 ≤ s ∧ s ≤ 2
    case neg =>
      try simp (maxSteps := 3000000) (disch := first | omega | (simp only [len_new, len_put, len_kill]; omega)) only [↓xpre, xpost, ↓reduceIte, Nat.reduceEqDiff, Nat.reduceAdd, Nat.reduceSub, Nat.reduceLeDiff, Nat.zero_add, Nat.sub_zero, h2]
      exact no (fun q => h2 q.1) _ (p1.trans p2)
    try simp (maxSteps := 3000000) (disch := first | omega | (simp only [len_new, len_put, len_kill]; omega)) only [↓xpre, xpost, ↓reduceIte, Nat.reduceEqDiff, Nat.reduceAdd, Nat.reduceSub, Nat.reduceLeDiff, Nat.zero_add, Nat.sub_zero, h2, rdn_of hb2]
    refine s_l05Side hv.one h2 fun H3 p3 => ?_
    have hb3 := pre_get p3 hb2
    have hsd : 1 ≤ sideN t s.toNat ∧ sideN t s.toNat ≤ 9 := by
      have := f.i; have := f.j; have := f.k
      unfold sideN
      split
      · assumption
      · split <;> assumption
    try simp (maxSteps := 3000000) (disch := first | omega | (simp only [len_new, len_put, len_kill]; omega)) only [↓xpre, xpost, ↓reduceIte, Nat.reduceEqDiff, Nat.reduceAdd, Nat.reduceSub, Nat.reduceLeDiff, Nat.zero_add, Nat.sub_zero, wrap64_in]
    refine s_l01In ?_
    by_cases h3 : 0 ≤ a ∧ a ≤ sideN t s.toNat - 1
    case neg =>
      try simp (maxSteps := 3000000) (disch := first | omega | (simp only [len_new, len_put, len_kill]; omega)) only [↓xpre, xpost, ↓reduceIte, Nat.reduceEqDiff, Nat.reduceAdd, Nat.reduceSub, Nat.reduceLeDiff, Nat.zero_add, Nat.sub_zero, h3]
      exact no (fun q => h3 ⟨q.2.1, by have := q.2.2; omega⟩) _ ((p1.trans p2).trans p3)
    try simp (maxSteps := 3000000) (disch := first | omega | (simp only [len_new, len_put, len_kill]; omega)) only [↓xpre, xpost, ↓reduceIte, Nat.reduceEqDiff, Nat.reduceAdd, Nat.reduceSub, Nat.reduceLeDiff, Nat.zero_add, Nat.sub_zero, h3, rdn_of hb3]
    obtain ⟨k, rfl⟩ : ∃ k : Nat, s = k := ⟨s.toNat, by omega⟩
    rw [if_pos ⟨h2, by omega, by omega⟩, Int.toNat_natCast] at hQ
    rw [Int.toNat_natCast] at h3
    refine s_l05Turned (hv.pre ((p1.trans p2).trans p3)) f (by omega) fun v4 H4 p4 i4 => ?_
    try simp (maxSteps := 3000000) (disch := first | omega | (simp only [len_new, len_put, len_kill]; omega)) only [↓xpre, xpost, ↓reduceIte, Nat.reduceEqDiff, Nat.reduceAdd, Nat.reduceSub, Nat.reduceLeDiff, Nat.zero_add, Nat.sub_zero]
    refine s_l05Slice i4 (TF.turnN f) ⟨h3.1, by rw [turnN_side (by omega)]; omega⟩ fun v5 H5 p5 o5 => ?_
    try simp (maxSteps := 3000000) (disch := first | omega | (simp only [len_new, len_put, len_kill]; omega)) only [↓xpre, xpost, ↓reduceIte, Nat.reduceEqDiff, Nat.reduceAdd, Nat.reduceSub, Nat.reduceLeDiff, Nat.zero_add, Nat.sub_zero]
    exact hQ _ _ (((p1.trans p2).trans p3).trans (p4.trans p5)) (o5.lo (pre_len (((p1.trans p2).trans p3).trans p4)))

theorem i_SliceOf {v : Value} {t : Ten} {s a : Int} {h : AH} {Q : Value → AH → Prop} (hv : Ints h v t.ns) (hl : (t.ns.length : Int) ≤ 1048576)
    (hQ : ∀ v' h', h <+: h' → OwnRows h h' v' (slR t s a).1 → Q (.tuple #[v', I64 (slR t s a).2]) h') : WF S 45 [tenV t v, I64 s, I64 a] h Q := by
  refine WF_fn (fn := c45) rfl rfl ?_
  unfold c45
  try simp (maxSteps := 3000000) (disch := first | omega | (simp only [len_new, len_put, len_kill]; omega)) only [↓xpre, xpost, ↓reduceIte, Nat.reduceEqDiff, Nat.reduceAdd, Nat.reduceSub, Nat.reduceLeDiff, Nat.zero_add, Nat.sub_zero, tenV, hv.one]
  generalize hH1 : AH.new h _ = H1
  obtain ⟨hb1, p1, n1⟩ := new_facts hH1
  try simp (maxSteps := 3000000) (disch := first | omega | (simp only [len_new, len_put, len_kill]; omega)) only [↓xpre, xpost, ↓reduceIte, Nat.reduceEqDiff, Nat.reduceAdd, Nat.reduceSub, Nat.reduceLeDiff, Nat.zero_add, Nat.sub_zero, rdn_of hb1]
  refine i_IsTensor (hv.pre p1) hl fun H2 p2 => ?_
  have hb2 := pre_get p2 hb1
  unfold slR at hQ
  cases h1 : isT t with
  | false =>
    rw [h1, if_neg (by decide)] at hQ
    try simp (maxSteps := 3000000) (disch := first | omega | (simp only [len_new, len_put, len_kill]; omega)) only [↓xpre, xpost, ↓reduceIte, Nat.reduceEqDiff, Nat.reduceAdd, Nat.reduceSub, Nat.reduceLeDiff, Nat.zero_add, Nat.sub_zero]
    exact hQ _ _ (p1.trans p2) (.inl ⟨rfl, rfl⟩)
  | true =>
    rw [h1, if_pos rfl] at hQ
    have f := isT_facts h1
    have no : ¬ slOK t s a → ∀ h', h <+: h' → Q (.tuple #[.slice none 0 0, I64 2]) h' := fun hn h' p => by
      rw [if_neg hn] at hQ
      exact hQ _ _ p (.inl ⟨rfl, rfl⟩)
    try simp (maxSteps := 3000000) (disch := first | omega | (simp only [len_new, len_put, len_kill]; omega)) only [↓xpre, xpost, ↓reduceIte, Nat.reduceEqDiff, Nat.reduceAdd, Nat.reduceSub, Nat.reduceLeDiff, Nat.zero_add, Nat.sub_zero]
    by_cases h2 : s < 0
    · try simp (maxSteps := 3000000) (disch := first | omega | (simp only [len_new, len_put, len_kill]; omega)) only [↓xpre, xpost, ↓reduceIte, Nat.reduceEqDiff, Nat.reduceAdd, Nat.reduceSub, Nat.reduceLeDiff, Nat.zero_add, Nat.sub_zero, decide_eq_true h2]
      exact no (fun q => by have := q.1; omega) _ (p1.trans p2)
    try simp (maxSteps := 3000000) (disch := first | omega | (simp only [len_new, len_put, len_kill]; omega)) only [↓xpre, xpost, ↓reduceIte, Nat.reduceEqDiff, Nat.reduceAdd, Nat.reduceSub, Nat.reduceLeDiff, Nat.zero_add, Nat.sub_zero, decide_eq_false h2]
    by_cases h3 : 2 < s
    · try simp (maxSteps := 3000000) (disch := first | omega | (simp only [len_new, len_put, len_kill]; omega)) only [↓xpre, xpost, ↓reduceIte, Nat.reduceEqDiff, Nat.reduceAdd, Nat.reduceSub, Nat.reduceLeDiff, Nat.zero_add, Nat.sub_zero, decide_eq_true h3]
      exact no (fun q => by have := q.1; omega) _ (p1.trans p2)
    try simp (maxSteps := 3000000) (disch := first | omega | (simp only [len_new, len_put, len_kill]; omega)) only [↓xpre, xpost, ↓reduceIte, Nat.reduceEqDiff, Nat.reduceAdd, Nat.reduceSub, Nat.reduceLeDiff, Nat.zero_add, Nat.sub_zero, decide_eq_false h3]
    by_cases h4 : a < 0
    · try simp (maxSteps := 3000000) (disch := first | omega | (simp only [len_new, len_put, len_kill]; omega)) only [↓xpre, xpost, ↓reduceIte, Nat.reduceEqDiff, Nat.reduceAdd, Nat.reduceSub, Nat.reduceLeDiff, Nat.zero_add, Nat.sub_zero, decide_eq_true h4]
      exact no (fun q => by have := q.2; omega) _ (p1.trans p2)
    obtain ⟨k, rfl⟩ : ∃ k : Nat, s = k := ⟨s.toNat, by omega⟩
    try simp (maxSteps := 3000000) (disch := first | omega | (simp only [len_new, len_put, len_kill]; omega)) only [↓xpre, xpost, ↓reduceIte, Nat.reduceEqDiff, Nat.reduceAdd, Nat.reduceSub, Nat.reduceLeDiff, Nat.zero_add, Nat.sub_zero, decide_eq_false h4, rdn_of hb2]
    refine i_sides hv.one fun H3 p3 => ?_
    have hb3 := pre_get p3 hb2
    have e1 : idx1V 3 (.agg #[I64 t.i, I64 t.j, I64 t.k]) (I64 (k : Int)) = some (I64 (sideN t k)) := by
      have : k = 0 ∨ k = 1 ∨ k = 2 := by omega
      rcases this with rfl | rfl | rfl <;> rfl
    try simp (maxSteps := 3000000) (disch := first | omega | (simp only [len_new, len_put, len_kill]; omega)) only [↓xpre, xpost, ↓reduceIte, Nat.reduceEqDiff, Nat.reduceAdd, Nat.reduceSub, Nat.reduceLeDiff, Nat.zero_add, Nat.sub_zero, ↓WX_idx1, e1]
    by_cases h5 : sideN t k ≤ a
    · try simp (maxSteps := 3000000) (disch := first | omega | (simp only [len_new, len_put, len_kill]; omega)) only [↓xpre, xpost, ↓reduceIte, Nat.reduceEqDiff, Nat.reduceAdd, Nat.reduceSub, Nat.reduceLeDiff, Nat.zero_add, Nat.sub_zero, decide_eq_true h5]
      exact no (fun q => by have := q.2; rw [Int.toNat_natCast] at this; omega) _ ((p1.trans p2).trans p3)
    try simp (maxSteps := 3000000) (disch := first | omega | (simp only [len_new, len_put, len_kill]; omega)) only [↓xpre, xpost, ↓reduceIte, Nat.reduceEqDiff, Nat.reduceAdd, Nat.reduceSub, Nat.reduceLeDiff, Nat.zero_add, Nat.sub_zero, decide_eq_false h5, rdn_of hb3]
    rw [if_pos ⟨by omega, by omega, by rw [Int.toNat_natCast]; omega⟩, Int.toNat_natCast] at hQ
    refine i_turned (hv.pre ((p1.trans p2).trans p3)) f (by omega) fun v4 H4 p4 i4 => ?_
    have fu := TF.turnN (n := k) f
    have hsd := turnN_side (t := t) (s := k) (by omega)
    generalize turnN k t = u at *
    have jk := mul_in1 (A := 9) (B := 9) fu.j fu.k
    obtain ⟨A, rfl⟩ : ∃ A : Nat, a = A := ⟨a.toNat, by omega⟩
    obtain ⟨J, hJ⟩ : ∃ J : Nat, u.j = J := ⟨u.j.toNat, by have := fu.j; omega⟩
    obtain ⟨K, hK⟩ : ∃ K : Nat, u.k = K := ⟨u.k.toNat, by have := fu.k; omega⟩
    obtain ⟨I, hI⟩ : ∃ I : Nat, u.i = I := ⟨u.i.toNat, by have := fu.i; omega⟩
    have hl' : u.ns.length = I * (J * K) := by
      have hl := fu.len
      rw [hI, hJ, hK, Int.mul_assoc] at hl
      exact_mod_cast hl
    have ham : A * (J * K) + J * K ≤ u.ns.length := by rw [hl']; exact mul_row (by omega)
    have hle := fu.le
    have hsl := parts_slice fu hJ hK (a := A) (by omega)
    have ejk : u.j * u.k = ((J * K : Nat) : Int) := by rw [hJ, hK]; push_cast; rfl
    have ea : (A : Int) * ((J * K : Nat) : Int) = ((A * (J * K) : Nat) : Int) := by push_cast; rfl
    have ea1 : ((A : Int) + 1) * ((J * K : Nat) : Int) = ((A * (J * K) : Nat) : Int) + ((J * K : Nat) : Int) := by rw [Int.add_mul, Int.one_mul, ea]
    rw [ejk] at jk
    try simp (maxSteps := 3000000) (disch := first | omega | (simp only [len_new, len_put, len_kill]; omega)) only [↓xpre, xpost, ↓reduceIte, Nat.reduceEqDiff, Nat.reduceAdd, Nat.reduceSub, Nat.reduceLeDiff, Nat.zero_add, Nat.sub_zero, tenV, i4.one]
    generalize hH5 : AH.new H4 _ = H5
    obtain ⟨hb5, p5, n5⟩ := new_facts hH5
    have i5 := i4.pre p5
    obtain ⟨v', e6, i6⟩ := i5.slcV (k1 := .i64) (k2 := .i64) (l := ((A * (J * K) : Nat) : Int)) (u := ((A * (J * K) : Nat) : Int) + ((J * K : Nat) : Int)) (by omega)
    rw [Int.toNat_natCast, show (((A * (J * K) : Nat) : Int) + ((J * K : Nat) : Int) - ((A * (J * K) : Nat) : Int)).toNat = J * K by omega] at i6
    have rl : ((u.ns.drop (A * (J * K))).take (J * K)).length = J * K := by rw [List.length_take, List.length_drop]; omega
    have fi := fu.i
    try simp (maxSteps := 3000000) (disch := first | omega | (simp only [len_new, len_put, len_kill]; omega)) only [↓xpre, xpost, ↓reduceIte, Nat.reduceEqDiff, Nat.reduceAdd, Nat.reduceSub, Nat.reduceLeDiff, Nat.zero_add, Nat.sub_zero, rd1_of hb5, ejk, ea, ea1, wrap64_in, ↓WX_slc, omapF_some, omapF_none, e6]
    rw [hK]
    refine i_parted (n := J) i6 (by omega) (by have := fu.k; omega) rl fun v7 H7 p7 o7 => ?_
    rw [hsl] at o7
    try simp (maxSteps := 3000000) (disch := first | omega | (simp only [len_new, len_put, len_kill]; omega)) only [↓xpre, xpost, ↓reduceIte, Nat.reduceEqDiff, Nat.reduceAdd, Nat.reduceSub, Nat.reduceLeDiff, Nat.zero_add, Nat.sub_zero]
    exact hQ _ _ (((p1.trans p2).trans p3).trans ((p4.trans p5).trans p7)) (o7.lo (pre_len (((p1.trans p2).trans p3).trans (p4.trans p5))))
end Go.Proofs.Ytnjhhgfpclngcaa.X
