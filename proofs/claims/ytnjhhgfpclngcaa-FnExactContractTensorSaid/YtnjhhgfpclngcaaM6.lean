/- Texts of one claim, put together by merge.py: XF33, XF34, XF36. -/
import Derived.Test.YtnjhhgfpclngcaaM5
import Derived.Test.YtnjhhgfpclngcaaM4
/- SliceOf, both sides. -/
set_option linter.unusedVariables false
set_option linter.unusedSimpArgs false
set_option maxRecDepth 20000
set_option maxHeartbeats 4000000
namespace Go.Proofs.Ytnjhhgfpclngcaa.X
open Go Go.RowKit

theorem cut_get {α : Type} {d : α} {l : List α} {a n k : Nat} (h : k < n) : ((l.drop a).take n).getD k d = l.getD (a + k) d := by
  simp [List.getD_eq_getElem?_getD, List.getElem?_take, List.getElem?_drop, h]
theorem parts_slice {u : Ten} {a J K : Nat} (f : TF u) (hj : u.j = J) (hk : u.k = K) (ha : (a : Int) < u.i) : parts ((u.ns.drop (a * (J * K))).take (J * K)) K J = sliceT u a := by
  have hJ : u.j.toNat = J := by omega
  have hK : u.k.toNat = K := by omega
  have hl : (u.ns.length : Int) = u.i * u.j * u.k := f.len
  obtain ⟨I, hI⟩ : ∃ I : Nat, u.i = I := ⟨u.i.toNat, by have := f.i; omega⟩
  have hl' : u.ns.length = I * (J * K) := by
    rw [hI, hj, hk, Int.mul_assoc] at hl
    exact_mod_cast hl
  have ham : a * (J * K) + J * K ≤ u.ns.length := by rw [hl']; exact mul_row (by omega)
  refine getD_ext (by rw [parts_len, sliceT_len, hJ]) fun j hj' => ?_
  rw [parts_len] at hj'
  rw [parts_get hj', sliceT_get (by omega), hK]
  have hr := mul_row (w := K) hj'
  refine gen_ext (by simp; omega) fun k hk' => ?_
  rw [cut_get hk', cut_get (by omega)]
  unfold tat nth
  congr 1
  rw [hj, hk]
  have e1 : ((a : Int) * (J : Int) + (j : Int)) * (K : Int) + (k : Int) = (((a * J + j) * K + k : Nat) : Int) := by push_cast; rfl
  rw [e1, Int.toNat_natCast, Nat.add_mul, Nat.mul_assoc]
  omega
def sideN (t : Ten) (s : Nat) : Int := if s = 0 then t.i else if s = 1 then t.j else t.k
theorem turnN_side {t : Ten} {s : Nat} (h : s ≤ 2) : (turnN s t).i = sideN t s := by
  have : s = 0 ∨ s = 1 ∨ s = 2 := by omega
  rcases this with rfl | rfl | rfl <;> rfl
theorem s_l05Side {v : Value} {t : Ten} {s : Int} {h : AH} {Q : Value → AH → Prop} (hv : isOne v = true) (hs : 0 ≤ s ∧ s ≤ 2) (hQ : ∀ h', h <+: h' → Q (I64 (sideN t s.toNat)) h') : WF S 88 [tenV t v, I64 s] h Q := by
  refine WF_fn (fn := c88) rfl rfl ?_
  unfold c88
  try simp (maxSteps := 3000000) (disch := first | omega | (simp only [len_new, len_put, len_kill]; omega)) only [↓xpre, xpost, ↓reduceIte, Nat.reduceEqDiff, Nat.reduceAdd, Nat.reduceSub, Nat.reduceLeDiff, Nat.zero_add, Nat.sub_zero, tenV, hv]
  have : s = 0 ∨ s = 1 ∨ s = 2 := by omega
  rcases this with rfl | rfl | rfl
  · try simp (maxSteps := 3000000) (disch := first | omega | (simp only [len_new, len_put, len_kill]; omega)) only [↓xpre, xpost, ↓reduceIte, Nat.reduceEqDiff, Nat.reduceAdd, Nat.reduceSub, Nat.reduceLeDiff, Nat.zero_add, Nat.sub_zero]
    exact hQ _ (pre_new (List.prefix_refl _))
  · try simp (maxSteps := 3000000) (disch := first | omega | (simp only [len_new, len_put, len_kill]; omega)) only [↓xpre, xpost, ↓reduceIte, Nat.reduceEqDiff, Nat.reduceAdd, Nat.reduceSub, Nat.reduceLeDiff, Nat.zero_add, Nat.sub_zero, decide_eq_false (show ¬ (1 : Int) = 0 by decide)]
    exact hQ _ (pre_new (List.prefix_refl _))
  · try simp (maxSteps := 3000000) (disch := first | omega | (simp only [len_new, len_put, len_kill]; omega)) only [↓xpre, xpost, ↓reduceIte, Nat.reduceEqDiff, Nat.reduceAdd, Nat.reduceSub, Nat.reduceLeDiff, Nat.zero_add, Nat.sub_zero, decide_eq_false (show ¬ (2 : Int) = 0 by decide), decide_eq_false (show ¬ (2 : Int) = 1 by decide)]
    exact hQ _ (pre_new (List.prefix_refl _))
def slOK (t : Ten) (s a : Int) : Prop := (0 ≤ s ∧ s ≤ 2) ∧ 0 ≤ a ∧ a < sideN t s.toNat
instance {t : Ten} {s a : Int} : Decidable (slOK t s a) := by unfold slOK; infer_instance
def slR (t : Ten) (s a : Int) : List (List Int) × Int := if isT t = true then (if slOK t s a then (sliceT (turnN s.toNat t) a, 0) else ([], 2)) else ([], 1)

theorem s_SliceOf {v : Value} {t : Ten} {s a : Int} {h : AH} {Q : Value → AH → Prop} (hv : Ints h v t.ns) (hl : (t.ns.length : Int) ≤ 1048576)
    (hQ : ∀ v' h', h <+: h' → OwnRows h h' v' (slR t s a).1 → Q (.tuple #[v', I64 (slR t s a).2]) h') : WF S 44 [tenV t v, I64 s, I64 a] h Q := by
  refine WF_fn (fn := c44) rfl rfl ?_
  unfold c44
  try simp (maxSteps := 3000000) (disch := first | omega | (simp only [len_new, len_put, len_kill]; omega)) only [↓xpre, xpost, ↓reduceIte, Nat.reduceEqDiff, Nat.reduceAdd, Nat.reduceSub, Nat.reduceLeDiff, Nat.zero_add, Nat.sub_zero, tenV, hv.one]
  generalize hH1 : AH.new h _ = H1
  obtain ⟨hb1, p1, n1⟩ := new_facts hH1
  try simp (maxSteps := 3000000) (disch := first | omega | (simp only [len_new, len_put, len_kill]; omega)) only [↓xpre, xpost, ↓reduceIte, Nat.reduceEqDiff, Nat.reduceAdd, Nat.reduceSub, Nat.reduceLeDiff, Nat.zero_add, Nat.sub_zero, rdn_of hb1]
  refine s_l05Is (hv.pre p1) hl fun H2 p2 => ?_
  have hb2 := pre_get p2 hb1
  unfold slR at hQ
  cases h1 : isT t with
  | false =>
    rw [h1, if_neg (by decide)] at hQ
    try simp (maxSteps := 3000000) (disch := first | omega | (simp only [len_new, len_put, len_kill]; omega)) only [↓xpre, xpost, ↓reduceIte, Nat.reduceEqDiff, Nat.reduceAdd, Nat.reduceSub, Nat.reduceLeDiff, Nat.zero_add, Nat.sub_zero]
    exact hQ _ _ (p1.trans p2) (.inl ⟨rfl, rfl⟩)
  | true =>
    rw [h1, if_pos rfl] at hQ
    have f := isT_facts h1
    have no : ¬ slOK t s a → ∀ h', h <+: h' → Q (.tuple #[.slice none 0 0, I64 2]) h' := fun hn h' p => by
      rw [if_neg hn] at hQ
      exact hQ _ _ p (.inl ⟨rfl, rfl⟩)
    try simp (maxSteps := 3000000) (disch := first | omega | (simp only [len_new, len_put, len_kill]; omega)) only [↓xpre, xpost, ↓reduceIte, Nat.reduceEqDiff, Nat.reduceAdd, Nat.reduceSub, Nat.reduceLeDiff, Nat.zero_add, Nat.sub_zero]
    refine s_l01In ?_
    by_cases h2 : 0 ≤ s ∧ s ≤ 2
    case neg =>
      try simp (maxSteps := 3000000) (disch := first | omega | (simp only [len_new, len_put, len_kill]; omega)) only [↓xpre, xpost, ↓reduceIte, Nat.reduceEqDiff, Nat.reduceAdd, Nat.reduceSub, Nat.reduceLeDiff, Nat.zero_add, Nat.sub_zero, h2]
      exact no (fun q => h2 q.1) _ (p1.trans p2)
    try simp (maxSteps := 3000000) (disch := first | omega | (simp only [len_new, len_put, len_kill]; omega)) only [↓xpre, xpost, ↓reduceIte, Nat.reduceEqDiff, Nat.reduceAdd, Nat.reduceSub, Nat.reduceLeDiff, Nat.zero_add, Nat.sub_zero, h2, rdn_of hb2]
    refine s_l05Side hv.one h2 fun H3 p3 => ?_
    have hb3 := pre_get p3 hb2
    have hsd : 1 ≤ sideN t s.toNat ∧ sideN t s.toNat ≤ 9 := by
      have := f.i; have := f.j; have := f.k
      unfold sideN
      split
      · assumption
      · split <;> assumption
    try simp (maxSteps := 3000000) (disch := first | omega | (simp only [len_new, len_put, len_kill]; omega)) only [↓xpre, xpost, ↓reduceIte, Nat.reduceEqDiff, Nat.reduceAdd, Nat.reduceSub, Nat.reduceLeDiff, Nat.zero_add, Nat.sub_zero, wrap64_in]
    refine s_l01In ?_
    by_cases h3 : 0 ≤ a ∧ a ≤ sideN t s.toNat - 1
    case neg =>
      try simp (maxSteps := 3000000) (disch := first | omega | (simp only [len_new, len_put, len_kill]; omega)) only [↓xpre, xpost, ↓reduceIte, Nat.reduceEqDiff, Nat.reduceAdd, Nat.reduceSub, Nat.reduceLeDiff, Nat.zero_add, Nat.sub_zero, h3]
      exact no (fun q => h3 ⟨q.2.1, by have := q.2.2; omega⟩) _ ((p1.trans p2).trans p3)
    try simp (maxSteps := 3000000) (disch := first | omega | (simp only [len_new, len_put, len_kill]; omega)) only [↓xpre, xpost, ↓reduceIte, Nat.reduceEqDiff, Nat.reduceAdd, Nat.reduceSub, Nat.reduceLeDiff, Nat.zero_add, Nat.sub_zero, h3, rdn_of hb3]
    obtain ⟨k, rfl⟩ : ∃ k : Nat, s = k := ⟨s.toNat, by omega⟩
    rw [if_pos ⟨h2, by omega, by omega⟩, Int.toNat_natCast] at hQ
    rw [Int.toNat_natCast] at h3
    refine s_l05Turned (hv.pre ((p1.trans p2).trans p3)) f (by omega) fun v4 H4 p4 i4 => ?_
    try simp (maxSteps := 3000000) (disch := first | omega | (simp only [len_new, len_put, len_kill]; omega)) only [↓xpre, xpost, ↓reduceIte, Nat.reduceEqDiff, Nat.reduceAdd, Nat.reduceSub, Nat.reduceLeDiff, Nat.zero_add, Nat.sub_zero]
    refine s_l05Slice i4 (TF.turnN f) ⟨h3.1, by rw [turnN_side (by omega)]; omega⟩ fun v5 H5 p5 o5 => ?_
    try simp (maxSteps := 3000000) (disch := first | omega | (simp only [len_new, len_put, len_kill]; omega)) only [↓xpre, xpost, ↓reduceIte, Nat.reduceEqDiff, Nat.reduceAdd, Nat.reduceSub, Nat.reduceLeDiff, Nat.zero_add, Nat.sub_zero]
    exact hQ _ _ (((p1.trans p2).trans p3).trans (p4.trans p5)) (o5.lo (pre_len (((p1.trans p2).trans p3).trans p4)))

theorem i_SliceOf {v : Value} {t : Ten} {s a : Int} {h : AH} {Q : Value → AH → Prop} (hv : Ints h v t.ns) (hl : (t.ns.length : Int) ≤ 1048576)
    (hQ : ∀ v' h', h <+: h' → OwnRows h h' v' (slR t s a).1 → Q (.tuple #[v', I64 (slR t s a).2]) h') : WF S 45 [tenV t v, I64 s, I64 a] h Q := by
  refine WF_fn (fn := c45) rfl rfl ?_
  unfold c45
  try simp (maxSteps := 3000000) (disch := first | omega | (simp only [len_new, len_put, len_kill]; omega)) only [↓xpre, xpost, ↓reduceIte, Nat.reduceEqDiff, Nat.reduceAdd, Nat.reduceSub, Nat.reduceLeDiff, Nat.zero_add, Nat.sub_zero, tenV, hv.one]
  generalize hH1 : AH.new h _ = H1
  obtain ⟨hb1, p1, n1⟩ := new_facts hH1
  try simp (maxSteps := 3000000) (disch := first | omega | (simp only [len_new, len_put, len_kill]; omega)) only [↓xpre, xpost, ↓reduceIte, Nat.reduceEqDiff, Nat.reduceAdd, Nat.reduceSub, Nat.reduceLeDiff, Nat.zero_add, Nat.sub_zero, rdn_of hb1]
  refine i_IsTensor (hv.pre p1) hl fun H2 p2 => ?_
  have hb2 := pre_get p2 hb1
  unfold slR at hQ
  cases h1 : isT t with
  | false =>
    rw [h1, if_neg (by decide)] at hQ
    try simp (maxSteps := 3000000) (disch := first | omega | (simp only [len_new, len_put, len_kill]; omega)) only [↓xpre, xpost, ↓reduceIte, Nat.reduceEqDiff, Nat.reduceAdd, Nat.reduceSub, Nat.reduceLeDiff, Nat.zero_add, Nat.sub_zero]
    exact hQ _ _ (p1.trans p2) (.inl ⟨rfl, rfl⟩)
  | true =>
    rw [h1, if_pos rfl] at hQ
    have f := isT_facts h1
    have no : ¬ slOK t s a → ∀ h', h <+: h' → Q (.tuple #[.slice none 0 0, I64 2]) h' := fun hn h' p => by
      rw [if_neg hn] at hQ
      exact hQ _ _ p (.inl ⟨rfl, rfl⟩)
    try simp (maxSteps := 3000000) (disch := first | omega | (simp only [len_new, len_put, len_kill]; omega)) only [↓xpre, xpost, ↓reduceIte, Nat.reduceEqDiff, Nat.reduceAdd, Nat.reduceSub, Nat.reduceLeDiff, Nat.zero_add, Nat.sub_zero]
    by_cases h2 : s < 0
    · try simp (maxSteps := 3000000) (disch := first | omega | (simp only [len_new, len_put, len_kill]; omega)) only [↓xpre, xpost, ↓reduceIte, Nat.reduceEqDiff, Nat.reduceAdd, Nat.reduceSub, Nat.reduceLeDiff, Nat.zero_add, Nat.sub_zero, decide_eq_true h2]
      exact no (fun q => by have := q.1; omega) _ (p1.trans p2)
    try simp (maxSteps := 3000000) (disch := first | omega | (simp only [len_new, len_put, len_kill]; omega)) only [↓xpre, xpost, ↓reduceIte, Nat.reduceEqDiff, Nat.reduceAdd, Nat.reduceSub, Nat.reduceLeDiff, Nat.zero_add, Nat.sub_zero, decide_eq_false h2]
    by_cases h3 : 2 < s
    · try simp (maxSteps := 3000000) (disch := first | omega | (simp only [len_new, len_put, len_kill]; omega)) only [↓xpre, xpost, ↓reduceIte, Nat.reduceEqDiff, Nat.reduceAdd, Nat.reduceSub, Nat.reduceLeDiff, Nat.zero_add, Nat.sub_zero, decide_eq_true h3]
      exact no (fun q => by have := q.1; omega) _ (p1.trans p2)
    try simp (maxSteps := 3000000) (disch := first | omega | (simp only [len_new, len_put, len_kill]; omega)) only [↓xpre, xpost, ↓reduceIte, Nat.reduceEqDiff, Nat.reduceAdd, Nat.reduceSub, Nat.reduceLeDiff, Nat.zero_add, Nat.sub_zero, decide_eq_false h3]
    by_cases h4 : a < 0
    · try simp (maxSteps := 3000000) (disch := first | omega | (simp only [len_new, len_put, len_kill]; omega)) only [↓xpre, xpost, ↓reduceIte, Nat.reduceEqDiff, Nat.reduceAdd, Nat.reduceSub, Nat.reduceLeDiff, Nat.zero_add, Nat.sub_zero, decide_eq_true h4]
      exact no (fun q => by have := q.2; omega) _ (p1.trans p2)
    obtain ⟨k, rfl⟩ : ∃ k : Nat, s = k := ⟨s.toNat, by omega⟩
    try simp (maxSteps := 3000000) (disch := first | omega | (simp only [len_new, len_put, len_kill]; omega)) only [↓xpre, xpost, ↓reduceIte, Nat.reduceEqDiff, Nat.reduceAdd, Nat.reduceSub, Nat.reduceLeDiff, Nat.zero_add, Nat.sub_zero, decide_eq_false h4, rdn_of hb2]
    refine i_sides hv.one fun H3 p3 => ?_
    have hb3 := pre_get p3 hb2
    have e1 : idx1V 3 (.agg #[I64 t.i, I64 t.j, I64 t.k]) (I64 (k : Int)) = some (I64 (sideN t k)) := by
      have : k = 0 ∨ k = 1 ∨ k = 2 := by omega
      rcases this with rfl | rfl | rfl <;> rfl
    try simp (maxSteps := 3000000) (disch := first | omega | (simp only [len_new, len_put, len_kill]; omega)) only [↓xpre, xpost, ↓reduceIte, Nat.reduceEqDiff, Nat.reduceAdd, Nat.reduceSub, Nat.reduceLeDiff, Nat.zero_add, Nat.sub_zero, ↓WX_idx1, e1]
    by_cases h5 : sideN t k ≤ a
    · try simp (maxSteps := 3000000) (disch := first | omega | (simp only [len_new, len_put, len_kill]; omega)) only [↓xpre, xpost, ↓reduceIte, Nat.reduceEqDiff, Nat.reduceAdd, Nat.reduceSub, Nat.reduceLeDiff, Nat.zero_add, Nat.sub_zero, decide_eq_true h5]
      exact no (fun q => by have := q.2; rw [Int.toNat_natCast] at this; omega) _ ((p1.trans p2).trans p3)
    try simp (maxSteps := 3000000) (disch := first | omega | (simp only [len_new, len_put, len_kill]; omega)) only [↓xpre, xpost, ↓reduceIte, Nat.reduceEqDiff, Nat.reduceAdd, Nat.reduceSub, Nat.reduceLeDiff, Nat.zero_add, Nat.sub_zero, decide_eq_false h5, rdn_of hb3]
    rw [if_pos ⟨by omega, by omega, by rw [Int.toNat_natCast]; omega⟩, Int.toNat_natCast] at hQ
    refine i_turned (hv.pre ((p1.trans p2).trans p3)) f (by omega) fun v4 H4 p4 i4 => ?_
    have fu := TF.turnN (n := k) f
    have hsd := turnN_side (t := t) (s := k) (by omega)
    generalize turnN k t = u at *
    have jk := mul_in1 (A := 9) (B := 9) fu.j fu.k
    obtain ⟨A, rfl⟩ : ∃ A : Nat, a = A := ⟨a.toNat, by omega⟩
    obtain ⟨J, hJ⟩ : ∃ J : Nat, u.j = J := ⟨u.j.toNat, by have := fu.j; omega⟩
    obtain ⟨K, hK⟩ : ∃ K : Nat, u.k = K := ⟨u.k.toNat, by have := fu.k; omega⟩
    obtain ⟨I, hI⟩ : ∃ I : Nat, u.i = I := ⟨u.i.toNat, by have := fu.i; omega⟩
    have hl' : u.ns.length = I * (J * K) := by
      have hl := fu.len
      rw [hI, hJ, hK, Int.mul_assoc] at hl
      exact_mod_cast hl
    have ham : A * (J * K) + J * K ≤ u.ns.length := by rw [hl']; exact mul_row (by omega)
    have hle := fu.le
    have hsl := parts_slice fu hJ hK (a := A) (by omega)
    have ejk : u.j * u.k = ((J * K : Nat) : Int) := by rw [hJ, hK]; push_cast; rfl
    have ea : (A : Int) * ((J * K : Nat) : Int) = ((A * (J * K) : Nat) : Int) := by push_cast; rfl
    have ea1 : ((A : Int) + 1) * ((J * K : Nat) : Int) = ((A * (J * K) : Nat) : Int) + ((J * K : Nat) : Int) := by rw [Int.add_mul, Int.one_mul, ea]
    rw [ejk] at jk
    try simp (maxSteps := 3000000) (disch := first | omega | (simp only [len_new, len_put, len_kill]; omega)) only [↓xpre, xpost, ↓reduceIte, Nat.reduceEqDiff, Nat.reduceAdd, Nat.reduceSub, Nat.reduceLeDiff, Nat.zero_add, Nat.sub_zero, tenV, i4.one]
    generalize hH5 : AH.new H4 _ = H5
    obtain ⟨hb5, p5, n5⟩ := new_facts hH5
    have i5 := i4.pre p5
    obtain ⟨v', e6, i6⟩ := i5.slcV (k1 := .i64) (k2 := .i64) (l := ((A * (J * K) : Nat) : Int)) (u := ((A * (J * K) : Nat) : Int) + ((J * K : Nat) : Int)) (by omega)
    rw [Int.toNat_natCast, show (((A * (J * K) : Nat) : Int) + ((J * K : Nat) : Int) - ((A * (J * K) : Nat) : Int)).toNat = J * K by omega] at i6
    have rl : ((u.ns.drop (A * (J * K))).take (J * K)).length = J * K := by rw [List.length_take, List.length_drop]; omega
    have fi := fu.i
    try simp (maxSteps := 3000000) (disch := first | omega | (simp only [len_new, len_put, len_kill]; omega)) only [↓xpre, xpost, ↓reduceIte, Nat.reduceEqDiff, Nat.reduceAdd, Nat.reduceSub, Nat.reduceLeDiff, Nat.zero_add, Nat.sub_zero, rd1_of hb5, ejk, ea, ea1, wrap64_in, ↓WX_slc, omapF_some, omapF_none, e6]
    rw [hK]
    refine i_parted (n := J) i6 (by omega) (by have := fu.k; omega) rl fun v7 H7 p7 o7 => ?_
    rw [hsl] at o7
    try simp (maxSteps := 3000000) (disch := first | omega | (simp only [len_new, len_put, len_kill]; omega)) only [↓xpre, xpost, ↓reduceIte, Nat.reduceEqDiff, Nat.reduceAdd, Nat.reduceSub, Nat.reduceLeDiff, Nat.zero_add, Nat.sub_zero]
    exact hQ _ _ (((p1.trans p2).trans p3).trans ((p4.trans p5).trans p7)) (o7.lo (pre_len (((p1.trans p2).trans p3).trans (p4.trans p5))))
end Go.Proofs.Ytnjhhgfpclngcaa.X

/- The results of SliceOf are small. -/
set_option linter.unusedVariables false
set_option linter.unusedSimpArgs false
set_option maxRecDepth 20000
set_option maxHeartbeats 4000000
namespace Go.Proofs.Ytnjhhgfpclngcaa.X
open Go Go.RowKit

theorem smallM_of {rows : List (List Int)} {A B : Nat} (h1 : rows.length ≤ A) (h2 : ∀ i, i < rows.length → (rows.getD i []).length ≤ B) (hAB : A ≤ 1000 ∧ B ≤ 1000) : SmallM rows := by
  have ht : ∀ i, i ≤ rows.length → tot rows i ≤ i * 1000 := fun i => by
    induction i with
    | zero => intro _; simp
    | succ i ih =>
      intro hi
      have e := tot_succ (rows := rows) (i := i) (by omega)
      have := ih (by omega)
      have := h2 i (by omega)
      omega
  have := ht rows.length (Nat.le_refl _)
  exact ⟨by omega, fun i hi => by have := h2 i hi; omega, by omega⟩
theorem smallM_nil : SmallM [] := ⟨by simp, by simp, by simp [tot]⟩
theorem slR_small (t : Ten) (s a : Int) : SmallM (slR t s a).1 := by
  unfold slR
  split
  · rename_i h
    have fu := TF.turnN (n := s.toNat) (isT_facts h)
    split
    · have := fu.j
      have := fu.k
      refine smallM_of (A := 9) (B := 9) (by rw [sliceT_len]; omega) (fun i hi => ?_) (by omega)
      rw [sliceT_len] at hi
      rw [sliceT_get hi, gen_len]
      omega
    · exact smallM_nil
  · exact smallM_nil
end Go.Proofs.Ytnjhhgfpclngcaa.X

/- ContractTensor, both sides. -/
set_option linter.unusedVariables false
set_option linter.unusedSimpArgs false
set_option maxRecDepth 20000
set_option maxHeartbeats 4000000
namespace Go.Proofs.Ytnjhhgfpclngcaa.X
open Go Go.RowKit

def conA (u : Ten) (ns : List Int) (b c : Nat) : Nat → Int
  | 0 => 0
  | a + 1 => (conA u ns b c a + ns.getD a 0 * tat u a b c).tmod u.p
def conM (u : Ten) (ns : List Int) : List (List Int) := (List.range u.j.toNat).map fun b => gen u.k.toNat fun c => conA u ns b c u.i.toNat
def coOK (t : Ten) (s : Int) (ns : List Int) : Prop := (0 ≤ s ∧ s ≤ 2) ∧ allIn t.p ns = true ∧ (ns.length : Int) = sideN t s.toNat
instance {t : Ten} {s : Int} {ns : List Int} : Decidable (coOK t s ns) := by unfold coOK; infer_instance
def coR (t : Ten) (s : Int) (ns : List Int) : List (List Int) × Int := if isT t = true then (if coOK t s ns then (conM (turnN s.toNat t) ns, 0) else ([], 2)) else ([], 1)
theorem conM_len {u : Ten} {ns : List Int} : (conM u ns).length = u.j.toNat := by simp [conM]
theorem conM_get {u : Ten} {ns : List Int} {b : Nat} (hb : b < u.j.toNat) : (conM u ns).getD b [] = gen u.k.toNat fun c => conA u ns b c u.i.toNat := by
  simp [conM, List.getD_eq_getElem?_getD, List.getElem?_map, List.getElem?_range hb]
theorem coR_small (t : Ten) (s : Int) (ns : List Int) : SmallM (coR t s ns).1 := by
  unfold coR
  split
  · rename_i h
    have fu := TF.turnN (n := s.toNat) (isT_facts h)
    split
    · have := fu.j
      have := fu.k
      refine smallM_of (A := 9) (B := 9) (by rw [conM_len]; omega) (fun i hi => ?_) (by omega)
      rw [conM_len] at hi
      rw [conM_get hi, gen_len]
      omega
    · exact smallM_nil
  · exact smallM_nil
theorem conA_in {u : Ten} {ns : List Int} (f : TF u) (hn : allIn u.p ns = true) (hl : (ns.length : Int) = u.i) {b c : Nat} (hb : (b : Int) < u.j) (hc : (c : Int) < u.k) : ∀ {a : Nat}, (a : Int) ≤ u.i → 0 ≤ conA u ns b c a ∧ conA u ns b c a < u.p
  | 0, _ => ⟨Int.le_refl _, by have := f.p; simp only [conA]; omega⟩
  | a + 1, h => by
    have fp := f.p
    have h1 := conA_in f hn hl hb hc (a := a) (by omega)
    have h2 := allIn_iff.1 hn a (by omega)
    have h3 := tat_in f (i := a) (j := b) (k := c) (by omega) (by omega) (by omega)
    have m := mul_in (A := 4) (B := 4) (a := ns.getD a 0) (b := tat u a b c) (by omega) (by omega)
    exact tmod_nn (by omega) (by omega)
theorem con_step {u : Ten} {ns : List Int} (f : TF u) (hn : allIn u.p ns = true) (hl : (ns.length : Int) = u.i) {a b c : Nat} (ha : (a : Int) < u.i) (hb : (b : Int) < u.j) (hc : (c : Int) < u.k) :
    (0 ≤ conA u ns b c a ∧ conA u ns b c a < u.p) ∧ (0 ≤ ns.getD a 0 ∧ ns.getD a 0 < u.p) ∧ (0 ≤ tat u a b c ∧ tat u a b c < u.p) ∧ (0 ≤ ns.getD a 0 * tat u a b c ∧ ns.getD a 0 * tat u a b c ≤ 16) := by
  have fp := f.p
  have h2 := allIn_iff.1 hn a (by omega)
  have h3 := tat_in f (i := a) (j := b) (k := c) (by omega) (by omega) (by omega)
  exact ⟨conA_in f hn hl hb hc (by omega), h2, h3, mul_in (A := 4) (B := 4) (by omega) (by omega)⟩
/-- A row under way. -/
def rowS (u : Ten) (ns : List Int) (I b c a : Nat) (x : Nat) : Int := if x < c then conA u ns b x I else if x = c then conA u ns b c a else 0
theorem rowS_zero {u : Ten} {ns : List Int} {I b K : Nat} : gen K (rowS u ns I b 0 0) = List.replicate K 0 := (gen_ext (by simp) fun i hi => by
  simp only [List.getD_eq_getElem?_getD, List.getElem?_replicate, hi, if_true, Option.getD_some, rowS]
  by_cases h : i = 0
  · subst h
    simp [conA]
  · simp [h]).symm
theorem rowS_set {u : Ten} {ns : List Int} {I b c a K : Nat} (hc : c < K) : (gen K (rowS u ns I b c a)).set c (conA u ns b c (a + 1)) = gen K (rowS u ns I b c (a + 1)) := by
  refine gen_ext (by rw [List.length_set, gen_len]) fun x hx => ?_
  rw [set_getD (by rw [gen_len]; exact hc)]
  by_cases h : x = c
  · subst h
    rw [if_pos rfl]
    simp [rowS]
  · rw [if_neg h, gen_get hx]
    simp [rowS, h]
theorem rowS_next {u : Ten} {ns : List Int} {I b c K : Nat} : gen K (rowS u ns I b c I) = gen K (rowS u ns I b (c + 1) 0) := gen_congr fun x hx => by
  unfold rowS
  by_cases h1 : x < c
  · rw [if_pos h1, if_pos (by omega)]
  by_cases h2 : x = c
  · subst h2
    rw [if_neg h1, if_pos rfl, if_pos (by omega)]
  · rw [if_neg h1, if_neg h2, if_neg (by omega)]
    by_cases h3 : x = c + 1
    · rw [if_pos h3]
      rfl
    · rw [if_neg h3]
theorem rowS_all {u : Ten} {ns : List Int} {I b K : Nat} : gen K (rowS u ns I b K 0) = gen K fun c => conA u ns b c I := gen_congr fun x hx => by
  unfold rowS
  rw [if_pos hx]
theorem rowS_at {u : Ten} {ns : List Int} {I b c a K : Nat} (hc : c < K) : (gen K (rowS u ns I b c a)).getD c 0 = conA u ns b c a := by
  rw [gen_get hc]
  simp [rowS]
theorem map_get {l : List Int} {j : Nat} (hj : j < l.length) : (l.map (Value.int .i64))[j]? = some (I64 (l.getD j 0)) := by
  simp [List.getD_eq_getElem?_getD, hj]
theorem map_set {l : List Int} {j : Nat} {x : Int} (hj : j < l.length) : splice (l.map (Value.int .i64)) j [I64 x] = (l.set j x).map (Value.int .i64) := by
  rw [splice_set (by simpa using hj)]
  simp [List.map_set]

/-- A row appended; other blocks stay. -/
theorem TabS.app2 {h0 h2 : AH} {nb n : Nat} {full fu fw : Bool} {L : List (Nat × List Int)} {r : List Int} {e : TypeId} (s : TabS h0 h2 nb full L) (hn : h0.length ≤ n ∧ n ≠ nb ∧ ∀ p, p ∈ L → p.1 ≠ n) (ob : OwnB h2 n (r.map (Value.int .i64)) fw)
    (hl : (L.length : Int) ≤ 1048576) {Q : Value → AH → Prop}
    (hQ : ∀ nb' H', TabS h0 H' nb' false (L ++ [(n, r)]) → H'.length = h2.length + 2 → nb' = h2.length + 1 → (∀ m c fl, m ≠ nb → OwnB h2 m c fl → OwnB H' m c fl) → (∀ h9 : AH, h9.length ≤ nb → h9 <+: h2 → h9 <+: H') → Q (.slice (some ⟨nb', 0, none⟩) (L ++ [(n, r)]).length 1) H') :
    OQ (appV 25 1 24 (.slice (some ⟨nb, 0, none⟩) L.length 1) (.slice (some ⟨h2.length, 0, none⟩) 1 1) (h2.new ⟨[.slice (some ⟨n, 0, none⟩) r.length 1], e, false, fu⟩)) Q := by
  have hrd : (h2.new ⟨[.slice (some ⟨n, 0, none⟩) r.length 1], e, false, fu⟩).rdn h2.length 0 1 = some [.slice (some ⟨n, 0, none⟩) r.length 1] := by rw [rdn_new_same]; rfl
  have hk : (h2.new ⟨[.slice (some ⟨n, 0, none⟩) r.length 1], e, false, fu⟩).get nb = some ⟨L.map rowV, 25, false, full⟩ := get_new_any s.g
  have l1 := get_lt s.g
  have key := s.app (e := e) (fu := fu) hn ob hl (Q := fun v H' => ∃ nb', v = .slice (some ⟨nb', 0, none⟩) (L ++ [(n, r)]).length 1 ∧ TabS h0 H' nb' false (L ++ [(n, r)])) (fun nb' H' st => ⟨nb', rfl, st⟩)
  rw [app_own hk (by simp) hrd (by omega), OQ_some] at key ⊢
  obtain ⟨nb', e1, st⟩ := key
  have e2 : nb' = h2.length + 1 := by
    simp only [Value.slice.injEq, Option.some.injEq, Addr.mk.injEq] at e1
    rw [← e1.1.1, len_new]
  have := hQ nb' _ st (by rw [len_new, len_kill, len_new]) e2 (fun m c fl hm o => (o.new.kill_ne (fun e => hm e.symm)).new) (fun h9 hh p => pre_new (pre_kill (pre_new p) hh))
  rw [← e1] at this
  exact this

theorem s_ContractTensor {v w : Value} {t : Ten} {s : Int} {ns : List Int} {h : AH} {Q : Value → AH → Prop} (hv : Ints h v t.ns) (hl : (t.ns.length : Int) ≤ 1048576) (hw : Ints h w ns) (hm : (ns.length : Int) ≤ 1048576)
    (hQ : ∀ v' h', h <+: h' → OwnRows h h' v' (coR t s ns).1 → Q (.tuple #[v', I64 (coR t s ns).2]) h') : WF S 48 [tenV t v, I64 s, w] h Q := by
  refine WF_fn (fn := c48) rfl rfl ?_
  unfold c48
  ((try simp (maxSteps := 3000000) (dsimp := false) (disch := first | omega | (simp only [len_new, len_put, len_kill]; omega)) only [↓ypre, ypost, ↓reduceIte, Nat.reduceEqDiff, Nat.reduceAdd, Nat.reduceSub, Nat.reduceLeDiff, Nat.zero_add, Nat.sub_zero, ynew, tenV, hv.one]); try simp only [yback])
  generalize hH1 : AH.new h _ = H1
  obtain ⟨hb1, p1, n1⟩ := new_facts hH1
  ((try simp (maxSteps := 3000000) (dsimp := false) (disch := first | omega | (simp only [len_new, len_put, len_kill]; omega)) only [↓ypre, ypost, ↓reduceIte, Nat.reduceEqDiff, Nat.reduceAdd, Nat.reduceSub, Nat.reduceLeDiff, Nat.zero_add, Nat.sub_zero, ynew, rdn_of hb1]); try simp only [yback])
  refine s_l05Is (hv.pre p1) hl fun H2 p2 => ?_
  have hb2 := pre_get p2 hb1
  unfold coR at hQ
  cases h1 : isT t with
  | false =>
    rw [h1, if_neg (by decide)] at hQ
    ((try simp (maxSteps := 3000000) (dsimp := false) (disch := first | omega | (simp only [len_new, len_put, len_kill]; omega)) only [↓ypre, ypost, ↓reduceIte, Nat.reduceEqDiff, Nat.reduceAdd, Nat.reduceSub, Nat.reduceLeDiff, Nat.zero_add, Nat.sub_zero, ynew]); try simp only [yback])
    exact hQ _ _ (p1.trans p2) (.inl ⟨rfl, rfl⟩)
  | true =>
    rw [h1, if_pos rfl] at hQ
    have f := isT_facts h1
    have fp := f.p
    have no : ¬ coOK t s ns → ∀ h', h <+: h' → Q (.tuple #[.slice none 0 0, I64 2]) h' := fun hn h' p => by
      rw [if_neg hn] at hQ
      exact hQ _ _ p (.inl ⟨rfl, rfl⟩)
    ((try simp (maxSteps := 3000000) (dsimp := false) (disch := first | omega | (simp only [len_new, len_put, len_kill]; omega)) only [↓ypre, ypost, ↓reduceIte, Nat.reduceEqDiff, Nat.reduceAdd, Nat.reduceSub, Nat.reduceLeDiff, Nat.zero_add, Nat.sub_zero, ynew]); try simp only [yback])
    refine s_l01In ?_
    by_cases h2 : 0 ≤ s ∧ s ≤ 2
    case neg =>
      ((try simp (maxSteps := 3000000) (dsimp := false) (disch := first | omega | (simp only [len_new, len_put, len_kill]; omega)) only [↓ypre, ypost, ↓reduceIte, Nat.reduceEqDiff, Nat.reduceAdd, Nat.reduceSub, Nat.reduceLeDiff, Nat.zero_add, Nat.sub_zero, ynew, decide_eq_false h2]); try simp only [yback])
      exact no (fun q => h2 q.1) _ (p1.trans p2)
    ((try simp (maxSteps := 3000000) (dsimp := false) (disch := first | omega | (simp only [len_new, len_put, len_kill]; omega)) only [↓ypre, ypost, ↓reduceIte, Nat.reduceEqDiff, Nat.reduceAdd, Nat.reduceSub, Nat.reduceLeDiff, Nat.zero_add, Nat.sub_zero, ynew, decide_eq_true h2, rdn_of hb2, rd1_of hb2]); try simp only [yback])
    refine s_l05Side hv.one h2 fun H3 p3 => ⟨p3, ?_⟩
    have hb3 := pre_get p3 hb2
    have p13 := (p1.trans p2).trans p3
    ((try simp (maxSteps := 3000000) (dsimp := false) (disch := first | omega | (simp only [len_new, len_put, len_kill]; omega)) only [↓ypre, ypost, ↓reduceIte, Nat.reduceEqDiff, Nat.reduceAdd, Nat.reduceSub, Nat.reduceLeDiff, Nat.zero_add, Nat.sub_zero, ynew]); try simp only [yback])
    refine s_l05Numbers (hw.pre p13) hm f.p ?_
    by_cases h3 : (allIn t.p ns && decide ((ns.length : Int) = sideN t s.toNat)) = true
    case neg =>
      rw [Bool.not_eq_true] at h3
      ((try simp (maxSteps := 3000000) (dsimp := false) (disch := first | omega | (simp only [len_new, len_put, len_kill]; omega)) only [↓ypre, ypost, ↓reduceIte, Nat.reduceEqDiff, Nat.reduceAdd, Nat.reduceSub, Nat.reduceLeDiff, Nat.zero_add, Nat.sub_zero, ynew, h3]); try simp only [yback])
      refine no (fun q => ?_) _ p13
      rw [q.2.1, q.2.2] at h3
      simp at h3
    rw [h3]
    rw [Bool.and_eq_true, decide_eq_true_eq] at h3
    rw [if_pos ⟨h2, h3⟩] at hQ
    obtain ⟨k, rfl⟩ : ∃ k : Nat, s = k := ⟨s.toNat, by omega⟩
    rw [Int.toNat_natCast] at hQ h3
    ((try simp (maxSteps := 3000000) (dsimp := false) (disch := first | omega | (simp only [len_new, len_put, len_kill]; omega)) only [↓ypre, ypost, ↓reduceIte, Nat.reduceEqDiff, Nat.reduceAdd, Nat.reduceSub, Nat.reduceLeDiff, Nat.zero_add, Nat.sub_zero, ynew, rdn_of hb3]); try simp only [yback])
    refine s_l05Turned (hv.pre p13) f (by omega) fun v4 H4 p4 i4 => ?_
    have fu := TF.turnN (n := k) f
    have hsd := turnN_side (t := t) (s := k) (by omega)
    have hup := turnN_p (n := k) (t := t)
    obtain ⟨h3a, h3b⟩ := h3
    rw [← hup] at h3a fp
    generalize turnN k t = u at *
    rw [← hsd] at h3b
    have fi := fu.i
    have fj := fu.j
    have fk := fu.k
    obtain ⟨I, hI⟩ : ∃ I : Nat, u.i = I := ⟨u.i.toNat, by omega⟩
    obtain ⟨J, hJ⟩ : ∃ J : Nat, u.j = J := ⟨u.j.toNat, by omega⟩
    obtain ⟨K, hK⟩ : ∃ K : Nat, u.k = K := ⟨u.k.toNat, by omega⟩
    have hIt : u.i.toNat = I := by omega
    have hJt : u.j.toNat = J := by omega
    have hKt : u.k.toNat = K := by omega
    ((try simp (maxSteps := 3000000) (dsimp := false) (disch := first | omega | (simp only [len_new, len_put, len_kill]; omega)) only [↓ypre, ypost, ↓reduceIte, Nat.reduceEqDiff, Nat.reduceAdd, Nat.reduceSub, Nat.reduceLeDiff, Nat.zero_add, Nat.sub_zero, ynew, tenV, i4.one]); try simp only [yback])
    generalize hH5 : AH.new H4 _ = H5
    obtain ⟨hb5, p5, n5⟩ := new_facts hH5
    generalize hH6 : AH.new H5 _ = H6
    obtain ⟨hb6, p6, n6⟩ := new_facts hH6
    have l13 := pre_len p13
    have l4 := pre_len p4
    have hb1' := pre_get ((p4.trans p5).trans p6) hb3
    refine WC_loop_inv (fun m f K1 => ∃ (b : Nat) (nb : Nat) (full : Bool) (L : List (Nat × List Int)), m = J - b ∧ b ≤ J ∧ f 2 = w ∧ f 3 = .pointer (some ⟨h.length, 0, none⟩) ∧ f 8 = .pointer (some ⟨H5.length, 0, none⟩) ∧ f 9 = .slice (some ⟨nb, 0, none⟩) L.length 1 ∧ f 10 = I64 b ∧ (TabS H4 K1 nb full L) ∧ (L.map Prod.snd = (conM u ns).take b) ∧ (H4 <+: K1) ∧ (OwnB K1 H5.length [I64 u.p, I64 u.i, I64 u.j, I64 u.k, v4] true) ∧ (nb ≠ H5.length ∧ ∀ q, q ∈ L → q.1 ≠ H5.length)) ?_ (J - 0) _ _ ⟨0, H4.length, true, [], rfl, by omega, (by first | rfl | (simp [upd_apply]; done)), (by first | rfl | (simp [upd_apply]; done)), (by first | rfl | (simp [upd_apply]; done)), (by first | rfl | (simp [upd_apply]; done)), (by first | rfl | (simp [upd_apply]; done)), ⟨p5.trans p6, Nat.le_refl _, pre_get p6 hb5, by simp, by simp⟩, (by simp), p5.trans p6, ⟨_, hb6⟩, ⟨by omega, by simp⟩⟩
    rintro m f K1 ⟨b, nb, full, L, rfl, hb, f2, f3, f8, f9, f10, st, hL, pp, g8, nbx⟩
    have hbK := pre_get pp (pre_get p4 hb3)
    have ltK := get_lt hbK
    have lt := st.lt
    obtain ⟨e8, g8⟩ := g8
    have lt8 := get_lt g8
    by_cases hlb : (b : Int) < J
    · have hb' : b < J := by omega
      ((try simp (maxSteps := 3000000) (dsimp := false) (disch := first | omega | (simp only [len_new, len_put, len_kill]; omega)) only [↓ypre, ypost, ↓reduceIte, Nat.reduceEqDiff, Nat.reduceAdd, Nat.reduceSub, Nat.reduceLeDiff, Nat.zero_add, Nat.sub_zero, ynew, f2, f3, f8, f9, f10, rd1_of g8, decide_eq_true (show (b : Int) < u.j by omega)]); try simp only [yback])
      refine ⟨by omega, ?_⟩
      rw [hKt, zrep_ints, ← rowS_zero (u := u) (ns := ns) (I := I) (b := b)]
      generalize hH7 : AH.new K1 _ = H7
      obtain ⟨hb7, p7, n7⟩ := new_facts hH7
      ((try simp (maxSteps := 3000000) (dsimp := false) (disch := first | omega | (simp only [len_new, len_put, len_kill]; omega)) only [↓ypre, ypost, ↓reduceIte, Nat.reduceEqDiff, Nat.reduceAdd, Nat.reduceSub, Nat.reduceLeDiff, Nat.zero_add, Nat.sub_zero, ynew, f2, f3, f8, f9, f10]); try simp only [yback])
      refine WC_loop_inv (fun m f K2 => ∃ (c : Nat), m = K - c ∧ c ≤ K ∧ f 2 = w ∧ f 3 = .pointer (some ⟨h.length, 0, none⟩) ∧ f 8 = .pointer (some ⟨H5.length, 0, none⟩) ∧ f 9 = .slice (some ⟨nb, 0, none⟩) L.length 1 ∧ f 10 = I64 b ∧ f 11 = .slice (some ⟨K1.length, 0, none⟩) K 1 ∧ f 12 = I64 c ∧ (K1 <+: K2) ∧ (OwnB K2 K1.length ((gen K (rowS u ns I b c 0)).map (Value.int .i64)) true)) ?_ (K - 0) _ _ ⟨0, rfl, by omega, (by first | rfl | exact f2 | (simp [upd_apply]; done)), (by first | rfl | exact f3 | (simp [upd_apply]; done)), (by first | rfl | exact f8 | (simp [upd_apply]; done)), (by first | rfl | exact f9 | (simp [upd_apply]; done)), (by first | rfl | exact f10 | (simp [upd_apply]; done)), (by first | rfl | (simp [upd_apply]; done)), (by first | rfl | (simp [upd_apply]; done)), p7, ⟨_, hb7⟩⟩
      rintro m f K2 ⟨c, rfl, hc, f2, f3, f8, f9, f10, f11, f12, q2, row⟩
      have g8b := pre_get q2 g8
      have lt8b := get_lt g8b
      by_cases hlc : (c : Int) < K
      · have hc' : c < K := by omega
        ((try simp (maxSteps := 3000000) (dsimp := false) (disch := first | omega | (simp only [len_new, len_put, len_kill]; omega)) only [↓ypre, ypost, ↓reduceIte, Nat.reduceEqDiff, Nat.reduceAdd, Nat.reduceSub, Nat.reduceLeDiff, Nat.zero_add, Nat.sub_zero, ynew, f2, f3, f8, f9, f10, f11, f12, rd1_of g8b, decide_eq_true (show (c : Int) < u.k by omega)]); try simp only [yback])
        refine WC_loop_inv (fun m f K3 => ∃ (a : Nat), m = I - a ∧ a ≤ I ∧ f 2 = w ∧ f 3 = .pointer (some ⟨h.length, 0, none⟩) ∧ f 8 = .pointer (some ⟨H5.length, 0, none⟩) ∧ f 9 = .slice (some ⟨nb, 0, none⟩) L.length 1 ∧ f 10 = I64 b ∧ f 11 = .slice (some ⟨K1.length, 0, none⟩) K 1 ∧ f 12 = I64 c ∧ f 13 = I64 a ∧ (K1 <+: K3) ∧ (OwnB K3 K1.length ((gen K (rowS u ns I b c a)).map (Value.int .i64)) true)) ?_ (I - 0) _ _ ⟨0, rfl, by omega, (by first | rfl | exact f2 | (simp [upd_apply]; done)), (by first | rfl | exact f3 | (simp [upd_apply]; done)), (by first | rfl | exact f8 | (simp [upd_apply]; done)), (by first | rfl | exact f9 | (simp [upd_apply]; done)), (by first | rfl | exact f10 | (simp [upd_apply]; done)), (by first | rfl | exact f11 | (simp [upd_apply]; done)), (by first | rfl | exact f12 | (simp [upd_apply]; done)), (by first | rfl | (simp [upd_apply]; done)), q2, row⟩
        rintro m f K3 ⟨a, rfl, ha, f2, f3, f8, f9, f10, f11, f12, f13, q3, row⟩
        have g8c := pre_get q3 g8
        have lt8c := get_lt g8c
        obtain ⟨er, row⟩ := row
        have ltr := get_lt row
        by_cases hla : (a : Int) < I
        · have hix := hw.ix (k := .i64) (j := (a : Int)) (by omega) (by omega)
          have hrd := (hw.pre ((p13.trans p4).trans (pp.trans q3))).rd (j := (a : Int)) (by omega) (by omega)
          rw [show nth ns (a : Int) = ns.getD a 0 by unfold nth; rw [Int.toNat_natCast]] at hrd
          have hixr : ixsV 1 (.slice (some ⟨K1.length, 0, none⟩) K 1) (I64 (c : Int)) = some (.pointer (some ⟨K1.length, c, none⟩)) := by
            rw [ixsV_some, if_pos (by omega)]
            simp
          have rg : ((gen K (rowS u ns I b c a)).map (Value.int .i64))[c]? = some (I64 (conA u ns b c a)) := by
            rw [map_get (by rw [gen_len]; omega), rowS_at hc']
          have st4 := con_step fu h3a h3b (a := a) (b := b) (c := c) (by omega) (by omega) (by omega)
          have hbK3 := pre_get q3 hbK
          ((try simp (maxSteps := 3000000) (dsimp := false) (disch := first | omega | (simp only [len_new, len_put, len_kill]; omega)) only [↓ypre, ypost, ↓reduceIte, Nat.reduceEqDiff, Nat.reduceAdd, Nat.reduceSub, Nat.reduceLeDiff, Nat.zero_add, Nat.sub_zero, ynew, f2, f3, f8, f9, f10, f11, f12, f13, rd1_of g8c, rdn_of g8c, decide_eq_true (show (a : Int) < u.i by omega), hix, hrd, hixr, rd1_of row, rg]); try simp only [yback])
          refine s_l05At (t := u) (i4.pre (pp.trans q3)) fu (i := a) (by omega) (j := b) (by omega) (k := c) (by omega) fun H p => ⟨p, ?_⟩
          have row' := pre_get p row
          have hbH := pre_get p hbK3
          have ltH := get_lt row'
          have st5 : (conA u ns b c a + ns.getD a 0 * tat u a b c).tmod t.p = conA u ns b c (a + 1) := by rw [← hup]; rfl
          have spl := map_set (l := gen K (rowS u ns I b c a)) (j := c) (x := conA u ns b c (a + 1)) (by rw [gen_len]; omega)
          rw [rowS_set hc'] at spl
          have gl : ((gen K (rowS u ns I b c a)).map (Value.int .i64)).length = K := by rw [List.length_map, gen_len]
          ((try simp (maxSteps := 3000000) (dsimp := false) (disch := first | omega | (simp only [len_new, len_put, len_kill]; omega)) only [↓ypre, ypost, ↓reduceIte, Nat.reduceEqDiff, Nat.reduceAdd, Nat.reduceSub, Nat.reduceLeDiff, Nat.zero_add, Nat.sub_zero, ynew, f2, f3, f8, f9, f10, f11, f12, f13, rd1_of hbH, wrap64_in, bin_rem, st5, hixr, wr_of row', gl, spl]); try simp only [yback])
          refine ⟨by omega, ?_⟩
          refine InvQ_go (I - (a + 1)) (by omega) ⟨(a + 1), rfl, by omega, (by first | rfl | exact f2 | (simp only [upd_apply]; rfl) | (show I64 _ = _; congr 1; omega)), (by first | rfl | exact f3 | (simp only [upd_apply]; rfl) | (show I64 _ = _; congr 1; omega)), (by first | rfl | exact f8 | (simp only [upd_apply]; rfl) | (show I64 _ = _; congr 1; omega)), (by first | rfl | exact f9 | (simp only [upd_apply]; rfl) | (show I64 _ = _; congr 1; omega)), (by first | rfl | exact f10 | (simp only [upd_apply]; rfl) | (show I64 _ = _; congr 1; omega)), (by first | rfl | exact f11 | (simp only [upd_apply]; rfl) | (show I64 _ = _; congr 1; omega)), (by first | rfl | exact f12 | (simp only [upd_apply]; rfl) | (show I64 _ = _; congr 1; omega)), (by first | rfl | exact f13 | (simp only [upd_apply]; rfl) | (show I64 _ = _; congr 1; omega)), (pre_put (q3.trans p) (Nat.le_refl _)), ⟨er, get_put_same ltH⟩⟩
        · have ea : a = I := by omega
          subst ea
          ((try simp (maxSteps := 3000000) (dsimp := false) (disch := first | omega | (simp only [len_new, len_put, len_kill]; omega)) only [↓ypre, ypost, ↓reduceIte, Nat.reduceEqDiff, Nat.reduceAdd, Nat.reduceSub, Nat.reduceLeDiff, Nat.zero_add, Nat.sub_zero, ynew, f2, f3, f8, f9, f10, f11, f12, f13, rd1_of g8c, decide_eq_false (show ¬ (a : Int) < u.i by omega), wrap64_in]); try simp only [yback])
          refine InvQ_go (K - (c + 1)) (by omega) ⟨(c + 1), rfl, by omega, (by first | rfl | exact f2 | (simp only [upd_apply]; rfl) | (show I64 _ = _; congr 1; omega)), (by first | rfl | exact f3 | (simp only [upd_apply]; rfl) | (show I64 _ = _; congr 1; omega)), (by first | rfl | exact f8 | (simp only [upd_apply]; rfl) | (show I64 _ = _; congr 1; omega)), (by first | rfl | exact f9 | (simp only [upd_apply]; rfl) | (show I64 _ = _; congr 1; omega)), (by first | rfl | exact f10 | (simp only [upd_apply]; rfl) | (show I64 _ = _; congr 1; omega)), (by first | rfl | exact f11 | (simp only [upd_apply]; rfl) | (show I64 _ = _; congr 1; omega)), (by first | rfl | exact f12 | (simp only [upd_apply]; rfl) | (show I64 _ = _; congr 1; omega)), q3, ⟨er, by rw [← rowS_next]; exact row⟩⟩
      · have ec : c = K := by omega
        subst ec
        rw [rowS_all] at row
        obtain ⟨er, row⟩ := row
        have ltr := get_lt row
        ((try simp (maxSteps := 3000000) (dsimp := false) (disch := first | omega | (simp only [len_new, len_put, len_kill]; omega)) only [↓ypre, ypost, ↓reduceIte, Nat.reduceEqDiff, Nat.reduceAdd, Nat.reduceSub, Nat.reduceLeDiff, Nat.zero_add, Nat.sub_zero, ynew, f2, f3, f8, f9, f10, f11, f12, rd1_of g8b, decide_eq_false (show ¬ (c : Int) < u.k by omega)]); try simp only [yback])
        have stK := st.pre q2
        have hlen : c = (gen c fun x => conA u ns b x I).length := by rw [gen_len]
        have hLl : L.length = b := by
          have := congrArg List.length hL
          rw [List.length_map, List.length_take, conM_len] at this
          omega
        rw [show (Value.slice (some ⟨K1.length, 0, none⟩) c 1) = .slice (some ⟨K1.length, 0, none⟩) (gen c fun x => conA u ns b x I).length 1 by rw [gen_len]]
        refine stK.app2 (n := K1.length) (r := gen c fun x => conA u ns b x I) ⟨by have := pre_len pp; omega, by omega, fun q hq => by have := lt.2 q hq; omega⟩ ⟨er, row⟩ (by omega) fun nb' H' st' l' e' own' pre' => ?_
        ((try simp (maxSteps := 3000000) (dsimp := false) (disch := first | omega | (simp only [len_new, len_put, len_kill]; omega)) only [↓ypre, ypost, ↓reduceIte, Nat.reduceEqDiff, Nat.reduceAdd, Nat.reduceSub, Nat.reduceLeDiff, Nat.zero_add, Nat.sub_zero, ynew, f2, f3, f8, f9, f10, f11, f12, wrap64_in]); try simp only [yback])
        refine InvQ_go (J - (b + 1)) (by omega) ⟨(b + 1), nb', false, (L ++ [(K1.length, gen c fun x => conA u ns b x I)]), rfl, by omega, (by first | rfl | exact f2 | (simp only [upd_apply]; rfl) | (show I64 _ = _; congr 1; omega)), (by first | rfl | exact f3 | (simp only [upd_apply]; rfl) | (show I64 _ = _; congr 1; omega)), (by first | rfl | exact f8 | (simp only [upd_apply]; rfl) | (show I64 _ = _; congr 1; omega)), (by first | rfl | exact f9 | (simp only [upd_apply]; rfl) | (show I64 _ = _; congr 1; omega)), (by first | rfl | exact f10 | (simp only [upd_apply]; rfl) | (show I64 _ = _; congr 1; omega)), st', ?_, ?_, (own' _ _ _ (fun e => nbx.1 e.symm) ⟨_, g8b⟩), ?_⟩
        · rw [List.map_append, hL, take_next (d := []) (by rw [conM_len]; omega), conM_get (by omega), hKt, hIt]
          rfl
        · exact st'.hp
        · refine ⟨by omega, fun q hq => ?_⟩
          rcases List.mem_append.1 hq with hq | hq
          · exact nbx.2 q hq
          · rw [List.mem_singleton.1 hq]
            show K1.length ≠ H5.length
            omega
    · have eb : b = J := by omega
      subst eb
      rw [List.take_of_length_le (by rw [conM_len]; omega)] at hL
      ((try simp (maxSteps := 3000000) (dsimp := false) (disch := first | omega | (simp only [len_new, len_put, len_kill]; omega)) only [↓ypre, ypost, ↓reduceIte, Nat.reduceEqDiff, Nat.reduceAdd, Nat.reduceSub, Nat.reduceLeDiff, Nat.zero_add, Nat.sub_zero, ynew, f2, f3, f8, f9, f10, rd1_of g8, decide_eq_false (show ¬ (b : Int) < u.j by omega)]); try simp only [yback])
      have o := st.own
      rw [hL] at o
      exact hQ _ _ ((p13.trans p4).trans pp) (o.lo (by omega))
/-- A flat table under way. -/
def flS (u : Ten) (ns : List Int) (K a n : Nat) (m : Nat) : Int := conA u ns (m / K) (m % K) (if m < n then a + 1 else a)
theorem flS_zero {u : Ten} {ns : List Int} {K N : Nat} : gen N (flS u ns K 0 0) = List.replicate N 0 := (gen_ext (by simp) fun i hi => by
  simp [List.getD_eq_getElem?_getD, List.getElem?_replicate, hi, flS, conA]).symm
theorem flS_next {u : Ten} {ns : List Int} {K N a : Nat} : gen N (flS u ns K a N) = gen N (flS u ns K (a + 1) 0) := gen_congr fun m hm => by
  unfold flS
  rw [if_pos hm, if_neg (by omega)]
theorem flS_at {u : Ten} {ns : List Int} {K N a n : Nat} (hn : n < N) : (gen N (flS u ns K a n)).getD n 0 = conA u ns (n / K) (n % K) a := by
  rw [gen_get hn]
  unfold flS
  rw [if_neg (by omega)]
theorem flS_set {u : Ten} {ns : List Int} {K N a n : Nat} (hn : n < N) : (gen N (flS u ns K a n)).set n (conA u ns (n / K) (n % K) (a + 1)) = gen N (flS u ns K a (n + 1)) := by
  refine gen_ext (by rw [List.length_set, gen_len]) fun x hx => ?_
  rw [set_getD (by rw [gen_len]; exact hn)]
  by_cases h : x = n
  · subst h
    rw [if_pos rfl]
    unfold flS
    rw [if_pos (by omega)]
  · rw [if_neg h, gen_get hx]
    unfold flS
    by_cases h1 : x < n
    · rw [if_pos h1, if_pos (by omega)]
    · rw [if_neg h1, if_neg (by omega)]
theorem parts_gen {g : Nat → Int} {J K : Nat} : parts (gen (J * K) g) K J = (List.range J).map fun b => gen K fun c => g (b * K + c) := by
  refine getD_ext (by rw [parts_len]; simp) fun b hb => ?_
  rw [parts_len] at hb
  have hr := mul_row (w := K) hb
  rw [parts_get hb]
  rw [show ((List.range J).map fun b => gen K fun c => g (b * K + c)).getD b [] = gen K fun c => g (b * K + c) by simp [List.getD_eq_getElem?_getD, List.getElem?_map, List.getElem?_range hb]]
  refine gen_ext (by rw [List.length_take, List.length_drop, gen_len]; omega) fun c hc => ?_
  rw [cut_get hc, gen_get (by omega)]
theorem i_ContractTensor {v w : Value} {t : Ten} {s : Int} {ns : List Int} {h : AH} {Q : Value → AH → Prop} (hv : Ints h v t.ns) (hl : (t.ns.length : Int) ≤ 1048576) (hw : Ints h w ns) (hm : (ns.length : Int) ≤ 1048576)
    (hQ : ∀ v' h', h <+: h' → OwnRows h h' v' (coR t s ns).1 → Q (.tuple #[v', I64 (coR t s ns).2]) h') : WF S 50 [tenV t v, I64 s, w] h Q := by
  refine WF_fn (fn := c50) rfl rfl ?_
  unfold c50
  ((try simp (maxSteps := 3000000) (dsimp := false) (disch := first | omega | (simp only [len_new, len_put, len_kill]; omega)) only [↓ypre, ypost, ↓reduceIte, Nat.reduceEqDiff, Nat.reduceAdd, Nat.reduceSub, Nat.reduceLeDiff, Nat.zero_add, Nat.sub_zero, ynew, tenV, hv.one]); try simp only [yback])
  generalize hH1 : AH.new h _ = H1
  obtain ⟨hb1, p1, n1⟩ := new_facts hH1
  ((try simp (maxSteps := 3000000) (dsimp := false) (disch := first | omega | (simp only [len_new, len_put, len_kill]; omega)) only [↓ypre, ypost, ↓reduceIte, Nat.reduceEqDiff, Nat.reduceAdd, Nat.reduceSub, Nat.reduceLeDiff, Nat.zero_add, Nat.sub_zero, ynew, rdn_of hb1]); try simp only [yback])
  refine i_IsTensor (hv.pre p1) hl fun H2 p2 => ?_
  have hb2 := pre_get p2 hb1
  unfold coR at hQ
  cases h1 : isT t with
  | false =>
    rw [h1, if_neg (by decide)] at hQ
    ((try simp (maxSteps := 3000000) (dsimp := false) (disch := first | omega | (simp only [len_new, len_put, len_kill]; omega)) only [↓ypre, ypost, ↓reduceIte, Nat.reduceEqDiff, Nat.reduceAdd, Nat.reduceSub, Nat.reduceLeDiff, Nat.zero_add, Nat.sub_zero, ynew]); try simp only [yback])
    exact hQ _ _ (p1.trans p2) (.inl ⟨rfl, rfl⟩)
  | true =>
    rw [h1, if_pos rfl] at hQ
    have f := isT_facts h1
    have fp := f.p
    have no : ¬ coOK t s ns → ∀ h', h <+: h' → Q (.tuple #[.slice none 0 0, I64 2]) h' := fun hn h' p => by
      rw [if_neg hn] at hQ
      exact hQ _ _ p (.inl ⟨rfl, rfl⟩)
    by_cases c1 : s < 0
    · ((try simp (maxSteps := 3000000) (dsimp := false) (disch := first | omega | (simp only [len_new, len_put, len_kill]; omega)) only [↓ypre, ypost, ↓reduceIte, Nat.reduceEqDiff, Nat.reduceAdd, Nat.reduceSub, Nat.reduceLeDiff, Nat.zero_add, Nat.sub_zero, ynew, decide_eq_true c1]); try simp only [yback])
      exact no (fun q => by have := q.1; omega) _ (p1.trans p2)
    by_cases c2 : 2 < s
    · ((try simp (maxSteps := 3000000) (dsimp := false) (disch := first | omega | (simp only [len_new, len_put, len_kill]; omega)) only [↓ypre, ypost, ↓reduceIte, Nat.reduceEqDiff, Nat.reduceAdd, Nat.reduceSub, Nat.reduceLeDiff, Nat.zero_add, Nat.sub_zero, ynew, decide_eq_false c1, decide_eq_true c2]); try simp only [yback])
      exact no (fun q => by have := q.1; omega) _ (p1.trans p2)
    ((try simp (maxSteps := 3000000) (dsimp := false) (disch := first | omega | (simp only [len_new, len_put, len_kill]; omega)) only [↓ypre, ypost, ↓reduceIte, Nat.reduceEqDiff, Nat.reduceAdd, Nat.reduceSub, Nat.reduceLeDiff, Nat.zero_add, Nat.sub_zero, ynew, decide_eq_false c1, decide_eq_false c2, hw.len, rdn_of hb2]); try simp only [yback])
    refine i_sides hv.one fun H3 p3 => ?_
    have hb3 := pre_get p3 hb2
    have p13 := (p1.trans p2).trans p3
    obtain ⟨k, rfl⟩ : ∃ k : Nat, s = k := ⟨s.toNat, by omega⟩
    have e1 : idx1V 3 (.agg #[I64 t.i, I64 t.j, I64 t.k]) (I64 (k : Int)) = some (I64 (sideN t k)) := by
      have : k = 0 ∨ k = 1 ∨ k = 2 := by omega
      rcases this with rfl | rfl | rfl <;> rfl
    by_cases c3 : (ns.length : Int) = sideN t k
    case neg =>
      ((try simp (maxSteps := 3000000) (dsimp := false) (disch := first | omega | (simp only [len_new, len_put, len_kill]; omega)) only [↓ypre, ypost, ↓reduceIte, Nat.reduceEqDiff, Nat.reduceAdd, Nat.reduceSub, Nat.reduceLeDiff, Nat.zero_add, Nat.sub_zero, ynew, e1, decide_eq_true (show (ns.length : Int) ≠ sideN t k from c3)]); try simp only [yback])
      exact no (fun q => c3 (by have := q.2.2; rwa [Int.toNat_natCast] at this)) _ p13
    ((try simp (maxSteps := 3000000) (dsimp := false) (disch := first | omega | (simp only [len_new, len_put, len_kill]; omega)) only [↓ypre, ypost, ↓reduceIte, Nat.reduceEqDiff, Nat.reduceAdd, Nat.reduceSub, Nat.reduceLeDiff, Nat.zero_add, Nat.sub_zero, ynew, e1, decide_eq_false (show ¬ (ns.length : Int) ≠ sideN t k from fun x => x c3), rd1_of hb3]); try simp only [yback])
    refine i_areNumbers (hw.pre p13) hm ?_
    cases h3 : allIn t.p ns with
    | false =>
      ((try simp (maxSteps := 3000000) (dsimp := false) (disch := first | omega | (simp only [len_new, len_put, len_kill]; omega)) only [↓ypre, ypost, ↓reduceIte, Nat.reduceEqDiff, Nat.reduceAdd, Nat.reduceSub, Nat.reduceLeDiff, Nat.zero_add, Nat.sub_zero, ynew]); try simp only [yback])
      exact no (fun q => by rw [q.2.1] at h3; cases h3) _ p13
    | true =>
    rw [if_pos ⟨⟨by omega, by omega⟩, h3, by rw [Int.toNat_natCast]; exact c3⟩, Int.toNat_natCast] at hQ
    ((try simp (maxSteps := 3000000) (dsimp := false) (disch := first | omega | (simp only [len_new, len_put, len_kill]; omega)) only [↓ypre, ypost, ↓reduceIte, Nat.reduceEqDiff, Nat.reduceAdd, Nat.reduceSub, Nat.reduceLeDiff, Nat.zero_add, Nat.sub_zero, ynew, rdn_of hb3]); try simp only [yback])
    refine i_turned (hv.pre p13) f (by omega) fun v4 H4 p4 i4 => ?_
    have fu := TF.turnN (n := k) f
    have hsd := turnN_side (t := t) (s := k) (by omega)
    have hup := turnN_p (n := k) (t := t)
    rw [← hup] at h3 fp
    generalize turnN k t = u at *
    rw [← hsd] at c3
    have fi := fu.i
    have fj := fu.j
    have fk := fu.k
    obtain ⟨I, hI⟩ : ∃ I : Nat, u.i = I := ⟨u.i.toNat, by omega⟩
    obtain ⟨J, hJ⟩ : ∃ J : Nat, u.j = J := ⟨u.j.toNat, by omega⟩
    obtain ⟨K, hK⟩ : ∃ K : Nat, u.k = K := ⟨u.k.toNat, by omega⟩
    have ejk : u.j * u.k = ((J * K : Nat) : Int) := by rw [hJ, hK]; push_cast; rfl
    have jk := mul_in1 (A := 9) (B := 9) fj fk
    rw [ejk] at jk
    have hl' : u.ns.length = I * (J * K) := by
      have hl := fu.len
      rw [hI, hJ, hK, Int.mul_assoc] at hl
      exact_mod_cast hl
    have ule := fu.le
    ((try simp (maxSteps := 3000000) (dsimp := false) (disch := first | omega | (simp only [len_new, len_put, len_kill]; omega)) only [↓ypre, ypost, ↓reduceIte, Nat.reduceEqDiff, Nat.reduceAdd, Nat.reduceSub, Nat.reduceLeDiff, Nat.zero_add, Nat.sub_zero, ynew, tenV, i4.one, ejk, wrap64_in]); try simp only [yback])
    refine ⟨by omega, ?_⟩
    generalize hH5 : AH.new H4 _ = H5
    obtain ⟨hb5, p5, n5⟩ := new_facts hH5
    rw [Int.toNat_natCast, zrep_ints, ← flS_zero (u := u) (ns := ns) (K := K)]
    generalize hH6 : AH.new H5 _ = H6
    obtain ⟨hb6, p6, n6⟩ := new_facts hH6
    have l13 := pre_len p13
    have l4 := pre_len p4
    ((try simp (maxSteps := 3000000) (dsimp := false) (disch := first | omega | (simp only [len_new, len_put, len_kill]; omega)) only [↓ypre, ypost, ↓reduceIte, Nat.reduceEqDiff, Nat.reduceAdd, Nat.reduceSub, Nat.reduceLeDiff, Nat.zero_add, Nat.sub_zero, ynew, hw.len]); try simp only [yback])
    refine WC_loop_inv (fun m f K1 => ∃ (a : Nat), m = I - a ∧ a ≤ I ∧ f 2 = w ∧ f 3 = .pointer (some ⟨h.length, 0, none⟩) ∧ f 8 = .pointer (some ⟨H4.length, 0, none⟩) ∧ f 9 = .slice (some ⟨H5.length, 0, none⟩) (J * K) 1 ∧ f 49 = w ∧ f 50 = I64 ns.length ∧ f 51 = I64 a ∧ (H5 <+: K1) ∧ (OwnB K1 H5.length ((gen (J * K) (flS u ns K a 0)).map (Value.int .i64)) true)) ?_ (I - 0) _ _ ⟨0, rfl, by omega, (by first | rfl | (simp [upd_apply]; done)), (by first | rfl | (simp [upd_apply]; done)), (by first | rfl | (simp [upd_apply]; done)), (by first | rfl | (simp [upd_apply]; done)), (by first | rfl | (simp [upd_apply]; done)), (by first | rfl | (simp [upd_apply]; done)), (by first | rfl | (simp [upd_apply]; done)), p6, ⟨_, hb6⟩⟩
    rintro m f K1 ⟨a, rfl, ha, f2, f3, f8, f9, f49, f50, f51, pp, row⟩
    have g8 := pre_get pp hb5
    have lt8 := get_lt g8
    have g3 := pre_get ((p4.trans p5).trans pp) hb3
    have lt3 := get_lt g3
    have iw := hw.pre ((p13.trans (p4.trans p5)).trans pp)
    have iu := i4.pre (p5.trans pp)
    by_cases hla : (a : Int) < I
    · have ha' : a < I := by omega
      have hix := hw.ix (k := .i64) (j := (a : Int)) (by omega) (by omega)
      have hrd := iw.rd (j := (a : Int)) (by omega) (by omega)
      rw [show nth ns (a : Int) = ns.getD a 0 by unfold nth; rw [Int.toNat_natCast]] at hrd
      ((try simp (maxSteps := 3000000) (dsimp := false) (disch := first | omega | (simp only [len_new, len_put, len_kill]; omega)) only [↓ypre, ypost, ↓reduceIte, Nat.reduceEqDiff, Nat.reduceAdd, Nat.reduceSub, Nat.reduceLeDiff, Nat.zero_add, Nat.sub_zero, ynew, f2, f3, f8, f9, f49, f50, f51, decide_eq_true (show (a : Int) < ns.length by omega), hix, hrd]); try simp only [yback])
      refine WC_loop_inv (fun m f K2 => ∃ (n : Nat), m = ((J * K)) - n ∧ n ≤ ((J * K)) ∧ f 2 = w ∧ f 3 = .pointer (some ⟨h.length, 0, none⟩) ∧ f 8 = .pointer (some ⟨H4.length, 0, none⟩) ∧ f 9 = .slice (some ⟨H5.length, 0, none⟩) (J * K) 1 ∧ f 49 = w ∧ f 50 = I64 ns.length ∧ f 51 = I64 a ∧ f 10 = I64 a ∧ f 11 = I64 (ns.getD a 0) ∧ f 57 = I64 ((J * K : Nat) : Int) ∧ f 58 = I64 n ∧ (H5 <+: K2) ∧ (OwnB K2 H5.length ((gen (J * K) (flS u ns K a n)).map (Value.int .i64)) true)) ?_ (((J * K)) - 0) _ _ ⟨0, rfl, by omega, (by first | rfl | exact f2 | (simp [upd_apply]; done)), (by first | rfl | exact f3 | (simp [upd_apply]; done)), (by first | rfl | exact f8 | (simp [upd_apply]; done)), (by first | rfl | exact f9 | (simp [upd_apply]; done)), (by first | rfl | exact f49 | (simp [upd_apply]; done)), (by first | rfl | exact f50 | (simp [upd_apply]; done)), (by first | rfl | exact f51 | (simp [upd_apply]; done)), (by first | rfl | (simp [upd_apply]; done)), (by first | rfl | (simp [upd_apply]; done)), (by first | rfl | (simp [upd_apply]; done)), (by first | rfl | (simp [upd_apply]; done)), pp, row⟩
      rintro m f K2 ⟨n, rfl, hn, f2, f3, f8, f9, f49, f50, f51, f10, f11, f57, f58, q2, row⟩
      have g8 := pre_get q2 hb5
      have lt8 := get_lt g8
      have g3 := pre_get ((p4.trans p5).trans q2) hb3
      have lt3 := get_lt g3
      have iu := i4.pre (p5.trans q2)
      obtain ⟨er, row⟩ := row
      have ltr := get_lt row
      by_cases hln : (n : Int) < ((J * K : Nat) : Int)
      · have hn' : n < J * K := by omega
        have hK0 : 0 < K := by omega
        have hb0 : n / K < J := Nat.div_lt_of_lt_mul (by rw [Nat.mul_comm]; exact hn')
        have hc0 : n % K < K := Nat.mod_lt _ hK0
        have hdm := Nat.div_add_mod n K
        rw [Nat.mul_comm] at hdm
        have st4 := con_step fu h3 c3 (a := a) (b := n / K) (c := n % K) (by omega) (by omega) (by omega)
        have ham : a * (J * K) + J * K ≤ u.ns.length := by rw [hl']; exact mul_row ha'
        have hixr : ixsV 1 (.slice (some ⟨H5.length, 0, none⟩) (J * K) 1) (I64 (n : Int)) = some (.pointer (some ⟨H5.length, n, none⟩)) := by
          rw [ixsV_some, if_pos (by omega)]
          simp
        have rg : ((gen (J * K) (flS u ns K a n)).map (Value.int .i64))[n]? = some (I64 (conA u ns (n / K) (n % K) a)) := by
          rw [map_get (by rw [gen_len]; omega), flS_at hn']
        have e5 : (a : Int) * u.j * u.k = ((a * (J * K) : Nat) : Int) := by rw [Int.mul_assoc, ejk]; push_cast; rfl
        have aj := mul_in (A := 9) (B := 9) (a := (a : Int)) (b := u.j) (by omega) (by omega)
        have hixu := i4.ix (k := .i64) (j := ((a * (J * K) : Nat) : Int) + (n : Int)) (by omega) (by omega)
        have hrdu := iu.rd (j := ((a * (J * K) : Nat) : Int) + (n : Int)) (by omega) (by omega)
        have et : nth u.ns (((a * (J * K) : Nat) : Int) + (n : Int)) = tat u a (n / K : Nat) (n % K : Nat) := by
          unfold tat
          congr 1
          rw [hJ, hK]
          have : ((a : Int) * (J : Int) + ((n / K : Nat) : Int)) * (K : Int) + ((n % K : Nat) : Int) = (((a * J + n / K) * K + n % K : Nat) : Int) := by push_cast; rfl
          rw [this, Nat.add_mul, Nat.mul_assoc]
          omega
        rw [et] at hrdu
        have st5 : (conA u ns (n / K) (n % K) a + ns.getD a 0 * tat u a (n / K : Nat) (n % K : Nat)).tmod t.p = conA u ns (n / K) (n % K) (a + 1) := by rw [← hup]; rfl
        have spl := map_set (l := gen (J * K) (flS u ns K a n)) (j := n) (x := conA u ns (n / K) (n % K) (a + 1)) (by rw [gen_len]; omega)
        rw [flS_set hn'] at spl
        have gl : ((gen (J * K) (flS u ns K a n)).map (Value.int .i64)).length = J * K := by rw [List.length_map, gen_len]
        ((try simp (maxSteps := 3000000) (dsimp := false) (disch := first | omega | (simp only [len_new, len_put, len_kill]; omega)) only [↓ypre, ypost, ↓reduceIte, Nat.reduceEqDiff, Nat.reduceAdd, Nat.reduceSub, Nat.reduceLeDiff, Nat.zero_add, Nat.sub_zero, ynew, f2, f3, f8, f9, f49, f50, f51, f10, f11, f57, f58, decide_eq_true hln, hixr, rd1_of row, rg, rd1_of g8, rd1_of g3, e5, hixu, hrdu, wrap64_in, bin_rem, st5, wr_of row, gl, spl]); try simp only [yback])
        refine ⟨by omega, ?_⟩
        refine InvQ_go (((J * K)) - (n + 1)) (by omega) ⟨(n + 1), rfl, by omega, (by first | rfl | exact f2 | (simp only [upd_apply]; rfl) | (show I64 _ = _; congr 1; omega)), (by first | rfl | exact f3 | (simp only [upd_apply]; rfl) | (show I64 _ = _; congr 1; omega)), (by first | rfl | exact f8 | (simp only [upd_apply]; rfl) | (show I64 _ = _; congr 1; omega)), (by first | rfl | exact f9 | (simp only [upd_apply]; rfl) | (show I64 _ = _; congr 1; omega)), (by first | rfl | exact f49 | (simp only [upd_apply]; rfl) | (show I64 _ = _; congr 1; omega)), (by first | rfl | exact f50 | (simp only [upd_apply]; rfl) | (show I64 _ = _; congr 1; omega)), (by first | rfl | exact f51 | (simp only [upd_apply]; rfl) | (show I64 _ = _; congr 1; omega)), (by first | rfl | exact f10 | (simp only [upd_apply]; rfl) | (show I64 _ = _; congr 1; omega)), (by first | rfl | exact f11 | (simp only [upd_apply]; rfl) | (show I64 _ = _; congr 1; omega)), (by first | rfl | exact f57 | (simp only [upd_apply]; rfl) | (show I64 _ = _; congr 1; omega)), (by first | rfl | exact f58 | (simp only [upd_apply]; rfl) | (show I64 _ = _; congr 1; omega)), (pre_put q2 (Nat.le_refl _)), ⟨er, get_put_same ltr⟩⟩
      · have en : n = J * K := by omega
        subst en
        rw [flS_next] at row
        ((try simp (maxSteps := 3000000) (dsimp := false) (disch := first | omega | (simp only [len_new, len_put, len_kill]; omega)) only [↓ypre, ypost, ↓reduceIte, Nat.reduceEqDiff, Nat.reduceAdd, Nat.reduceSub, Nat.reduceLeDiff, Nat.zero_add, Nat.sub_zero, ynew, f2, f3, f8, f9, f49, f50, f51, f10, f11, f57, f58, decide_eq_false hln, wrap64_in]); try simp only [yback])
        refine InvQ_go (I - (a + 1)) (by omega) ⟨(a + 1), rfl, by omega, (by first | rfl | exact f2 | (simp only [upd_apply]; rfl) | (show I64 _ = _; congr 1; omega)), (by first | rfl | exact f3 | (simp only [upd_apply]; rfl) | (show I64 _ = _; congr 1; omega)), (by first | rfl | exact f8 | (simp only [upd_apply]; rfl) | (show I64 _ = _; congr 1; omega)), (by first | rfl | exact f9 | (simp only [upd_apply]; rfl) | (show I64 _ = _; congr 1; omega)), (by first | rfl | exact f49 | (simp only [upd_apply]; rfl) | (show I64 _ = _; congr 1; omega)), (by first | rfl | exact f50 | (simp only [upd_apply]; rfl) | (show I64 _ = _; congr 1; omega)), (by first | rfl | exact f51 | (simp only [upd_apply]; rfl) | (show I64 _ = _; congr 1; omega)), q2, ⟨er, row⟩⟩
    · have ea : a = I := by omega
      subst ea
      obtain ⟨er, row⟩ := row
      ((try simp (maxSteps := 3000000) (dsimp := false) (disch := first | omega | (simp only [len_new, len_put, len_kill]; omega)) only [↓ypre, ypost, ↓reduceIte, Nat.reduceEqDiff, Nat.reduceAdd, Nat.reduceSub, Nat.reduceLeDiff, Nat.zero_add, Nat.sub_zero, ynew, f2, f3, f8, f9, f49, f50, f51, decide_eq_false (show ¬ (a : Int) < ns.length by omega), rd1_of g8]); try simp only [yback])
      rw [hK, show J * K = (gen (J * K) (flS u ns K a 0)).length by rw [gen_len]]
      refine i_parted (n := J) (Ints.own row rfl) (by rw [gen_len]; omega) (by omega) (by rw [gen_len]) fun v7 H7 p7 o7 => ?_
      ((try simp (maxSteps := 3000000) (dsimp := false) (disch := first | omega | (simp only [len_new, len_put, len_kill]; omega)) only [↓ypre, ypost, ↓reduceIte, Nat.reduceEqDiff, Nat.reduceAdd, Nat.reduceSub, Nat.reduceLeDiff, Nat.zero_add, Nat.sub_zero, ynew]); try simp only [yback])
      have em : parts (gen (J * K) (flS u ns K a 0)) K J = conM u ns := by
        rw [parts_gen]
        unfold conM
        rw [show u.j.toNat = J by omega, show u.k.toNat = K by omega, show u.i.toNat = a by omega]
        refine List.map_congr_left fun b hb => gen_congr fun c hc => ?_
        unfold flS
        rw [if_neg (by omega)]
        congr 1
        · rw [Nat.mul_comm, Nat.mul_add_div (by omega), Nat.div_eq_of_lt hc, Nat.add_zero]
        · rw [Nat.mul_comm, Nat.mul_add_mod, Nat.mod_eq_of_lt hc]
      rw [em] at o7
      have q1 := (p13.trans (p4.trans p5)).trans pp
      exact hQ _ _ (q1.trans p7) (o7.lo (pre_len q1))
end Go.Proofs.Ytnjhhgfpclngcaa.X
