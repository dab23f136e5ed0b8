/- Texts of one claim, put together by merge.py: XF33, XS4, XD1, XD2, XS5, XT1, XP8, XP4, XP6, XP12, XP13, XT2, XT3, XT4, XT5, XT6, XT7, XT8, XT9, XU1, XD3, XS6, XS7, XS16, XS17, XS19. -/
import Derived.Test.YtapafdpnmakekaaSI9
set_option linter.unusedVariables false
set_option linter.unusedSimpArgs false
set_option maxRecDepth 20000
set_option maxHeartbeats 4000000
namespace Go.Proofs.Ytapafdpnmakekaa.X
open Go Go.RowKit
theorem cut_get {α : Type} {d : α} {l : List α} {a n k : Nat} (h : k < n) : ((l.drop a).take n).getD k d = l.getD (a + k) d := by
  simp [List.getD_eq_getElem?_getD, List.getElem?_take, List.getElem?_drop, h]
theorem parts_slice {u : Ten} {a J K : Nat} (f : TF u) (hj : u.j = J) (hk : u.k = K) (ha : (a : Int) < u.i) : parts ((u.ns.drop (a * (J * K))).take (J * K)) K J = sliceT u a := by
  have hJ : u.j.toNat = J := by omega
  have hK : u.k.toNat = K := by omega
  have hl : (u.ns.length : Int) = u.i * u.j * u.k := f.len
  obtain ⟨I, hI⟩ : ∃ I : Nat, u.i = I := ⟨u.i.toNat, by have := f.i; omega⟩
  have hl' : u.ns.length = I * (J * K) := by
    rw [hI, hj, hk, Int.mul_assoc] at hl
    exact_mod_cast hl
  have ham : a * (J * K) + J * K ≤ u.ns.length := by rw [hl']; exact mul_row (by omega)
  refine getD_ext (by rw [parts_len, sliceT_len, hJ]) fun j hj' => ?_
  rw [parts_len] at hj'
  rw [parts_get hj', sliceT_get (by omega), hK]
  have hr := mul_row (w := K) hj'
  refine gen_ext (by simp; omega) fun k hk' => ?_
  rw [cut_get hk', cut_get (by omega)]
  unfold tat nth
  congr 1
  rw [hj, hk]
  have e1 : ((a : Int) * (J : Int) + (j : Int)) * (K : Int) + (k : Int) = (((a * J + j) * K + k : Nat) : Int) := by push_cast; rfl
  rw [e1, Int.toNat_natCast, Nat.add_mul, Nat.mul_assoc]
  omega
def sideN (t : Ten) (s : Nat) : Int := if s = 0 then t.i else if s = 1 then t.j else t.k
theorem turnN_side {t : Ten} {s : Nat} (h : s ≤ 2) : (turnN s t).i = sideN t s := by
  have : s = 0 ∨ s = 1 ∨ s = 2 := by omega
  rcases this with rfl | rfl | rfl <;> rfl
theorem s_l05Side {v : Value} {t : Ten} {s : Int} {h : AH} {Q : Value → AH → Prop} (hv : isOne v = true) (hs : 0 ≤ s ∧ s ≤ 2) (hQ : ∀ h', h <+: h' → Q (I64 (sideN t s.toNat)) h') : WF S 247 [tenV t v, I64 s] h Q := by
  refine WF_fn (fn := c247) rfl rfl ?_
  unfold c247
  try simp (maxSteps := 3000000) (disch := first | omega | (simp only [len_new, len_put, len_kill]; omega)) only [↓xpre, xpost, ↓reduceIte, Nat.reduceEqDiff, Nat.reduceAdd, Nat.reduceSub, Nat.reduceLeDiff, Nat.zero_add, Nat.sub_zero, tenV, hv]
  have : s = 0 ∨ s = 1 ∨ s = 2 := by omega
  rcases this with rfl | rfl | rfl
  · try simp (maxSteps := 3000000) (disch := first | omega | (simp only [len_new, len_put, len_kill]; omega)) only [↓xpre, xpost, ↓reduceIte, Nat.reduceEqDiff, Nat.reduceAdd, Nat.reduceSub, Nat.reduceLeDiff, Nat.zero_add, Nat.sub_zero]
    exact hQ _ (pre_new (List.prefix_refl _))
  · try simp (maxSteps := 3000000) (disch := first | omega | (simp only [len_new, len_put, len_kill]; omega)) only [↓xpre, xpost, ↓reduceIte, Nat.reduceEqDiff, Nat.reduceAdd, Nat.reduceSub, Nat.reduceLeDiff, Nat.zero_add, Nat.sub_zero, decide_eq_false (show ¬ (1 : Int) = 0 by decide)]
    exact hQ _ (pre_new (List.prefix_refl _))
  · try simp (maxSteps := 3000000) (disch := first | omega | (simp only [len_new, len_put, len_kill]; omega)) only [↓xpre, xpost, ↓reduceIte, Nat.reduceEqDiff, Nat.reduceAdd, Nat.reduceSub, Nat.reduceLeDiff, Nat.zero_add, Nat.sub_zero, decide_eq_false (show ¬ (2 : Int) = 0 by decide), decide_eq_false (show ¬ (2 : Int) = 1 by decide)]
    exact hQ _ (pre_new (List.prefix_refl _))
def slOK (t : Ten) (s a : Int) : Prop := (0 ≤ s ∧ s ≤ 2) ∧ 0 ≤ a ∧ a < sideN t s.toNat
instance {t : Ten} {s a : Int} : Decidable (slOK t s a) := by unfold slOK; infer_instance
def slR (t : Ten) (s a : Int) : List (List Int) × Int := if isT t = true then (if slOK t s a then (sliceT (turnN s.toNat t) a, 0) else ([], 2)) else ([], 1)
theorem s_SliceOf {v : Value} {t : Ten} {s a : Int} {h : AH} {Q : Value → AH → Prop} (hv : Ints h v t.ns) (hl : (t.ns.length : Int) ≤ 1048576)
    (hQ : ∀ v' h', h <+: h' → OwnRows h h' v' (slR t s a).1 → Q (.tuple #[v', I64 (slR t s a).2]) h') : WF S 108 [tenV t v, I64 s, I64 a] h Q := by
  refine WF_fn (fn := c108) rfl rfl ?_
  unfold c108
  try simp (maxSteps := 3000000) (disch := first | omega | (simp only [len_new, len_put, len_kill]; omega)) only [↓xpre, xpost, ↓reduceIte, Nat.reduceEqDiff, Nat.reduceAdd, Nat.reduceSub, Nat.reduceLeDiff, Nat.zero_add, Nat.sub_zero, tenV, hv.one]
  generalize hH1 : AH.new h _ = H1
  obtain ⟨hb1, p1, n1⟩ := new_facts hH1
  try simp (maxSteps := 3000000) (disch := first | omega | (simp only [len_new, len_put, len_kill]; omega)) only [↓xpre, xpost, ↓reduceIte, Nat.reduceEqDiff, Nat.reduceAdd, Nat.reduceSub, Nat.reduceLeDiff, Nat.zero_add, Nat.sub_zero, rdn_of hb1]
  refine s_l05Is (hv.pre p1) hl fun H2 p2 => ?_
  have hb2 := pre_get p2 hb1
  unfold slR at hQ
  cases h1 : isT t with
  | false =>
    rw [h1, if_neg (by decide)] at hQ
    try simp (maxSteps := 3000000) (disch := first | omega | (simp only [len_new, len_put, len_kill]; omega)) only [↓xpre, xpost, ↓reduceIte, Nat.reduceEqDiff, Nat.reduceAdd, Nat.reduceSub, Nat.reduceLeDiff, Nat.zero_add, Nat.sub_zero]
    exact hQ _ _ (p1.trans p2) (.inl ⟨rfl, rfl⟩)
  | true =>
    rw [h1, if_pos rfl] at hQ
    have f := isT_facts h1
    have no : ¬ slOK t s a → ∀ h', h <+: h' → Q (.tuple #[.slice none 0 0, I64 2]) h' := fun hn h' p => by
      rw [if_neg hn] at hQ
      exact hQ _ _ p (.inl ⟨rfl, rfl⟩)
    try simp (maxSteps := 3000000) (disch := first | omega | (simp only [len_new, len_put, len_kill]; omega)) only [↓xpre, xpost, ↓reduceIte, Nat.reduceEqDiff, Nat.reduceAdd, Nat.reduceSub, Nat.reduceLeDiff, Nat.zero_add, Nat.sub_zero]
    refine s_l01In ?_
    by_cases h2 : 0 ≤ s ∧ s ≤ 2
    case neg =>
      try simp (maxSteps := 3000000) (disch := first | omega | (simp only [len_new, len_put, len_kill]; omega)) only [↓xpre, xpost, ↓reduceIte, Nat.reduceEqDiff, Nat.reduceAdd, Nat.reduceSub, Nat.reduceLeDiff, Nat.zero_add, Nat.sub_zero, h2]
      exact no (fun q => h2 q.1) _ (p1.trans p2)
    try simp (maxSteps := 3000000) (disch := first | omega | (simp only [len_new, len_put, len_kill]; omega)) only [↓xpre, xpost, ↓reduceIte, Nat.reduceEqDiff, Nat.reduceAdd, Nat.reduceSub, Nat.reduceLeDiff, Nat.zero_add, Nat.sub_zero, h2, rdn_of hb2]
    refine s_l05Side hv.one h2 fun H3 p3 => ?_
    have hb3 := pre_get p3 hb2
    have hsd : 1 ≤ sideN t s.toNat ∧ sideN t s.toNat ≤ 9 := by
      have := f.i; have := f.j; have := f.k
      unfold sideN
      split
      · assumption
      · split <;> assumption
    try simp (maxSteps := 3000000) (disch := first | omega | (simp only [len_new, len_put, len_kill]; omega)) only [↓xpre, xpost, ↓reduceIte, Nat.reduceEqDiff, Nat.reduceAdd, Nat.reduceSub, Nat.reduceLeDiff, Nat.zero_add, Nat.sub_zero, wrap64_in]
    refine s_l01In ?_
    by_cases h3 : 0 ≤ a ∧ a ≤ sideN t s.toNat - 1
    case neg =>
      try simp (maxSteps := 3000000) (disch := first | omega | (simp only [len_new, len_put, len_kill]; omega)) only [↓xpre, xpost, ↓reduceIte, Nat.reduceEqDiff, Nat.reduceAdd, Nat.reduceSub, Nat.reduceLeDiff, Nat.zero_add, Nat.sub_zero, h3]
      exact no (fun q => h3 ⟨q.2.1, by have := q.2.2; omega⟩) _ ((p1.trans p2).trans p3)
    try simp (maxSteps := 3000000) (disch := first | omega | (simp only [len_new, len_put, len_kill]; omega)) only [↓xpre, xpost, ↓reduceIte, Nat.reduceEqDiff, Nat.reduceAdd, Nat.reduceSub, Nat.reduceLeDiff, Nat.zero_add, Nat.sub_zero, h3, rdn_of hb3]
    obtain ⟨k, rfl⟩ : ∃ k : Nat, s = k := ⟨s.toNat, by omega⟩
    rw [if_pos ⟨h2, by omega, by omega⟩, Int.toNat_natCast] at hQ
    rw [Int.toNat_natCast] at h3
    refine s_l05Turned (hv.pre ((p1.trans p2).trans p3)) f (by omega) fun v4 H4 p4 i4 => ?_
    try simp (maxSteps := 3000000) (disch := first | omega | (simp only [len_new, len_put, len_kill]; omega)) only [↓xpre, xpost, ↓reduceIte, Nat.reduceEqDiff, Nat.reduceAdd, Nat.reduceSub, Nat.reduceLeDiff, Nat.zero_add, Nat.sub_zero]
    refine s_l05Slice i4 (TF.turnN f) ⟨h3.1, by rw [turnN_side (by omega)]; omega⟩ fun v5 H5 p5 o5 => ?_
    try simp (maxSteps := 3000000) (disch := first | omega | (simp only [len_new, len_put, len_kill]; omega)) only [↓xpre, xpost, ↓reduceIte, Nat.reduceEqDiff, Nat.reduceAdd, Nat.reduceSub, Nat.reduceLeDiff, Nat.zero_add, Nat.sub_zero]
    exact hQ _ _ (((p1.trans p2).trans p3).trans (p4.trans p5)) (o5.lo (pre_len (((p1.trans p2).trans p3).trans p4)))
theorem i_SliceOf {v : Value} {t : Ten} {s a : Int} {h : AH} {Q : Value → AH → Prop} (hv : Ints h v t.ns) (hl : (t.ns.length : Int) ≤ 1048576)
    (hQ : ∀ v' h', h <+: h' → OwnRows h h' v' (slR t s a).1 → Q (.tuple #[v', I64 (slR t s a).2]) h') : WF S 107 [tenV t v, I64 s, I64 a] h Q := by
  refine WF_fn (fn := c107) rfl rfl ?_
  unfold c107
  try simp (maxSteps := 3000000) (disch := first | omega | (simp only [len_new, len_put, len_kill]; omega)) only [↓xpre, xpost, ↓reduceIte, Nat.reduceEqDiff, Nat.reduceAdd, Nat.reduceSub, Nat.reduceLeDiff, Nat.zero_add, Nat.sub_zero, tenV, hv.one]
  generalize hH1 : AH.new h _ = H1
  obtain ⟨hb1, p1, n1⟩ := new_facts hH1
  try simp (maxSteps := 3000000) (disch := first | omega | (simp only [len_new, len_put, len_kill]; omega)) only [↓xpre, xpost, ↓reduceIte, Nat.reduceEqDiff, Nat.reduceAdd, Nat.reduceSub, Nat.reduceLeDiff, Nat.zero_add, Nat.sub_zero, rdn_of hb1]
  refine i_IsTensor (hv.pre p1) hl fun H2 p2 => ?_
  have hb2 := pre_get p2 hb1
  unfold slR at hQ
  cases h1 : isT t with
  | false =>
    rw [h1, if_neg (by decide)] at hQ
    try simp (maxSteps := 3000000) (disch := first | omega | (simp only [len_new, len_put, len_kill]; omega)) only [↓xpre, xpost, ↓reduceIte, Nat.reduceEqDiff, Nat.reduceAdd, Nat.reduceSub, Nat.reduceLeDiff, Nat.zero_add, Nat.sub_zero]
    exact hQ _ _ (p1.trans p2) (.inl ⟨rfl, rfl⟩)
  | true =>
    rw [h1, if_pos rfl] at hQ
    have f := isT_facts h1
    have no : ¬ slOK t s a → ∀ h', h <+: h' → Q (.tuple #[.slice none 0 0, I64 2]) h' := fun hn h' p => by
      rw [if_neg hn] at hQ
      exact hQ _ _ p (.inl ⟨rfl, rfl⟩)
    try simp (maxSteps := 3000000) (disch := first | omega | (simp only [len_new, len_put, len_kill]; omega)) only [↓xpre, xpost, ↓reduceIte, Nat.reduceEqDiff, Nat.reduceAdd, Nat.reduceSub, Nat.reduceLeDiff, Nat.zero_add, Nat.sub_zero]
    by_cases h2 : s < 0
    · try simp (maxSteps := 3000000) (disch := first | omega | (simp only [len_new, len_put, len_kill]; omega)) only [↓xpre, xpost, ↓reduceIte, Nat.reduceEqDiff, Nat.reduceAdd, Nat.reduceSub, Nat.reduceLeDiff, Nat.zero_add, Nat.sub_zero, decide_eq_true h2]
      exact no (fun q => by have := q.1; omega) _ (p1.trans p2)
    try simp (maxSteps := 3000000) (disch := first | omega | (simp only [len_new, len_put, len_kill]; omega)) only [↓xpre, xpost, ↓reduceIte, Nat.reduceEqDiff, Nat.reduceAdd, Nat.reduceSub, Nat.reduceLeDiff, Nat.zero_add, Nat.sub_zero, decide_eq_false h2]
    by_cases h3 : 2 < s
    · try simp (maxSteps := 3000000) (disch := first | omega | (simp only [len_new, len_put, len_kill]; omega)) only [↓xpre, xpost, ↓reduceIte, Nat.reduceEqDiff, Nat.reduceAdd, Nat.reduceSub, Nat.reduceLeDiff, Nat.zero_add, Nat.sub_zero, decide_eq_true h3]
      exact no (fun q => by have := q.1; omega) _ (p1.trans p2)
    try simp (maxSteps := 3000000) (disch := first | omega | (simp only [len_new, len_put, len_kill]; omega)) only [↓xpre, xpost, ↓reduceIte, Nat.reduceEqDiff, Nat.reduceAdd, Nat.reduceSub, Nat.reduceLeDiff, Nat.zero_add, Nat.sub_zero, decide_eq_false h3]
    by_cases h4 : a < 0
    · try simp (maxSteps := 3000000) (disch := first | omega | (simp only [len_new, len_put, len_kill]; omega)) only [↓xpre, xpost, ↓reduceIte, Nat.reduceEqDiff, Nat.reduceAdd, Nat.reduceSub, Nat.reduceLeDiff, Nat.zero_add, Nat.sub_zero, decide_eq_true h4]
      exact no (fun q => by have := q.2; omega) _ (p1.trans p2)
    obtain ⟨k, rfl⟩ : ∃ k : Nat, s = k := ⟨s.toNat, by omega⟩
    try simp (maxSteps := 3000000) (disch := first | omega | (simp only [len_new, len_put, len_kill]; omega)) only [↓xpre, xpost, ↓reduceIte, Nat.reduceEqDiff, Nat.reduceAdd, Nat.reduceSub, Nat.reduceLeDiff, Nat.zero_add, Nat.sub_zero, decide_eq_false h4, rdn_of hb2]
    refine i_sides hv.one fun H3 p3 => ?_
    have hb3 := pre_get p3 hb2
    have e1 : idx1V 3 (.agg #[I64 t.i, I64 t.j, I64 t.k]) (I64 (k : Int)) = some (I64 (sideN t k)) := by
      have : k = 0 ∨ k = 1 ∨ k = 2 := by omega
      rcases this with rfl | rfl | rfl <;> rfl
    try simp (maxSteps := 3000000) (disch := first | omega | (simp only [len_new, len_put, len_kill]; omega)) only [↓xpre, xpost, ↓reduceIte, Nat.reduceEqDiff, Nat.reduceAdd, Nat.reduceSub, Nat.reduceLeDiff, Nat.zero_add, Nat.sub_zero, ↓WX_idx1, e1]
    by_cases h5 : sideN t k ≤ a
    · try simp (maxSteps := 3000000) (disch := first | omega | (simp only [len_new, len_put, len_kill]; omega)) only [↓xpre, xpost, ↓reduceIte, Nat.reduceEqDiff, Nat.reduceAdd, Nat.reduceSub, Nat.reduceLeDiff, Nat.zero_add, Nat.sub_zero, decide_eq_true h5]
      exact no (fun q => by have := q.2; rw [Int.toNat_natCast] at this; omega) _ ((p1.trans p2).trans p3)
    try simp (maxSteps := 3000000) (disch := first | omega | (simp only [len_new, len_put, len_kill]; omega)) only [↓xpre, xpost, ↓reduceIte, Nat.reduceEqDiff, Nat.reduceAdd, Nat.reduceSub, Nat.reduceLeDiff, Nat.zero_add, Nat.sub_zero, decide_eq_false h5, rdn_of hb3]
    rw [if_pos ⟨by omega, by omega, by rw [Int.toNat_natCast]; omega⟩, Int.toNat_natCast] at hQ
    refine i_turned (hv.pre ((p1.trans p2).trans p3)) f (by omega) fun v4 H4 p4 i4 => ?_
    have fu := TF.turnN (n := k) f
    have hsd := turnN_side (t := t) (s := k) (by omega)
    generalize turnN k t = u at *
    have jk := mul_in1 (A := 9) (B := 9) fu.j fu.k
    obtain ⟨A, rfl⟩ : ∃ A : Nat, a = A := ⟨a.toNat, by omega⟩
    obtain ⟨J, hJ⟩ : ∃ J : Nat, u.j = J := ⟨u.j.toNat, by have := fu.j; omega⟩
    obtain ⟨K, hK⟩ : ∃ K : Nat, u.k = K := ⟨u.k.toNat, by have := fu.k; omega⟩
    obtain ⟨I, hI⟩ : ∃ I : Nat, u.i = I := ⟨u.i.toNat, by have := fu.i; omega⟩
    have hl' : u.ns.length = I * (J * K) := by
      have hl := fu.len
      rw [hI, hJ, hK, Int.mul_assoc] at hl
      exact_mod_cast hl
    have ham : A * (J * K) + J * K ≤ u.ns.length := by rw [hl']; exact mul_row (by omega)
    have hle := fu.le
    have hsl := parts_slice fu hJ hK (a := A) (by omega)
    have ejk : u.j * u.k = ((J * K : Nat) : Int) := by rw [hJ, hK]; push_cast; rfl
    have ea : (A : Int) * ((J * K : Nat) : Int) = ((A * (J * K) : Nat) : Int) := by push_cast; rfl
    have ea1 : ((A : Int) + 1) * ((J * K : Nat) : Int) = ((A * (J * K) : Nat) : Int) + ((J * K : Nat) : Int) := by rw [Int.add_mul, Int.one_mul, ea]
    rw [ejk] at jk
    try simp (maxSteps := 3000000) (disch := first | omega | (simp only [len_new, len_put, len_kill]; omega)) only [↓xpre, xpost, ↓reduceIte, Nat.reduceEqDiff, Nat.reduceAdd, Nat.reduceSub, Nat.reduceLeDiff, Nat.zero_add, Nat.sub_zero, tenV, i4.one]
    generalize hH5 : AH.new H4 _ = H5
    obtain ⟨hb5, p5, n5⟩ := new_facts hH5
    have i5 := i4.pre p5
    obtain ⟨v', e6, i6⟩ := i5.slcV (k1 := .i64) (k2 := .i64) (l := ((A * (J * K) : Nat) : Int)) (u := ((A * (J * K) : Nat) : Int) + ((J * K : Nat) : Int)) (by omega)
    rw [Int.toNat_natCast, show (((A * (J * K) : Nat) : Int) + ((J * K : Nat) : Int) - ((A * (J * K) : Nat) : Int)).toNat = J * K by omega] at i6
    have rl : ((u.ns.drop (A * (J * K))).take (J * K)).length = J * K := by rw [List.length_take, List.length_drop]; omega
    have fi := fu.i
    try simp (maxSteps := 3000000) (disch := first | omega | (simp only [len_new, len_put, len_kill]; omega)) only [↓xpre, xpost, ↓reduceIte, Nat.reduceEqDiff, Nat.reduceAdd, Nat.reduceSub, Nat.reduceLeDiff, Nat.zero_add, Nat.sub_zero, rd1_of hb5, ejk, ea, ea1, wrap64_in, ↓WX_slc, omapF_some, omapF_none, e6]
    rw [hK]
    refine i_parted (n := J) i6 (by omega) (by have := fu.k; omega) rl fun v7 H7 p7 o7 => ?_
    rw [hsl] at o7
    try simp (maxSteps := 3000000) (disch := first | omega | (simp only [len_new, len_put, len_kill]; omega)) only [↓xpre, xpost, ↓reduceIte, Nat.reduceEqDiff, Nat.reduceAdd, Nat.reduceSub, Nat.reduceLeDiff, Nat.zero_add, Nat.sub_zero]
    exact hQ _ _ (((p1.trans p2).trans p3).trans ((p4.trans p5).trans p7)) (o7.lo (pre_len (((p1.trans p2).trans p3).trans (p4.trans p5))))
end Go.Proofs.Ytapafdpnmakekaa.X

set_option linter.unusedVariables false
set_option linter.unusedSimpArgs false
set_option maxRecDepth 20000
set_option maxHeartbeats 4000000
namespace Go.Proofs.Ytapafdpnmakekaa.X
open Go Go.RowKit
theorem WG_un {S : XS} {b : Bool} {i : XI} {rest : List XI} {f : Fr} {h : AH} {Q : Fr → AH → Prop} : WG S undef b i rest f h Q = WO S rest (updo f i.d undef) h Q := rfl
def By (w : Nat) (q : List Int) : Prop := q.length = w ∧ ∀ j, j < w → 0 ≤ q.getD j 0 ∧ q.getD j 0 ≤ 255
def okAt (p n : Int) (q : List Int) (j : Nat) : Bool := decide (q.getD j 0 < p ∧ (n ≤ (j : Int) → q.getD j 0 = 0))
def okForm (p n : Int) (q : List Int) : Bool := (List.range 9).all (okAt p n q)
theorem okForm_t {p n : Int} {q : List Int} (h : ∀ j, j < 9 → okAt p n q j = true) : okForm p n q = true := by
  unfold okForm
  rw [List.all_eq_true]
  exact fun j hj => h j (List.mem_range.1 hj)
def z9 : List Int := [0, 0, 0, 0, 0, 0, 0, 0, 0]
theorem zeros9' : ([.int .u8 0, .int .u8 0, .int .u8 0, .int .u8 0, .int .u8 0, .int .u8 0, .int .u8 0, .int .u8 0, .int .u8 0] : List Value) = cel .u8 z9 := rfl
def isZ (q : List Int) : Bool := q == z9
theorem intsOf_cel {k : IntKind} : ∀ {q : List Int}, q ≠ [] → intsOf (cel k q) = some (k, q)
  | [], h => absurd rfl h
  | [a], _ => rfl
  | a :: b :: l, _ => by
    have ih := intsOf_cel (k := k) (q := b :: l) (by simp)
    have e : cel k (a :: b :: l) = .int k a :: cel k (b :: l) := rfl
    have e2 : cel k (b :: l) = .int k b :: cel k l := rfl
    rw [e2] at ih
    rw [e, e2]
    simp only [intsOf, ih, if_true]
theorem eqaV_cel {n : Nat} {k : IntKind} {q r : List Int} (hq : q.length = n) (hr : r.length = n) (h0 : 0 < n) : eqaV false n (.agg (cel k q).toArray) (.agg (cel k r).toArray) = some (.bool (q == r)) := by
  have e1 := intsOf_cel (k := k) (q := q) (by intro e; rw [e] at hq; simp at hq; omega)
  have e2 := intsOf_cel (k := k) (q := r) (by intro e; rw [e] at hr; simp at hr; omega)
  simp only [eqaV, e1, e2]
  rw [if_pos ⟨trivial, hq, hr⟩]
  simp
theorem s_l01Zero {q : List Int} {h : AH} {Q : Value → AH → Prop} (hq : q.length = 9) (hQ : ∀ h', h <+: h' → Q (.bool (isZ q)) h') : WF S 278 [aggV .u8 q] h Q := by
  refine WF_fn (fn := c278) rfl rfl ?_
  unfold c278
  have tk : q.take 9 = q := List.take_of_length_le (by rw [hq]; exact Nat.le_refl _)
  have e := eqaV_cel (k := .u8) hq (show z9.length = 9 from rfl) (by omega)
  try simp (maxSteps := 3000000) (disch := first | omega | (simp only [len_new, len_put, len_kill]; omega)) only [↓xpre, xpost, ↓reduceIte, Nat.reduceEqDiff, Nat.reduceAdd, Nat.reduceSub, Nat.reduceLeDiff, Nat.zero_add, Nat.sub_zero, aggV, cel_all, cel_len, hq, cel_take, tk, fillL, zeros9', e]
  have := hQ _ (pre_new (b := ⟨cel .u8 q, 136, false, true⟩) (List.prefix_refl h))
  unfold isZ at this
  simpa using this
def seg (q : List Int) (i : Nat) : List Int := (q.drop (i * 9)).take 9
theorem By.seg {q : List Int} (hq : By 27 q) {i : Nat} (hi : i < 3) : By 9 (seg q i) := by
  have h1 := hq.1
  refine ⟨by unfold X.seg; simp; omega, fun j hj => ?_⟩
  unfold X.seg
  rw [cut_get hj]
  exact hq.2 _ (by omega)
def hasZ (q : List Int) : Bool := isZ (seg q 0) || isZ (seg q 1) || isZ (seg q 2)
end Go.Proofs.Ytapafdpnmakekaa.X

set_option linter.unusedVariables false
set_option linter.unusedSimpArgs false
set_option maxRecDepth 20000
set_option maxHeartbeats 4000000
namespace Go.Proofs.Ytapafdpnmakekaa.X
open Go Go.RowKit
theorem WO_cut {S : XS} {ops : List XI} {f : Fr} {h : AH} {Q : Fr → AH → Prop} (I : Fr → Prop) (hI : I f) (step : ∀ f, I f → WO S ops f h Q) : WO S ops f h Q := step f hI
def JnQ (I : Fr → AH → Prop) : XE → Fr → AH → Prop
  | .normal, f, h => I f h
  | _, _, _ => False
theorem JnQ_n {I : Fr → AH → Prop} {f : Fr} {h : AH} : JnQ I .normal f h = I f h := rfl
theorem WO.mono {S : XS} {ops : List XI} {f : Fr} {h : AH} {Q Q' : Fr → AH → Prop} (w : WO S ops f h Q) (hq : ∀ f h, Q f h → Q' f h) : WO S ops f h Q' := by
  obtain ⟨k, f', h', h1, h2⟩ := w
  exact ⟨k, f', h', h1, hq _ _ h2⟩
section
variable {n m : Nat} {h0 h h' h'' : AH} {b : Blk}
theorem Kp.refl : Kp n h h := ⟨Nat.le_refl _, fun _ _ _ => rfl⟩
theorem Kp.trans (a : Kp n h h') (c : Kp n h' h'') : Kp n h h'' := ⟨Nat.le_trans a.1 c.1, fun m hm hn => (c.2 m (Nat.lt_of_lt_of_le hm a.1) hn).trans (a.2 m hm hn)⟩
theorem Kp.of (p : h <+: h') : Kp n h h' := prefix_kp p
theorem Kp.get (k : Kp n h h') (hm : m ≠ n) (hg : h.get m = some b) : h'.get m = some b := by rw [k.2 m (get_lt hg) hm]; exact hg
theorem Kp.put (k : Kp n h h') : Kp n h (h'.put n b) := ⟨by rw [len_put]; exact k.1, fun m hm hn => by rw [get_put_ne (Ne.symm hn)]; exact k.2 m hm hn⟩
theorem Kp.putb (k : Kp n h h') (hm : h.length ≤ m) : Kp n h (h'.put m b) := ⟨by rw [len_put]; exact k.1, fun j hj hn => by rw [get_put_ne (by omega)]; exact k.2 j hj hn⟩
theorem Kp.new (k : Kp n h h') : Kp n h (h'.new b) := k.trans (Kp.of (pre_new (List.prefix_refl _)))
theorem get_none {m : Nat} (hm : m < h.length) (hn : h.get m = none) : h[m]? = some none := by
  unfold AH.get at hn
  rw [List.getElem?_eq_getElem hm] at hn ⊢
  cases e : h[m] with
  | none => rfl
  | some b => rw [e] at hn; cases hn
theorem get_some' {m : Nat} (hg : h.get m = some b) : h[m]? = some (some b) := by
  have hl := get_lt hg
  unfold AH.get at hg
  rw [List.getElem?_eq_getElem hl] at hg ⊢
  cases e : h[m] with
  | none => rw [e] at hg; cases hg
  | some c => rw [e] at hg; cases hg; rfl
theorem Kp.pre (k : Kp n h h') (p : h0 <+: h) (hl : h0.length ≤ n) : h0 <+: h' := by
  have l0 := pre_len p
  rw [List.prefix_iff_getElem?] at p ⊢
  intro i hi
  have e := k.2 i (by omega) (by omega)
  rw [← p i hi]
  cases hg : h.get i with
  | none =>
    rw [hg] at e
    rw [get_none (by omega) hg, get_none (Nat.lt_of_lt_of_le (by omega) k.1) e]
  | some b =>
    rw [hg] at e
    rw [get_some' hg, get_some' e]
end
theorem put_facts {h H : AH} {m : Nat} {b : Blk} (hH : h.put m b = H) : (∀ k c, k ≠ m → h.get k = some c → H.get k = some c) ∧ H.length = h.length ∧ (m < h.length → H.get m = some b) ∧ ∀ n h0, Kp n h0 h → h0.length ≤ m → Kp n h0 H := by
  subst hH
  exact ⟨fun k c hk g => by rw [get_put_ne (Ne.symm hk)]; exact g, len_put, fun hm => get_put_same hm, fun n h0 k hm => k.putb hm⟩
def KP (n : Nat) (h : AH) (p : AH → Prop) : Prop := ∀ h', Kp n h h' → p h'
theorem KP.now {n : Nat} {h : AH} {p : AH → Prop} (k : KP n h p) : p h := k h Kp.refl
theorem KP.kp {n : Nat} {h h' : AH} {p : AH → Prop} (k : KP n h p) (d : Kp n h h') : KP n h' p := fun h2 d2 => k h2 (d.trans d2)
theorem KP.pre {n : Nat} {h h' : AH} {p : AH → Prop} (k : KP n h p) (d : h <+: h') : KP n h' p := k.kp (Kp.of d)
def KN (lo : Nat) (h : AH) (p : AH → Prop) : Prop := ∀ h' : AH, h.length ≤ h'.length → (∀ m, lo ≤ m → m < h.length → h'.get m = h.get m) → p h'
section
variable {lo lo' n m : Nat} {h h' : AH} {p : AH → Prop} {b : Blk}
theorem KN.now (k : KN lo h p) : p h := k h (Nat.le_refl _) fun _ _ _ => rfl
theorem KN.kp (k : KN lo h p) (d : Kp n h h') (hn : n < lo) : KN lo h' p := fun h2 l2 g2 => k h2 (Nat.le_trans d.1 l2) fun m h1 h3 => (g2 m h1 (Nat.lt_of_lt_of_le h3 d.1)).trans (d.2 m h3 (by omega))
theorem KN.pre (k : KN lo h p) (d : h <+: h') : KN lo h' p := fun h2 l2 g2 => k h2 (Nat.le_trans (pre_len d) l2) fun m h1 h3 => (g2 m h1 (Nat.lt_of_lt_of_le h3 (pre_len d))).trans (prefix_get d h3)
theorem KN.put (k : KN lo h p) (hm : m < lo) : KN lo (h.put m b) p := fun h2 l2 g2 => k h2 (by rw [len_put] at l2; exact l2) fun j h1 h3 => (g2 j h1 (by rw [len_put]; exact h3)).trans (get_put_ne (by omega))
theorem KN.mono (k : KN lo h p) (hl : lo' ≤ lo) : KN lo' h p := fun h2 l2 g2 => k h2 l2 fun m h1 h3 => g2 m (by omega) h3
end
abbrev U64 (n : Int) : Value := .int .u64 n
abbrev srcP (n : Nat) : Value := .pointer (some ⟨n, 0, none⟩)
structure Src (h0 h : AH) (n : Nat) : Prop where
  p : h0 <+: h
  lo : h0.length ≤ n
  ex : ∃ (cv : Value) (code : List (List Int)) (a : Nat) (k : Int) (e : TypeId) (full : Bool), Els .u8 1 h0 cv code ∧ Byt 1 code ∧ code.length ≤ 1000000 ∧ a ≤ code.length ∧ h.get n = some ⟨[cv, I64 a, U64 k], e, false, full⟩
theorem Src.kp {h0 h h' : AH} {n : Nat} (s : Src h0 h n) (p : h <+: h') : Src h0 h' n := by
  obtain ⟨cv, code, a, k, e, full, h1, h2, h3, h4, h5⟩ := s.ex
  exact ⟨s.p.trans p, s.lo, cv, code, a, k, e, full, h1, h2, h3, h4, pre_get p h5⟩
theorem Src.keep {h0 h h' : AH} {n : Nat} (s : Src h0 h n) (p : h0 <+: h') (g : ∀ b, h.get n = some b → h'.get n = some b) : Src h0 h' n := by
  obtain ⟨cv, code, a, k, e, full, h1, h2, h3, h4, h5⟩ := s.ex
  exact ⟨p, s.lo, cv, code, a, k, e, full, h1, h2, h3, h4, g _ h5⟩
theorem Src.lt {h0 h : AH} {n : Nat} (s : Src h0 h n) : n < h.length := by
  obtain ⟨cv, code, a, k, e, full, h1, h2, h3, h4, h5⟩ := s.ex
  exact get_lt h5
theorem Src.putb {h0 h : AH} {n m : Nat} {b : Blk} (s : Src h0 h n) (hm : m ≠ n) (hl : h0.length ≤ m) : Src h0 (h.put m b) n := s.keep (pre_put s.p hl) fun c g => by rw [get_put_ne hm]; exact g
theorem Src.put {h0 h H : AH} {n m : Nat} {b : Blk} (s : Src h0 h n) (hH : h.put m b = H) (hm : m ≠ n) (hl : h0.length ≤ m) : Src h0 H n := by
  subst hH
  exact s.putb hm hl
theorem and24 (x : Int) : xbin .and (U64 x) (U64 16777215) = some (U64 ((BitVec.ofInt 64 x &&& BitVec.ofInt 64 16777215).toNat : Nat)) ∧ (BitVec.ofInt 64 x &&& BitVec.ofInt 64 16777215).toNat ≤ 16777215 := by
  have hb : (BitVec.ofInt 64 x &&& BitVec.ofInt 64 16777215).toNat ≤ 16777215 := by
    rw [BitVec.toNat_and]
    exact Nat.le_trans Nat.and_le_right (by decide)
  refine ⟨?_, hb⟩
  simp only [xbin, if_true]
  congr 2
  show IntKind.wrap .u64 ((BitVec.ofInt 64 x &&& BitVec.ofInt 64 16777215).toNat : Nat) = _
  generalize (BitVec.ofInt 64 x &&& BitVec.ofInt 64 16777215).toNat = y at hb
  simp only [IntKind.wrap]
  have : IntKind.u64.bits = 64 := rfl
  rw [this, show IntKind.u64.signed = false from rfl, Bool.false_and, if_neg (by decide)]
  omega
theorem bin_shr {k k' : IntKind} {x : Int} {b : Int} (hb : 0 ≤ b) : xbin .shr (.int k x) (.int k' b) = some (.int k (x.fdiv (2 ^ (min b.toNat k.bits)))) := by simp [xbin, hb]
theorem s_l01Next {h0 h : AH} {n : Nat} {k : Int} {Q : Value → AH → Prop} (s : Src h0 h n) (hQ : ∀ r h', Kp n h h' → h'.length = h.length → Src h0 h' n → (1 ≤ k → 0 ≤ r ∧ r < k) → (k < 1 → r = 0) → Q (I64 r) h') : WF S 148 [srcP n, I64 k] h Q := by
  refine WF_fn (fn := c148) rfl rfl ?_
  unfold c148
  obtain ⟨cv, code, a, hs, e, full, h1, h2, h3, h4, h5⟩ := s.ex
  unfold srcP
  by_cases hk : k < 1
  · ((try simp (maxSteps := 3000000) (dsimp := false) (disch := first | omega | (simp only [len_new, len_put, len_kill]; omega)) only [↓ypre, ypost, ↓reduceIte, Nat.reduceEqDiff, Nat.reduceAdd, Nat.reduceSub, Nat.reduceLeDiff, Nat.zero_add, Nat.sub_zero, ynew, decide_eq_true hk]); try simp only [yback])
    exact hQ 0 _ Kp.refl rfl s (by omega) (fun _ => rfl)
  · ((try simp (maxSteps := 3000000) (dsimp := false) (disch := first | omega | (simp only [len_new, len_put, len_kill]; omega)) only [↓ypre, ypost, ↓reduceIte, Nat.reduceEqDiff, Nat.reduceAdd, Nat.reduceSub, Nat.reduceLeDiff, Nat.zero_add, Nat.sub_zero, ynew, decide_eq_false hk, nchkV_p, rd1_of h5, wr_of h5, splice_eq]); try simp only [yback])
    generalize hx : IntKind.u64.wrap (IntKind.u64.wrap (hs * 6364136223846793005) + 1442695040888963407) = x
    generalize hH : h.put n ⟨[cv, I64 a, U64 x], e, false, full⟩ = H
    have gH : H.get n = some ⟨[cv, I64 a, U64 x], e, false, full⟩ := by rw [← hH]; exact get_put_same (get_lt h5)
    have lH : H.length = h.length := by rw [← hH, len_put]
    have kH : Kp n h H := by rw [← hH]; exact Kp.refl.put
    have pH := kH.pre s.p s.lo
    obtain ⟨a1, a2⟩ := and24 (x.fdiv (2 ^ (min (33 : Int).toNat IntKind.u64.bits)))
    generalize hN : (BitVec.ofInt 64 (x.fdiv (2 ^ (min (33 : Int).toNat IntKind.u64.bits))) &&& BitVec.ofInt 64 16777215).toNat = N at a1 a2
    have e1 := h1.pre pH
    have fin : ∀ (y : Int) (h' : AH), 0 ≤ y → Kp n h h' → h'.length = h.length → Src h0 h' n → Q (I64 (y.tmod k)) h' := fun y h' hy kp hl ss =>
      hQ _ h' kp hl ss (fun _ => ⟨Int.tmod_nonneg _ hy, Int.tmod_lt_of_pos _ (by omega)⟩) (fun hk' => absurd hk' hk)
    ((try simp (maxSteps := 3000000) (dsimp := false) (disch := first | omega | (simp only [len_new, len_put, len_kill]; omega)) only [↓ypre, ypost, ↓reduceIte, Nat.reduceEqDiff, Nat.reduceAdd, Nat.reduceSub, Nat.reduceLeDiff, Nat.zero_add, Nat.sub_zero, ynew, rd1_of gH, bin_shr, a1, e1.len, wrap64_in, Int.reduceLE]); try simp only [yback])
    by_cases hlt : (a : Int) < code.length
    · have hi' : a < code.length := by omega
      obtain ⟨n2, off, hix, hrn, hr1⟩ := e1.at hi'
      have rb := hr1 0 (by omega)
      have bb := h2 a hi' 0 (by omega)
      rw [Nat.add_zero] at rb
      generalize (code.getD a []).getD 0 0 = y at rb bb
      ((try simp (maxSteps := 3000000) (dsimp := false) (disch := first | omega | (simp only [len_new, len_put, len_kill]; omega)) only [↓ypre, ypost, ↓reduceIte, Nat.reduceEqDiff, Nat.reduceAdd, Nat.reduceSub, Nat.reduceLeDiff, Nat.zero_add, Nat.sub_zero, ynew, decide_eq_true hlt, hix, rb, rd1_of gH, wr_of gH, splice_eq, wrap64_in, bin_rem (show k ≠ 0 by omega)]); try simp only [yback])
      exact fin (N + y) _ (by omega) kH.put (by rw [len_put, lH]) ⟨pre_put pH s.lo, s.lo, cv, code, a + 1, x, e, full, h1, h2, h3, by omega, get_put_same (get_lt gH)⟩
    · ((try simp (maxSteps := 3000000) (dsimp := false) (disch := first | omega | (simp only [len_new, len_put, len_kill]; omega)) only [↓ypre, ypost, ↓reduceIte, Nat.reduceEqDiff, Nat.reduceAdd, Nat.reduceSub, Nat.reduceLeDiff, Nat.zero_add, Nat.sub_zero, ynew, decide_eq_false hlt, bin_rem (show k ≠ 0 by omega)]); try simp only [yback])
      exact fin N H (by omega) kH lH ⟨pH, s.lo, cv, code, a, x, e, full, h1, h2, h3, h4, gH⟩
end Go.Proofs.Ytapafdpnmakekaa.X

set_option linter.unusedVariables false
set_option linter.unusedSimpArgs false
set_option maxRecDepth 20000
set_option maxHeartbeats 4000000
namespace Go.Proofs.Ytapafdpnmakekaa.X
open Go Go.RowKit
theorem s_l01From {h : AH} {cv : Value} {code : List (List Int)} {Q : Value → AH → Prop} (hv : Els .u8 1 h cv code) (hb : Byt 1 code) (hl : code.length ≤ 1000000)
    (hQ : ∀ h', h <+: h' → h'.length = h.length + 1 → Src h h' h.length → Q (srcP h.length) h') : WF S 145 [cv] h Q := by
  refine WF_fn (fn := c145) rfl rfl ?_
  unfold c145
  ((try simp (maxSteps := 3000000) (dsimp := false) (disch := first | omega | (simp only [len_new, len_put, len_kill]; omega)) only [↓ypre, ypost, ↓reduceIte, Nat.reduceEqDiff, Nat.reduceAdd, Nat.reduceSub, Nat.reduceLeDiff, Nat.zero_add, Nat.sub_zero, ynew, hv.len, hv.one, hv.cells]); try simp only [yback])
  generalize hx : IntKind.u64.wrap (12619 + IntKind.u64.wrap (code.length : Int)) = x0
  ((try simp (maxSteps := 3000000) (dsimp := false) (disch := first | omega | (simp only [len_new, len_put, len_kill]; omega)) only [↓ypre, ypost, ↓reduceIte, Nat.reduceEqDiff, Nat.reduceAdd, Nat.reduceSub, Nat.reduceLeDiff, Nat.zero_add, Nat.sub_zero, ynew, fillL, hv.one, hv.cells]); try simp only [yback])
  generalize hH1 : AH.new h _ = H1
  obtain ⟨hb1, p1, n1⟩ := new_facts hH1
  refine WC_loop_inv (fun m f K1 => ∃ (i : Nat) (x : Int), m = code.length - i ∧ i ≤ code.length ∧ f 0 = cv ∧ f 3 = srcP h.length ∧ f 4 = I64 i ∧ (h <+: K1) ∧ (K1.length = h.length + 1) ∧ (K1.get h.length = some ⟨[cv, I64 0, U64 x], 220, false, true⟩)) ?_ (code.length - 0) _ _ ⟨0, x0, rfl, by omega, (by first | rfl | simp [upd_apply]), (by first | rfl | simp [upd_apply]), (by first | rfl | simp [upd_apply]), p1, n1, hb1⟩
  rintro m f K1 ⟨i, x, rfl, hi, f0, f3, f4, pp, hl1, hg⟩
  have e1 := hv.pre pp
  unfold srcP at f3
  by_cases hlt : (i : Int) < code.length
  · by_cases h4 : (i : Int) < 4096
    · have hi' : i < code.length := by omega
      obtain ⟨n2, off, hix, hrn, hr1⟩ := e1.at hi'
      have rb := hr1 0 (by omega)
      rw [Nat.add_zero] at rb
      ((try simp (maxSteps := 3000000) (dsimp := false) (disch := first | omega | (simp only [len_new, len_put, len_kill]; omega)) only [↓ypre, ypost, ↓reduceIte, Nat.reduceEqDiff, Nat.reduceAdd, Nat.reduceSub, Nat.reduceLeDiff, Nat.zero_add, Nat.sub_zero, ynew, f0, f3, f4, e1.len, decide_eq_true hlt, decide_eq_true h4, nchkV_p, rd1_of hg, hix, rb, wr_of hg, splice_eq, wrap64_in]); try simp only [yback])
      refine InvQ_go (code.length - (i + 1)) (by omega) ⟨(i + 1), (_), rfl, by omega, (by first | rfl | exact f0 | (simp only [upd_apply]; rfl) | (show I64 _ = _; congr 1; omega)), (by first | rfl | exact f3 | (simp only [upd_apply]; rfl) | (show I64 _ = _; congr 1; omega)), (by first | rfl | exact f4 | (simp only [upd_apply]; rfl) | (show I64 _ = _; congr 1; omega)), (pre_put pp (by omega)), (by rw [len_put]; exact hl1), (get_put_same (get_lt hg))⟩
    · ((try simp (maxSteps := 3000000) (dsimp := false) (disch := first | omega | (simp only [len_new, len_put, len_kill]; omega)) only [↓ypre, ypost, ↓reduceIte, Nat.reduceEqDiff, Nat.reduceAdd, Nat.reduceSub, Nat.reduceLeDiff, Nat.zero_add, Nat.sub_zero, ynew, f0, f3, f4, e1.len, decide_eq_true hlt, decide_eq_false h4]); try simp only [yback])
      exact hQ _ pp hl1 ⟨pp, Nat.le_refl _, cv, code, 0, x, _, _, hv, hb, hl, Nat.zero_le _, hg⟩
  · ((try simp (maxSteps := 3000000) (dsimp := false) (disch := first | omega | (simp only [len_new, len_put, len_kill]; omega)) only [↓ypre, ypost, ↓reduceIte, Nat.reduceEqDiff, Nat.reduceAdd, Nat.reduceSub, Nat.reduceLeDiff, Nat.zero_add, Nat.sub_zero, ynew, f0, f3, f4, e1.len, decide_eq_false hlt, WG_un]); try simp only [yback])
    exact hQ _ pp hl1 ⟨pp, Nat.le_refl _, cv, code, 0, x, _, _, hv, hb, hl, Nat.zero_le _, hg⟩
theorem s_l01Pick {h0 h : AH} {n : Nat} {v : Value} {ns : List Int} {Q : Value → AH → Prop} (s : Src h0 h n) (hv : KP n h fun h' => Ints h' v ns) (h1 : 1 ≤ ns.length) (h2 : ns.length ≤ 1000)
    (hQ : ∀ j h', Kp n h h' → h'.length = h.length → Src h0 h' n → j < ns.length → Q (I64 (ns.getD j 0)) h') : WF S 147 [srcP n, v] h Q := by
  refine WF_fn (fn := c147) rfl rfl ?_
  unfold c147
  ((try simp (maxSteps := 3000000) (dsimp := false) (disch := first | omega | (simp only [len_new, len_put, len_kill]; omega)) only [↓ypre, ypost, ↓reduceIte, Nat.reduceEqDiff, Nat.reduceAdd, Nat.reduceSub, Nat.reduceLeDiff, Nat.zero_add, Nat.sub_zero, ynew, hv.now.len]); try simp only [yback])
  refine s_l01Next s fun r h' kp hl ss hr _ => ?_
  obtain ⟨r0, r1⟩ := hr (by omega)
  have iv := hv h' kp
  ((try simp (maxSteps := 3000000) (dsimp := false) (disch := first | omega | (simp only [len_new, len_put, len_kill]; omega)) only [↓ypre, ypost, ↓reduceIte, Nat.reduceEqDiff, Nat.reduceAdd, Nat.reduceSub, Nat.reduceLeDiff, Nat.zero_add, Nat.sub_zero, ynew, iv.ix r0 r1, iv.rd r0 r1]); try simp only [yback])
  have := hQ r.toNat h' kp hl ss (by omega)
  exact this
theorem kp_new {h H : AH} {n : Nat} {ns : List Int} {e : TypeId} (hH : h.new ⟨ns.map (Value.int .i64), e, false, true⟩ = H) (hn : n < h.length) : KP n H fun h' => Ints h' (.slice (some ⟨h.length, 0, none⟩) ns.length 1) ns := by
  obtain ⟨g1, p1, n1⟩ := new_facts hH
  intro h' k
  exact Ints.own (k.get (by omega) g1) rfl
theorem s_l01Near {h0 h : AH} {n : Nat} {m : Int} {Q : Value → AH → Prop} (s : Src h0 h n) (hm : -1000000000 ≤ m ∧ m ≤ 1000000000)
    (hQ : ∀ r h', Kp n h h' → Src h0 h' n → -4611686018427387904 ≤ r ∧ r ≤ 1099511627776 → Q (I64 r) h') : WF S 175 [srcP n, I64 m] h Q := by
  refine WF_fn (fn := c175) rfl rfl ?_
  unfold c175
  have s0 := s
  ((try simp (maxSteps := 3000000) (dsimp := false) (disch := first | omega | (simp only [len_new, len_put, len_kill]; omega)) only [↓ypre, ypost, ↓reduceIte, Nat.reduceEqDiff, Nat.reduceAdd, Nat.reduceSub, Nat.reduceLeDiff, Nat.zero_add, Nat.sub_zero, ynew]); try simp only [yback])
  refine s_l01Next s fun r h1 k1 l1 s1 hr _ => ?_
  by_cases h0' : r = 0
  · ((try simp (maxSteps := 3000000) (dsimp := false) (disch := first | omega | (simp only [len_new, len_put, len_kill]; omega)) only [↓ypre, ypost, ↓reduceIte, Nat.reduceEqDiff, Nat.reduceAdd, Nat.reduceSub, Nat.reduceLeDiff, Nat.zero_add, Nat.sub_zero, ynew, decide_eq_true h0', wrap64_in, fillL, zrep]); try simp only [yback])
    generalize hH : AH.new h1 _ = H
    have lt := s1.lt
    have kv := kp_new (ns := [-1, m + 1, 1099511627776, -4611686018427387904]) hH lt
    obtain ⟨g1, p1, n1⟩ := new_facts hH
    refine s_l01Pick (s1.kp p1) kv (by simp) (by simp) fun j h2 k2 l2 s2 hj => ?_
    ((try simp (maxSteps := 3000000) (dsimp := false) (disch := first | omega | (simp only [len_new, len_put, len_kill]; omega)) only [↓ypre, ypost, ↓reduceIte, Nat.reduceEqDiff, Nat.reduceAdd, Nat.reduceSub, Nat.reduceLeDiff, Nat.zero_add, Nat.sub_zero, ynew]); try simp only [yback])
    refine hQ _ _ ((k1.trans (Kp.of p1)).trans k2) s2 ?_
    have : j = 0 ∨ j = 1 ∨ j = 2 ∨ j = 3 := by simp at hj; omega
    rcases this with rfl | rfl | rfl | rfl <;> simp <;> omega
  · ((try simp (maxSteps := 3000000) (dsimp := false) (disch := first | omega | (simp only [len_new, len_put, len_kill]; omega)) only [↓ypre, ypost, ↓reduceIte, Nat.reduceEqDiff, Nat.reduceAdd, Nat.reduceSub, Nat.reduceLeDiff, Nat.zero_add, Nat.sub_zero, ynew, decide_eq_false h0', wrap64_in]); try simp only [yback])
    refine s_l01Next s1 fun r2 h2 k2 l2 s2 hr2 hr3 => ?_
    ((try simp (maxSteps := 3000000) (dsimp := false) (disch := first | omega | (simp only [len_new, len_put, len_kill]; omega)) only [↓ypre, ypost, ↓reduceIte, Nat.reduceEqDiff, Nat.reduceAdd, Nat.reduceSub, Nat.reduceLeDiff, Nat.zero_add, Nat.sub_zero, ynew]); try simp only [yback])
    refine hQ _ _ (k1.trans k2) s2 ?_
    by_cases h : m + 1 < 1
    · have := hr3 h
      omega
    · have := hr2 (by omega)
      omega
end Go.Proofs.Ytapafdpnmakekaa.X

set_option linter.unusedVariables false
set_option linter.unusedSimpArgs false
set_option maxRecDepth 20000
set_option maxHeartbeats 4000000
namespace Go.Proofs.Ytapafdpnmakekaa.X
open Go Go.RowKit
def sz (n : Int) : Bool := decide (1 ≤ n ∧ n ≤ 3)
def szX (x : Sch) : Bool := isP x.p && sz x.n && sz x.m && sz x.k
structure SZ (x : Sch) : Prop where
  p : 2 ≤ x.p ∧ x.p ≤ 5
  n : 1 ≤ x.n ∧ x.n ≤ 3
  m : 1 ≤ x.m ∧ x.m ≤ 3
  k : 1 ≤ x.k ∧ x.k ≤ 3
  nm : 1 ≤ x.n * x.m ∧ x.n * x.m ≤ 9
  mk2 : 1 ≤ x.m * x.k ∧ x.m * x.k ≤ 9
  nk : 1 ≤ x.n * x.k ∧ x.n * x.k ≤ 9
theorem szX_facts {x : Sch} (h : szX x = true) : SZ x := by
  simp only [szX, sz, Bool.and_eq_true, decide_eq_true_eq] at h
  obtain ⟨⟨⟨h1, h2⟩, h3⟩, h4⟩ := h
  exact ⟨isP_in h1, h2, h3, h4, mul_in1 (A := 3) (B := 3) h2 h3, mul_in1 (A := 3) (B := 3) h3 h4, mul_in1 (A := 3) (B := 3) h2 h4⟩
theorem xres_tmp3 {f : Fr} {h : AH} {t u w : Nat} : xres f h [.tmp t, .tmp u, .tmp w] = some (.tuple #[f t, f u, f w]) := rfl
theorem s_l01Lengths {x : Sch} {v : Value} {h : AH} {Q : Value → AH → Prop} (hv : isOne v = true) (z : SZ x) (hQ : ∀ h', h <+: h' → Q (.tuple #[I64 (x.n * x.m), I64 (x.m * x.k), I64 (x.n * x.k)]) h') : WF S 300 [schV x v] h Q := by
  refine WF_fn (fn := c300) rfl rfl ?_
  unfold c300
  have := z.nm
  have := z.mk2
  have := z.nk
  try simp (maxSteps := 3000000) (disch := first | omega | (simp only [len_new, len_put, len_kill]; omega)) only [↓xpre, xpost, ↓reduceIte, Nat.reduceEqDiff, Nat.reduceAdd, Nat.reduceSub, Nat.reduceLeDiff, Nat.zero_add, Nat.sub_zero, schV, hv, wrap64_in, xres_tmp3]
  exact hQ _ (pre_new (List.prefix_refl _))
def pl (x : Sch) (i : Nat) : Int := if i = 0 then x.n * x.m else if i = 1 then x.m * x.k else x.n * x.k
def okProd (x : Sch) (q : List Int) : Bool := okForm x.p (pl x 0) (seg q 0) && okForm x.p (pl x 1) (seg q 1) && okForm x.p (pl x 2) (seg q 2) && !hasZ q
def isX (x : Sch) : Bool := szX x && decide (x.ps.length ≤ 30) && x.ps.all (okProd x)
theorem Prods.by {h : AH} {v : Value} {L : List (List Int)} (hv : Prods h v L) {i : Nat} (hi : i < L.length) : By 27 (L.getD i []) := ⟨hv.1.wid hi, hv.2 i hi⟩
end Go.Proofs.Ytapafdpnmakekaa.X

set_option linter.unusedVariables false
set_option linter.unusedSimpArgs false
set_option maxRecDepth 20000
set_option maxHeartbeats 4000000
namespace Go.Proofs.Ytapafdpnmakekaa.X
open Go Go.RowKit
def bs : Nat → (Nat → Bool) → Nat
  | 0, _ => 0
  | R + 1, f => bs R f + (if f R = true then 2 ^ R else 0)
def U32 (n : Nat) : Value := .int .u32 (n : Int)
section
variable {R : Nat} {f g : Nat → Bool}
end
def cntB (f : Nat → Bool) : Nat → Nat
  | 0 => 0
  | R + 1 => cntB f R + (if f R = true then 1 else 0)
theorem cntB_congr {f g : Nat → Bool} : ∀ {R : Nat}, (∀ k, k < R → f k = g k) → cntB f R = cntB g R
  | 0, _ => rfl
  | R + 1, h => by
    unfold cntB
    rw [cntB_congr (R := R) fun k hk => h k (by omega), h R (by omega)]
end Go.Proofs.Ytapafdpnmakekaa.X

set_option linter.unusedVariables false
set_option linter.unusedSimpArgs false
set_option maxRecDepth 20000
set_option maxHeartbeats 4000000
namespace Go.Proofs.Ytapafdpnmakekaa.X
open Go Go.RowKit
def WayX (e : TypeId) (k : IntKind) (w : Nat) (h : AH) (lo : Nat) (ex : List Nat) (sv : Value) (L : List (List Int)) : Prop :=
  Wid w L ∧ ((sv = .slice none 0 0 ∧ L = []) ∨ ∃ kb full, sv = .slice (some ⟨kb, 0, none⟩) L.length w ∧ lo ≤ kb ∧ kb ∉ ex ∧ h.get kb = some ⟨cel k L.flatten, e, false, full⟩)
section
variable {e : TypeId} {k : IntKind} {w : Nat} {h h' : AH} {lo : Nat} {ex : List Nat} {sv : Value} {L : List (List Int)}
theorem WayX.pre (o : WayX e k w h lo ex sv L) (p : h <+: h') : WayX e k w h' lo ex sv L := by
  obtain ⟨hw, o | ⟨kb, full, h1, h2, h3, h4⟩⟩ := o
  · exact ⟨hw, .inl o⟩
  · exact ⟨hw, .inr ⟨kb, full, h1, h2, h3, pre_get p h4⟩⟩
theorem WayX.one (o : WayX e k w h lo ex sv L) : isOne sv = true := by
  obtain ⟨hw, ⟨rfl, _⟩ | ⟨kb, full, rfl, h2, h3, h4⟩⟩ := o <;> rfl
theorem WayX.cells (o : WayX e k w h lo ex sv L) : cellsL sv = [sv] := by
  obtain ⟨hw, ⟨rfl, _⟩ | ⟨kb, full, rfl, h2, h3, h4⟩⟩ := o <;> rfl
theorem WayX.len (o : WayX e k w h lo ex sv L) : lenV sv = some (I64 L.length) := by
  obtain ⟨hw, ⟨rfl, rfl⟩ | ⟨kb, full, rfl, h2, h3, h4⟩⟩ := o <;> rfl
theorem WayX.put {n : Nat} {b : Blk} (o : WayX e k w h lo ex sv L) (hn : n < lo ∨ n ∈ ex) : WayX e k w (h.put n b) lo ex sv L := by
  obtain ⟨hw, o | ⟨kb, full, h1, h2, h3, h4⟩⟩ := o
  · exact ⟨hw, .inl o⟩
  · refine ⟨hw, .inr ⟨kb, full, h1, h2, h3, ?_⟩⟩
    rw [get_put_ne]
    · exact h4
    · rintro rfl
      rcases hn with hn | hn
      · omega
      · exact h3 hn
theorem WayX.keep (o : WayX e k w h lo ex sv L) (hk : ∀ m c f, m ∉ ex → lo ≤ m → h.get m = some ⟨c, e, false, f⟩ → h'.get m = some ⟨c, e, false, f⟩) : WayX e k w h' lo ex sv L := by
  obtain ⟨hw, o | ⟨kb, full, h1, h2, h3, h4⟩⟩ := o
  · exact ⟨hw, .inl o⟩
  · exact ⟨hw, .inr ⟨kb, full, h1, h2, h3, hk _ _ _ h3 h2 h4⟩⟩
theorem WayX.hold (o : WayX e k w h lo ex sv L) : ∃ E : List Nat, (∀ m, m ∈ E → lo ≤ m ∧ m < h.length ∧ m ∉ ex) ∧ ∀ h' : AH, (∀ m b, m ∈ E → h.get m = some b → h'.get m = some b) → WayX e k w h' lo ex sv L ∧ InE k w lo h.length h' sv L := by
  obtain ⟨hw, o | ⟨kb, full, h1, h2, h3, h4⟩⟩ := o
  · exact ⟨[], fun m hm => by simp at hm, fun h' _ => ⟨⟨hw, .inl o⟩, .inl o⟩⟩
  · refine ⟨[kb], fun m hm => ?_, fun h' hk => ⟨⟨hw, .inr ⟨kb, full, h1, h2, h3, hk _ _ (by simp) h4⟩⟩, .inr ⟨kb, e, full, ⟨h2, get_lt h4⟩, h1, hk _ _ (by simp) h4, hw⟩⟩⟩
    rw [List.mem_singleton] at hm
    subst hm
    exact ⟨h2, get_lt h4, h3⟩
theorem WayX.inE (o : WayX e k w h lo ex sv L) : InE k w lo h.length h sv L := by
  obtain ⟨hw, o | ⟨kb, full, h1, h2, h3, h4⟩⟩ := o
  · exact .inl o
  · exact .inr ⟨kb, e, full, ⟨h2, get_lt h4⟩, h1, h4, hw⟩
theorem WayX.app {H : AH} {q : List Int} {e' : TypeId} {ro full : Bool} {bytes : Nat} (o : WayX e k w H lo ex sv L) (hq : q.length = w) (hl : ((L.length : Int) + 1) * bytes ≤ 140737488355328) (hn : (L.length : Int) < 1048576) (hlo : lo ≤ H.length) (hex : ∀ m, m ∈ ex → m < H.length)
    {Q : Value → AH → Prop} (hQ : ∀ (sv' : Value) (H' : AH), H'.length = H.length + 2 → (∀ h0 : AH, h0.length ≤ lo → h0 <+: H → h0 <+: H') → (∀ m b, m < lo ∨ m ∈ ex → H.get m = some b → H'.get m = some b) → WayX e k w H' H.length ex sv' (L ++ [q]) → Q sv' H') :
    OQ (appV e w bytes sv (.slice (some ⟨H.length, 0, none⟩) 1 w) (H.new ⟨cel k q, e', ro, full⟩)) Q := by
  have hr : (H.new ⟨cel k q, e', ro, full⟩).rdn H.length 0 w = some (cel k q) := by
    rw [rdn_of get_new_same]
    simp only
    rw [if_pos (by rw [cel_len, hq]; omega), List.drop_zero, List.take_of_length_le (by rw [cel_len, hq]; omega)]
  obtain ⟨hw, ⟨rfl, rfl⟩ | ⟨kb, fu, rfl, h2, h3, h4⟩⟩ := o
  · rw [app_nilW (.inl rfl) hr (by simp only [List.length_nil] at hl; omega), OQ_some]
    refine hQ _ _ (by rw [len_new, len_new]) (fun h0 _ p => pre_new (pre_new p)) (fun m b hm o => get_new_any (get_new_any o)) ⟨?_, .inr ⟨_, false, rfl, by rw [len_new]; omega, fun hm => by have := hex _ hm; rw [len_new] at this; omega, ?_⟩⟩
    · intro r hr
      rw [List.nil_append, List.mem_singleton] at hr
      rw [hr, hq]
    · rw [get_new_same]
      simp
  · have hk : (H.new ⟨cel k q, e', ro, full⟩).get kb = some ⟨cel k L.flatten, e, false, fu⟩ := get_new_any h4
    have hkb := get_lt h4
    rw [app_ownW hk (by rw [cel_len, flat_len hw]) hr ⟨hl, by omega⟩, OQ_some]
    refine hQ _ _ (by rw [len_new, len_kill, len_new]) (fun h0 q p => pre_new (pre_kill (pre_new p) (by omega))) (fun m b hm o => ?_) ⟨?_, .inr ⟨(H.new ⟨cel k q, e', ro, full⟩).length, false, by simp, by rw [len_new]; omega, fun hm => by have := hex _ hm; rw [len_new] at this; omega, ?_⟩⟩
    · refine get_new_any ?_
      rw [get_kill_ne]
      · exact get_new_any o
      · rintro rfl
        rcases hm with hm | hm
        · omega
        · exact h3 hm
    · intro r hr
      rcases List.mem_append.1 hr with hr | hr
      · exact hw r hr
      · rw [List.mem_singleton.1 hr, hq]
    · rw [get_new_eq (by rw [len_kill])]
      simp [cel_app]
end
def Bls (h : AH) (n : Nat) (bs : List Bool) : Prop := h.get n = some ⟨bs.map Value.bool, 4, false, true⟩
section
variable {h h' : AH} {n : Nat} {bs : List Bool}
theorem Bls.pre (o : Bls h n bs) (p : h <+: h') : Bls h' n bs := pre_get p o
theorem Bls.lt (o : Bls h n bs) : n < h.length := get_lt o
theorem Bls.rd {j : Nat} (o : Bls h n bs) (hj : j < bs.length) : h.rd1 n j = some (.bool (bs.getD j false)) := by
  rw [rd1_of o]
  simp [List.getD_eq_getElem?_getD, hj]
theorem Bls.put_ne {m : Nat} {b : Blk} (o : Bls h n bs) (e : m ≠ n) : Bls (h.put m b) n bs := by
  unfold Bls
  rw [get_put_ne e]
  exact o
theorem Bls.wr {j : Nat} {x : Bool} (o : Bls h n bs) (hj : j < bs.length) : ∃ h', h.wr n j [.bool x] = some h' ∧ h' = h.put n ⟨(bs.set j x).map Value.bool, 4, false, true⟩ ∧ Bls h' n (bs.set j x) := by
  have e : splice (bs.map Value.bool) j [.bool x] = (bs.set j x).map Value.bool := by
    rw [splice_set (by simpa using hj)]
    simp [List.map_set]
  refine ⟨_, ?_, rfl, get_put_same o.lt⟩
  rw [wr_of o, if_pos ⟨rfl, by simp only [List.length_map, List.length_singleton]; omega⟩, e]
end
theorem Lst.app3 {n : Nat} {l : List Int} {full : Bool} {H : AH} {x : Int} {e' : TypeId} {ro fu : Bool} (o : Lst H n l full) (hl : (l.length : Int) ≤ 1048576) {Q : Value → AH → Prop}
    (hQ : ∀ H' : AH, H'.length = H.length + 2 → (∀ h0 : AH, h0.length ≤ n → h0 <+: H → h0 <+: H') → (∀ m b, m ≠ n → H.get m = some b → H'.get m = some b) → Lst H' (H.length + 1) (l ++ [x]) false → Q (sl (H.length + 1) (l ++ [x]).length) H') :
    OQ (appV 2 1 8 (sl n l.length) (.slice (some ⟨H.length, 0, none⟩) 1 1) (H.new ⟨[I64 x], e', ro, fu⟩)) Q := by
  have hn : (H.new ⟨[I64 x], e', ro, fu⟩).rdn H.length 0 1 = some [I64 x] := by rw [rdn_new_same]; rfl
  have hk : (H.new ⟨[I64 x], e', ro, fu⟩).get n = some ⟨l.map (Value.int .i64), 2, false, full⟩ := get_new_any o
  have hkb := o.lt
  unfold sl
  rw [app_own hk (by simp) hn (by omega), OQ_some]
  have := hQ (((H.new ⟨[I64 x], e', ro, fu⟩).kill n).new ⟨l.map (Value.int .i64) ++ [I64 x], 2, false, false⟩) (by rw [len_new, len_kill, len_new]) (fun h0 q p => pre_new (pre_kill (pre_new p) q))
    (fun m b hm o => get_new_any (by rw [get_kill_ne (fun e => hm e.symm)]; exact get_new_any o)) (by unfold Lst; rw [get_new_eq (by rw [len_kill, len_new])]; simp)
  unfold sl at this
  rw [len_new]
  rw [List.length_append, List.length_singleton] at this
  exact this
end Go.Proofs.Ytapafdpnmakekaa.X

set_option linter.unusedVariables false
set_option linter.unusedSimpArgs false
set_option maxRecDepth 20000
set_option maxHeartbeats 4000000
namespace Go.Proofs.Ytapafdpnmakekaa.X
open Go Go.RowKit
def rpOK (x : Prg) (ns : List Int) : Prop := allIn x.p ns = true ∧ (ns.length : Int) = x.n
instance {x : Prg} {ns : List Int} : Decidable (rpOK x ns) := by unfold rpOK; infer_instance
end Go.Proofs.Ytapafdpnmakekaa.X

set_option linter.unusedVariables false
set_option linter.unusedSimpArgs false
set_option maxRecDepth 20000
set_option maxHeartbeats 4000000
namespace Go.Proofs.Ytapafdpnmakekaa.X
open Go Go.RowKit
theorem Ints.cell {h : AH} {v : Value} {ns : List Int} (hv : Ints h v ns) {j : Nat} (hj : j < ns.length) : ∃ n off, (∀ kk : IntKind, ixsV 1 v (.int kk (j : Int)) = some (.pointer (some ⟨n, off, none⟩))) ∧ h.rd1 n off = some (I64 (ns.getD j 0)) := by
  rcases hv with ⟨rfl, t, _, rfl⟩ | ⟨b, off, blk, rfl, h2, h3, h4⟩
  · simp at hj
  · refine ⟨b, off + j, fun kk => ?_, ?_⟩
    · rw [ixsV_some, if_pos (by omega)]
      simp
    · rw [rd1_of h2]
      exact h4 j hj
theorem Rows.len {h : AH} {v : Value} {rows : List (List Int)} (hv : Rows h v rows) : lenV v = some (I64 rows.length) := by
  obtain ⟨cs, h1, h2, h3⟩ := hv
  rw [h1.len, h2]
theorem Rows.row {h : AH} {v : Value} {rows : List (List Int)} (hv : Rows h v rows) {i : Nat} (hi : i < rows.length) :
    ∃ n off x, (∀ kk : IntKind, ixsV 1 v (.int kk (i : Int)) = some (.pointer (some ⟨n, off, none⟩))) ∧ h.rd1 n off = some x ∧ Ints h x (rows.getD i []) := by
  obtain ⟨cs, hc, hl, hr⟩ := hv
  rcases hc with ⟨rfl, t, _, rfl⟩ | ⟨b, off, blk, rfl, h2, h3, h4⟩
  · simp at hl
    omega
  · refine ⟨b, off + i, cs.getD i undef, fun kk => ?_, ?_, hr i hi⟩
    · rw [ixsV_some, if_pos (by omega)]
      simp
    · rw [rd1_of h2]
      exact h4 i (by omega)
theorem sl_cells {n l : Nat} : cellsL (sl n l) = [sl n l] := rfl
theorem sl_one {n l : Nat} : isOne (sl n l) = true := rfl
theorem TabS.cell {h0 h : AH} {nb i j : Nat} {full : Bool} {L : List (Nat × List Int)} {x : Int} {n : Nat} {r : List Int} (s : TabS h0 h nb full L) (hi : i < L.length) (hL : L[i] = (n, r)) (hj : j < r.length) :
    ∃ e fu, h.get n = some ⟨r.map (Value.int .i64), e, false, fu⟩ ∧ TabS h0 (h.put n ⟨(r.set j x).map (Value.int .i64), e, false, fu⟩) nb full (L.set i (n, r.set j x)) := by
  have a := s.rows _ (List.getElem_mem hi)
  rw [hL] at a
  obtain ⟨⟨a1, a2⟩, fu, e, o⟩ := a
  refine ⟨e, fu, o, pre_put s.hp a1, s.lo, ?_, fun q hq => ?_, ?_⟩
  · rw [get_put_ne a2, s.g]
    congr 2
    rw [List.map_set]
    have : rowV (n, r.set j x) = (L.map rowV)[i]'(by simpa using hi) := by
      rw [List.getElem_map, hL]
      simp [rowV]
    rw [this, List.set_getElem_self]
  · obtain ⟨m, hm, rfl⟩ := List.mem_iff_getElem.1 hq
    have hm' : m < L.length := by simpa using hm
    by_cases hmi : m = i
    · subst hmi
      rw [List.getElem_set_self]
      exact ⟨⟨a1, a2⟩, fu, e, get_put_same (get_lt o)⟩
    · rw [List.getElem_set_ne (fun q => hmi q.symm)]
      have b := s.rows _ (List.getElem_mem hm')
      obtain ⟨b1, fq, oq⟩ := b
      refine ⟨b1, fq, oq.put_ne ?_⟩
      have hd := List.pairwise_iff_getElem.1 s.dist
      rcases Nat.lt_or_gt_of_ne hmi with hlt | hgt
      · have := hd m i hm' hi hlt
        rw [hL] at this
        exact fun q => this q.symm
      · have := hd i m hi hm' hgt
        rw [hL] at this
        exact this
  · have e1 : (L.set i (n, r.set j x)).map Prod.fst = L.map Prod.fst := by
      rw [List.map_set]
      have : (n, r.set j x).1 = (L.map Prod.fst)[i]'(by simpa using hi) := by rw [List.getElem_map, hL]
      rw [this, List.set_getElem_self]
    have h1 := List.pairwise_map (f := Prod.fst) (R := fun a b : Nat => a ≠ b) (l := L)
    have h2 := List.pairwise_map (f := Prod.fst) (R := fun a b : Nat => a ≠ b) (l := L.set i (n, r.set j x))
    rw [← h2, e1, h1]
    exact s.dist
end Go.Proofs.Ytapafdpnmakekaa.X

set_option linter.unusedVariables false
set_option linter.unusedSimpArgs false
set_option maxRecDepth 20000
set_option maxHeartbeats 4000000
namespace Go.Proofs.Ytapafdpnmakekaa.X
open Go Go.RowKit
theorem WayX.types {e e' : TypeId} {k : IntKind} {w : Nat} {h h' : AH} {lo : Nat} {sv : Value} {L : List (List Int)} (o : WayX e k w h lo [] sv L) (he : e ≠ e') (hk : ∀ m b, b.e ≠ e' → h.get m = some b → h'.get m = some b) : WayX e k w h' lo [] sv L :=
  o.keep fun m c f _ _ g => hk _ _ he g
structure Stay (lo : Nat) (h h' : AH) : Prop where
  len : h.length ≤ h'.length
  pre : ∀ h0 : AH, h0.length ≤ lo → h0 <+: h → h0 <+: h'
  get : ∀ m b, h.get m = some b → b.e ≠ 181 → b.e ≠ 183 → h'.get m = some b
theorem Stay.refl {lo : Nat} {h : AH} : Stay lo h h := ⟨Nat.le_refl _, fun _ _ p => p, fun _ _ g _ _ => g⟩
theorem Stay.of {lo : Nat} {h h' : AH} (p : h <+: h') : Stay lo h h' := ⟨pre_len p, fun _ _ q => q.trans p, fun _ _ g _ _ => pre_get p g⟩
theorem Stay.trans {lo : Nat} {h h1 h2 : AH} (a : Stay lo h h1) (b : Stay lo h1 h2) : Stay lo h h2 :=
  ⟨Nat.le_trans a.len b.len, fun h0 hl p => b.pre h0 hl (a.pre h0 hl p), fun m c g h1 h2 => b.get m c (a.get m c g h1 h2) h1 h2⟩
theorem Stay.put {lo : Nat} {h h' : AH} {n : Nat} {b : Blk} (a : Stay lo h h') (hn : h.length ≤ n) (hlo : lo ≤ n) : Stay lo h (h'.put n b) :=
  ⟨by rw [len_put]; exact a.len, fun h0 hl p => pre_put (a.pre h0 hl p) (by omega), fun m c g h1 h2 => by
    have := get_lt g
    rw [get_put_ne (by omega)]
    exact a.get m c g h1 h2⟩
structure Way2 (h : AH) (lo : Nat) (v w : Value) (x : Prg) : Prop where
  st : WayX (181) .i64 3 h lo [] v x.st
  out : WayX (183) .i64 2 h lo [] w x.out
theorem Way2.pre {h h' : AH} {lo : Nat} {v w : Value} {x : Prg} (o : Way2 h lo v w x) (p : h <+: h') : Way2 h' lo v w x := ⟨o.st.pre p, o.out.pre p⟩
theorem Way2.rd {h : AH} {lo : Nat} {v w : Value} {x : Prg} (o : Way2 h lo v w x) : PrgR h v w x := ⟨o.st.inE.rd, o.out.inE.rd⟩
def OrdB (v w : Value) : Prop := ∀ a b la lb wa wb, v = .slice (some ⟨a, 0, none⟩) la wa → w = .slice (some ⟨b, 0, none⟩) lb wb → a < b
theorem WayX.ord {e e' : TypeId} {k : IntKind} {w w' : Nat} {h h' : AH} {lo : Nat} {ex ex' : List Nat} {sv so : Value} {L L' : List (List Int)} (o : WayX e k w h lo ex sv L) (o' : WayX e' k w' h' h.length ex' so L') : OrdB sv so := by
  intro a b la lb wa wb e1 e2
  obtain ⟨hw, ⟨h1, _⟩ | ⟨kb, full, h1, h2, h3, h4⟩⟩ := o
  · rw [e1] at h1
    cases h1
  · obtain ⟨hw', ⟨h1', _⟩ | ⟨kb', full', h1', h2', h3', h4'⟩⟩ := o'
    · rw [e2] at h1'
      cases h1'
    · rw [e1] at h1
      rw [e2] at h1'
      simp only [Value.slice.injEq, Option.some.injEq, Addr.mk.injEq, and_true] at h1 h1'
      have := get_lt h4
      omega
def RowsS (lo : Nat) (h : AH) (u : Value) (rows : List (List Int)) : Prop :=
  ∃ cs, (∀ h', Stay lo h h' → Vals h' u cs) ∧ cs.length = rows.length ∧ ∀ i, i < rows.length → ∀ h', Stay lo h h' → Ints h' (cs.getD i undef) (rows.getD i [])
theorem Rows.stays {h : AH} {u : Value} {rows : List (List Int)} (o : Rows h u rows) : RowsS h.length h u rows := by
  obtain ⟨cs, h1, h2, h3⟩ := o
  exact ⟨cs, fun h' s => h1.pre (s.pre _ (Nat.le_refl _) (List.prefix_refl _)), h2, fun i hi h' s => (h3 i hi).pre (s.pre _ (Nat.le_refl _) (List.prefix_refl _))⟩
theorem RowsS.trans {lo : Nat} {h h1 : AH} {u : Value} {rows : List (List Int)} (o : RowsS lo h u rows) (s : Stay lo h h1) : RowsS lo h1 u rows := by
  obtain ⟨cs, c1, c2, c3⟩ := o
  exact ⟨cs, fun h' t => c1 _ (s.trans t), c2, fun i hi h' t => c3 i hi _ (s.trans t)⟩
end Go.Proofs.Ytapafdpnmakekaa.X

set_option linter.unusedVariables false
set_option linter.unusedSimpArgs false
set_option maxRecDepth 20000
set_option maxHeartbeats 4000000
namespace Go.Proofs.Ytapafdpnmakekaa.X
open Go Go.RowKit
end Go.Proofs.Ytapafdpnmakekaa.X

set_option linter.unusedVariables false
set_option linter.unusedSimpArgs false
set_option maxRecDepth 20000
set_option maxHeartbeats 4000000
namespace Go.Proofs.Ytapafdpnmakekaa.X
open Go Go.RowKit
def mkB (p : Int) (T : List (List Int)) (i j r : Nat) (k : Nat) : Bool := decide (tb T k i ≠ 0) && decide (tb T k j = (tb T k i * r).tmod p)
def cntT (p : Int) (T : List (List Int)) (i j r : Nat) : Nat := cntB (mkB p T i j r) T.length
structure BS where
  l : Nat
  j : Nat
  r : Nat
  m : Nat
def upB (s : BS) (i j r c : Nat) : BS := if s.m < c then ⟨i, j, r, c⟩ else s
section
variable (p : Int) (T : List (List Int))
def foldR (i j : Nat) : Nat → BS → BS
  | 0, s => s
  | n + 1, s => upB (foldR i j n s) i j (n + 1) (cntT p T i j (n + 1))
def foldJ (i : Nat) : Nat → BS → BS
  | 0, s => s
  | n + 1, s => foldR p T i (i + 1 + n) (p.toNat - 1) (foldJ i n s)
def foldI (W : Nat) : Nat → BS → BS
  | 0, s => s
  | n + 1, s => foldJ p T n (W - (n + 1)) (foldI W n s)
def bst : BS := foldI p T (T.getD 0 []).length (T.getD 0 []).length ⟨0, 0, 0, 1⟩
end
def BOK (p : Int) (T : List (List Int)) (W : Nat) (s : BS) : Prop := 2 ≤ s.m → s.l < s.j ∧ s.j < W ∧ 1 ≤ s.r ∧ (s.r : Int) < p ∧ s.m = cntT p T s.l s.j s.r
theorem upB_ok {p : Int} {T : List (List Int)} {W i j r : Nat} {s : BS} (h : BOK p T W s) (h1 : i < j ∧ j < W ∧ 1 ≤ r ∧ (r : Int) < p) : BOK p T W (upB s i j r (cntT p T i j r)) := by
  unfold upB
  split
  · exact fun _ => ⟨h1.1, h1.2.1, h1.2.2.1, h1.2.2.2, rfl⟩
  · exact h
theorem foldR_ok {p : Int} {T : List (List Int)} {W i j : Nat} {s : BS} (h : BOK p T W s) (h1 : i < j ∧ j < W) : ∀ {n : Nat}, (n : Int) < p → BOK p T W (foldR p T i j n s)
  | 0, _ => h
  | n + 1, hn => upB_ok (foldR_ok h h1 (n := n) (by omega)) ⟨h1.1, h1.2, by omega, hn⟩
theorem foldJ_ok {p : Int} {T : List (List Int)} {W i : Nat} {s : BS} (hp : 1 ≤ p) (h : BOK p T W s) : ∀ {n : Nat}, i + 1 + n ≤ W → BOK p T W (foldJ p T i n s)
  | 0, _ => h
  | n + 1, hn => foldR_ok (foldJ_ok hp h (n := n) (by omega)) ⟨by omega, by omega⟩ (by omega)
theorem foldI_ok {p : Int} {T : List (List Int)} {W : Nat} {s : BS} (hp : 1 ≤ p) (h : BOK p T W s) : ∀ {n : Nat}, n ≤ W → BOK p T W (foldI p T W n s)
  | 0, _ => h
  | n + 1, hn => foldJ_ok hp (foldI_ok hp h (n := n) (by omega)) (by omega)
theorem mul_nz {p a r : Int} (hp : isP p = true) (ha : 1 ≤ a ∧ a < p) (hr : 1 ≤ r ∧ r < p) : 1 ≤ (a * r).tmod p ∧ (a * r).tmod p < p := by
  have hpp : p = 2 ∨ p = 3 ∨ p = 5 := by simpa [isP] using hp
  rcases hpp with rfl | rfl | rfl
  · have h1 : a = 1 := by omega
    have h3 : r = 1 := by omega
    subst h1 h3
    decide
  · have h1 : a = 1 ∨ a = 2 := by omega
    have h3 : r = 1 ∨ r = 2 := by omega
    rcases h1 with rfl | rfl <;> rcases h3 with rfl | rfl <;> decide
  · have h1 : a = 1 ∨ a = 2 ∨ a = 3 ∨ a = 4 := by omega
    have h3 : r = 1 ∨ r = 2 ∨ r = 3 ∨ r = 4 := by omega
    rcases h1 with rfl | rfl | rfl | rfl <;> rcases h3 with rfl | rfl | rfl | rfl <;> decide
def mvOK (p : Int) (l j r : Nat) (row : List Int) : Bool := decide (row.getD l 0 ≠ 0) && decide (row.getD j 0 = (row.getD l 0 * r).tmod p)
def mvRow (p : Int) (l j r : Nat) (row : List Int) : List Int := if mvOK p l j r row = true then ((row.set l 0).set j 0) ++ [row.getD l 0] else row ++ [0]
def mvT (p : Int) (s : BS) (T : List (List Int)) : List (List Int) := T.map (mvRow p s.l s.j s.r)
def GT (p : Int) (W : Nat) (T : List (List Int)) : Prop := ∀ k, k < T.length → (T.getD k []).length = W ∧ ∀ i, i < W → 0 ≤ tb T k i ∧ tb T k i < p
theorem mvRow_len {p : Int} {l j r : Nat} {row : List Int} : (mvRow p l j r row).length = row.length + 1 := by
  unfold mvRow
  split <;> simp
theorem mvT_len {p : Int} {s : BS} {T : List (List Int)} : (mvT p s T).length = T.length := by simp [mvT]
theorem mvT_get {p : Int} {s : BS} {T : List (List Int)} {k : Nat} (hk : k < T.length) : (mvT p s T).getD k [] = mvRow p s.l s.j s.r (T.getD k []) := by
  simp [mvT, List.getD_eq_getElem?_getD, List.getElem?_map, List.getElem?_eq_getElem hk]
theorem mvRow_at {p : Int} {l j r i : Nat} {row : List Int} (hl : l < row.length) (hj : j < row.length) (hi : i ≤ row.length) :
    (mvRow p l j r row).getD i 0 = if i = row.length then (if mvOK p l j r row = true then row.getD l 0 else 0) else if mvOK p l j r row = true ∧ (i = l ∨ i = j) then 0 else row.getD i 0 := by
  unfold mvRow
  by_cases hm : mvOK p l j r row = true
  · rw [if_pos hm, if_pos hm]
    by_cases he : i = row.length
    · subst he
      rw [if_pos rfl, List.getD_eq_getElem?_getD, List.getElem?_append_right (by simp)]
      simp
    · rw [if_neg he, List.getD_eq_getElem?_getD, List.getElem?_append_left (by simp; omega), ← List.getD_eq_getElem?_getD, set_getD (by simp; exact hj), set_getD hl]
      by_cases h1 : i = j
      · rw [if_pos h1, if_pos ⟨hm, .inr h1⟩]
      · rw [if_neg h1]
        by_cases h2 : i = l
        · rw [if_pos h2, if_pos ⟨hm, .inl h2⟩]
        · rw [if_neg h2, if_neg (fun h => h.2.elim h2 h1)]
  · rw [if_neg hm, if_neg hm]
    by_cases he : i = row.length
    · subst he
      rw [if_pos rfl, List.getD_eq_getElem?_getD, List.getElem?_append_right (Nat.le_refl _)]
      simp
    · rw [if_neg he, if_neg (fun h => hm h.1), List.getD_eq_getElem?_getD, List.getElem?_append_left (by omega), ← List.getD_eq_getElem?_getD]
theorem GT.step {p : Int} {W : Nat} {T : List (List Int)} {s : BS} (g : GT p W T) (hp : 1 ≤ p) (h1 : s.l < W) (h2 : s.j < W) : GT p (W + 1) (mvT p s T) := by
  intro k hk
  rw [mvT_len] at hk
  obtain ⟨gl, gi⟩ := g k hk
  refine ⟨by rw [mvT_get hk, mvRow_len, gl], fun i hi => ?_⟩
  have hi' : tb (mvT p s T) k i = (mvRow p s.l s.j s.r (T.getD k [])).getD i 0 := by unfold tb; rw [mvT_get hk]
  rw [hi', mvRow_at (by omega) (by omega) (by omega)]
  have g1 := gi s.l h1
  unfold tb at gi g1
  split
  · split
    · exact g1
    · omega
  · split
    · omega
    · exact gi i (by omega)
def nzR (row : List Int) : Nat := cntB (fun i => decide (row.getD i 0 ≠ 0)) row.length
def sumN (f : Nat → Nat) : Nat → Nat
  | 0 => 0
  | n + 1 => sumN f n + f n
def nzT (T : List (List Int)) : Nat := sumN (fun k => nzR (T.getD k [])) T.length
theorem cntB_flip {f g : Nat → Bool} {l : Nat} (h1 : f l = true) (h2 : g l = false) (h3 : ∀ k, k ≠ l → f k = g k) : ∀ {R : Nat}, l < R → cntB f R = cntB g R + 1
  | 0, h => by omega
  | R + 1, h => by
    unfold cntB
    by_cases e : l = R
    · subst e
      rw [h1, h2, cntB_congr (f := f) (g := g) fun k hk => h3 k (by omega)]
      simp
    · rw [cntB_flip h1 h2 h3 (R := R) (by omega), h3 R (fun q => e q.symm)]
      omega
theorem nzR_mv {p : Int} {l j r : Nat} {row : List Int} (hp : isP p = true) (hl : l < row.length) (hj : j < row.length) (hlj : l ≠ j) (hr : 1 ≤ r ∧ (r : Int) < p) (g : ∀ i, i < row.length → 0 ≤ row.getD i 0 ∧ row.getD i 0 < p) :
    nzR (mvRow p l j r row) + (if mvOK p l j r row = true then 1 else 0) = nzR row := by
  have e : ∀ i, i ≤ row.length → (mvRow p l j r row).getD i 0 = _ := fun i hi => mvRow_at hl hj hi
  unfold nzR
  rw [mvRow_len]
  show cntB _ row.length + (if (decide ((mvRow p l j r row).getD row.length 0 ≠ 0)) = true then 1 else 0) + _ = _
  rw [e row.length (Nat.le_refl _), if_pos rfl]
  by_cases hm : mvOK p l j r row = true
  · have hm' := hm
    unfold mvOK at hm'
    rw [Bool.and_eq_true, decide_eq_true_eq, decide_eq_true_eq] at hm'
    have gl := g l hl
    have nz := mul_nz hp (a := row.getD l 0) (r := r) (by omega) (by omega)
    rw [if_pos hm, if_pos hm, if_pos (decide_eq_true hm'.1)]
    have f1 := cntB_flip (f := fun i => decide (row.getD i 0 ≠ 0)) (g := fun i => if i = l then false else decide (row.getD i 0 ≠ 0)) (l := l) (decide_eq_true hm'.1) (by simp) (fun k hk => by simp [hk]) (R := row.length) hl
    have f2 := cntB_flip (f := fun i => if i = l then false else decide (row.getD i 0 ≠ 0)) (g := fun i => if i = j then false else if i = l then false else decide (row.getD i 0 ≠ 0)) (l := j) (by
      show (if j = l then false else decide (row.getD j 0 ≠ 0)) = true
      rw [if_neg (fun q => hlj q.symm), decide_eq_true (by omega)]) (by simp) (fun k hk => by simp [hk]) (R := row.length) hj
    have f3 : cntB (fun i => decide ((mvRow p l j r row).getD i 0 ≠ 0)) row.length = cntB (fun i => if i = j then false else if i = l then false else decide (row.getD i 0 ≠ 0)) row.length := cntB_congr fun k hk => by
      show decide ((mvRow p l j r row).getD k 0 ≠ 0) = if k = j then false else if k = l then false else decide (row.getD k 0 ≠ 0)
      rw [e k (by omega), if_neg (by omega)]
      by_cases h1 : k = j
      · rw [if_pos ⟨hm, .inr h1⟩, if_pos h1]
        rfl
      · by_cases h2 : k = l
        · rw [if_pos ⟨hm, .inl h2⟩, if_neg h1, if_pos h2]
          rfl
        · rw [if_neg (fun h => h.2.elim h2 h1), if_neg h1, if_neg h2]
    rw [f3, f1, f2]
  · rw [if_neg hm, if_neg hm, if_neg (by simp)]
    refine cntB_congr fun k hk => ?_
    show decide ((mvRow p l j r row).getD k 0 ≠ 0) = _
    rw [e k (by omega), if_neg (by omega), if_neg (fun h => hm h.1)]
theorem sumN_add {f g h : Nat → Nat} : ∀ {n : Nat}, (∀ k, k < n → f k + g k = h k) → sumN f n + sumN g n = sumN h n
  | 0, _ => rfl
  | n + 1, hh => by
    have ih := sumN_add (n := n) fun k hk => hh k (by omega)
    have := hh n (by omega)
    unfold sumN
    omega
theorem sumN_cnt {f : Nat → Bool} : ∀ {n : Nat}, sumN (fun k => if f k = true then 1 else 0) n = cntB f n
  | 0 => rfl
  | n + 1 => by
    unfold sumN cntB
    rw [sumN_cnt (n := n)]
theorem nzT_mv {p : Int} {W : Nat} {T : List (List Int)} {s : BS} (hp : isP p = true) (g : GT p W T) (h1 : s.l < s.j ∧ s.j < W ∧ 1 ≤ s.r ∧ (s.r : Int) < p) : nzT (mvT p s T) + cntT p T s.l s.j s.r = nzT T := by
  unfold nzT cntT
  rw [mvT_len, ← sumN_cnt]
  refine sumN_add fun k hk => ?_
  obtain ⟨gl, gi⟩ := g k hk
  rw [mvT_get hk]
  exact nzR_mv hp (by omega) (by omega) (by omega) ⟨h1.2.2.1, h1.2.2.2⟩ (by rw [gl]; exact gi)
structure SS where
  T : List (List Int)
  st : List (List Int)
def stepS (p : Int) (s : SS) : SS := ⟨mvT p (bst p s.T) s.T, s.st ++ [[((bst p s.T).l : Int), ((bst p s.T).j : Int), ((bst p s.T).r : Int)]]⟩
def shF (p : Int) : Nat → SS → SS
  | 0, s => s
  | f + 1, s => if 2 ≤ (bst p s.T).m then shF p f (stepS p s) else s
theorem bst_ok {p : Int} {W : Nat} {T : List (List Int)} (hp : isP p = true) (g : GT p W T) (hT : 1 ≤ T.length) (h : 2 ≤ (bst p T).m) :
    (bst p T).l < (bst p T).j ∧ (bst p T).j < W ∧ 1 ≤ (bst p T).r ∧ ((bst p T).r : Int) < p ∧ (bst p T).m = cntT p T (bst p T).l (bst p T).j (bst p T).r := by
  have hp5 := isP_in hp
  have hw := (g 0 (by omega)).1
  have := foldI_ok (T := T) (W := (T.getD 0 []).length) (s := ⟨0, 0, 0, 1⟩) (show 1 ≤ p by omega) (fun h => by simp only at h; omega) (n := (T.getD 0 []).length) (Nat.le_refl _)
  rw [← hw]
  exact this h
theorem stepS_facts {p : Int} {W : Nat} {s : SS} (hp : isP p = true) (g : GT p W s.T) (hT : 1 ≤ s.T.length) (h : 2 ≤ (bst p s.T).m) :
    GT p (W + 1) (stepS p s).T ∧ (stepS p s).T.length = s.T.length ∧ nzT (stepS p s).T + 2 ≤ nzT s.T := by
  have hp5 := isP_in hp
  obtain ⟨h1, h2, h3, h4, h5⟩ := bst_ok hp g hT h
  refine ⟨g.step (by omega) (by omega) h2, mvT_len, ?_⟩
  have := nzT_mv hp g ⟨h1, h2, h3, h4⟩
  show nzT (mvT p (bst p s.T) s.T) + 2 ≤ _
  omega
theorem shF_same {p : Int} (hp : isP p = true) : ∀ {f g W : Nat} {s : SS}, GT p W s.T → 1 ≤ s.T.length → nzT s.T ≤ f → nzT s.T ≤ g → shF p f s = shF p g s
  | 0, 0, _, _, _, _, _, _ => rfl
  | 0, g + 1, W, s, gt, hT, h1, h2 => by
    unfold shF
    rw [if_neg]
    intro h
    have := (stepS_facts hp gt hT h).2.2
    omega
  | f + 1, 0, W, s, gt, hT, h1, h2 => by
    unfold shF
    rw [if_neg]
    intro h
    have := (stepS_facts hp gt hT h).2.2
    omega
  | f + 1, g + 1, W, s, gt, hT, h1, h2 => by
    unfold shF
    by_cases h : 2 ≤ (bst p s.T).m
    · rw [if_pos h, if_pos h]
      obtain ⟨a, b, c⟩ := stepS_facts hp gt hT h
      exact shF_same hp a (by omega) (by omega) (by omega)
    · rw [if_neg h, if_neg h]
theorem shF_go {p : Int} {W : Nat} {s : SS} (hp : isP p = true) (g : GT p W s.T) (hT : 1 ≤ s.T.length) (h : 2 ≤ (bst p s.T).m) : shF p (nzT s.T) s = shF p (nzT (stepS p s).T) (stepS p s) := by
  obtain ⟨a, b, c⟩ := stepS_facts hp g hT h
  obtain ⟨f, hf⟩ : ∃ f, nzT s.T = f + 1 := ⟨nzT s.T - 1, by omega⟩
  rw [hf]
  show (if 2 ≤ (bst p s.T).m then shF p f (stepS p s) else s) = _
  rw [if_pos h]
  exact shF_same hp a (by omega) (by omega) (Nat.le_refl _)
def shS (p : Int) (rows : List (List Int)) : SS := shF p (nzT rows) ⟨rows, []⟩
structure ShI (p : Int) (N : Nat) (rows : List (List Int)) (s : SS) : Prop where
  gt : GT p (N + s.st.length) s.T
  len : s.T.length = rows.length
  nz : s.st.length + nzT s.T ≤ 900
  eq : shF p (nzT s.T) s = shS p rows
  wid : Wid 3 s.st
theorem ShI.go {p : Int} {N : Nat} {rows : List (List Int)} {s : SS} (i : ShI p N rows s) (hp : isP p = true) (hT : 1 ≤ rows.length) (h : 2 ≤ (bst p s.T).m) : ShI p N rows (stepS p s) ∧ nzT (stepS p s).T < nzT s.T := by
  have hT' : 1 ≤ s.T.length := by rw [i.len]; exact hT
  obtain ⟨a, b, c⟩ := stepS_facts hp i.gt hT' h
  have e : (stepS p s).st.length = s.st.length + 1 := by simp [stepS]
  have n := i.nz
  refine ⟨⟨by rw [e]; exact a, by rw [b, i.len], by omega, by rw [← shF_go hp i.gt hT' h]; exact i.eq, ?_⟩, by omega⟩
  intro q hq
  rcases List.mem_append.1 (show q ∈ s.st ++ _ from hq) with hq | hq
  · exact i.wid q hq
  · rw [List.mem_singleton.1 hq]
    rfl
end Go.Proofs.Ytapafdpnmakekaa.X

set_option linter.unusedVariables false
set_option linter.unusedSimpArgs false
set_option maxRecDepth 20000
set_option maxHeartbeats 4000000
namespace Go.Proofs.Ytapafdpnmakekaa.X
open Go Go.RowKit
end Go.Proofs.Ytapafdpnmakekaa.X

set_option linter.unusedVariables false
set_option linter.unusedSimpArgs false
set_option maxRecDepth 20000
set_option maxHeartbeats 4000000
namespace Go.Proofs.Ytapafdpnmakekaa.X
open Go Go.RowKit
structure TabL (h : AH) (lo nb : Nat) (full : Bool) (L : List (Nat × List Int)) : Prop where
  g : h.get nb = some ⟨L.map rowV, 27, false, full⟩
  low : lo ≤ nb
  rows : ∀ i (hi : i < L.length), lo ≤ (L[i]).1 ∧ ∃ fu, Lst h (L[i]).1 (L[i]).2 fu
  dist : ∀ i j (hi : i < L.length) (hj : j < L.length), i ≠ j → (L[i]).1 ≠ (L[j]).1
section
variable {h h' : AH} {lo nb : Nat} {full : Bool} {L : List (Nat × List Int)}
theorem TabL.keep (s : TabL h lo nb full L) (hk : ∀ m b, (b.e = 2 ∨ b.e = 27) → h.get m = some b → h'.get m = some b) : TabL h' lo nb full L :=
  ⟨hk _ _ (.inr rfl) s.g, s.low, fun i hi => ⟨(s.rows i hi).1, by obtain ⟨fu, o⟩ := (s.rows i hi).2; exact ⟨fu, hk _ _ (.inl rfl) o⟩⟩, s.dist⟩
theorem TabL.pre (s : TabL h lo nb full L) (p : h <+: h') : TabL h' lo nb full L := s.keep fun m b _ g => pre_get p g
theorem TabL.put (s : TabL h lo nb full L) {n : Nat} {b b' : Blk} (g : h.get n = some b') (hb : b'.e ≠ 2 ∧ b'.e ≠ 27) : TabL (h.put n b) lo nb full L := s.keep fun m c hc g' => by
  rw [get_put_ne]
  · exact g'
  · rintro rfl
    rw [g] at g'
    cases g'
    rcases hc with hc | hc
    · exact hb.1 hc
    · exact hb.2 hc
theorem TabL.rd (s : TabL h lo nb full L) {i : Nat} (hi : i < L.length) : h.rd1 nb i = some (sl (L[i]).1 (L[i]).2.length) := by
  rw [rd1_of s.g]
  simp [hi, rowV, sl]
theorem TabL.ne (s : TabL h lo nb full L) {i : Nat} (hi : i < L.length) : (L[i]).1 ≠ nb := by
  obtain ⟨fu, o⟩ := (s.rows i hi).2
  intro e
  have g := s.g
  unfold Lst at o
  rw [e, g] at o
  have := congrArg (fun b : Option Blk => b.map (·.e)) o
  simp at this
theorem TabL.vals (s : TabL h lo nb full L) : Vals h (sl nb L.length) (L.map rowV) := by
  refine .inr ⟨nb, 0, _, ?_, s.g, by simp, fun i hi => ?_⟩
  · simp [sl]
  · rw [Nat.zero_add, List.getD_eq_getElem?_getD, List.getElem?_eq_getElem hi]
    rfl
theorem TabL.at (s : TabL h lo nb full L) {i : Nat} (hi : i < L.length) : Ints h ((L.map rowV).getD i undef) ((L.map Prod.snd).getD i []) := by
  obtain ⟨fu, o⟩ := (s.rows i hi).2
  have e1 : (L.map rowV).getD i undef = sl (L[i]).1 (L[i]).2.length := by simp [List.getD_eq_getElem?_getD, hi, rowV, sl]
  have e2 : (L.map Prod.snd).getD i [] = (L[i]).2 := by simp [List.getD_eq_getElem?_getD, hi]
  rw [e1, e2]
  exact o.ints
theorem TabL.upd (s : TabL h lo nb full L) {i n' : Nat} {r' : List Int} {fu' : Bool} (hi : i < L.length) (hl : Lst h' n' r' fu') (hlo : lo ≤ n') (hg : h'.get nb = some ⟨(L.set i (n', r')).map rowV, 27, false, full⟩)
    (ho : ∀ j (hj : j < L.length), j ≠ i → ∀ fu, Lst h (L[j]).1 (L[j]).2 fu → Lst h' (L[j]).1 (L[j]).2 fu) (hd : ∀ j (hj : j < L.length), j ≠ i → (L[j]).1 ≠ n') : TabL h' lo nb full (L.set i (n', r')) := by
  refine ⟨hg, s.low, fun j hj => ?_, fun a b ha hb hab => ?_⟩
  · have hj' : j < L.length := by simpa using hj
    rw [List.getElem_set]
    split
    · exact ⟨hlo, fu', hl⟩
    · rename_i hne
      obtain ⟨q1, fu, o⟩ := s.rows j hj'
      exact ⟨q1, fu, ho j hj' (fun e => hne e.symm) fu o⟩
  · have ha' : a < L.length := by simpa using ha
    have hb' : b < L.length := by simpa using hb
    rw [List.getElem_set, List.getElem_set]
    by_cases h1 : i = a
    · rw [if_pos h1, if_neg (by omega)]
      exact fun e => hd b hb' (by omega) e.symm
    · rw [if_neg h1]
      by_cases h2 : i = b
      · rw [if_pos h2]
        exact hd a ha' (by omega)
      · rw [if_neg h2]
        exact s.dist a b ha' hb' hab
theorem TabL.cell (s : TabL h lo nb full L) {i c n : Nat} {r : List Int} {fu : Bool} {x : Int} (hi : i < L.length) (hL : L[i] = (n, r)) (o : Lst h n r fu) :
    TabL (h.put n ⟨(r.set c x).map (Value.int .i64), 2, false, fu⟩) lo nb full (L.set i (n, r.set c x)) := by
  have hne := s.ne hi
  have hr := (s.rows i hi).1
  rw [hL] at hne hr
  refine s.upd hi (fu' := fu) (get_put_same o.lt) hr ?_ (fun j hj hji fu' o' => ?_) (fun j hj hji => ?_)
  · rw [get_put_ne hne, s.g]
    congr 2
    rw [List.map_set]
    have : rowV (n, r.set c x) = (L.map rowV)[i]'(by simpa using hi) := by
      rw [List.getElem_map, hL]
      simp [rowV]
    rw [this, List.set_getElem_self]
  · have := s.dist i j hi hj (fun e => hji e.symm)
    rw [hL] at this
    exact o'.put_ne this
  · have := s.dist j i hj hi hji
    rw [hL] at this
    exact this
theorem TabL.store (s : TabL h lo nb full L) {i n n' : Nat} {r r' : List Int} (hi : i < L.length) (hL : L[i] = (n, r)) (hk : ∀ m b, m ≠ n → h.get m = some b → h'.get m = some b) (hl : Lst h' n' r' false) (hn' : h.length ≤ n') (hlo : lo ≤ h.length) :
    h'.wr nb i [sl n' r'.length] = some (h'.put nb ⟨(L.set i (n', r')).map rowV, 27, false, full⟩) ∧ TabL (h'.put nb ⟨(L.set i (n', r')).map rowV, 27, false, full⟩) lo nb full (L.set i (n', r')) := by
  have hne := s.ne hi
  rw [hL] at hne
  have g' := hk _ _ hne.symm s.g
  have ltn : ∀ j (hj : j < L.length), (L[j]).1 < h.length := fun j hj => by
    obtain ⟨fu, o⟩ := (s.rows j hj).2
    exact o.lt
  have lnb := get_lt s.g
  constructor
  · rw [wr_of g', if_pos ⟨rfl, by simp only [List.length_map, List.length_singleton]; omega⟩]
    congr 3
    rw [splice_set (by simpa using hi), List.map_set]
    rfl
  · refine s.upd hi (fu' := false) (hl.put_ne (by omega)) (by omega) (get_put_same (get_lt g')) (fun j hj hji fu' o' => ?_) (fun j hj hji => by have := ltn j hj; omega)
    have hd := s.dist i j hi hj (fun e => hji e.symm)
    rw [hL] at hd
    have o2 : Lst h' (L[j]).1 (L[j]).2 fu' := hk _ _ hd.symm o'
    exact o2.put_ne (s.ne hj).symm
theorem TabL.app {n : Nat} {fu fw : Bool} {r : List Int} {e : TypeId} {h2 : AH} (s : TabL h2 lo nb full L) (hn : lo ≤ n) (hd : ∀ j (hj : j < L.length), (L[j]).1 ≠ n) (ob : Lst h2 n r fw) (hlo : lo ≤ h2.length)
    (hl : (L.length : Int) ≤ 1048576) {Q : Value → AH → Prop}
    (hQ : ∀ H' : AH, H'.length = h2.length + 2 → TabL H' lo (h2.length + 1) false (L ++ [(n, r)]) → (∀ m b, m ≠ nb → h2.get m = some b → H'.get m = some b) → (∀ h9 : AH, h9.length ≤ nb → h9 <+: h2 → h9 <+: H') → Q (sl (h2.length + 1) (L ++ [(n, r)]).length) H') :
    OQ (appV 27 1 24 (sl nb L.length) (.slice (some ⟨h2.length, 0, none⟩) 1 1) (h2.new ⟨[sl n r.length], e, false, fu⟩)) Q := by
  have hrd : (h2.new ⟨[.slice (some ⟨n, 0, none⟩) r.length 1], e, false, fu⟩).rdn h2.length 0 1 = some [.slice (some ⟨n, 0, none⟩) r.length 1] := by rw [rdn_new_same]; rfl
  have hk : (h2.new ⟨[.slice (some ⟨n, 0, none⟩) r.length 1], e, false, fu⟩).get nb = some ⟨L.map rowV, 27, false, full⟩ := get_new_any s.g
  have l1 := get_lt s.g
  have keep : ∀ m b, m ≠ nb → h2.get m = some b → (((h2.new ⟨[.slice (some ⟨n, 0, none⟩) r.length 1], e, false, fu⟩).kill nb).new ⟨L.map rowV ++ [.slice (some ⟨n, 0, none⟩) r.length 1], 27, false, false⟩).get m = some b := fun m b hm g => get_new_any (by rw [get_kill_ne (fun e => hm e.symm)]; exact get_new_any g)
  unfold sl at hQ ⊢
  rw [app_own hk (by simp) hrd (by omega), OQ_some]
  have := hQ _ (by rw [len_new, len_kill, len_new]) ?_ keep (fun h9 hh p => pre_new (pre_kill (pre_new p) hh))
  · rw [len_new]
    rw [List.length_append, List.length_singleton] at this
    exact this
  · refine ⟨by rw [get_new_eq (by rw [len_kill, len_new])]; simp [rowV], by omega, fun i hi => ?_, fun a b ha hb hab => ?_⟩
    · by_cases hiL : i < L.length
      · rw [List.getElem_append_left hiL]
        obtain ⟨q1, fq, o⟩ := s.rows i hiL
        exact ⟨q1, fq, keep _ _ (s.ne hiL) o⟩
      · have e1 : i = L.length := by simp at hi; omega
        subst e1
        rw [List.getElem_append_right (Nat.le_refl _)]
        simp only [Nat.sub_self, List.getElem_cons_zero]
        refine ⟨hn, fw, keep _ _ ?_ ob⟩
        rintro rfl
        have g := s.g
        unfold Lst at ob
        rw [g] at ob
        have := congrArg (fun b : Option Blk => b.map (·.e)) ob
        simp at this
    · by_cases ha' : a < L.length
      · rw [List.getElem_append_left ha']
        by_cases hb' : b < L.length
        · rw [List.getElem_append_left hb']
          exact s.dist a b ha' hb' hab
        · have e1 : b = L.length := by simp at hb; omega
          subst e1
          rw [List.getElem_append_right (Nat.le_refl _)]
          simp only [Nat.sub_self, List.getElem_cons_zero]
          exact hd a ha'
      · have e1 : a = L.length := by simp at ha; omega
        subst e1
        have hb' : b < L.length := by simp at hb; omega
        rw [List.getElem_append_right (Nat.le_refl _), List.getElem_append_left hb']
        simp only [Nat.sub_self, List.getElem_cons_zero]
        exact (hd b hb').symm
end
structure StayT (lo : Nat) (h h' : AH) : Prop where
  len : h.length ≤ h'.length
  pre : ∀ h0 : AH, h0.length ≤ lo → h0 <+: h → h0 <+: h'
  get : ∀ m b, h.get m = some b → b.e ≠ 2 → b.e ≠ 27 → h'.get m = some b
theorem StayT.refl {lo : Nat} {h : AH} : StayT lo h h := ⟨Nat.le_refl _, fun _ _ p => p, fun _ _ g _ _ => g⟩
theorem StayT.of {lo : Nat} {h h' : AH} (p : h <+: h') : StayT lo h h' := ⟨pre_len p, fun _ _ q => q.trans p, fun _ _ g _ _ => pre_get p g⟩
theorem StayT.trans {lo : Nat} {h h1 h2 : AH} (a : StayT lo h h1) (b : StayT lo h1 h2) : StayT lo h h2 :=
  ⟨Nat.le_trans a.len b.len, fun h0 hl p => b.pre h0 hl (a.pre h0 hl p), fun m c g h1 h2 => b.get m c (a.get m c g h1 h2) h1 h2⟩
theorem StayT.put {lo n : Nat} {h : AH} {b b' : Blk} (g : h.get n = some b') (hb : b'.e = 2 ∨ b'.e = 27) (hlo : lo ≤ n) : StayT lo h (h.put n b) :=
  ⟨by rw [len_put]; exact Nat.le_refl _, fun h0 hl p => pre_put p (by omega), fun m c g' h1 h2 => by
    rw [get_put_ne]
    · exact g'
    · rintro rfl
      rw [g] at g'
      cases g'
      rcases hb with hb | hb
      · exact h1 hb
      · exact h2 hb⟩
structure StayI (lo : Nat) (h h' : AH) : Prop where
  len : h.length ≤ h'.length
  pre : ∀ h0 : AH, h0.length ≤ lo → h0 <+: h → h0 <+: h'
  get : ∀ m b, h.get m = some b → (b.e = 2 ∨ b.e = 27) → h'.get m = some b
theorem StayI.refl {lo : Nat} {h : AH} : StayI lo h h := ⟨Nat.le_refl _, fun _ _ p => p, fun _ _ g _ => g⟩
theorem StayI.trans {lo : Nat} {h h1 h2 : AH} (a : StayI lo h h1) (b : StayI lo h1 h2) : StayI lo h h2 :=
  ⟨Nat.le_trans a.len b.len, fun h0 hl p => b.pre h0 hl (a.pre h0 hl p), fun m c g h1 => b.get m c (a.get m c g h1) h1⟩
theorem StayI.put {lo n : Nat} {h : AH} {b b' : Blk} (g : h.get n = some b') (hb : b'.e ≠ 2 ∧ b'.e ≠ 27) (hlo : lo ≤ n) : StayI lo h (h.put n b) :=
  ⟨by rw [len_put]; exact Nat.le_refl _, fun h0 hl p => pre_put p (by omega), fun m c g' h1 => by
    rw [get_put_ne]
    · exact g'
    · rintro rfl
      rw [g] at g'
      cases g'
      rcases h1 with h1 | h1
      · exact hb.1 h1
      · exact hb.2 h1⟩
end Go.Proofs.Ytapafdpnmakekaa.X

set_option linter.unusedVariables false
set_option linter.unusedSimpArgs false
set_option maxRecDepth 20000
set_option maxHeartbeats 4000000
namespace Go.Proofs.Ytapafdpnmakekaa.X
open Go Go.RowKit
end Go.Proofs.Ytapafdpnmakekaa.X

set_option linter.unusedVariables false
set_option linter.unusedSimpArgs false
set_option maxRecDepth 20000
set_option maxHeartbeats 4000000
namespace Go.Proofs.Ytapafdpnmakekaa.X
open Go Go.RowKit
def Col (T : List (List Int)) (i : Nat) (q : List Int) : Prop := q.length = 5 ∧ ∀ x : Nat, 1 ≤ x → x < 5 → q.getD x 0 = ((bs T.length fun k => decide (tb T k i = x) : Nat) : Int)
theorem Col.at {T : List (List Int)} {i x : Nat} {q : List Int} (c : Col T i q) (h : 1 ≤ x ∧ x < 5) : (cel .u32 q)[x]? = some (U32 (bs T.length fun k => decide (tb T k i = x))) := by
  rw [cel_get (by rw [c.1]; exact h.2), c.2 x h.1 h.2]
  rfl
end Go.Proofs.Ytapafdpnmakekaa.X

set_option linter.unusedVariables false
set_option linter.unusedSimpArgs false
set_option maxRecDepth 20000
set_option maxHeartbeats 4000000
namespace Go.Proofs.Ytapafdpnmakekaa.X
open Go Go.RowKit
theorem flat_cell {w c x : Nat} {L : List (List Int)} {v : Int} (hw : Wid w L) (hc : c < L.length) (hx : x < w) : L.flatten.set (c * w + x) v = (L.set c ((L.getD c []).set x v)).flatten := by
  have hq : (L.getD c []).length = w := by
    rw [List.getD_eq_getElem?_getD, List.getElem?_eq_getElem hc]
    exact hw _ (List.getElem_mem hc)
  have e0 := flat_set (r := L.getD c []) hw hc
  have e1 := flat_set (r := (L.getD c []).set x v) hw hc
  have es : L.set c (L.getD c []) = L := by
    rw [List.getD_eq_getElem?_getD, List.getElem?_eq_getElem hc]
    exact List.set_getElem_self hc
  rw [es] at e0
  have hrow := mul_row (w := w) hc
  have hl : (L.flatten.take (c * w)).length = c * w := by
    rw [List.length_take, flat_len hw]
    omega
  rw [← e1]
  conv => lhs; rw [← e0]
  rw [List.set_append_left _ _ (by rw [List.length_append, hl, hq]; omega), List.set_append_right _ _ (by rw [hl]; omega), hl, show c * w + x - c * w = x by omega]
structure ColT (h : AH) (nb : Nat) (full : Bool) (L : List (List Int)) : Prop where
  g : h.get nb = some ⟨cel .u32 L.flatten, 246, false, full⟩
  wid : Wid 5 L
def tv (nb len : Nat) : Value := .slice (some ⟨nb, 0, none⟩) len 5
section
variable {h h' : AH} {nb : Nat} {full : Bool} {L : List (List Int)}
theorem ColT.pre (o : ColT h nb full L) (p : h <+: h') : ColT h' nb full L := ⟨pre_get p o.g, o.wid⟩
theorem ColT.put_ne {m : Nat} {b : Blk} (o : ColT h nb full L) (e : m ≠ nb) : ColT (h.put m b) nb full L := ⟨by rw [get_put_ne e]; exact o.g, o.wid⟩
theorem ColT.get (o : ColT h nb full L) (hk : h'.get nb = h.get nb) : ColT h' nb full L := ⟨by rw [hk]; exact o.g, o.wid⟩
theorem ColT.ix {c len : Nat} {kk : IntKind} (hc : c < len) : ixsV 5 (tv nb len) (.int kk (c : Int)) = some (.pointer (some ⟨nb, c * 5, none⟩)) := by
  unfold tv
  rw [ixsV_some, if_pos (by omega)]
  simp
theorem ColT.row (o : ColT h nb full L) {c : Nat} (hc : c < L.length) : (L.getD c []).length = 5 := by
  rw [List.getD_eq_getElem?_getD, List.getElem?_eq_getElem hc]
  exact o.wid _ (List.getElem_mem hc)
theorem ColT.rd (o : ColT h nb full L) {c x : Nat} (hc : c < L.length) (hx : x < 5) : h.rd1 nb (c * 5 + x) = some (.int .u32 ((L.getD c []).getD x 0)) := by
  rw [rd1_of o.g]
  have hf := flat_len o.wid
  have hrow := mul_row (w := 5) hc
  show (cel .u32 L.flatten)[c * 5 + x]? = _
  rw [cel_get (by omega)]
  have hg := flat_get o.wid hc
  rw [← hg]
  rw [List.getD_eq_getElem?_getD, List.getD_eq_getElem?_getD, List.getElem?_take, if_pos hx, List.getElem?_drop]
theorem ColT.rdn (o : ColT h nb full L) {c : Nat} (hc : c < L.length) : h.rdn nb (c * 5) 5 = some (cel .u32 (L.getD c [])) := by
  rw [rdn_of o.g]
  have hf := flat_len o.wid
  have hrow := mul_row (w := 5) hc
  show (if c * 5 + 5 ≤ (cel .u32 L.flatten).length then some (((cel .u32 L.flatten).drop (c * 5)).take 5) else none) = _
  rw [if_pos (by rw [cel_len]; omega), cel_drop, cel_take, flat_get o.wid hc]
theorem ColT.wr (o : ColT h nb full L) {c x : Nat} {v : Int} (hc : c < L.length) (hx : x < 5) :
    ∃ h', h.wr nb (c * 5 + x) [.int .u32 v] = some h' ∧ h' = h.put nb ⟨cel .u32 (L.set c ((L.getD c []).set x v)).flatten, 246, false, full⟩ ∧ ColT h' nb full (L.set c ((L.getD c []).set x v)) := by
  have hf := flat_len o.wid
  have hrow := mul_row (w := 5) hc
  refine ⟨_, ?_, rfl, get_put_same (get_lt o.g), ?_⟩
  · rw [wr_of o.g, if_pos ⟨rfl, by simp only [cel_len, List.length_singleton]; omega⟩, cel_set (by omega), flat_cell o.wid hc hx]
  · intro q hq
    rcases List.mem_or_eq_of_mem_set hq with hq | rfl
    · exact o.wid q hq
    · rw [List.length_set]
      exact o.row hc
theorem ColT.els (o : ColT h nb full L) : Els .u32 5 h (tv nb L.length) L := by
  refine .inr ⟨nb, 0, _, rfl, o.g, fun i hi => ?_⟩
  have := mul_row (w := 5) hi
  simp only [cel_len, flat_len o.wid, Nat.zero_add, cel_drop, cel_take, flat_get o.wid hi]
  exact ⟨by omega, trivial⟩
theorem ColT.way (o : ColT h nb full L) {lo : Nat} {ex : List Nat} (h1 : lo ≤ nb) (h2 : nb ∉ ex) : WayX (246) .u32 5 h lo ex (tv nb L.length) L := ⟨o.wid, .inr ⟨nb, full, rfl, h1, h2, o.g⟩⟩
end
section
variable {rows : List (List Int)} {N i c : Nat}
end
section
variable {p : Int} {T : List (List Int)} {s : BS}
end
end Go.Proofs.Ytapafdpnmakekaa.X

set_option linter.unusedVariables false
set_option linter.unusedSimpArgs false
set_option maxRecDepth 20000
set_option maxHeartbeats 4000000
namespace Go.Proofs.Ytapafdpnmakekaa.X
open Go Go.RowKit
end Go.Proofs.Ytapafdpnmakekaa.X

set_option linter.unusedVariables false
set_option linter.unusedSimpArgs false
set_option maxRecDepth 20000
set_option maxHeartbeats 4000000
namespace Go.Proofs.Ytapafdpnmakekaa.X
open Go Go.RowKit
end Go.Proofs.Ytapafdpnmakekaa.X

set_option linter.unusedVariables false
set_option linter.unusedSimpArgs false
set_option maxRecDepth 20000
set_option maxHeartbeats 4000000
namespace Go.Proofs.Ytapafdpnmakekaa.X
open Go Go.RowKit
theorem isX_facts {x : Sch} (h : isX x = true) : SZ x ∧ isP x.p = true ∧ x.ps.length ≤ 30 ∧ ∀ j, j < x.ps.length → okProd x (x.ps.getD j []) = true := by
  unfold isX at h
  simp only [Bool.and_eq_true, decide_eq_true_eq] at h
  obtain ⟨⟨h1, h2⟩, h3⟩ := h
  refine ⟨szX_facts h1, ?_, h2, fun j hj => ?_⟩
  · unfold szX at h1
    simp only [Bool.and_eq_true] at h1
    exact h1.1.1.1
  · rw [List.all_eq_true] at h3
    refine h3 _ ?_
    rw [List.getD_eq_getElem?_getD, List.getElem?_eq_getElem hj]
    exact List.getElem_mem hj
end Go.Proofs.Ytapafdpnmakekaa.X

set_option linter.unusedVariables false
set_option linter.unusedSimpArgs false
set_option maxRecDepth 20000
set_option maxHeartbeats 4000000
namespace Go.Proofs.Ytapafdpnmakekaa.X
open Go Go.RowKit
theorem wrap8_in {x : Int} (h0 : 0 ≤ x) (h1 : x ≤ 255) : IntKind.u8.wrap x = x := by
  simp only [IntKind.wrap]
  have : IntKind.u8.bits = 8 := rfl
  rw [this, show IntKind.u8.signed = false from rfl, Bool.false_and, if_neg (by decide)]
  omega
theorem By.set {w : Nat} {q : List Int} {j : Nat} {x : Int} (hq : By w q) (hx : 0 ≤ x ∧ x ≤ 255) (hj : j < w) : By w (q.set j x) := by
  refine ⟨by rw [List.length_set]; exact hq.1, fun i hi => ?_⟩
  rw [set_getD (by rw [hq.1]; exact hj)]
  split
  · exact hx
  · exact hq.2 i hi
def FQ (p m : Int) (q : List Int) : Prop := By 9 q ∧ okForm p m q = true
theorem okForm_at {p m : Int} {q : List Int} (h : okForm p m q = true) {j : Nat} (hj : j < 9) : q.getD j 0 < p ∧ (m ≤ (j : Int) → q.getD j 0 = 0) := by
  unfold okForm at h
  have := List.all_eq_true.1 h j (List.mem_range.2 hj)
  exact of_decide_eq_true this
theorem FQ.set {p m : Int} {q : List Int} {j : Nat} {x : Int} (f : FQ p m q) (hp : p ≤ 255) (hx : 0 ≤ x ∧ x < p) (hj : j < 9) (hm : (j : Int) < m) : FQ p m (q.set j x) := by
  refine ⟨f.1.set ⟨hx.1, by omega⟩ hj, okForm_t fun i hi => ?_⟩
  have := okForm_at f.2 hi
  refine decide_eq_true ?_
  rw [set_getD (by rw [f.1.1]; exact hj)]
  split
  · exact ⟨hx.2, fun h => by omega⟩
  · exact this
theorem FQ.zero {p m : Int} (hp : 1 ≤ p) : FQ p m z9 := by
  have hz : ∀ j, z9.getD j 0 = 0 := fun j => by
    show (List.replicate 9 (0 : Int)).getD j 0 = 0
    rw [List.getD_eq_getElem?_getD, List.getElem?_replicate]
    split <;> rfl
  refine ⟨⟨rfl, fun j _ => by rw [hz]; omega⟩, okForm_t fun j hj => decide_eq_true ?_⟩
  rw [hz]
  omega
theorem isZ_set {q : List Int} {j : Nat} {x : Int} (hq : q.length = 9) (hj : j < 9) (hx : x ≠ 0) : isZ (q.set j x) = false := by
  cases e : isZ (q.set j x) with
  | false => rfl
  | true =>
    exfalso
    have h1 : q.set j x = z9 := by simpa [isZ] using e
    have h2 : (q.set j x).getD j 0 = x := by rw [set_getD (by omega), if_pos rfl]
    rw [h1] at h2
    have : z9.getD j 0 = 0 := by
      show (List.replicate 9 (0 : Int)).getD j 0 = 0
      rw [List.getD_eq_getElem?_getD, List.getElem?_replicate]
      split <;> rfl
    omega
theorem Kp.len {n : Nat} {h h' : AH} (k : Kp n h h') : h.length ≤ h'.length := k.1
theorem sp9 : splice (cel .u8 (List.replicate 9 0)) 0 (cel .u8 (List.replicate 9 0)) = cel .u8 z9 := rfl
theorem s_l01DrawForm {h0 h : AH} {n w : Nat} {p : Int} {Q : Value → AH → Prop} (s : Src h0 h n) (hp : 2 ≤ p ∧ p ≤ 5) (hw : 1 ≤ w ∧ w ≤ 9)
    (hQ : ∀ q h', Kp n h h' → Src h0 h' n → FQ p w q → isZ q = false → Q (aggV .u8 q) h') : WF S 334 [srcP n, I64 p, I64 w] h Q := by
  refine WF_fn (fn := c334) rfl rfl ?_
  unfold c334
  have lt := s.lt
  ((try simp (maxSteps := 3000000) (dsimp := false) (disch := first | omega | (simp only [len_new, len_put, len_kill]; omega)) only [↓ypre, ypost, ↓reduceIte, Nat.reduceEqDiff, Nat.reduceAdd, Nat.reduceSub, Nat.reduceLeDiff, Nat.zero_add, Nat.sub_zero, ynew, zeros9, fillL]); try simp only [yback])
  generalize hH1 : AH.new h _ = H1
  obtain ⟨hb1, p1, n1⟩ := new_facts hH1
  ((try simp (maxSteps := 3000000) (dsimp := false) (disch := first | omega | (simp only [len_new, len_put, len_kill]; omega)) only [↓ypre, ypost, ↓reduceIte, Nat.reduceEqDiff, Nat.reduceAdd, Nat.reduceSub, Nat.reduceLeDiff, Nat.zero_add, Nat.sub_zero, ynew, zeros9, cel_len, List.length_replicate, cel_all, sp9]); try simp only [yback])
  generalize hH2 : AH.new H1 _ = H2
  obtain ⟨hb2, p2, n2⟩ := new_facts hH2
  refine WC_loop_inv (fun m f K1 => ∃ (i : Nat) (q : List Int), m = w - i ∧ i ≤ w ∧ f 0 = srcP n ∧ f 1 = I64 p ∧ f 2 = I64 w ∧ f 6 = .pointer (some ⟨h.length, 0, none⟩) ∧ f 7 = .pointer (some ⟨H1.length, 0, none⟩) ∧ f 8 = I64 i ∧ (Kp n h K1) ∧ (Src h0 K1 n) ∧ (FQ p w q) ∧ (K1.get h.length = some ⟨cel .u8 (List.replicate 9 0), 136, false, true⟩) ∧ (K1.get H1.length = some ⟨cel .u8 q, 136, false, true⟩)) ?_ (w - 0) _ _ ⟨0, z9, rfl, by omega, (by first | rfl | simp [upd_apply]), (by first | rfl | simp [upd_apply]), (by first | rfl | simp [upd_apply]), (by first | rfl | simp [upd_apply]), (by first | rfl | simp [upd_apply]), (by first | rfl | simp [upd_apply]), Kp.of (p1.trans p2), s.kp (p1.trans p2), FQ.zero (by omega), pre_get p2 hb1, hb2⟩
  rintro m f K1 ⟨i, q, rfl, hi, f0, f1, f2, f6, f7, f8, kk, ss, fq, hg1, hg2⟩
  have q9 := fq.1.1
  by_cases hlt : (i : Int) < w
  · ((try simp (maxSteps := 3000000) (dsimp := false) (disch := first | omega | (simp only [len_new, len_put, len_kill]; omega)) only [↓ypre, ypost, ↓reduceIte, Nat.reduceEqDiff, Nat.reduceAdd, Nat.reduceSub, Nat.reduceLeDiff, Nat.zero_add, Nat.sub_zero, ynew, f0, f1, f2, f6, f7, f8, decide_eq_true hlt]); try simp only [yback])
    refine s_l01Next ss fun r h1 k1 l1 s1 hr _ => ?_
    have g1 := k1.get (by omega) hg1
    have g2 := k1.get (by omega) hg2
    by_cases h0' : r = 0
    · ((try simp (maxSteps := 3000000) (dsimp := false) (disch := first | omega | (simp only [len_new, len_put, len_kill]; omega)) only [↓ypre, ypost, ↓reduceIte, Nat.reduceEqDiff, Nat.reduceAdd, Nat.reduceSub, Nat.reduceLeDiff, Nat.zero_add, Nat.sub_zero, ynew, f0, f1, f2, f6, f7, f8, decide_eq_true h0']); try simp only [yback])
      refine s_l01Next s1 fun r2 h2 k2 l2 s2 hr2 _ => ?_
      have g1 := k2.get (by omega) g1
      have g2 := k2.get (by omega) g2
      have hr2 := hr2 (by omega)
      have st := cel_set (k := .u8) (q := q) (j := i) (x := r2) (by omega)
      ((try simp (maxSteps := 3000000) (dsimp := false) (disch := first | omega | (simp only [len_new, len_put, len_kill]; omega)) only [↓ypre, ypost, ↓reduceIte, Nat.reduceEqDiff, Nat.reduceAdd, Nat.reduceSub, Nat.reduceLeDiff, Nat.zero_add, Nat.sub_zero, ynew, f0, f1, f2, f6, f7, f8, wrap8_in, ↓WX_ixa, ixaV_ptr, Int.toNat_natCast, Nat.mul_one, wr_of g2, st, cel_len, q9]); try simp only [yback])
      refine ⟨by omega, ?_⟩
      ((try simp (maxSteps := 3000000) (dsimp := false) (disch := first | omega | (simp only [len_new, len_put, len_kill]; omega)) only [↓ypre, ypost, ↓reduceIte, Nat.reduceEqDiff, Nat.reduceAdd, Nat.reduceSub, Nat.reduceLeDiff, Nat.zero_add, Nat.sub_zero, ynew, f0, f1, f2, f6, f7, f8, wrap64_in]); try simp only [yback])
      refine InvQ_go (w - (i + 1)) (by omega) ⟨(i + 1), (_), rfl, by omega, (by first | rfl | exact f0 | (simp only [upd_apply]; rfl) | (show I64 _ = _; congr 1; omega)), (by first | rfl | exact f1 | (simp only [upd_apply]; rfl) | (show I64 _ = _; congr 1; omega)), (by first | rfl | exact f2 | (simp only [upd_apply]; rfl) | (show I64 _ = _; congr 1; omega)), (by first | rfl | exact f6 | (simp only [upd_apply]; rfl) | (show I64 _ = _; congr 1; omega)), (by first | rfl | exact f7 | (simp only [upd_apply]; rfl) | (show I64 _ = _; congr 1; omega)), (by first | rfl | exact f8 | (simp only [upd_apply]; rfl) | (show I64 _ = _; congr 1; omega)), ((kk.trans (k1.trans k2)).putb (by omega)), (s2.putb (by omega) (by have := pre_len s.p; omega)), (fq.set (by omega) hr2 (by omega) (by omega)), (by rw [get_put_ne (by omega)]; exact g1), (get_put_same (get_lt g2))⟩
    · ((try simp (maxSteps := 3000000) (dsimp := false) (disch := first | omega | (simp only [len_new, len_put, len_kill]; omega)) only [↓ypre, ypost, ↓reduceIte, Nat.reduceEqDiff, Nat.reduceAdd, Nat.reduceSub, Nat.reduceLeDiff, Nat.zero_add, Nat.sub_zero, ynew, f0, f1, f2, f6, f7, f8, decide_eq_false h0', wrap64_in]); try simp only [yback])
      refine InvQ_go (w - (i + 1)) (by omega) ⟨(i + 1), (_), rfl, by omega, (by first | rfl | exact f0 | (simp only [upd_apply]; rfl) | (show I64 _ = _; congr 1; omega)), (by first | rfl | exact f1 | (simp only [upd_apply]; rfl) | (show I64 _ = _; congr 1; omega)), (by first | rfl | exact f2 | (simp only [upd_apply]; rfl) | (show I64 _ = _; congr 1; omega)), (by first | rfl | exact f6 | (simp only [upd_apply]; rfl) | (show I64 _ = _; congr 1; omega)), (by first | rfl | exact f7 | (simp only [upd_apply]; rfl) | (show I64 _ = _; congr 1; omega)), (by first | rfl | exact f8 | (simp only [upd_apply]; rfl) | (show I64 _ = _; congr 1; omega)), (kk.trans k1), s1, fq, g1, g2⟩
  · ((try simp (maxSteps := 3000000) (dsimp := false) (disch := first | omega | (simp only [len_new, len_put, len_kill]; omega)) only [↓ypre, ypost, ↓reduceIte, Nat.reduceEqDiff, Nat.reduceAdd, Nat.reduceSub, Nat.reduceLeDiff, Nat.zero_add, Nat.sub_zero, ynew, f0, f1, f2, f6, f7, f8, decide_eq_false hlt]); try simp only [yback])
    have t9 : ∀ q : List Int, q.length = 9 → (cel .u8 q).take 9 = cel .u8 q := fun q h => List.take_of_length_le (by rw [cel_len, h]; exact Nat.le_refl _)
    have fin : ∀ (q' : List Int) (h' : AH), FQ p w q' → isZ q' = false → Kp n h h' → Src h0 h' n → h'.get h.length = some ⟨cel .u8 (List.replicate 9 0), 136, false, true⟩ →
        Q (aggV .u8 q') (h'.put h.length ⟨cel .u8 q', 136, false, true⟩) := fun q' h' fq' z kp' ss' g =>
      hQ q' _ (kp'.putb (Nat.le_refl _)) (ss'.putb (by omega) (pre_len s.p)) fq' z
    ((try simp (maxSteps := 3000000) (dsimp := false) (disch := first | omega | (simp only [len_new, len_put, len_kill]; omega)) only [↓ypre, ypost, ↓reduceIte, Nat.reduceEqDiff, Nat.reduceAdd, Nat.reduceSub, Nat.reduceLeDiff, Nat.zero_add, Nat.sub_zero, ynew, f0, f1, f2, f6, f7, f8, rdn_of hg2, cel_len, q9, t9]); try simp only [yback])
    refine s_l01Zero q9 fun h1 p1' => ?_
    have g1 := pre_get p1' hg1
    have g2 := pre_get p1' hg2
    cases z : isZ q with
    | true =>
      ((try simp (maxSteps := 3000000) (dsimp := false) (disch := first | omega | (simp only [len_new, len_put, len_kill]; omega)) only [↓ypre, ypost, ↓reduceIte, Nat.reduceEqDiff, Nat.reduceAdd, Nat.reduceSub, Nat.reduceLeDiff, Nat.zero_add, Nat.sub_zero, ynew, f0, f1, f2, f6, f7, f8]); try simp only [yback])
      refine s_l01Next (ss.kp p1') fun r h2 k2 l2 s2 hr _ => ?_
      ((try simp (maxSteps := 3000000) (dsimp := false) (disch := first | omega | (simp only [len_new, len_put, len_kill]; omega)) only [↓ypre, ypost, ↓reduceIte, Nat.reduceEqDiff, Nat.reduceAdd, Nat.reduceSub, Nat.reduceLeDiff, Nat.zero_add, Nat.sub_zero, ynew, f0, f1, f2, f6, f7, f8, wrap64_in]); try simp only [yback])
      refine s_l01Next s2 fun r2 h3 k3 l3 s3 hr2 _ => ?_
      have g1 := (k2.trans k3).get (by omega) g1
      have g2 := (k2.trans k3).get (by omega) g2
      have hr := hr (by omega)
      have hr2 := hr2 (by omega)
      obtain ⟨j, rfl⟩ : ∃ j : Nat, r = j := ⟨r.toNat, by omega⟩
      have st := cel_set (k := .u8) (q := q) (j := j) (x := 1 + r2) (by omega)
      ((try simp (maxSteps := 3000000) (dsimp := false) (disch := first | omega | (simp only [len_new, len_put, len_kill]; omega)) only [↓ypre, ypost, ↓reduceIte, Nat.reduceEqDiff, Nat.reduceAdd, Nat.reduceSub, Nat.reduceLeDiff, Nat.zero_add, Nat.sub_zero, ynew, f0, f1, f2, f6, f7, f8, wrap64_in, wrap8_in, ↓WX_ixa, ixaV_ptr, Int.toNat_natCast, Nat.mul_one, wr_of g2, st, cel_len, q9]); try simp only [yback])
      refine ⟨by omega, ?_⟩
      have fq' : FQ p w (q.set j (1 + r2)) := fq.set (by omega) (by omega) (by omega) (by omega)
      generalize hP : AH.put h3 _ _ = H5
      have g5 : H5.get H1.length = some ⟨cel .u8 (q.set j (1 + r2)), 136, false, true⟩ := by rw [← hP]; exact get_put_same (get_lt g2)
      have g51 : H5.get h.length = some ⟨cel .u8 (List.replicate 9 0), 136, false, true⟩ := by rw [← hP, get_put_ne (by omega)]; exact g1
      have w5 := wr_full (vs := cel .u8 (q.set j (1 + r2))) g51 (by rw [cel_len, cel_len, fq'.1.1]; rfl)
      have s5 : Src h0 H5 n := by rw [← hP]; exact s3.putb (by omega) (by have := pre_len s.p; omega)
      have k5 : Kp n h H5 := by rw [← hP]; exact (((kk.trans (Kp.of p1')).trans k2).trans k3).putb (by omega)
      have lg := get_lt g51
      have l9 := fq'.1.1
      ((try simp (maxSteps := 3000000) (dsimp := false) (disch := first | omega | (simp only [len_new, len_put, len_kill]; omega)) only [↓ypre, ypost, ↓reduceIte, Nat.reduceEqDiff, Nat.reduceAdd, Nat.reduceSub, Nat.reduceLeDiff, Nat.zero_add, Nat.sub_zero, ynew, f0, f1, f2, f6, f7, f8, rdn_of g5, cel_len, l9, t9, cel_all, w5, rdn_put_same]); try simp only [yback])
      exact fin _ _ fq' (isZ_set q9 (by omega) (by omega)) k5 s5 g51
    | false =>
      have w5 := wr_full (vs := cel .u8 q) g1 (by rw [cel_len, cel_len, q9]; rfl)
      have lg := get_lt g1
      ((try simp (maxSteps := 3000000) (dsimp := false) (disch := first | omega | (simp only [len_new, len_put, len_kill]; omega)) only [↓ypre, ypost, ↓reduceIte, Nat.reduceEqDiff, Nat.reduceAdd, Nat.reduceSub, Nat.reduceLeDiff, Nat.zero_add, Nat.sub_zero, ynew, f0, f1, f2, f6, f7, f8, rdn_of g2, cel_len, q9, t9, cel_all, w5, rdn_put_same]); try simp only [yback])
      exact fin _ _ fq z (kk.trans (Kp.of p1')) (ss.kp p1') g1
end Go.Proofs.Ytapafdpnmakekaa.X

set_option linter.unusedVariables false
set_option linter.unusedSimpArgs false
set_option maxRecDepth 20000
set_option maxHeartbeats 4000000
namespace Go.Proofs.Ytapafdpnmakekaa.X
open Go Go.RowKit
end Go.Proofs.Ytapafdpnmakekaa.X

set_option linter.unusedVariables false
set_option linter.unusedSimpArgs false
set_option maxRecDepth 20000
set_option maxHeartbeats 4000000
namespace Go.Proofs.Ytapafdpnmakekaa.X
open Go Go.RowKit
end Go.Proofs.Ytapafdpnmakekaa.X

set_option linter.unusedVariables false
set_option linter.unusedSimpArgs false
set_option maxRecDepth 20000
set_option maxHeartbeats 4000000
namespace Go.Proofs.Ytapafdpnmakekaa.X
open Go Go.RowKit
def smT (g : Nat → Int) : Nat → Int
  | 0 => 0
  | n + 1 => smT g n + g n
theorem smT_in {g : Nat → Int} {b : Int} : ∀ {n : Nat}, (∀ j, j < n → 0 ≤ g j ∧ g j ≤ b) → 0 ≤ smT g n ∧ smT g n ≤ b * n
  | 0, _ => by simp [smT]
  | n + 1, h => by
    have h1 := smT_in (n := n) (fun j hj => h j (by omega))
    have h2 := h n (by omega)
    simp only [smT]
    rw [show ((n + 1 : Nat) : Int) = (n : Int) + 1 by omega, Int.mul_add, Int.mul_one]
    omega
def tm (q : List Int) (a b c : Nat) : Int := q.getD a 0 * q.getD (9 + b) 0 * q.getD (18 + c) 0
def lsS (L : List (List Int)) (a b c i : Nat) : Int := smT (fun j => tm (L.getD j []) a b c) i
def lsX (x : Sch) (a b c : Nat) : Int := (lsS x.ps a b c x.ps.length).tmod x.p
theorem tm_in {q : List Int} (hq : By 27 q) {a b c : Nat} (ha : a < 9) (hb : b < 9) (hc : c < 9) : (0 ≤ q.getD a 0 * q.getD (9 + b) 0 ∧ q.getD a 0 * q.getD (9 + b) 0 ≤ 65025) ∧ 0 ≤ tm q a b c ∧ tm q a b c ≤ 16581375 := by
  have h1 := hq.2 a (by omega)
  have h2 := hq.2 (9 + b) (by omega)
  have h3 := hq.2 (18 + c) (by omega)
  have m1 := mul_in (A := 255) (B := 255) h1 h2
  exact ⟨m1, mul_in (A := 65025) (B := 255) m1 h3⟩
theorem lsX_in {x : Sch} {h : AH} {v : Value} (hv : Prods h v x.ps) (z : SZ x) {a b c : Nat} (ha : a < 9) (hb : b < 9) (hc : c < 9) : 0 ≤ lsX x a b c ∧ lsX x a b c < x.p := by
  have := smT_in (g := fun j => tm (x.ps.getD j []) a b c) (b := 16581375) (n := x.ps.length) (fun j hj => (tm_in (hv.by hj) ha hb hc).2)
  have zp := z.p
  exact tmod_nn this.1 (by omega)
theorem s_l01Sum {v : Value} {x : Sch} {a b c : Nat} {h : AH} {Q : Value → AH → Prop} (hv : Prods h v x.ps) (z : SZ x) (hl : x.ps.length ≤ 30) (ha : a < 9) (hb : b < 9) (hc : c < 9)
    (hQ : ∀ h', h <+: h' → Q (I64 (lsX x a b c)) h') : WF S 222 [schV x v, I64 a, I64 b, I64 c] h Q := by
  refine WF_fn (fn := c222) rfl rfl ?_
  unfold c222
  have zp := z.p
  try simp (maxSteps := 3000000) (disch := first | omega | (simp only [len_new, len_put, len_kill]; omega)) only [↓xpre, xpost, ↓reduceIte, Nat.reduceEqDiff, Nat.reduceAdd, Nat.reduceSub, Nat.reduceLeDiff, Nat.zero_add, Nat.sub_zero, schV, hv.one]
  generalize hH1 : AH.new h _ = H1
  obtain ⟨hb1, p1, n1⟩ := new_facts hH1
  refine WC_loop_inv (fun m f K1 => ∃ (i : Nat), m = x.ps.length - i ∧ i ≤ x.ps.length ∧ f 1 = I64 a ∧ f 2 = I64 b ∧ f 3 = I64 c ∧ f 4 = .pointer (some ⟨h.length, 0, none⟩) ∧ f 9 = I64 (lsS x.ps a b c i) ∧ f 10 = I64 i ∧ (H1 <+: K1)) ?_ (x.ps.length - 0) _ _ ⟨0, rfl, by omega, (by first | rfl | simp [upd_apply]), (by first | rfl | simp [upd_apply]), (by first | rfl | simp [upd_apply]), (by first | rfl | simp [upd_apply]), (by first | rfl | simp [upd_apply]), (by first | rfl | simp [upd_apply]), List.prefix_refl _⟩
  rintro m f K1 ⟨i, rfl, hi, f1, f2, f3, f4, f9, f10, pp⟩
  have hbK := pre_get pp hb1
  have hvK := hv.pre (p1.trans pp)
  by_cases hlt : (i : Int) < x.ps.length
  · have hi' : i < x.ps.length := by omega
    obtain ⟨n, off, hix, hrn, hr1⟩ := hvK.1.at hi'
    have r27 := hrn 0 27 (by omega)
    have wi := hvK.1.wid hi'
    rw [List.drop_zero, List.take_of_length_le (by omega), Nat.add_zero] at r27
    have byq := hvK.by hi'
    have bs := smT_in (g := fun j => tm (x.ps.getD j []) a b c) (b := 16581375) (n := i) (fun j hj => (tm_in (hv.by (by omega)) ha hb hc).2)
    have es : lsS x.ps a b c (i + 1) = lsS x.ps a b c i + tm (x.ps.getD i []) a b c := rfl
    have bs' : 0 ≤ lsS x.ps a b c i ∧ lsS x.ps a b c i ≤ 497441250 := ⟨bs.1, by have := bs.2; show smT _ i ≤ _; omega⟩
    generalize hq : x.ps.getD i [] = q at *
    have w1 : ∀ (h1 : AH) (e : TypeId), (h1.new ⟨[.int .u8 0, .int .u8 0, .int .u8 0, .int .u8 0, .int .u8 0, .int .u8 0, .int .u8 0, .int .u8 0, .int .u8 0, .int .u8 0, .int .u8 0, .int .u8 0, .int .u8 0, .int .u8 0, .int .u8 0, .int .u8 0, .int .u8 0, .int .u8 0, .int .u8 0, .int .u8 0, .int .u8 0, .int .u8 0, .int .u8 0, .int .u8 0, .int .u8 0, .int .u8 0, .int .u8 0], e, false, true⟩).wr h1.length 0 (cel .u8 q) = some (h1.new ⟨cel .u8 q, e, false, true⟩) := fun h1 e => wr_all (by rw [cel_len, wi]; rfl)
    have ga := cel_get (k := .u8) (q := q) (j := a) (by omega)
    have gb := cel_get (k := .u8) (q := q) (j := 9 + b) (by omega)
    have gc := cel_get (k := .u8) (q := q) (j := 18 + c) (by omega)
    have ba := byq.2 a (by omega)
    have bb := byq.2 (9 + b) (by omega)
    have bc := byq.2 (18 + c) (by omega)
    have bt := tm_in byq ha hb hc
    have et : q.getD a 0 * q.getD (9 + b) 0 * q.getD (18 + c) 0 = tm q a b c := rfl
    try simp (maxSteps := 3000000) (disch := first | omega | (simp only [len_new, len_put, len_kill]; omega)) only [↓xpre, xpost, ↓reduceIte, Nat.reduceEqDiff, Nat.reduceAdd, Nat.reduceSub, Nat.reduceLeDiff, Nat.zero_add, Nat.sub_zero, f1, f2, f3, f4, f9, f10, rd1_of hbK, hvK.1.len, decide_eq_true hlt, hix, r27, cel_all, cel_len, wi, ↓w1, ↓WX_ixa, ixaV_ptr, Int.toNat_natCast, Nat.mul_one, ga, gb, gc, wrap64_in, et]
    refine InvQ_go (x.ps.length - (i + 1)) (by omega) ⟨(i + 1), rfl, by omega, (by first | rfl | exact f1 | (simp only [upd_apply]; rfl) | (show I64 _ = _; congr 1; omega)), (by first | rfl | exact f2 | (simp only [upd_apply]; rfl) | (show I64 _ = _; congr 1; omega)), (by first | rfl | exact f3 | (simp only [upd_apply]; rfl) | (show I64 _ = _; congr 1; omega)), (by first | rfl | exact f4 | (simp only [upd_apply]; rfl) | (show I64 _ = _; congr 1; omega)), (by show I64 _ = I64 _; rw [es]), (by first | rfl | exact f10 | (simp only [upd_apply]; rfl) | (show I64 _ = _; congr 1; omega)), (pp.trans (pre_new (List.prefix_refl _)))⟩
  · have ei : i = x.ps.length := by omega
    subst ei
    try simp (maxSteps := 3000000) (disch := first | omega | (simp only [len_new, len_put, len_kill]; omega)) only [↓xpre, xpost, ↓reduceIte, Nat.reduceEqDiff, Nat.reduceAdd, Nat.reduceSub, Nat.reduceLeDiff, Nat.zero_add, Nat.sub_zero, f1, f2, f3, f4, f9, f10, rd1_of hbK, hvK.1.len, decide_eq_false hlt, bin_rem]
    exact hQ _ (p1.trans pp)
def lsN (x : Sch) (a b c : Int) : Int := lsX x a.toNat b.toNat c.toNat
def tofX (x : Sch) : Ten := tenT x.p (x.n * x.m) (x.m * x.k) (x.n * x.k) (lsN x)
def fillTo (N : Nat) (G : Nat → Int) (m : Nat) : List Int := gen N fun n => if n < m then G n else 0
theorem fillTo_len {N m : Nat} {G : Nat → Int} : (fillTo N G m).length = N := gen_len
theorem fillTo_zero {N : Nat} {G : Nat → Int} : fillTo N G 0 = List.replicate N 0 := (gen_ext (by simp) fun i hi => by simp [hi, List.getD_eq_getElem?_getD]).symm
theorem fillTo_all {N : Nat} {G : Nat → Int} : fillTo N G N = gen N G := gen_congr fun i hi => if_pos hi
theorem fillTo_set {N m : Nat} {G : Nat → Int} (hm : m < N) : (fillTo N G m).set m (G m) = fillTo N G (m + 1) := by
  refine gen_ext (by rw [List.length_set, fillTo_len]) fun c hc => ?_
  rw [set_getD (by rw [fillTo_len]; exact hm)]
  by_cases h : c = m
  · subst h
    rw [if_pos rfl, if_pos (by omega)]
  · rw [if_neg h]
    unfold fillTo
    rw [gen_get hc]
    by_cases h2 : c < m
    · rw [if_pos h2, if_pos (by omega)]
    · rw [if_neg h2, if_neg (by omega)]
theorem tenG_at {p : Int} {I J K a b c : Nat} {num : Int → Int → Int → Int} (hb : b < J) (hc : c < K) : tenG p J K num ((a * J + b) * K + c) = (num a b c).tmod p := by
  unfold tenG
  have e1 : (((a * J + b) * K + c : Nat) : Int) = ((a * J + b : Nat) : Int) * (K : Int) + (c : Int) := by push_cast; rfl
  have e2 : ((a * J + b : Nat) : Int) = (a : Int) * (J : Int) + (b : Int) := by push_cast; rfl
  have d1 := dec (a := ((a * J + b : Nat) : Int)) (i := (c : Int)) (I := (K : Int)) (by omega)
  have d2 := dec (a := (a : Int)) (i := (b : Int)) (I := (J : Int)) (by omega)
  rw [e1, d1.1, d1.2, e2, d2.1, d2.2]
end Go.Proofs.Ytapafdpnmakekaa.X

set_option linter.unusedVariables false
set_option linter.unusedSimpArgs false
set_option maxRecDepth 20000
set_option maxHeartbeats 4000000
namespace Go.Proofs.Ytapafdpnmakekaa.X
open Go Go.RowKit
theorem lsN_in {x : Sch} {h : AH} {v : Value} (hv : Prods h v x.ps) (z : SZ x) {a b c : Nat} (ha : a < 9) (hb : b < 9) (hc : c < 9) : (lsN x a b c).tmod x.p = lsX x a b c := by
  have := lsX_in hv z ha hb hc
  unfold lsN
  rw [Int.toNat_natCast, Int.toNat_natCast, Int.toNat_natCast]
  exact Int.tmod_eq_of_lt this.1 this.2
theorem s_l05Of {v : Value} {x : Sch} {h : AH} {Q : Value → AH → Prop} (hv : Prods h v x.ps) (z : SZ x) (hl : x.ps.length ≤ 30)
    (hQ : ∀ v' h', h <+: h' → OwnI h h' v' (tofX x).ns → Q (tenV (tofX x) v') h') : WF S 291 [schV x v] h Q := by
  refine WF_fn (fn := c291) rfl rfl ?_
  unfold c291
  try simp (maxSteps := 3000000) (disch := first | omega | (simp only [len_new, len_put, len_kill]; omega)) only [↓xpre, xpost, ↓reduceIte, Nat.reduceEqDiff, Nat.reduceAdd, Nat.reduceSub, Nat.reduceLeDiff, Nat.zero_add, Nat.sub_zero, schV, hv.one]
  generalize hH1 : AH.new h _ = H1
  obtain ⟨hb1, p1, n1⟩ := new_facts hH1
  generalize hH2 : AH.new H1 _ = H2
  obtain ⟨hb2, p2, n2⟩ := new_facts hH2
  have hb1 := pre_get p2 hb1
  try simp (maxSteps := 3000000) (disch := first | omega | (simp only [len_new, len_put, len_kill]; omega)) only [↓xpre, xpost, ↓reduceIte, Nat.reduceEqDiff, Nat.reduceAdd, Nat.reduceSub, Nat.reduceLeDiff, Nat.zero_add, Nat.sub_zero, rdn_of hb1]
  refine s_l01Lengths hv.one z fun H3 p3 => ?_
  have hb1 := pre_get p3 hb1
  have hb2 := pre_get p3 hb2
  have zi := z.nm
  have zj := z.mk2
  have zk := z.nk
  have ij := mul_in1 (A := 9) (B := 9) zi zj
  have ijk := mul_in1 (A := 81) (B := 9) ij zk
  try simp (maxSteps := 3000000) (disch := first | omega | (simp only [len_new, len_put, len_kill]; omega)) only [↓xpre, xpost, ↓reduceIte, Nat.reduceEqDiff, Nat.reduceAdd, Nat.reduceSub, Nat.reduceLeDiff, Nat.zero_add, Nat.sub_zero, rd1_of hb1]
  refine s_l05Empty (by omega) (by omega) fun v' H4 p4 o => ?_
  try simp (maxSteps := 3000000) (disch := first | omega | (simp only [len_new, len_put, len_kill]; omega)) only [↓xpre, xpost, ↓reduceIte, Nat.reduceEqDiff, Nat.reduceAdd, Nat.reduceSub, Nat.reduceLeDiff, Nat.zero_add, Nat.sub_zero, tenV, o.ints.one]
  obtain ⟨nb, e, q1, rfl, q2⟩ := o
  generalize hH5 : AH.new H4 _ = H5
  obtain ⟨hb5, p5, n5⟩ := new_facts hH5
  have hgn := pre_get p5 q2
  have hb1 := pre_get (p4.trans p5) hb1
  have hb2 := pre_get (p4.trans p5) hb2
  have l2 := pre_len p2
  have l3 := pre_len p3
  have l4 := pre_len p4
  have lnb := get_lt q2
  have hQ' := hQ
  unfold tofX at hQ'
  have G1 : ∀ a b c : Nat, a < 9 → b < 9 → c < 9 → (lsN x a b c).tmod x.p = lsX x a b c := fun a b c ha hb hc => lsN_in hv z ha hb hc
  generalize hI : x.n * x.m = i1 at *
  generalize hJ : x.m * x.k = j1 at *
  generalize hK : x.n * x.k = k1 at *
  obtain ⟨I, rfl⟩ : ∃ I : Nat, i1 = I := ⟨i1.toNat, by omega⟩
  obtain ⟨J, rfl⟩ : ∃ J : Nat, j1 = J := ⟨j1.toNat, by omega⟩
  obtain ⟨K, rfl⟩ : ∃ K : Nat, k1 = K := ⟨k1.toNat, by omega⟩
  have eN : ((I : Int) * (J : Int) * (K : Int)).toNat = I * J * K := by
    rw [show (I : Int) * (J : Int) * (K : Int) = ((I * J * K : Nat) : Int) by push_cast; rfl, Int.toNat_natCast]
  have eNI : (I : Int) * (J : Int) * (K : Int) = ((I * J * K : Nat) : Int) := by push_cast; rfl
  rw [eNI] at ijk
  rw [eN, List.length_replicate] at *
  let G := tenG x.p J K (lsN x)
  have B2 : H2 <+: H5 := p3.trans (p4.trans p5)
  have hc0 : OwnB H5 nb ((fillTo (I * J * K) G 0).map (Value.int .i64)) true := by rw [fillTo_zero]; exact ⟨_, hgn⟩
  refine WC_loop_inv (fun m f K1 => ∃ (a : Nat), m = I - a ∧ a ≤ I ∧ f 1 = .pointer (some ⟨h.length, 0, none⟩) ∧ f 2 = .pointer (some ⟨H1.length, 0, none⟩) ∧ f 3 = I64 I ∧ f 4 = I64 J ∧ f 5 = I64 K ∧ f 6 = .pointer (some ⟨H4.length, 0, none⟩) ∧ f 7 = I64 a ∧ (H3 <+: K1) ∧ (OwnB K1 H4.length [I64 x.p, I64 I, I64 J, I64 K, .slice (some ⟨nb, 0, none⟩) (I * J * K) 1] true) ∧ (OwnB K1 nb ((fillTo (I * J * K) G (a * J * K)).map (Value.int .i64)) true)) ?_ (I - 0) _ _ ⟨0, rfl, by omega, (by first | rfl | simp [upd_apply]), (by first | rfl | simp [upd_apply]), (by first | rfl | simp [upd_apply]), (by first | rfl | simp [upd_apply]), (by first | rfl | simp [upd_apply]), (by first | rfl | simp [upd_apply]), (by first | rfl | simp [upd_apply]), p4.trans p5, ⟨_, hb5⟩, (by rw [Nat.zero_mul, Nat.zero_mul]; exact hc0)⟩
  rintro m f K1 ⟨a, rfl, ha, f1, f2, f3, f4, f5, f6, f7, pp, g6, gn⟩
  by_cases hla : (a : Int) < I
  · try simp (maxSteps := 3000000) (disch := first | omega | (simp only [len_new, len_put, len_kill]; omega)) only [↓xpre, xpost, ↓reduceIte, Nat.reduceEqDiff, Nat.reduceAdd, Nat.reduceSub, Nat.reduceLeDiff, Nat.zero_add, Nat.sub_zero, f1, f2, f3, f4, f5, f6, f7, decide_eq_true hla]
    refine WC_loop_inv (fun m f K2 => ∃ (b : Nat), m = J - b ∧ b ≤ J ∧ f 1 = .pointer (some ⟨h.length, 0, none⟩) ∧ f 2 = .pointer (some ⟨H1.length, 0, none⟩) ∧ f 3 = I64 I ∧ f 4 = I64 J ∧ f 5 = I64 K ∧ f 6 = .pointer (some ⟨H4.length, 0, none⟩) ∧ f 7 = I64 a ∧ f 8 = I64 b ∧ (H3 <+: K2) ∧ (OwnB K2 H4.length [I64 x.p, I64 I, I64 J, I64 K, .slice (some ⟨nb, 0, none⟩) (I * J * K) 1] true) ∧ (OwnB K2 nb ((fillTo (I * J * K) G ((a * J + b) * K)).map (Value.int .i64)) true)) ?_ (J - 0) _ _ ⟨0, rfl, by omega, (by first | rfl | exact f1 | (simp [upd_apply]; done)), (by first | rfl | exact f2 | (simp [upd_apply]; done)), (by first | rfl | exact f3 | (simp [upd_apply]; done)), (by first | rfl | exact f4 | (simp [upd_apply]; done)), (by first | rfl | exact f5 | (simp [upd_apply]; done)), (by first | rfl | exact f6 | (simp [upd_apply]; done)), (by first | rfl | exact f7 | (simp [upd_apply]; done)), (by first | rfl | simp [upd_apply]), pp, g6, (by rw [Nat.add_zero]; exact gn)⟩
    rintro m f K2 ⟨b, rfl, hb, f1, f2, f3, f4, f5, f6, f7, f8, pp, g6, gn⟩
    by_cases hlb : (b : Int) < J
    · try simp (maxSteps := 3000000) (disch := first | omega | (simp only [len_new, len_put, len_kill]; omega)) only [↓xpre, xpost, ↓reduceIte, Nat.reduceEqDiff, Nat.reduceAdd, Nat.reduceSub, Nat.reduceLeDiff, Nat.zero_add, Nat.sub_zero, f1, f2, f3, f4, f5, f6, f7, f8, decide_eq_true hlb]
      refine WC_loop_inv (fun m f K3 => ∃ (c : Nat), m = K - c ∧ c ≤ K ∧ f 1 = .pointer (some ⟨h.length, 0, none⟩) ∧ f 2 = .pointer (some ⟨H1.length, 0, none⟩) ∧ f 3 = I64 I ∧ f 4 = I64 J ∧ f 5 = I64 K ∧ f 6 = .pointer (some ⟨H4.length, 0, none⟩) ∧ f 7 = I64 a ∧ f 8 = I64 b ∧ f 9 = I64 c ∧ (H3 <+: K3) ∧ (OwnB K3 H4.length [I64 x.p, I64 I, I64 J, I64 K, .slice (some ⟨nb, 0, none⟩) (I * J * K) 1] true) ∧ (OwnB K3 nb ((fillTo (I * J * K) G ((a * J + b) * K + c)).map (Value.int .i64)) true)) ?_ (K - 0) _ _ ⟨0, rfl, by omega, (by first | rfl | exact f1 | (simp [upd_apply]; done)), (by first | rfl | exact f2 | (simp [upd_apply]; done)), (by first | rfl | exact f3 | (simp [upd_apply]; done)), (by first | rfl | exact f4 | (simp [upd_apply]; done)), (by first | rfl | exact f5 | (simp [upd_apply]; done)), (by first | rfl | exact f6 | (simp [upd_apply]; done)), (by first | rfl | exact f7 | (simp [upd_apply]; done)), (by first | rfl | exact f8 | (simp [upd_apply]; done)), (by first | rfl | simp [upd_apply]), pp, g6, gn⟩
      rintro m f K3 ⟨c, rfl, hc, f1, f2, f3, f4, f5, f6, f7, f8, f9, pp, g6, gn⟩
      obtain ⟨e6, g6⟩ := g6
      by_cases hlc : (c : Int) < K
      · have m1 : a * J + J ≤ I * J := mul_row (by omega)
        have m2 : (a * J + b) * K + K ≤ I * J * K := mul_row (by omega)
        have e1 : (a : Int) * (J : Int) = ((a * J : Nat) : Int) := by push_cast; rfl
        have e2 : ((a * J : Nat) : Int) + (b : Int) = ((a * J + b : Nat) : Int) := by push_cast; rfl
        have e3 : ((a * J + b : Nat) : Int) * (K : Int) = (((a * J + b) * K : Nat) : Int) := by push_cast; rfl
        have e4 : (((a * J + b) * K : Nat) : Int) + (c : Int) = (((a * J + b) * K + c : Nat) : Int) := by push_cast; rfl
        have b1 : I * J ≤ I * J * K := Nat.le_mul_of_pos_right _ (by omega)
        have hbK := pre_get (p3.trans pp) (show AH.get H2 h.length = _ from pre_get p2 (new_facts hH1).1)
        try simp (maxSteps := 3000000) (disch := first | omega | (simp only [len_new, len_put, len_kill]; omega)) only [↓xpre, xpost, ↓reduceIte, Nat.reduceEqDiff, Nat.reduceAdd, Nat.reduceSub, Nat.reduceLeDiff, Nat.zero_add, Nat.sub_zero, f1, f2, f3, f4, f5, f6, f7, f8, f9, decide_eq_true hlc, rd1_of g6, rdn_of hbK, e1, e2, e3, e4, wrap64_in]
        refine s_l01Sum (hv.pre ((p1.trans p2).trans (p3.trans pp))) z hl (by omega) (by omega) (by omega) fun H6 p6 => ?_
        obtain ⟨en, gn⟩ := gn
        have gn := pre_get p6 gn
        have ltn := get_lt gn
        have hG : G ((a * J + b) * K + c) = lsX x a b c := by
          show tenG _ _ _ _ _ = _
          rw [tenG_at (I := 0) (by omega) (by omega)]
          exact G1 a b c (by omega) (by omega) (by omega)
        have ixn : ixsV 1 (.slice (some ⟨nb, 0, none⟩) (I * J * K) 1) (I64 (((a * J + b) * K + c : Nat) : Int)) = some (.pointer (some ⟨nb, (a * J + b) * K + c, none⟩)) := by
          rw [ixsV_some, if_pos (by omega), Int.toNat_natCast, Nat.mul_one, Nat.zero_add]
        have sp : splice ((fillTo (I * J * K) G ((a * J + b) * K + c)).map (Value.int .i64)) ((a * J + b) * K + c) [I64 (lsX x a b c)] = (fillTo (I * J * K) G ((a * J + b) * K + (c + 1))).map (Value.int .i64) := by
          rw [splice_map (by rw [fillTo_len]; omega), ← hG, fillTo_set (by omega)]
          rfl
        try simp (maxSteps := 3000000) (disch := first | omega | (simp only [len_new, len_put, len_kill]; omega)) only [↓xpre, xpost, ↓reduceIte, Nat.reduceEqDiff, Nat.reduceAdd, Nat.reduceSub, Nat.reduceLeDiff, Nat.zero_add, Nat.sub_zero, f1, f2, f3, f4, f5, f6, f7, f8, f9, ixn, wr_of gn, sp, List.length_map, fillTo_len, wrap64_in]
        refine ⟨p6, by omega, ?_⟩
        refine InvQ_go (K - (c + 1)) (by omega) ⟨(c + 1), rfl, by omega, (by first | rfl | exact f1 | (simp only [upd_apply]; rfl) | (show I64 _ = _; congr 1; omega)), (by first | rfl | exact f2 | (simp only [upd_apply]; rfl) | (show I64 _ = _; congr 1; omega)), (by first | rfl | exact f3 | (simp only [upd_apply]; rfl) | (show I64 _ = _; congr 1; omega)), (by first | rfl | exact f4 | (simp only [upd_apply]; rfl) | (show I64 _ = _; congr 1; omega)), (by first | rfl | exact f5 | (simp only [upd_apply]; rfl) | (show I64 _ = _; congr 1; omega)), (by first | rfl | exact f6 | (simp only [upd_apply]; rfl) | (show I64 _ = _; congr 1; omega)), (by first | rfl | exact f7 | (simp only [upd_apply]; rfl) | (show I64 _ = _; congr 1; omega)), (by first | rfl | exact f8 | (simp only [upd_apply]; rfl) | (show I64 _ = _; congr 1; omega)), (by first | rfl | exact f9 | (simp only [upd_apply]; rfl) | (show I64 _ = _; congr 1; omega)), (pre_put (pp.trans p6) (by omega)), (OwnB.put_ne ⟨_, pre_get p6 g6⟩ (by omega)), ⟨_, get_put_same ltn⟩⟩
      · have ec : c = K := by omega
        subst ec
        try simp (maxSteps := 3000000) (disch := first | omega | (simp only [len_new, len_put, len_kill]; omega)) only [↓xpre, xpost, ↓reduceIte, Nat.reduceEqDiff, Nat.reduceAdd, Nat.reduceSub, Nat.reduceLeDiff, Nat.zero_add, Nat.sub_zero, f1, f2, f3, f4, f5, f6, f7, f8, f9, decide_eq_false hlc, wrap64_in]
        refine InvQ_go (J - (b + 1)) (by omega) ⟨(b + 1), rfl, by omega, (by first | rfl | exact f1 | (simp only [upd_apply]; rfl) | (show I64 _ = _; congr 1; omega)), (by first | rfl | exact f2 | (simp only [upd_apply]; rfl) | (show I64 _ = _; congr 1; omega)), (by first | rfl | exact f3 | (simp only [upd_apply]; rfl) | (show I64 _ = _; congr 1; omega)), (by first | rfl | exact f4 | (simp only [upd_apply]; rfl) | (show I64 _ = _; congr 1; omega)), (by first | rfl | exact f5 | (simp only [upd_apply]; rfl) | (show I64 _ = _; congr 1; omega)), (by first | rfl | exact f6 | (simp only [upd_apply]; rfl) | (show I64 _ = _; congr 1; omega)), (by first | rfl | exact f7 | (simp only [upd_apply]; rfl) | (show I64 _ = _; congr 1; omega)), (by first | rfl | exact f8 | (simp only [upd_apply]; rfl) | (show I64 _ = _; congr 1; omega)), pp, ⟨_, g6⟩, (by rw [show (a * J + (b + 1)) * c = (a * J + b) * c + c by rw [← Nat.add_assoc, Nat.succ_mul]]; exact gn)⟩
    · have eb : b = J := by omega
      subst eb
      try simp (maxSteps := 3000000) (disch := first | omega | (simp only [len_new, len_put, len_kill]; omega)) only [↓xpre, xpost, ↓reduceIte, Nat.reduceEqDiff, Nat.reduceAdd, Nat.reduceSub, Nat.reduceLeDiff, Nat.zero_add, Nat.sub_zero, f1, f2, f3, f4, f5, f6, f7, f8, decide_eq_false hlb, wrap64_in]
      refine InvQ_go (I - (a + 1)) (by omega) ⟨(a + 1), rfl, by omega, (by first | rfl | exact f1 | (simp only [upd_apply]; rfl) | (show I64 _ = _; congr 1; omega)), (by first | rfl | exact f2 | (simp only [upd_apply]; rfl) | (show I64 _ = _; congr 1; omega)), (by first | rfl | exact f3 | (simp only [upd_apply]; rfl) | (show I64 _ = _; congr 1; omega)), (by first | rfl | exact f4 | (simp only [upd_apply]; rfl) | (show I64 _ = _; congr 1; omega)), (by first | rfl | exact f5 | (simp only [upd_apply]; rfl) | (show I64 _ = _; congr 1; omega)), (by first | rfl | exact f6 | (simp only [upd_apply]; rfl) | (show I64 _ = _; congr 1; omega)), (by first | rfl | exact f7 | (simp only [upd_apply]; rfl) | (show I64 _ = _; congr 1; omega)), pp, g6, (by rw [Nat.succ_mul]; exact gn)⟩
  · have ea : a = I := by omega
    subst ea
    rw [fillTo_all] at gn
    obtain ⟨e6, g6⟩ := g6
    have hbK := pre_get (pp) (show AH.get H3 H1.length = _ from pre_get p3 (new_facts hH2).1)
    have lt2 := get_lt hbK
    try simp (maxSteps := 3000000) (disch := first | omega | (simp only [len_new, len_put, len_kill]; omega)) only [↓xpre, xpost, ↓reduceIte, Nat.reduceEqDiff, Nat.reduceAdd, Nat.reduceSub, Nat.reduceLeDiff, Nat.zero_add, Nat.sub_zero, f1, f2, f3, f4, f5, f6, f7, decide_eq_false hla, rdn_of g6, wr_of hbK]
    have lgn := gn.lt
    have eN2 : ((a : Int) * (J : Int) * (K : Int)).toNat = a * J * K := by
      rw [show (a : Int) * (J : Int) * (K : Int) = ((a * J * K : Nat) : Int) by push_cast; rfl, Int.toNat_natCast]
    refine hQ' _ _ (pre_put ((p1.trans p2).trans (p3.trans pp)) (show h.length ≤ H1.length by omega)) (OwnI.of (n := nb) (by omega) ?_ ?_)
    · simp only [tenT, gen_len]
      rw [eN2]
    · simp only [tenT]
      rw [eN2]
      exact gn.put_ne (by omega)
end Go.Proofs.Ytapafdpnmakekaa.X

set_option linter.unusedVariables false
set_option linter.unusedSimpArgs false
set_option maxRecDepth 20000
set_option maxHeartbeats 4000000
namespace Go.Proofs.Ytapafdpnmakekaa.X
open Go Go.RowKit
def o9 : List Int := List.replicate 9 0
def un9 (a : Nat) : List Int := o9.set a 1
def un27 (a b c : Nat) : List Int := un9 a ++ (un9 b ++ un9 c)
theorem un9_len {a : Nat} : (un9 a).length = 9 := by simp [un9, o9]
theorem un27_len {a b c : Nat} : (un27 a b c).length = 27 := by simp [un27, un9_len]
theorem un27_set {a b c : Nat} (ha : a < 9) (hb : b < 9) (hc : c < 9) : (((List.replicate 27 0).set a 1).set (9 + b) 1).set (18 + c) 1 = un27 a b c := by
  have e : List.replicate 27 (0 : Int) = o9 ++ (o9 ++ o9) := rfl
  have lz : o9.length = 9 := rfl
  have l1 : (o9.set a 1).length = 9 := by rw [List.length_set, lz]
  have l2 : (o9.set b 1).length = 9 := by rw [List.length_set, lz]
  rw [e, List.set_append_left _ _ (by rw [lz]; exact ha), List.set_append_right _ _ (by rw [l1]; omega), List.set_append_right _ _ (by rw [l1]; omega), l1, Nat.add_sub_cancel_left,
    List.set_append_left _ _ (by rw [lz]; exact hb), List.set_append_right _ _ (by rw [l2]; omega), l2]
  rw [show 18 + c - 9 - 9 = c by omega]
  rfl
theorem un9_in {a j : Nat} : 0 ≤ (un9 a).getD j 0 ∧ (un9 a).getD j 0 ≤ 1 := by
  unfold un9
  rw [List.getD_eq_getElem?_getD, List.getElem?_set]
  split
  · split <;> simp
  · unfold o9
    rw [List.getElem?_replicate]
    split <;> simp
theorem un27_in {a b c j : Nat} : 0 ≤ (un27 a b c).getD j 0 ∧ (un27 a b c).getD j 0 ≤ 255 := by
  unfold un27
  by_cases h : j < 9
  · rw [getD_app_l (by rw [un9_len]; exact h)]
    have := un9_in (a := a) (j := j)
    omega
  · rw [getD_app_r (by rw [un9_len]; omega), un9_len]
    by_cases h2 : j - 9 < 9
    · rw [getD_app_l (by rw [un9_len]; exact h2)]
      have := un9_in (a := b) (j := j - 9)
      omega
    · rw [getD_app_r (by rw [un9_len]; omega), un9_len]
      have := un9_in (a := c) (j := j - 9 - 9)
      omega
def stdG (m k t : Nat) : List Int := un27 (t / k / m * m + t / k % m) (t / k % m * k + t % k) (t / k / m * k + t % k)
def stdL (m k : Nat) : Nat → List (List Int)
  | 0 => []
  | t + 1 => stdL m k t ++ [stdG m k t]
theorem stdL_len {m k : Nat} : ∀ {t : Nat}, (stdL m k t).length = t
  | 0 => rfl
  | t + 1 => by simp [stdL, stdL_len (t := t)]
theorem stdL_byt {m k : Nat} : ∀ {t : Nat}, Byt 27 (stdL m k t)
  | 0 => fun i hi => by simp [stdL] at hi
  | t + 1 => fun i hi j hj => by
    rw [stdL_len] at hi
    unfold stdL
    by_cases h : i < t
    · rw [getD_app_l (by rw [stdL_len]; exact h)]
      exact stdL_byt (t := t) i (by rw [stdL_len]; exact h) j hj
    · rw [getD_app_r (by rw [stdL_len]; omega), stdL_len, show i - t = 0 by omega]
      exact un27_in
theorem stdG_at {m k i j l : Nat} (hj : j < m) (hl : l < k) : stdG m k ((i * m + j) * k + l) = un27 (i * m + j) (j * k + l) (i * k + l) := by
  unfold stdG
  have e1 : ((i * m + j) * k + l) / k = i * m + j := by
    rw [Nat.mul_comm, Nat.mul_add_div (by omega), Nat.div_eq_of_lt hl, Nat.add_zero]
  have e2 : ((i * m + j) * k + l) % k = l := by
    rw [Nat.mul_comm, Nat.mul_add_mod, Nat.mod_eq_of_lt hl]
  have e3 : (i * m + j) / m = i := by
    rw [Nat.mul_comm, Nat.mul_add_div (by omega), Nat.div_eq_of_lt hj, Nat.add_zero]
  have e4 : (i * m + j) % m = j := by
    rw [Nat.mul_comm, Nat.mul_add_mod, Nat.mod_eq_of_lt hj]
  rw [e1, e2, e3, e4]
def stdX (p n m k : Int) : Sch := ⟨p, n, m, k, stdL m.toNat k.toNat (n * m * k).toNat⟩
theorem splice_27 {q : List Int} (hq : q.length = 27) : splice [.int .u8 0, .int .u8 0, .int .u8 0, .int .u8 0, .int .u8 0, .int .u8 0, .int .u8 0, .int .u8 0, .int .u8 0, .int .u8 0, .int .u8 0, .int .u8 0, .int .u8 0, .int .u8 0, .int .u8 0, .int .u8 0, .int .u8 0, .int .u8 0, .int .u8 0, .int .u8 0, .int .u8 0, .int .u8 0, .int .u8 0, .int .u8 0, .int .u8 0, .int .u8 0, .int .u8 0] 0 (cel .u8 q) = cel .u8 q := by
  rw [splice_eq, cel_len, hq]
  simp
theorem splice_lenW {c vs : List Value} {off : Nat} (h : off + vs.length ≤ c.length) : (splice c off vs).length = c.length := by
  rw [splice_eq]
  simp
  omega
theorem wr_27 {h1 : AH} {e : TypeId} : (h1.new ⟨[.int .u8 0, .int .u8 0, .int .u8 0, .int .u8 0, .int .u8 0, .int .u8 0, .int .u8 0, .int .u8 0, .int .u8 0, .int .u8 0, .int .u8 0, .int .u8 0, .int .u8 0, .int .u8 0, .int .u8 0, .int .u8 0, .int .u8 0, .int .u8 0, .int .u8 0, .int .u8 0, .int .u8 0, .int .u8 0, .int .u8 0, .int .u8 0, .int .u8 0, .int .u8 0, .int .u8 0], e, false, true⟩).wr h1.length 0 [.int .u8 0, .int .u8 0, .int .u8 0, .int .u8 0, .int .u8 0, .int .u8 0, .int .u8 0, .int .u8 0, .int .u8 0, .int .u8 0, .int .u8 0, .int .u8 0, .int .u8 0, .int .u8 0, .int .u8 0, .int .u8 0, .int .u8 0, .int .u8 0, .int .u8 0, .int .u8 0, .int .u8 0, .int .u8 0, .int .u8 0, .int .u8 0, .int .u8 0, .int .u8 0, .int .u8 0] = some (h1.new ⟨cel .u8 (List.replicate 27 0), e, false, true⟩) := wr_all rfl
theorem wr_set1 {h1 : AH} {e : TypeId} {q : List Int} {j : Nat} {x : Int} (hj : j < q.length) : (h1.new ⟨cel .u8 q, e, false, true⟩).wr h1.length j [.int .u8 x] = some (h1.new ⟨cel .u8 (q.set j x), e, false, true⟩) := by
  rw [wr_new_same, if_pos ⟨rfl, by rw [cel_len]; simp only [List.length_singleton]; omega⟩, cel_set hj]
theorem s_l01Standard {p n m k : Int} {h : AH} {Q : Value → AH → Prop} (z : SZ (stdX p n m k)) (hQ : ∀ v' h', h <+: h' → InX h.length h'.length h' v' (stdX p n m k).ps → Q (schV (stdX p n m k) v') h') : WF S 303 [I64 p, I64 n, I64 m, I64 k] h Q := by
  obtain ⟨zp, zn, zm, zk, znm, zmk, znk⟩ := z
  simp only [stdX] at zp zn zm zk znm zmk znk
  unfold stdX at hQ
  obtain ⟨N, rfl⟩ : ∃ N : Nat, n = N := ⟨n.toNat, by omega⟩
  obtain ⟨M, rfl⟩ : ∃ N : Nat, m = N := ⟨m.toNat, by omega⟩
  obtain ⟨K, rfl⟩ : ∃ N : Nat, k = N := ⟨k.toNat, by omega⟩
  rw [Int.toNat_natCast, Int.toNat_natCast, show (N : Int) * (M : Int) * (K : Int) = ((N * M * K : Nat) : Int) by push_cast; rfl, Int.toNat_natCast] at hQ
  have enm : (N : Int) * (M : Int) = ((N * M : Nat) : Int) := by push_cast; rfl
  have emk : (M : Int) * (K : Int) = ((M * K : Nat) : Int) := by push_cast; rfl
  have enk : (N : Int) * (K : Int) = ((N * K : Nat) : Int) := by push_cast; rfl
  have zijk : N * M * K ≤ 27 := by
    have := mul_in1 (A := 9) (B := 3) znm zk
    rw [enm, ← Int.natCast_mul] at this
    omega
  rw [enm] at znm
  rw [emk] at zmk
  rw [enk] at znk
  refine WF_fn (fn := c303) rfl rfl ?_
  unfold c303
  try simp (maxSteps := 3000000) (disch := first | omega | (simp only [len_new, len_put, len_kill]; omega)) only [↓xpre, xpost, ↓reduceIte, Nat.reduceEqDiff, Nat.reduceAdd, Nat.reduceSub, Nat.reduceLeDiff, Nat.zero_add, Nat.sub_zero]
  generalize hH1 : AH.new h _ = H1
  obtain ⟨hb1, p1, n1⟩ := new_facts hH1
  try simp (maxSteps := 3000000) (disch := first | omega | (simp only [len_new, len_put, len_kill]; omega)) only [↓xpre, xpost, ↓reduceIte, Nat.reduceEqDiff, Nat.reduceAdd, Nat.reduceSub, Nat.reduceLeDiff, Nat.zero_add, Nat.sub_zero, zrep, fillL]
  generalize hH2 : AH.new H1 _ = H2
  obtain ⟨hb2, p2, n2⟩ := new_facts hH2
  try simp (maxSteps := 3000000) (disch := first | omega | (simp only [len_new, len_put, len_kill]; omega)) only [↓xpre, xpost, ↓reduceIte, Nat.reduceEqDiff, Nat.reduceAdd, Nat.reduceSub, Nat.reduceLeDiff, Nat.zero_add, Nat.sub_zero, zrep, fillL, wr_all]
  generalize hH3 : AH.new H2 _ = H3
  obtain ⟨hb3, p3, n3⟩ := new_facts hH3
  have w0 : WayE (138) .u8 27 H3 H1.length H2.length (.slice (some ⟨H1.length, 0, none⟩) 0 27) (stdL M K 0) := ⟨fun r hr => by simp [stdL] at hr, .inr ⟨H1.length, true, rfl, Nat.le_refl _, by omega, pre_get p3 hb2⟩⟩
  refine WC_loop_inv (fun m f K1 => ∃ (i : Nat) (sv : Value), m = N - i ∧ i ≤ N ∧ f 1 = I64 N ∧ f 2 = I64 M ∧ f 3 = I64 K ∧ f 8 = .pointer (some ⟨h.length, 0, none⟩) ∧ f 9 = .pointer (some ⟨H2.length, 0, none⟩) ∧ f 10 = I64 i ∧ (H1 <+: K1) ∧ (H3.length ≤ K1.length) ∧ (OwnB K1 H2.length [I64 p, I64 N, I64 M, I64 K, sv] true) ∧ (WayE (138) .u8 27 K1 H1.length H2.length sv (stdL M K (i * M * K)))) ?_ (N - 0) _ _ ⟨0, .slice (some ⟨H1.length, 0, none⟩) 0 27, rfl, by omega, (by first | rfl | simp [upd_apply]), (by first | rfl | simp [upd_apply]), (by first | rfl | simp [upd_apply]), (by first | rfl | simp [upd_apply]), (by first | rfl | simp [upd_apply]), (by first | rfl | simp [upd_apply]), p2.trans p3, Nat.le_refl _, ⟨_, hb3⟩, (by rw [Nat.zero_mul, Nat.zero_mul]; exact w0)⟩
  rintro m f K1 ⟨i, sv, rfl, hi, f1, f2, f3, f8, f9, f10, pp, l1, g, w⟩
  by_cases hla : (i : Int) < N
  · try simp (maxSteps := 3000000) (disch := first | omega | (simp only [len_new, len_put, len_kill]; omega)) only [↓xpre, xpost, ↓reduceIte, Nat.reduceEqDiff, Nat.reduceAdd, Nat.reduceSub, Nat.reduceLeDiff, Nat.zero_add, Nat.sub_zero, f1, f2, f3, f8, f9, f10, decide_eq_true hla]
    refine WC_loop_inv (fun m f K2 => ∃ (j : Nat) (sv : Value), m = M - j ∧ j ≤ M ∧ f 1 = I64 N ∧ f 2 = I64 M ∧ f 3 = I64 K ∧ f 8 = .pointer (some ⟨h.length, 0, none⟩) ∧ f 9 = .pointer (some ⟨H2.length, 0, none⟩) ∧ f 10 = I64 i ∧ f 11 = I64 j ∧ (H1 <+: K2) ∧ (H3.length ≤ K2.length) ∧ (OwnB K2 H2.length [I64 p, I64 N, I64 M, I64 K, sv] true) ∧ (WayE (138) .u8 27 K2 H1.length H2.length sv (stdL M K ((i * M + j) * K)))) ?_ (M - 0) _ _ ⟨0, sv, rfl, by omega, (by first | rfl | exact f1 | (simp [upd_apply]; done)), (by first | rfl | exact f2 | (simp [upd_apply]; done)), (by first | rfl | exact f3 | (simp [upd_apply]; done)), (by first | rfl | exact f8 | (simp [upd_apply]; done)), (by first | rfl | exact f9 | (simp [upd_apply]; done)), (by first | rfl | exact f10 | (simp [upd_apply]; done)), (by first | rfl | simp [upd_apply]), pp, l1, g, (by rw [Nat.add_zero]; exact w)⟩
    rintro m f K2 ⟨j, sv, rfl, hj, f1, f2, f3, f8, f9, f10, f11, pp, l1, g, w⟩
    by_cases hlb : (j : Int) < M
    · try simp (maxSteps := 3000000) (disch := first | omega | (simp only [len_new, len_put, len_kill]; omega)) only [↓xpre, xpost, ↓reduceIte, Nat.reduceEqDiff, Nat.reduceAdd, Nat.reduceSub, Nat.reduceLeDiff, Nat.zero_add, Nat.sub_zero, f1, f2, f3, f8, f9, f10, f11, decide_eq_true hlb]
      refine WC_loop_inv (fun m f K3 => ∃ (l : Nat) (sv : Value), m = K - l ∧ l ≤ K ∧ f 1 = I64 N ∧ f 2 = I64 M ∧ f 3 = I64 K ∧ f 8 = .pointer (some ⟨h.length, 0, none⟩) ∧ f 9 = .pointer (some ⟨H2.length, 0, none⟩) ∧ f 10 = I64 i ∧ f 11 = I64 j ∧ f 12 = I64 l ∧ (H1 <+: K3) ∧ (H3.length ≤ K3.length) ∧ (OwnB K3 H2.length [I64 p, I64 N, I64 M, I64 K, sv] true) ∧ (WayE (138) .u8 27 K3 H1.length H2.length sv (stdL M K ((i * M + j) * K + l)))) ?_ (K - 0) _ _ ⟨0, sv, rfl, by omega, (by first | rfl | exact f1 | (simp [upd_apply]; done)), (by first | rfl | exact f2 | (simp [upd_apply]; done)), (by first | rfl | exact f3 | (simp [upd_apply]; done)), (by first | rfl | exact f8 | (simp [upd_apply]; done)), (by first | rfl | exact f9 | (simp [upd_apply]; done)), (by first | rfl | exact f10 | (simp [upd_apply]; done)), (by first | rfl | exact f11 | (simp [upd_apply]; done)), (by first | rfl | simp [upd_apply]), pp, l1, g, w⟩
      rintro m f K3 ⟨l, sv, rfl, hl, f1, f2, f3, f8, f9, f10, f11, f12, pp, l1, g, w⟩
      by_cases hlc : (l : Int) < K
      · have m1 : i * M + M ≤ N * M := mul_row (by omega)
        have m2 : (i * M + j) * K + K ≤ N * M * K := mul_row (by omega)
        have m3 : j * K + K ≤ M * K := mul_row (by omega)
        have m4 : i * K + K ≤ N * K := mul_row (by omega)
        have e1 : (i : Int) * (M : Int) = ((i * M : Nat) : Int) := by push_cast; rfl
        have e2 : ((i * M : Nat) : Int) + (j : Int) = ((i * M + j : Nat) : Int) := by push_cast; rfl
        have e3 : (j : Int) * (K : Int) = ((j * K : Nat) : Int) := by push_cast; rfl
        have e4 : ((j * K : Nat) : Int) + (l : Int) = ((j * K + l : Nat) : Int) := by push_cast; rfl
        have e5 : (i : Int) * (K : Int) = ((i * K : Nat) : Int) := by push_cast; rfl
        have e6 : ((i * K : Nat) : Int) + (l : Int) = ((i * K + l : Nat) : Int) := by push_cast; rfl
        have lt27 : (i * M + j) * K + l < 27 := by omega
        obtain ⟨eg, hg⟩ := g
        have hgn : ∀ b, (AH.new K3 b).get H2.length = some ⟨[I64 p, I64 N, I64 M, I64 K, sv], eg, false, true⟩ := fun b => get_new_any hg
        have w2 : ∀ e : TypeId, (K3.new ⟨cel .u8 (List.replicate 27 0), e, false, true⟩).wr K3.length (i * M + j) [.int .u8 1] = _ := fun e => wr_set1 (by rw [List.length_replicate]; omega)
        have w3 : ∀ e : TypeId, (K3.new ⟨cel .u8 ((List.replicate 27 0).set (i * M + j) 1), e, false, true⟩).wr K3.length (9 + (j * K + l)) [.int .u8 1] = _ := fun e => wr_set1 (by rw [List.length_set, List.length_replicate]; omega)
        have w4 : ∀ e : TypeId, (K3.new ⟨cel .u8 (((List.replicate 27 0).set (i * M + j) 1).set (9 + (j * K + l)) 1), e, false, true⟩).wr K3.length (18 + (i * K + l)) [.int .u8 1] = _ := fun e => wr_set1 (by rw [List.length_set, List.length_set, List.length_replicate]; omega)
        rw [un27_set (by omega) (by omega) (by omega)] at w4
        have r1 : ∀ e : TypeId, (K3.new ⟨cel .u8 (un27 (i * M + j) (j * K + l) (i * K + l)), e, false, true⟩).rdn K3.length 0 27 = some (cel .u8 (un27 (i * M + j) (j * K + l) (i * K + l))) := fun e => by
          rw [rdn_new_same, if_pos (by simp only [cel_len, un27_len]; omega), List.drop_zero, List.take_of_length_le (by rw [cel_len, un27_len]; omega)]
        have sp1 := splice_27 (q := un27 (i * M + j) (j * K + l) (i * K + l)) un27_len
        ((try simp (maxSteps := 3000000) (dsimp := false) (disch := first | omega | (simp only [len_new, len_put, len_kill]; omega)) only [↓ypre, ypost, ↓reduceIte, Nat.reduceEqDiff, Nat.reduceAdd, Nat.reduceSub, Nat.reduceLeDiff, Nat.zero_add, Nat.sub_zero, f1, f2, f3, f8, f9, f10, f11, f12, decide_eq_true hlc, wr_27, e1, e2, e3, e4, e5, e6, wrap64_in, ixaV_ptr, Int.toNat_natCast, Nat.mul_one, w2, w3, w4, r1, sp1, cel_all, cel_len, un27_len, rd1_of (hgn _)]); try simp only [yback])
        generalize hK4 : AH.new K3 _ = K4
        obtain ⟨hb4, p4, n4⟩ := new_facts hK4
        refine (w.pre p4).app un27_len (by rw [stdL_len]; omega) (by rw [stdL_len]; omega) (by omega) (by omega) fun sv' H' l' pre' _ own' w' => ?_
        obtain ⟨e5, g5⟩ := own' _ _ ⟨eg, pre_get p4 hg⟩
        have lt5 := get_lt g5
        ((try simp (maxSteps := 3000000) (dsimp := false) (disch := first | omega | (simp only [len_new, len_put, len_kill]; omega)) only [↓ypre, ypost, ↓reduceIte, Nat.reduceEqDiff, Nat.reduceAdd, Nat.reduceSub, Nat.reduceLeDiff, Nat.zero_add, Nat.sub_zero, ynew, f1, f2, f3, f8, f9, f10, f11, f12, w'.one, w'.cells, wr_of g5, wrap64_in]); try simp only [yback])
        have lts := lt27
        refine InvQ_go (K - (l + 1)) (by omega) ⟨(l + 1), sv', rfl, by omega, (by first | rfl | exact f1 | (simp only [upd_apply]; rfl) | (show I64 _ = _; congr 1; omega)), (by first | rfl | exact f2 | (simp only [upd_apply]; rfl) | (show I64 _ = _; congr 1; omega)), (by first | rfl | exact f3 | (simp only [upd_apply]; rfl) | (show I64 _ = _; congr 1; omega)), (by first | rfl | exact f8 | (simp only [upd_apply]; rfl) | (show I64 _ = _; congr 1; omega)), (by first | rfl | exact f9 | (simp only [upd_apply]; rfl) | (show I64 _ = _; congr 1; omega)), (by first | rfl | exact f10 | (simp only [upd_apply]; rfl) | (show I64 _ = _; congr 1; omega)), (by first | rfl | exact f11 | (simp only [upd_apply]; rfl) | (show I64 _ = _; congr 1; omega)), (by first | rfl | exact f12 | (simp only [upd_apply]; rfl) | (show I64 _ = _; congr 1; omega)), (pre_put (pre' _ (Nat.le_refl _) (pp.trans p4)) (by omega)), (by rw [len_put]; omega), ⟨_, get_put_same lt5⟩, (by have := w'.put (b := ⟨[I64 p, I64 N, I64 M, I64 K, sv'], e5, false, true⟩); rw [← stdG_at (by omega) (by omega)] at this; exact this)⟩
      · have ec : l = K := by omega
        subst ec
        try simp (maxSteps := 3000000) (disch := first | omega | (simp only [len_new, len_put, len_kill]; omega)) only [↓xpre, xpost, ↓reduceIte, Nat.reduceEqDiff, Nat.reduceAdd, Nat.reduceSub, Nat.reduceLeDiff, Nat.zero_add, Nat.sub_zero, f1, f2, f3, f8, f9, f10, f11, f12, decide_eq_false hlc, wrap64_in]
        refine InvQ_go (M - (j + 1)) (by omega) ⟨(j + 1), sv, rfl, by omega, (by first | rfl | exact f1 | (simp only [upd_apply]; rfl) | (show I64 _ = _; congr 1; omega)), (by first | rfl | exact f2 | (simp only [upd_apply]; rfl) | (show I64 _ = _; congr 1; omega)), (by first | rfl | exact f3 | (simp only [upd_apply]; rfl) | (show I64 _ = _; congr 1; omega)), (by first | rfl | exact f8 | (simp only [upd_apply]; rfl) | (show I64 _ = _; congr 1; omega)), (by first | rfl | exact f9 | (simp only [upd_apply]; rfl) | (show I64 _ = _; congr 1; omega)), (by first | rfl | exact f10 | (simp only [upd_apply]; rfl) | (show I64 _ = _; congr 1; omega)), (by first | rfl | exact f11 | (simp only [upd_apply]; rfl) | (show I64 _ = _; congr 1; omega)), pp, l1, g, (by rw [show (i * M + (j + 1)) * l = (i * M + j) * l + l by rw [← Nat.add_assoc, Nat.succ_mul]]; exact w)⟩
    · have eb : j = M := by omega
      subst eb
      try simp (maxSteps := 3000000) (disch := first | omega | (simp only [len_new, len_put, len_kill]; omega)) only [↓xpre, xpost, ↓reduceIte, Nat.reduceEqDiff, Nat.reduceAdd, Nat.reduceSub, Nat.reduceLeDiff, Nat.zero_add, Nat.sub_zero, f1, f2, f3, f8, f9, f10, f11, decide_eq_false hlb, wrap64_in]
      refine InvQ_go (N - (i + 1)) (by omega) ⟨(i + 1), sv, rfl, by omega, (by first | rfl | exact f1 | (simp only [upd_apply]; rfl) | (show I64 _ = _; congr 1; omega)), (by first | rfl | exact f2 | (simp only [upd_apply]; rfl) | (show I64 _ = _; congr 1; omega)), (by first | rfl | exact f3 | (simp only [upd_apply]; rfl) | (show I64 _ = _; congr 1; omega)), (by first | rfl | exact f8 | (simp only [upd_apply]; rfl) | (show I64 _ = _; congr 1; omega)), (by first | rfl | exact f9 | (simp only [upd_apply]; rfl) | (show I64 _ = _; congr 1; omega)), (by first | rfl | exact f10 | (simp only [upd_apply]; rfl) | (show I64 _ = _; congr 1; omega)), pp, l1, g, (by rw [Nat.succ_mul]; exact w)⟩
  · have ea : i = N := by omega
    subst ea
    obtain ⟨e6, g6⟩ := g
    have hb1K := pre_get pp hb1
    have lt2 := get_lt hb1K
    try simp (maxSteps := 3000000) (disch := first | omega | (simp only [len_new, len_put, len_kill]; omega)) only [↓xpre, xpost, ↓reduceIte, Nat.reduceEqDiff, Nat.reduceAdd, Nat.reduceSub, Nat.reduceLeDiff, Nat.zero_add, Nat.sub_zero, f1, f2, f3, f8, f9, f10, decide_eq_false hla, rdn_of g6, wr_of hb1K]
    exact ⟨w.one, hQ sv _ (pre_put (p1.trans pp) (Nat.le_refl _)) ⟨(w.putb (by omega)).inE.mono (by omega) (Nat.le_refl _), stdL_byt⟩⟩
end Go.Proofs.Ytapafdpnmakekaa.X
