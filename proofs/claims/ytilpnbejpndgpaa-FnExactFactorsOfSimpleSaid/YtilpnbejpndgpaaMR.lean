/- Texts of one claim, put together by merge.py: XF33, XF34, XF35, XR1, XR2, XR3, XR4. -/
import Derived.Test.YtilpnbejpndgpaaM5
import Derived.Test.YtilpnbejpndgpaaM3
import Derived.Test.YtilpnbejpndgpaaM4
import Derived.Test.YtilpnbejpndgpaaM8
import Derived.Test.YtilpnbejpndgpaaM7
/- SliceOf, both sides. -/
set_option linter.unusedVariables false
set_option linter.unusedSimpArgs false
set_option maxRecDepth 20000
set_option maxHeartbeats 4000000
namespace Go.Proofs.Ytilpnbejpndgpaa.X
open Go Go.RowKit

theorem cut_get {α : Type} {d : α} {l : List α} {a n k : Nat} (h : k < n) : ((l.drop a).take n).getD k d = l.getD (a + k) d := by
  simp [List.getD_eq_getElem?_getD, List.getElem?_take, List.getElem?_drop, h]
theorem parts_slice {u : Ten} {a J K : Nat} (f : TF u) (hj : u.j = J) (hk : u.k = K) (ha : (a : Int) < u.i) : parts ((u.ns.drop (a * (J * K))).take (J * K)) K J = sliceT u a := by
  have hJ : u.j.toNat = J := by omega
  have hK : u.k.toNat = K := by omega
  have hl : (u.ns.length : Int) = u.i * u.j * u.k := f.len
  obtain ⟨I, hI⟩ : ∃ I : Nat, u.i = I := ⟨u.i.toNat, by have := f.i; omega⟩
  have hl' : u.ns.length = I * (J * K) := by
    rw [hI, hj, hk, Int.mul_assoc] at hl
    exact_mod_cast hl
  have ham : a * (J * K) + J * K ≤ u.ns.length := by rw [hl']; exact mul_row (by omega)
  refine getD_ext (by rw [parts_len, sliceT_len, hJ]) fun j hj' => ?_
  rw [parts_len] at hj'
  rw [parts_get hj', sliceT_get (by omega), hK]
  have hr := mul_row (w := K) hj'
  refine gen_ext (by simp; omega) fun k hk' => ?_
  rw [cut_get hk', cut_get (by omega)]
  unfold tat nth
  congr 1
  rw [hj, hk]
  have e1 : ((a : Int) * (J : Int) + (j : Int)) * (K : Int) + (k : Int) = (((a * J + j) * K + k : Nat) : Int) := by push_cast; rfl
  rw [e1, Int.toNat_natCast, Nat.add_mul, Nat.mul_assoc]
  omega
def sideN (t : Ten) (s : Nat) : Int := if s = 0 then t.i else if s = 1 then t.j else t.k
theorem turnN_side {t : Ten} {s : Nat} (h : s ≤ 2) : (turnN s t).i = sideN t s := by
  have : s = 0 ∨ s = 1 ∨ s = 2 := by omega
  rcases this with rfl | rfl | rfl <;> rfl
def slOK (t : Ten) (s a : Int) : Prop := (0 ≤ s ∧ s ≤ 2) ∧ 0 ≤ a ∧ a < sideN t s.toNat
instance {t : Ten} {s a : Int} : Decidable (slOK t s a) := by unfold slOK; infer_instance
def slR (t : Ten) (s a : Int) : List (List Int) × Int := if isT t = true then (if slOK t s a then (sliceT (turnN s.toNat t) a, 0) else ([], 2)) else ([], 1)

end Go.Proofs.Ytilpnbejpndgpaa.X

/- The results of SliceOf are small. -/
set_option linter.unusedVariables false
set_option linter.unusedSimpArgs false
set_option maxRecDepth 20000
set_option maxHeartbeats 4000000
namespace Go.Proofs.Ytilpnbejpndgpaa.X
open Go Go.RowKit

theorem smallM_of {rows : List (List Int)} {A B : Nat} (h1 : rows.length ≤ A) (h2 : ∀ i, i < rows.length → (rows.getD i []).length ≤ B) (hAB : A ≤ 1000 ∧ B ≤ 1000) : SmallM rows := by
  have ht : ∀ i, i ≤ rows.length → tot rows i ≤ i * 1000 := fun i => by
    induction i with
    | zero => intro _; simp
    | succ i ih =>
      intro hi
      have e := tot_succ (rows := rows) (i := i) (by omega)
      have := ih (by omega)
      have := h2 i (by omega)
      omega
  have := ht rows.length (Nat.le_refl _)
  exact ⟨by omega, fun i hi => by have := h2 i hi; omega, by omega⟩
theorem smallM_nil : SmallM [] := ⟨by simp, by simp, by simp [tot]⟩
theorem slR_small (t : Ten) (s a : Int) : SmallM (slR t s a).1 := by
  unfold slR
  split
  · rename_i h
    have fu := TF.turnN (n := s.toNat) (isT_facts h)
    split
    · have := fu.j
      have := fu.k
      refine smallM_of (A := 9) (B := 9) (by rw [sliceT_len]; omega) (fun i hi => ?_) (by omega)
      rw [sliceT_len] at hi
      rw [sliceT_get hi, gen_len]
      omega
    · exact smallM_nil
  · exact smallM_nil
end Go.Proofs.Ytilpnbejpndgpaa.X

/- FlattenRanks, both sides. -/
set_option linter.unusedVariables false
set_option linter.unusedSimpArgs false
set_option maxRecDepth 20000
set_option maxHeartbeats 4000000
namespace Go.Proofs.Ytilpnbejpndgpaa.X
open Go Go.RowKit

def flatU (u : Ten) : List (List Int) := parts u.ns (u.j * u.k).toNat u.i.toNat
theorem flatU_good {u : Ten} (f : TF u) : Good u.p (flatU u) (u.j * u.k).toNat ∧ (flatU u).length = u.i.toNat ∧ u.ns.length = u.i.toNat * (u.j * u.k).toNat := by
  have jk := mul_in1 (A := 9) (B := 9) f.j f.k
  have fi := f.i
  obtain ⟨w, hw⟩ : ∃ w : Nat, u.j * u.k = w := ⟨(u.j * u.k).toNat, by omega⟩
  obtain ⟨n, hn⟩ : ∃ n : Nat, u.i = n := ⟨u.i.toNat, by omega⟩
  have hl : u.ns.length = n * w := by
    have hl := f.len
    rw [Int.mul_assoc, hw, hn] at hl
    exact_mod_cast hl
  unfold flatU
  rw [hw, hn, Int.toNat_natCast, Int.toNat_natCast]
  refine ⟨fun i hi => ?_, parts_len, hl⟩
  rw [parts_len] at hi
  unfold tb
  rw [parts_get hi]
  have hr := mul_row (w := w) hi
  refine ⟨by simp; omega, fun l hl' => ?_⟩
  rw [cut_get hl']
  have := f.num ((i * w + l : Nat) : Int) (by omega) (by omega)
  unfold nth at this
  rw [Int.toNat_natCast] at this
  exact this
theorem turn_isP {t : Ten} {k : Nat} (h : isP t.p = true) : isP (turnN k t).p = true := by rw [turnN_p]; exact h
noncomputable def flG (t : Ten) (s : Nat) : Int := (rankN t.p (flatU (turnN s t)) : Nat)
noncomputable def flR (t : Ten) : List Int × Int := if isT t = true then (gen 3 (flG t), 0) else ([], 1)

theorem i_flattenRanks {v : Value} {t : Ten} {h : AH} {Q : Value → AH → Prop} (hv : Ints h v t.ns) (ft : TF t) (hp : isP t.p = true)
    (hQ : ∀ v' h', h <+: h' → OwnR h h' v' (gen 3 (flG t)) → Q v' h') : WF S 121 [tenV t v] h Q := by
  refine WF_fn (fn := c121) rfl rfl ?_
  unfold c121
  try simp (maxSteps := 3000000) (disch := first | omega | (simp only [len_new, len_put, len_kill]; omega)) only [↓xpre, xpost, ↓reduceIte, Nat.reduceEqDiff, Nat.reduceAdd, Nat.reduceSub, Nat.reduceLeDiff, Nat.zero_add, Nat.sub_zero, tenV, hv.one, fillL, zrep]
  generalize hH1 : AH.new h _ = H1
  obtain ⟨hb1, p1, n1⟩ := new_facts hH1
  generalize hH2 : AH.new H1 _ = H2
  obtain ⟨hb2, p2, n2⟩ := new_facts hH2
  refine WC_loop_inv (fun m f K1 => ∃ (s : Nat) (sv : Value), m = 3 - s ∧ s ≤ 3 ∧ f 1 = .pointer (some ⟨h.length, 0, none⟩) ∧ f 3 = sv ∧ f 7 = I64 s ∧ (H1 <+: K1) ∧ (WayF K1 H1.length sv (gen s (flG t)))) ?_ (3 - 0) _ _ ⟨0, .slice (some ⟨H1.length, 0, none⟩) 0 1, rfl, by omega, (by first | rfl | (simp [upd_apply]; done)), (by first | rfl | (simp [upd_apply]; done)), (by first | rfl | (simp [upd_apply]; done)), p2, ⟨H1.length, true, by rw [gen_len], Nat.le_refl _, hb2⟩⟩
  rintro m f K1 ⟨s, sv, rfl, hs, f1, f3, f7, pp, way⟩
  have hbK := pre_get pp hb1
  try simp (maxSteps := 3000000) (disch := first | omega | (simp only [len_new, len_put, len_kill]; omega)) only [↓xpre, xpost, ↓reduceIte, Nat.reduceEqDiff, Nat.reduceAdd, Nat.reduceSub, Nat.reduceLeDiff, Nat.zero_add, Nat.sub_zero, f1, f3, f7, IfW_dec]
  refine ⟨fun hlt => ?_, fun hge => ?_⟩
  · have fu := TF.turnN (n := s) ft
    have hg := flatU_good fu
    have jk := mul_in1 (A := 9) (B := 9) fu.j fu.k
    have fi := fu.i
    try simp (maxSteps := 3000000) (disch := first | omega | (simp only [len_new, len_put, len_kill]; omega)) only [↓xpre, xpost, ↓reduceIte, Nat.reduceEqDiff, Nat.reduceAdd, Nat.reduceSub, Nat.reduceLeDiff, Nat.zero_add, Nat.sub_zero, f1, f3, f7, rdn_of hbK]
    refine i_turned (hv.pre (p1.trans pp)) ft (by omega) fun v3 H3 p3 i3 => ?_
    have hb3 := pre_get p3 hbK
    try simp (maxSteps := 3000000) (disch := first | omega | (simp only [len_new, len_put, len_kill]; omega)) only [↓xpre, xpost, ↓reduceIte, Nat.reduceEqDiff, Nat.reduceAdd, Nat.reduceSub, Nat.reduceLeDiff, Nat.zero_add, Nat.sub_zero, f1, f3, f7, tenV, i3.one]
    generalize hH4 : AH.new H3 _ = H4
    obtain ⟨hb4, p4, n4⟩ := new_facts hH4
    have hb5 := pre_get p4 hb3
    have ejk : (turnN s t).j * (turnN s t).k = (((turnN s t).j * (turnN s t).k).toNat : Int) := by omega
    try simp (maxSteps := 3000000) (disch := first | omega | (simp only [len_new, len_put, len_kill]; omega)) only [↓xpre, xpost, ↓reduceIte, Nat.reduceEqDiff, Nat.reduceAdd, Nat.reduceSub, Nat.reduceLeDiff, Nat.zero_add, Nat.sub_zero, f1, f3, f7, rd1_of hb5, rd1_of hb4, wrap64_in]
    rw [ejk]
    refine i_parted (n := (turnN s t).i.toNat) (i3.pre p4) fu.le (by omega) hg.2.2 fun v5 H5 p5 o5 => ?_
    try simp (maxSteps := 3000000) (disch := first | omega | (simp only [len_new, len_put, len_kill]; omega)) only [↓xpre, xpost, ↓reduceIte, Nat.reduceEqDiff, Nat.reduceAdd, Nat.reduceSub, Nat.reduceLeDiff, Nat.zero_add, Nat.sub_zero, f1, f3, f7]
    refine ⟨p5, ?_⟩
    refine i_rank _ (flatU (turnN s t)) _ _ _ _ o5.rows hp (by rw [hg.2.1]; omega) (by rw [← turnN_p (n := s) (t := t)]; exact hg.1) (by omega) fun H6 p6 => ?_
    try simp (maxSteps := 3000000) (disch := first | omega | (simp only [len_new, len_put, len_kill]; omega)) only [↓xpre, xpost, ↓reduceIte, Nat.reduceEqDiff, Nat.reduceAdd, Nat.reduceSub, Nat.reduceLeDiff, Nat.zero_add, Nat.sub_zero, f1, f3, f7, fillL, zrep]
    refine (way.pre ((p3.trans p4).trans (p5.trans p6))).app (by rw [gen_len]; omega) fun sv' h6 k6 pre6 way6 => ?_
    try simp (maxSteps := 3000000) (disch := first | omega | (simp only [len_new, len_put, len_kill]; omega)) only [↓xpre, xpost, ↓reduceIte, Nat.reduceEqDiff, Nat.reduceAdd, Nat.reduceSub, Nat.reduceLeDiff, Nat.zero_add, Nat.sub_zero, f1, f3, f7, wrap64_in]
    refine InvQ_go (3 - (s + 1)) (by omega) ⟨(s + 1), sv', rfl, by omega, (by first | rfl | exact f1 | (simp only [upd_apply]; rfl) | (show I64 _ = _; congr 1; omega)), (by first | rfl | exact f3 | (simp only [upd_apply]; rfl) | (show I64 _ = _; congr 1; omega)), (by first | rfl | exact f7 | (simp only [upd_apply]; rfl) | (show I64 _ = _; congr 1; omega)), (pre6 _ (Nat.le_refl _) (pp.trans ((p3.trans p4).trans (p5.trans p6)))), (by rw [gen_succ]; exact way6)⟩
  · have e : s = 3 := by omega
    subst e
    try simp (maxSteps := 3000000) (disch := first | omega | (simp only [len_new, len_put, len_kill]; omega)) only [↓xpre, xpost, ↓reduceIte, Nat.reduceEqDiff, Nat.reduceAdd, Nat.reduceSub, Nat.reduceLeDiff, Nat.zero_add, Nat.sub_zero, f1, f3, f7]
    obtain ⟨kb, fu, rfl, q2, q3⟩ := way
    exact hQ _ _ (p1.trans pp) (.inr ⟨kb, _, fu, by omega, rfl, q3⟩)
theorem isT_isP {t : Ten} (h : isT t = true) : isP t.p = true := by
  simp only [isT, Bool.and_eq_true, decide_eq_true_eq] at h
  exact h.1.1.1.1.1
theorem flR_small (t : Ten) : SmallS (flR t).1 := by
  unfold flR SmallS
  split
  · simp [gen_len]
  · simp
end Go.Proofs.Ytilpnbejpndgpaa.X

/- Rank one: the elimination finds one row just if all small determinants are 0. -/
set_option linter.unusedVariables false
set_option linter.unusedSimpArgs false
set_option maxRecDepth 20000
set_option maxHeartbeats 4000000
namespace Go.Proofs.Ytilpnbejpndgpaa.X
open Go Go.RowKit

theorem tmod_dvd (x p : Int) : p ∣ x - x.tmod p := ⟨x.tdiv p, by have := Int.mul_tdiv_add_tmod x p; omega⟩
theorem dvd_small {p x : Int} (h : p ∣ x) (h0 : 0 ≤ x ∧ x < p) : x = 0 := by
  have := Int.emod_eq_zero_of_dvd h
  rw [Int.emod_eq_of_lt h0.1 h0.2] at this
  exact this
theorem dvd_eq {p x y : Int} (h : p ∣ x - y) (hx : 0 ≤ x ∧ x < p) (hy : 0 ≤ y ∧ y < p) : x = y := by
  by_cases hxy : y ≤ x
  · have := dvd_small h ⟨by omega, by omega⟩
    omega
  · have h2 : p ∣ y - x := by
      obtain ⟨c, hc⟩ := h
      exact ⟨-c, by rw [Int.mul_neg]; omega⟩
    have := dvd_small h2 ⟨by omega, by omega⟩
    omega
theorem md_dvd (p x : Int) : p ∣ x - md p x := by
  unfold md
  obtain ⟨a, ha⟩ := tmod_dvd x p
  obtain ⟨b, hb⟩ := tmod_dvd (x.tmod p + p) p
  exact ⟨a + b - 1, by grind⟩
theorem inv_dvd {p n w : Int} (h : IsInv p n w) : ∃ q, w * n = 1 + p * q := by
  obtain ⟨q, hq⟩ := tmod_dvd (w * n) p
  rw [h.2.2.1] at hq
  exact ⟨q, by omega⟩
/-- All small determinants are 0, and not all numbers are. -/
def R1 (p : Int) (T : List (List Int)) (w : Nat) : Prop :=
  (∃ i c, i < T.length ∧ c < w ∧ tb T i c ≠ 0) ∧ ∀ i i' c c', i < T.length → i' < T.length → c < w → c' < w → p ∣ tb T i c * tb T i' c' - tb T i c' * tb T i' c

theorem pivot_none {T : List (List Int)} {c : Nat} : ∀ {m r : Nat}, pivot T c m r = r + m → ∀ i, r ≤ i → i < r + m → tb T i c = 0
  | 0, r, h, i, h1, h2 => by omega
  | m + 1, r, h, i, h1, h2 => by
    unfold pivot at h
    by_cases h0 : tb T r c = 0
    · rw [if_pos h0] at h
      by_cases hi : i = r
      · subst hi
        exact h0
      · exact pivot_none (m := m) (r := r + 1) (by omega) i (by omega) (by omega)
    · rw [if_neg h0] at h
      omega
theorem elim_ge {p : Int} : ∀ {m : Nat} {T : List (List Int)} {r c : Nat}, r ≤ elim p T r c m
  | 0, T, r, c => Nat.le_refl _
  | m + 1, T, r, c => by
    unfold elim
    refine Nat.le_trans ?_ elim_ge
    unfold colStep
    split
    · exact Nat.le_refl _
    · simp
/-- From one row on: no further row just if the rows behind it are 0. -/
theorem elim_one {p : Int} : ∀ {m : Nat} {T : List (List Int)} {c : Nat}, 1 ≤ T.length → (elim p T 1 c m = 1 ↔ ∀ i, 1 ≤ i → i < T.length → ∀ l, c ≤ l → l < c + m → tb T i l = 0)
  | 0, T, c, h => by
    unfold elim
    exact ⟨fun _ i h1 h2 l h3 h4 => by omega, fun _ => rfl⟩
  | m + 1, T, c, h => by
    unfold elim colStep
    by_cases hp : pivot T c (T.length - 1) 1 = T.length
    · rw [if_pos hp]
      have hz := pivot_none (T := T) (c := c) (m := T.length - 1) (r := 1) (by omega)
      rw [elim_one h]
      constructor
      · intro hh i h1 h2 l h3 h4
        by_cases hl : l = c
        · subst hl
          exact hz i h1 (by omega)
        · exact hh i h1 h2 l (by omega) (by omega)
      · intro hh i h1 h2 l h3 h4
        exact hh i h1 h2 l (by omega) (by omega)
    · rw [if_neg hp]
      have hr := pivot_le (T := T) (c := c) (m := T.length - 1) (r := 1)
      have hne := pivot_ne (T := T) (c := c) (m := T.length - 1) (r := 1) (by omega)
      constructor
      · intro hh
        have := elim_ge (p := p) (m := m) (T := swept p (swapped T 1 (pivot T c (T.length - 1) 1)) 1 c T.length) (r := 1 + 1) (c := c + 1)
        simp only at hh
        omega
      · intro hh
        exact absurd (hh _ hr.1 (by omega) c (Nat.le_refl _) (by omega)) hne
theorem tb_swapped {T : List (List Int)} {r i j l : Nat} (hr : r < T.length) (hi : i < T.length) : tb (swapped T r i) j l = if j = r then tb T i l else if j = i then tb T r l else tb T j l := by
  unfold tb
  rw [swapped_get hr hi]
  split
  · rfl
  · split <;> rfl
theorem R1_swapped {p : Int} {T : List (List Int)} {w r i : Nat} (hr : r < T.length) (hi : i < T.length) : R1 p (swapped T r i) w ↔ R1 p T w := by
  have ex : ∀ j, j < T.length → ∃ j', j' < T.length ∧ ∀ l, tb (swapped T r i) j l = tb T j' l := fun j hj => by
    by_cases h1 : j = r
    · exact ⟨i, hi, fun l => by rw [tb_swapped hr hi, if_pos h1]⟩
    · by_cases h2 : j = i
      · exact ⟨r, hr, fun l => by rw [tb_swapped hr hi, if_neg h1, if_pos h2]⟩
      · exact ⟨j, hj, fun l => by rw [tb_swapped hr hi, if_neg h1, if_neg h2]⟩
  have ex' : ∀ j, j < T.length → ∃ j', j' < T.length ∧ ∀ l, tb T j l = tb (swapped T r i) j' l := fun j hj => by
    by_cases h1 : j = i
    · exact ⟨r, hr, fun l => by rw [tb_swapped hr hi, if_pos rfl, h1]⟩
    · by_cases h2 : j = r
      · refine ⟨i, hi, fun l => ?_⟩
        rw [tb_swapped hr hi]
        by_cases h3 : i = r
        · omega
        · rw [if_neg h3, if_pos rfl, h2]
      · exact ⟨j, hj, fun l => by rw [tb_swapped hr hi, if_neg h2, if_neg h1]⟩
  constructor
  · rintro ⟨⟨j, c, h1, h2, h3⟩, h4⟩
    rw [swapped_len] at h1
    obtain ⟨j', hj', e⟩ := ex j h1
    refine ⟨⟨j', c, hj', h2, by rw [← e]; exact h3⟩, fun a b c c' ha hb hc hc' => ?_⟩
    obtain ⟨a', ha', ea⟩ := ex' a ha
    obtain ⟨b', hb', eb⟩ := ex' b hb
    rw [ea, ea, eb, eb]
    exact h4 a' b' c c' (by rw [swapped_len]; exact ha') (by rw [swapped_len]; exact hb') hc hc'
  · rintro ⟨⟨j, c, h1, h2, h3⟩, h4⟩
    obtain ⟨j', hj', e⟩ := ex' j h1
    refine ⟨⟨j', c, by rw [swapped_len]; exact hj', h2, by rw [← e]; exact h3⟩, fun a b c c' ha hb hc hc' => ?_⟩
    rw [swapped_len] at ha hb
    obtain ⟨a', ha', ea⟩ := ex a ha
    obtain ⟨b', hb', eb⟩ := ex b hb
    rw [ea, ea, eb, eb]
    exact h4 a' b' c c' ha' hb' hc hc'
theorem minor_of {p a a' b b' s t x x' d e q : Int} (h1 : p ∣ a * d - s * x) (h2 : p ∣ b' * d - t * x') (h3 : p ∣ a' * d - s * x') (h4 : p ∣ b * d - t * x) (he : e * d = 1 + p * q) : p ∣ a * b' - a' * b := by
  obtain ⟨k1, h1⟩ := h1
  obtain ⟨k2, h2⟩ := h2
  obtain ⟨k3, h3⟩ := h3
  obtain ⟨k4, h4⟩ := h4
  exact ⟨e * e * (s * x * k2 + k1 * t * x' + p * k1 * k2 - s * x' * k4 - k3 * t * x - p * k3 * k4) - (2 * q + p * q * q) * (a * b' - a' * b), by grind⟩
/-- One column swept: zeros behind the first row just if the determinants are 0. -/
theorem swept_one {p : Int} {S : List (List Int)} {w c : Nat} (g : Good p S w) (hP : isP p = true) (hS : 1 ≤ S.length) (hc : c < w) (hd : tb S 0 c ≠ 0) (hz : ∀ i, i < S.length → ∀ l, l < c → tb S i l = 0) :
    (∀ i, 1 ≤ i → i < S.length → ∀ l, c + 1 ≤ l → l < w → tb (swept p S 0 c S.length) i l = 0) ↔ R1 p S w := by
  have hp := isP_in hP
  have g0 := (g 0 (by omega)).2
  have iv := invN_is hP (n := tb S 0 c) (by have := g0 c hc; omega)
  obtain ⟨q, hq⟩ := inv_dvd iv
  have el : ∀ i, 1 ≤ i → i < S.length → ∀ l, l < w → tb (swept p S 0 c S.length) i l = md p (tb S i l - (tb S i c * invN p (tb S 0 c)).tmod p * tb S 0 l) := fun i h1 h2 l hl => by
    unfold tb
    rw [swept_get h2, if_pos ⟨by omega, h2⟩]
    unfold rowOp
    rw [gen_get (by rw [(g i h2).1]; exact hl)]
  have key : ∀ i, 1 ≤ i → i < S.length → ∀ l, l < w → (tb (swept p S 0 c S.length) i l = 0 ↔ p ∣ tb S i l * tb S 0 c - tb S i c * tb S 0 l) := fun i h1 h2 l hl => by
    rw [el i h1 h2 l hl]
    generalize tb S i l = a
    generalize tb S i c = s at *
    generalize tb S 0 l = x
    generalize tb S 0 c = d at *
    generalize invN p d = e at *
    obtain ⟨m1, hm1⟩ := md_dvd p (a - (s * e).tmod p * x)
    obtain ⟨m2, hm2⟩ := tmod_dvd (s * e) p
    have hb := md_in (x := a - (s * e).tmod p * x) (p := p) hp.1
    constructor
    · intro h0
      rw [h0] at hm1
      exact ⟨m1 * d - m2 * x * d + s * x * q, by grind⟩
    · rintro ⟨k, hk⟩
      refine dvd_small ?_ hb
      exact ⟨e * k + m2 * x - m1 - q * a, by grind⟩
  have all : (∀ i, 1 ≤ i → i < S.length → ∀ l, c + 1 ≤ l → l < w → tb (swept p S 0 c S.length) i l = 0) ↔ ∀ i, i < S.length → ∀ l, l < w → p ∣ tb S i l * tb S 0 c - tb S i c * tb S 0 l := by
    constructor
    · intro h i hi l hl
      by_cases h1 : 1 ≤ i
      · by_cases h2 : c + 1 ≤ l
        · exact (key i h1 hi l hl).1 (h i h1 hi l h2 hl)
        · by_cases h3 : l = c
          · subst h3
            exact ⟨0, by grind⟩
          · rw [hz i hi l (by omega), hz 0 (by omega) l (by omega)]
            exact ⟨0, by grind⟩
      · have : i = 0 := by omega
        subst this
        exact ⟨0, by grind⟩
    · intro h i h1 h2 l h3 h4
      exact (key i h1 h2 l h4).2 (h i h2 l h4)
  rw [all]
  constructor
  · intro h
    refine ⟨⟨0, c, by omega, hc, hd⟩, fun i i' l l' hi hi' hl hl' => ?_⟩
    exact minor_of (h i hi l hl) (h i' hi' l' hl') (h i hi l' hl') (h i' hi' l hl) hq
  · intro h i hi l hl
    obtain ⟨k, hk⟩ := h.2 i 0 l c hi (by omega) hl hc
    exact ⟨k, by rw [← hk]⟩
theorem rank1_col {p : Int} {w : Nat} (hP : isP p = true) : ∀ {m : Nat} {T : List (List Int)} {c : Nat}, Good p T w → 1 ≤ T.length → c + m = w → (∀ i, i < T.length → ∀ l, l < c → tb T i l = 0) → (elim p T 0 c m = 1 ↔ R1 p T w)
  | 0, T, c, g, h, hc, hz => by
    unfold elim
    refine ⟨fun h => by omega, ?_⟩
    rintro ⟨⟨i, l, h1, h2, h3⟩, _⟩
    exact absurd (hz i h1 l (by omega)) h3
  | m + 1, T, c, g, h, hc, hz => by
    unfold elim colStep
    by_cases hp : pivot T c (T.length - 0) 0 = T.length
    · rw [if_pos hp]
      have hzz := pivot_none (T := T) (c := c) (m := T.length - 0) (r := 0) (by omega)
      dsimp only
      refine rank1_col hP g h (by omega) fun i hi l hl => ?_
      by_cases e : l = c
      · subst e
        exact hzz i (by omega) (by omega)
      · exact hz i hi l (by omega)
    · rw [if_neg hp]
      have hr := pivot_le (T := T) (c := c) (m := T.length - 0) (r := 0)
      have hne := pivot_ne (T := T) (c := c) (m := T.length - 0) (r := 0) (by omega)
      generalize pivot T c (T.length - 0) 0 = i0 at *
      have hi0 : i0 < T.length := by omega
      simp only [Nat.zero_add]
      have hl := swapped_len (T := T) (r := 0) (i := i0)
      rw [elim_one (by rw [swept_len, hl]; exact h), swept_len, ← R1_swapped (r := 0) (i := i0) (by omega) hi0, ← swept_one (g.swapped (by omega) hi0) hP (by omega) (show c < w by omega) (by rw [tb_swapped (by omega) hi0, if_pos rfl]; exact hne) (fun i hi l hl' => by
        rw [hl] at hi
        rw [tb_swapped (by omega) hi0]
        split
        · exact hz _ hi0 l hl'
        · split
          · exact hz _ (by omega) l hl'
          · exact hz _ hi l hl')]
      rw [hl, show c + 1 + m = w by omega]
theorem rank1_iff {p : Int} {w : Nat} {T : List (List Int)} (hP : isP p = true) (g : Good p T w) (h : 1 ≤ T.length) : rankN p T = 1 ↔ R1 p T w := by
  unfold rankN
  rw [(g 0 (by omega)).1]
  exact rank1_col hP g h (by omega) (fun i _ l hl => by omega)
end Go.Proofs.Ytilpnbejpndgpaa.X

/- Simple tensors, plainly: the three ranks are 1 just if the lists through the first number other than 0 make the tensor. -/
set_option linter.unusedVariables false
set_option linter.unusedSimpArgs false
set_option maxRecDepth 20000
set_option maxHeartbeats 4000000
namespace Go.Proofs.Ytilpnbejpndgpaa.X
open Go Go.RowKit

theorem firstAt_spec {q : Nat → Bool} : ∀ {m i : Nat}, (firstAt q m i = -1 ∧ ∀ j, i ≤ j → j < i + m → q j = false) ∨ ∃ r : Nat, firstAt q m i = r ∧ i ≤ r ∧ r < i + m ∧ q r = true
  | 0, i => .inl ⟨rfl, fun j h1 h2 => by omega⟩
  | m + 1, i => by
    unfold firstAt
    by_cases h : q i = true
    · rw [if_pos h]
      exact .inr ⟨i, rfl, Nat.le_refl _, by omega, h⟩
    · rw [if_neg h]
      rcases firstAt_spec (q := q) (m := m) (i := i + 1) with ⟨h1, h2⟩ | ⟨r, h1, h2, h3, h4⟩
      · refine .inl ⟨h1, fun j h3 h4 => ?_⟩
        by_cases e : j = i
        · subst e
          simpa using h
        · exact h2 j (by omega) (by omega)
      · exact .inr ⟨r, h1, by omega, by omega, h4⟩
/-- The number at its place in the flat rows. -/
theorem flat_tb {u : Ten} (f : TF u) {a b c : Int} (ha : 0 ≤ a ∧ a < u.i) (hb : 0 ≤ b ∧ b < u.j) (hc : 0 ≤ c ∧ c < u.k) :
    a.toNat < (flatU u).length ∧ (b * u.k + c).toNat < (u.j * u.k).toNat ∧ tb (flatU u) a.toNat (b * u.k + c).toNat = tat u a b c := by
  have g := flatU_good f
  have b1 := lin_in hb hc
  have jk := f.k
  refine ⟨by rw [g.2.1]; omega, by omega, ?_⟩
  unfold tb flatU tat nth
  rw [parts_get (by omega), cut_get (by omega)]
  congr 1
  have h1 := Int.mul_nonneg ha.1 (show 0 ≤ u.j * u.k by omega)
  have e : (a * u.j + b) * u.k + c = a * (u.j * u.k) + (b * u.k + c) := by grind
  rw [e]
  have e2 : ((a.toNat * (u.j * u.k).toNat : Nat) : Int) = a * (u.j * u.k) := by
    rw [Int.natCast_mul, Int.toNat_of_nonneg ha.1, Int.toNat_of_nonneg (by omega)]
  omega
theorem flat_at {u : Ten} (f : TF u) {l : Nat} (hl : l < (u.j * u.k).toNat) :
    ∃ b c : Int, (0 ≤ b ∧ b < u.j) ∧ (0 ≤ c ∧ c < u.k) ∧ ∀ a : Nat, a < (flatU u).length → tb (flatU u) a l = tat u a b c := by
  have g := flatU_good f
  have hk := f.k
  have hlI : (l : Int) < u.j * u.k := by omega
  have h1 : (l : Int) / u.k < u.j := Int.ediv_lt_of_lt_mul (by omega) hlI
  have h2 : 0 ≤ (l : Int) / u.k := Int.ediv_nonneg (by omega) (by omega)
  have h3 := Int.emod_nonneg (l : Int) (show u.k ≠ 0 by omega)
  have h4 := Int.emod_lt_of_pos (l : Int) (show 0 < u.k by omega)
  refine ⟨(l : Int) / u.k, (l : Int) % u.k, ⟨h2, h1⟩, ⟨h3, h4⟩, fun a ha => ?_⟩
  rw [g.2.1] at ha
  rw [← (flat_tb f (a := a) (by omega) ⟨h2, h1⟩ ⟨h3, h4⟩).2.2]
  have e := Int.mul_ediv_add_emod (l : Int) u.k
  rw [Int.mul_comm] at e
  rw [e, Int.toNat_natCast, Int.toNat_natCast]
/-- All small determinants across the first side are 0. -/
def Mn (p : Int) (u : Ten) : Prop := ∀ a a' b b' c c', (0 ≤ a ∧ a < u.i) → (0 ≤ a' ∧ a' < u.i) → (0 ≤ b ∧ b < u.j) → (0 ≤ b' ∧ b' < u.j) → (0 ≤ c ∧ c < u.k) → (0 ≤ c' ∧ c' < u.k) →
  p ∣ tat u a b c * tat u a' b' c' - tat u a b' c' * tat u a' b c
def Nz (u : Ten) : Prop := ∃ a b c, (0 ≤ a ∧ a < u.i) ∧ (0 ≤ b ∧ b < u.j) ∧ (0 ≤ c ∧ c < u.k) ∧ tat u a b c ≠ 0
theorem R1_flat {p : Int} {u : Ten} (f : TF u) : R1 p (flatU u) (u.j * u.k).toNat ↔ Nz u ∧ Mn p u := by
  have g := flatU_good f
  have fi := f.i
  constructor
  · rintro ⟨⟨i, l, h1, h2, h3⟩, h4⟩
    obtain ⟨b, c, hb, hc, e⟩ := flat_at f h2
    have e := e i h1
    rw [g.2.1] at h1
    refine ⟨⟨i, b, c, by omega, hb, hc, by rw [← e]; exact h3⟩, fun a a' b b' c c' ha ha' hb hb' hc hc' => ?_⟩
    obtain ⟨x1, x2, x3⟩ := flat_tb f ha hb hc
    obtain ⟨y1, y2, y3⟩ := flat_tb f ha' hb' hc'
    obtain ⟨_, _, z3⟩ := flat_tb f ha hb' hc'
    obtain ⟨_, _, t3⟩ := flat_tb f ha' hb hc
    rw [← x3, ← y3, ← z3, ← t3]
    exact h4 _ _ _ _ x1 y1 x2 y2
  · rintro ⟨⟨a, b, c, ha, hb, hc, hn⟩, h4⟩
    obtain ⟨x1, x2, x3⟩ := flat_tb f ha hb hc
    refine ⟨⟨_, _, x1, x2, by rw [x3]; exact hn⟩, fun i i' l l' hi hi' hl hl' => ?_⟩
    obtain ⟨b, c, hb, hc, e1⟩ := flat_at f hl
    obtain ⟨b', c', hb', hc', e2⟩ := flat_at f hl'
    rw [e1 _ hi, e1 _ hi', e2 _ hi, e2 _ hi']
    rw [g.2.1] at hi hi'
    exact h4 _ _ _ _ _ _ (by omega) (by omega) hb hb' hc hc'
theorem rank_flat {u : Ten} (f : TF u) (hP : isP u.p = true) : rankN u.p (flatU u) = 1 ↔ Nz u ∧ Mn u.p u := by
  have g := flatU_good f
  have fi := f.i
  rw [rank1_iff hP g.1 (by rw [g.2.1]; omega), R1_flat f]
/-- A turned tensor's numbers. -/
theorem tat_turn {t : Ten} (f : TF t) {a b c : Int} (ha : 0 ≤ a ∧ a < t.i) (hb : 0 ≤ b ∧ b < t.j) (hc : 0 ≤ c ∧ c < t.k) : tat (turnT t) b c a = tat t a b c := by
  have b1 := lin_in hb hc
  have b2 := lin_in b1.2 ha
  have e : tat (turnT t) b c a = turnG t ((b * t.k + c) * t.i + a).toNat := by
    show nth (gen _ _) _ = _
    unfold nth
    show (gen (t.j * t.k * t.i).toNat (turnG t)).getD ((b * t.k + c) * t.i + a).toNat 0 = _
    rw [gen_get (by omega)]
  rw [e]
  unfold turnG
  rw [Int.toNat_of_nonneg (show 0 ≤ (b * t.k + c) * t.i + a by omega)]
  have d1 : ((b * t.k + c) * t.i + a) % t.i = a := by rw [Int.add_comm, Int.add_mul_emod_self_right, Int.emod_eq_of_lt ha.1 ha.2]
  have d2 : ((b * t.k + c) * t.i + a) / t.i = b * t.k + c := by rw [Int.add_comm, Int.add_mul_ediv_right _ _ (by omega), Int.ediv_eq_zero_of_lt ha.1 ha.2, Int.zero_add]
  have d3 : (b * t.k + c) % t.k = c := by rw [Int.add_comm, Int.add_mul_emod_self_right, Int.emod_eq_of_lt hc.1 hc.2]
  have d4 : (b * t.k + c) / t.k = b := by rw [Int.add_comm, Int.add_mul_ediv_right _ _ (by omega), Int.ediv_eq_zero_of_lt hc.1 hc.2, Int.zero_add]
  rw [d1, d2, d3, d4]

/-! ### The lists through one number -/
section
variable (t : Ten) (f e : Int)
/-- The places of the first number other than 0. -/
def fcI : Int := f / t.k / t.j
def fcJ : Int := f / t.k % t.j
def fcK : Int := f % t.k
def fcU : List Int := gen t.i.toNat fun a => (tat t a (fcJ t f) (fcK t f) * e).tmod t.p
def fcV : List Int := gen t.j.toNat fun b => (tat t (fcI t f) b (fcK t f) * e).tmod t.p
def fcW : List Int := gen t.k.toNat fun c => tat t (fcI t f) (fcJ t f) c
def fcAt (n : Nat) : Bool := decide (((fcU t f e).getD ((n : Int) / t.k / t.j).toNat 0 * (fcV t f e).getD ((n : Int) / t.k % t.j).toNat 0 * (fcW t f).getD ((n : Int) % t.k).toNat 0).tmod t.p = t.ns.getD n 0)
end
def fcF (t : Ten) : Int := firstAt (fun n => decide (t.ns.getD n 0 ≠ 0)) t.ns.length 0
noncomputable def fcE (t : Ten) : Int := invN t.p (nth t.ns (fcF t))
noncomputable def fcOK (t : Ten) : Bool := decide (0 ≤ fcF t) && allN t.ns.length (fcAt t (fcF t) (fcE t))
theorem prod_minor {p x1 x2 x3 x4 m1 m2 m3 m4 : Int} (h1 : p ∣ m1 - x1) (h2 : p ∣ m2 - x2) (h3 : p ∣ m3 - x3) (h4 : p ∣ m4 - x4) (e : m1 * m2 = m3 * m4) : p ∣ x1 * x2 - x3 * x4 := by
  obtain ⟨k1, h1⟩ := h1
  obtain ⟨k2, h2⟩ := h2
  obtain ⟨k3, h3⟩ := h3
  obtain ⟨k4, h4⟩ := h4
  exact ⟨p * k1 * k2 - m1 * k2 - k1 * m2 - (p * k3 * k4 - m3 * k4 - k3 * m4), by grind⟩
/-- The number at three places out of the check. -/
theorem fcAt_at {t : Ten} (tf : TF t) {f e a b c : Int} (ha : 0 ≤ a ∧ a < t.i) (hb : 0 ≤ b ∧ b < t.j) (hc : 0 ≤ c ∧ c < t.k) :
    ((a * t.j + b) * t.k + c).toNat < t.ns.length ∧ (fcAt t f e ((a * t.j + b) * t.k + c).toNat = true ↔ ((tat t a (fcJ t f) (fcK t f) * e).tmod t.p * (tat t (fcI t f) b (fcK t f) * e).tmod t.p * tat t (fcI t f) (fcJ t f) c).tmod t.p = tat t a b c) := by
  have b1 := lin_in ha hb
  have b2 := lin_in b1.2 hc
  have hl := tf.len
  refine ⟨by omega, ?_⟩
  unfold fcAt
  rw [Int.toNat_of_nonneg (show 0 ≤ (a * t.j + b) * t.k + c by omega)]
  have d1 : ((a * t.j + b) * t.k + c) % t.k = c := by rw [Int.add_comm, Int.add_mul_emod_self_right, Int.emod_eq_of_lt hc.1 hc.2]
  have d2 : ((a * t.j + b) * t.k + c) / t.k = a * t.j + b := by rw [Int.add_comm, Int.add_mul_ediv_right _ _ (by omega), Int.ediv_eq_zero_of_lt hc.1 hc.2, Int.zero_add]
  have d3 : (a * t.j + b) % t.j = b := by rw [Int.add_comm, Int.add_mul_emod_self_right, Int.emod_eq_of_lt hb.1 hb.2]
  have d4 : (a * t.j + b) / t.j = a := by rw [Int.add_comm, Int.add_mul_ediv_right _ _ (by omega), Int.ediv_eq_zero_of_lt hb.1 hb.2, Int.zero_add]
  rw [d1, d2, d3, d4]
  unfold fcU fcV fcW
  rw [gen_get (by omega), gen_get (by omega), gen_get (by omega), Int.toNat_of_nonneg ha.1, Int.toNat_of_nonneg hb.1, Int.toNat_of_nonneg hc.1, decide_eq_true_eq]
  rfl
theorem fc_places {t : Ten} (tf : TF t) {f : Int} (hf : 0 ≤ f ∧ f < t.ns.length) : (0 ≤ fcI t f ∧ fcI t f < t.i) ∧ (0 ≤ fcJ t f ∧ fcJ t f < t.j) ∧ (0 ≤ fcK t f ∧ fcK t f < t.k) ∧ tat t (fcI t f) (fcJ t f) (fcK t f) = nth t.ns f := by
  have hl := tf.len
  have pl := places (n := f) (i := t.i) (j := t.j) (k := t.k) (by omega) tf.j.1 tf.k.1
  refine ⟨pl.1, pl.2.1, pl.2.2, ?_⟩
  unfold tat fcI fcJ fcK
  congr 1
  have e1 := Int.mul_ediv_add_emod f t.k
  have e2 := Int.mul_ediv_add_emod (f / t.k) t.j
  grind
theorem at_places {t : Ten} (tf : TF t) {n : Nat} (hn : n < t.ns.length) : ∃ a b c : Int, (0 ≤ a ∧ a < t.i) ∧ (0 ≤ b ∧ b < t.j) ∧ (0 ≤ c ∧ c < t.k) ∧ n = ((a * t.j + b) * t.k + c).toNat ∧ tat t a b c = t.ns.getD n 0 := by
  obtain ⟨h1, h2, h3, h4⟩ := fc_places tf (f := n) (by omega)
  refine ⟨_, _, _, h1, h2, h3, ?_, by rw [h4]; unfold nth; rw [Int.toNat_natCast]⟩
  have e1 := Int.mul_ediv_add_emod (n : Int) t.k
  have e2 := Int.mul_ediv_add_emod ((n : Int) / t.k) t.j
  have : ((n : Int) / t.k / t.j * t.j + (n : Int) / t.k % t.j) * t.k + (n : Int) % t.k = n := by grind
  unfold fcI fcJ fcK
  omega
theorem simple_iff {t : Ten} (tf : TF t) (hP : isP t.p = true) : fcOK t = true ↔ (Nz t ∧ Mn t.p t) ∧ (Nz (turnT t) ∧ Mn t.p (turnT t)) ∧ (Nz (turnT (turnT t)) ∧ Mn t.p (turnT (turnT t))) := by
  have t1 := tf.turned
  have p5 := isP_in hP
  have sp := firstAt_spec (q := fun n => decide (t.ns.getD n 0 ≠ 0)) (m := t.ns.length) (i := 0)
  have efc : fcF t = firstAt (fun n => decide (t.ns.getD n 0 ≠ 0)) t.ns.length 0 := rfl
  rw [← efc] at sp
  rcases sp with ⟨s1, s2⟩ | ⟨r, s1, _, s3, s4⟩
  · -- all numbers are 0
    have : ¬ Nz t := by
      rintro ⟨a, b, c, ha, hb, hc, hn⟩
      have hx := (fcAt_at tf (f := 0) (e := 0) ha hb hc).1
      have := s2 ((a * t.j + b) * t.k + c).toNat (Nat.zero_le _) (by omega)
      rw [decide_eq_false_iff_not] at this
      exact this hn
    constructor
    · intro h
      unfold fcOK at h
      rw [s1] at h
      simp at h
    · exact fun h => absurd h.1.1 this
  · have hr : r < t.ns.length := by omega
    have hnz : t.ns.getD r 0 ≠ 0 := by simpa using s4
    have enth : nth t.ns (fcF t) = t.ns.getD r 0 := by
      rw [s1]
      unfold nth
      rw [Int.toNat_natCast]
    obtain ⟨pi, pj, pk, pe⟩ := fc_places tf (f := fcF t) (by omega)
    have eE : fcE t = invN t.p (nth t.ns (fcF t)) := rfl
    generalize hf : fcF t = f at *
    have tin := tat_in tf pi pj pk
    have hd0 : tat t (fcI t f) (fcJ t f) (fcK t f) ≠ 0 := by rw [pe, enth]; exact hnz
    have iv := invN_is hP (n := tat t (fcI t f) (fcJ t f) (fcK t f)) (by omega)
    rw [pe, ← eE] at iv
    obtain ⟨q, hq⟩ := inv_dvd iv
    rw [← pe] at hq
    have ok_iff : fcOK t = true ↔ ∀ a b c, (0 ≤ a ∧ a < t.i) → (0 ≤ b ∧ b < t.j) → (0 ≤ c ∧ c < t.k) → ((tat t a (fcJ t f) (fcK t f) * fcE t).tmod t.p * (tat t (fcI t f) b (fcK t f) * fcE t).tmod t.p * tat t (fcI t f) (fcJ t f) c).tmod t.p = tat t a b c := by
      unfold fcOK
      rw [hf, decide_eq_true (show 0 ≤ f by omega), Bool.true_and]
      constructor
      · intro h a b c ha hb hc
        have hx := fcAt_at tf (f := f) (e := fcE t) ha hb hc
        exact hx.2.1 (allN_at h hx.1)
      · intro h
        refine allN_true fun n hn => ?_
        obtain ⟨a, b, c, ha, hb, hc, e, _⟩ := at_places tf hn
        rw [e]
        exact (fcAt_at tf (f := f) (e := fcE t) ha hb hc).2.2 (h a b c ha hb hc)
    rw [ok_iff]
    generalize hi0 : fcI t f = i0 at *
    generalize hj0 : fcJ t f = j0 at *
    generalize hk0 : fcK t f = k0 at *
    generalize hE : fcE t = e at *
    have NZ : Nz t := ⟨i0, j0, k0, pi, pj, pk, hd0⟩
    have NZ1 : Nz (turnT t) := ⟨j0, k0, i0, pj, pk, pi, by rw [tat_turn tf pi pj pk]; exact hd0⟩
    have NZ2 : Nz (turnT (turnT t)) := ⟨k0, i0, j0, pk, pi, pj, by rw [tat_turn t1 pj pk pi, tat_turn tf pi pj pk]; exact hd0⟩
    constructor
    · intro h
      have hd : ∀ a b c, (0 ≤ a ∧ a < t.i) → (0 ≤ b ∧ b < t.j) → (0 ≤ c ∧ c < t.k) → t.p ∣ (tat t a j0 k0 * e).tmod t.p * (tat t i0 b k0 * e).tmod t.p * tat t i0 j0 c - tat t a b c := fun a b c ha hb hc => by
        have := tmod_dvd ((tat t a j0 k0 * e).tmod t.p * (tat t i0 b k0 * e).tmod t.p * tat t i0 j0 c) t.p
        rw [h a b c ha hb hc] at this
        exact this
      refine ⟨⟨NZ, ?_⟩, ⟨NZ1, ?_⟩, NZ2, ?_⟩
      · intro a a' b b' c c' ha ha' hb hb' hc hc'
        exact prod_minor (hd a b c ha hb hc) (hd a' b' c' ha' hb' hc') (hd a b' c' ha hb' hc') (hd a' b c ha' hb hc) (by grind)
      · intro b b' c c' a a' hb hb' hc hc' ha ha'
        rw [tat_turn tf ha hb hc, tat_turn tf ha' hb' hc', tat_turn tf ha' hb hc', tat_turn tf ha hb' hc]
        exact prod_minor (hd a b c ha hb hc) (hd a' b' c' ha' hb' hc') (hd a' b c' ha' hb hc') (hd a b' c ha hb' hc) (by grind)
      · intro c c' a a' b b' hc hc' ha ha' hb hb'
        rw [tat_turn t1 hb hc ha, tat_turn t1 hb' hc' ha', tat_turn t1 hb' hc ha', tat_turn t1 hb hc' ha, tat_turn tf ha hb hc, tat_turn tf ha' hb' hc', tat_turn tf ha' hb' hc, tat_turn tf ha hb hc']
        exact prod_minor (hd a b c ha hb hc) (hd a' b' c' ha' hb' hc') (hd a' b' c ha' hb' hc) (hd a b c' ha hb hc') (by grind)
    · rintro ⟨⟨_, m0⟩, ⟨_, m1⟩, _⟩ a b c ha hb hc
      obtain ⟨k1, h1⟩ := m0 a i0 j0 b k0 c ha pi pj hb pk hc
      have h2 := m1 b j0 k0 c i0 i0 hb pj pk hc pi pi
      rw [tat_turn tf pi hb pk, tat_turn tf pi pj hc, tat_turn tf pi hb hc, tat_turn tf pi pj pk] at h2
      obtain ⟨k2, h2⟩ := h2
      obtain ⟨k3, h3⟩ := tmod_dvd (tat t a j0 k0 * e) t.p
      obtain ⟨k4, h4⟩ := tmod_dvd (tat t i0 b k0 * e) t.p
      have tA := tat_in tf ha hb hc
      have tW := tat_in tf pi pj hc
      have nU := tmod_nn (a := tat t a j0 k0 * e) (J := t.p) (Int.mul_nonneg (tat_in tf ha pj pk).1 (by have := iv.1; omega)) (by omega)
      have nV := tmod_nn (a := tat t i0 b k0 * e) (J := t.p) (Int.mul_nonneg (tat_in tf pi hb pk).1 (by have := iv.1; omega)) (by omega)
      have nn : 0 ≤ (tat t a j0 k0 * e).tmod t.p * (tat t i0 b k0 * e).tmod t.p * tat t i0 j0 c := Int.mul_nonneg (Int.mul_nonneg nU.1 nV.1) tW.1
      obtain ⟨k5, h5⟩ := tmod_dvd ((tat t a j0 k0 * e).tmod t.p * (tat t i0 b k0 * e).tmod t.p * tat t i0 j0 c) t.p
      refine dvd_eq ?_ (tmod_nn nn (by omega)) tA
      generalize ((tat t a j0 k0 * e).tmod t.p * (tat t i0 b k0 * e).tmod t.p * tat t i0 j0 c).tmod t.p = R at *
      generalize (tat t a j0 k0 * e).tmod t.p = U at *
      generalize (tat t i0 b k0 * e).tmod t.p = V at *
      generalize tat t a j0 k0 = A at *
      generalize tat t i0 b k0 = B at *
      generalize tat t i0 j0 c = C at *
      generalize tat t a b c = X at *
      generalize tat t i0 b c = Y at *
      generalize tat t i0 j0 k0 = d at *
      have hU : U = A * e - t.p * k3 := by omega
      have hV : V = B * e - t.p * k4 := by omega
      have hR : R = U * V * C - t.p * k5 := by omega
      generalize t.p = p at *
      -- A * Y = X * d + p * k1, B * C = Y * d + p * k2, e * d = 1 + p * q
      refine ⟨e * e * A * k2 + e * e * d * k1 + X * (2 * q + p * q * q) - (A * e * k4 + k3 * B * e - p * k3 * k4) * C - k5, ?_⟩
      rw [hR, hU, hV]
      grind
theorem flG_iff {t : Ten} (tf : TF t) (hP : isP t.p = true) : gen 3 (flG t) = [1, 1, 1] ↔ fcOK t = true := by
  have t1 := tf.turned
  have t2 := t1.turned
  have e : gen 3 (flG t) = [flG t 0, flG t 1, flG t 2] := rfl
  have e0 : flG t 0 = (rankN t.p (flatU t) : Nat) := rfl
  have e1 : flG t 1 = (rankN t.p (flatU (turnT t)) : Nat) := rfl
  have e2 : flG t 2 = (rankN t.p (flatU (turnT (turnT t))) : Nat) := rfl
  have r0 := rank_flat tf hP
  have r1 := rank_flat t1 hP
  have r2 := rank_flat t2 hP
  rw [show (turnT t).p = t.p from rfl] at r1
  rw [show (turnT (turnT t)).p = t.p from rfl] at r2
  rw [simple_iff tf hP, ← r0, ← r1, ← r2, e, e0, e1, e2]
  simp only [List.cons.injEq, and_true]
  omega
end Go.Proofs.Ytilpnbejpndgpaa.X

/- The lists through the first number other than 0: the reference's l05Factors (printed by wip/tools/mkXR3.py). -/
set_option linter.unusedVariables false
set_option linter.unusedSimpArgs false
set_option maxRecDepth 20000
set_option maxHeartbeats 4000000
namespace Go.Proofs.Ytilpnbejpndgpaa.X
open Go Go.RowKit

noncomputable def fcR (t : Ten) : List (List Int) := [fcU t (fcF t) (fcE t), fcV t (fcF t) (fcE t), fcW t (fcF t)]
theorem fc_three {h H : AH} {ku kv kw : Nat} {fu fv fw : Bool} {U V W : List Int} (p : h <+: H) (lu : Lst H ku U fu) (lv : Lst H kv V fv) (lw : Lst H kw W fw) (hu : h.length ≤ ku ∧ h.length ≤ kv ∧ h.length ≤ kw) (hd : ku ≠ kv ∧ ku ≠ kw ∧ kv ≠ kw) :
    OwnRows h (H.new ⟨[sl ku U.length, sl kv V.length, sl kw W.length], 22, false, true⟩) (.slice (some ⟨H.length, 0, none⟩) 3 1) [U, V, W] := by
  have s : TabS h (H.new ⟨[sl ku U.length, sl kv V.length, sl kw W.length], 22, false, true⟩) H.length true [(ku, U), (kv, V), (kw, W)] := by
    refine ⟨pre_new p, pre_len p, get_new_same, fun q hq => ?_, ?_⟩
    · have h1 := lu.lt
      have h2 := lv.lt
      have h3 := lw.lt
      simp only [List.mem_cons, List.not_mem_nil, or_false] at hq
      rcases hq with rfl | rfl | rfl
      · exact ⟨⟨hu.1, by simp only; omega⟩, fu, (Lst.pre lu (pre_new (List.prefix_refl _))).own⟩
      · exact ⟨⟨hu.2.1, by simp only; omega⟩, fv, (Lst.pre lv (pre_new (List.prefix_refl _))).own⟩
      · exact ⟨⟨hu.2.2, by simp only; omega⟩, fw, (Lst.pre lw (pre_new (List.prefix_refl _))).own⟩
    · simp only [List.pairwise_cons, List.mem_cons, List.not_mem_nil, or_false, List.Pairwise.nil, and_true]
      exact ⟨by rintro q (rfl | rfl) <;> simp only <;> omega, by rintro q rfl; simp only; omega, by intro q hq; exact hq.elim⟩
  exact s.own
theorem fcU_eq {t : Ten} {f e : Int} {a : Nat} : gen (a + 1) (fun a => (tat t a (fcJ t f) (fcK t f) * e).tmod t.p) = gen a (fun a => (tat t a (fcJ t f) (fcK t f) * e).tmod t.p) ++ [(tat t a (fcJ t f) (fcK t f) * e).tmod t.p] := gen_succ

theorem s_l05Factors {v : Value} {t : Ten} {h : AH} {Q : Value → AH → Prop} (hv : Ints h v t.ns) (tf : TF t) (hP : isP t.p = true)
    (hQ : ∀ v' h', h <+: h' → (fcOK t = true → OwnRows h h' v' (fcR t)) → (fcOK t = false → v' = .slice none 0 0) → Q (.tuple #[v', .bool (fcOK t)]) h') : WF S 66 [tenV t v] h Q := by
  refine WF_fn (fn := c66) rfl rfl ?_
  unfold c66
  have p5 := isP_in hP
  have fi := tf.i
  have fj := tf.j
  have fk := tf.k
  have jk := mul_in1 (A := 9) (B := 9) tf.j tf.k
  have hl := tf.len
  have hl2 := tf.le
  ((try simp (maxSteps := 3000000) (dsimp := false) (disch := first | omega | (simp only [len_new, len_put, len_kill]; omega)) only [↓ypre, ypost, ↓reduceIte, Nat.reduceEqDiff, Nat.reduceAdd, Nat.reduceSub, Nat.reduceLeDiff, Nat.zero_add, Nat.sub_zero, ynew, tenV, hv.one]); try simp only [yback])
  generalize hH1 : AH.new h _ = H1
  obtain ⟨hb1, p1, n1⟩ := new_facts hH1
  have hv1 := hv.pre p1
  ((try simp (maxSteps := 3000000) (dsimp := false) (disch := first | omega | (simp only [len_new, len_put, len_kill]; omega)) only [↓ypre, ypost, ↓reduceIte, Nat.reduceEqDiff, Nat.reduceAdd, Nat.reduceSub, Nat.reduceLeDiff, Nat.zero_add, Nat.sub_zero, ynew, rd1_of hb1, hv1.len, wrap64_in]); try simp only [yback])
  obtain ⟨q, hq⟩ : ∃ q : Nat → Bool, q = fun n => decide (t.ns.getD n 0 ≠ 0) := ⟨_, rfl⟩
  refine WC_loop_inv (fun m f K1 => ∃ (z : Nat), m = t.ns.length - z ∧ z ≤ t.ns.length ∧ f 1 = .pointer (some ⟨h.length, 0, none⟩) ∧ f 4 = I64 (firstAt q z (t.ns.length - z)) ∧ f 5 = I64 ((t.ns.length : Int) - 1 - (z : Int)) ∧ K1 = H1) ?_ (t.ns.length - 0) _ _ ⟨0, rfl, by omega, (by first | rfl | (simp [upd_apply]; done)), (by first | rfl | (simp [upd_apply]; done)), (by first | rfl | (simp [upd_apply]; done)), rfl⟩
  rintro m f K1 ⟨z, rfl, hz, f1, f4, f5, rfl⟩
  by_cases hlt : 0 ≤ (t.ns.length : Int) - 1 - (z : Int)
  · obtain ⟨i, hi⟩ : ∃ i : Nat, i = t.ns.length - 1 - z := ⟨_, rfl⟩
    have ei : (t.ns.length : Int) - 1 - (z : Int) = (i : Int) := by omega
    have ix := hv1.ix (k := .i64) (j := i) (by omega) (by omega)
    have rd := hv1.rd (j := i) (by omega) (by omega)
    simp only [nth, Int.toNat_natCast] at rd
    have st : firstAt q (z + 1) (t.ns.length - (z + 1)) = if q i = true then (i : Int) else firstAt q z (t.ns.length - z) := by
      rw [show t.ns.length - (z + 1) = i by omega, show t.ns.length - z = i + 1 by omega]
      rfl
    have hqi : q i = decide (t.ns.getD i 0 ≠ 0) := by rw [hq]
    by_cases h0 : t.ns.getD i 0 = 0
    · rw [hqi, decide_eq_false (fun y => y h0), if_neg (by decide)] at st
      ((try simp (maxSteps := 3000000) (dsimp := false) (disch := first | omega | (simp only [len_new, len_put, len_kill]; omega)) only [↓ypre, ypost, ↓reduceIte, Nat.reduceEqDiff, Nat.reduceAdd, Nat.reduceSub, Nat.reduceLeDiff, Nat.zero_add, Nat.sub_zero, ynew, f1, f4, f5, rd1_of hb1, decide_eq_true (show (0 : Int) ≤ (i : Int) by omega), ei, ix, rd, decide_eq_false (show ¬ t.ns.getD i 0 ≠ 0 from fun y => y h0), wrap64_in]); try simp only [yback])
      refine InvQ_go (t.ns.length - (z + 1)) (by omega) ⟨(z + 1), rfl, by omega, (by first | rfl | exact f1 | (simp only [upd_apply]; rfl) | (show I64 _ = _; congr 1; omega)), (by rw [st]; exact f4), (by show I64 _ = I64 _; congr 1; omega), rfl⟩
    · rw [hqi, decide_eq_true h0, if_pos rfl] at st
      ((try simp (maxSteps := 3000000) (dsimp := false) (disch := first | omega | (simp only [len_new, len_put, len_kill]; omega)) only [↓ypre, ypost, ↓reduceIte, Nat.reduceEqDiff, Nat.reduceAdd, Nat.reduceSub, Nat.reduceLeDiff, Nat.zero_add, Nat.sub_zero, ynew, f1, f4, f5, rd1_of hb1, decide_eq_true (show (0 : Int) ≤ (i : Int) by omega), ei, ix, rd, decide_eq_true (show t.ns.getD i 0 ≠ 0 from h0), wrap64_in]); try simp only [yback])
      refine InvQ_go (t.ns.length - (z + 1)) (by omega) ⟨(z + 1), rfl, by omega, (by first | rfl | exact f1 | (simp only [upd_apply]; rfl) | (show I64 _ = _; congr 1; omega)), (by rw [st]; rfl), (by show I64 _ = I64 _; congr 1; omega), rfl⟩
  have ez : z = t.ns.length := by omega
  subst ez
  have efc : firstAt q t.ns.length (t.ns.length - t.ns.length) = fcF t := by
    rw [Nat.sub_self, hq]
    rfl
  rw [efc] at f4
  have sp := firstAt_spec (q := fun n => decide (t.ns.getD n 0 ≠ 0)) (m := t.ns.length) (i := 0)
  rw [show firstAt (fun n => decide (t.ns.getD n 0 ≠ 0)) t.ns.length 0 = fcF t from rfl] at sp
  rcases sp with ⟨sq1, sq2⟩ | ⟨r, sq1, _, sq3, sq4⟩
  · have no : fcOK t = false := by
      unfold fcOK
      rw [sq1]
      rfl
    rw [sq1] at f4
    ((try simp (maxSteps := 3000000) (dsimp := false) (disch := first | omega | (simp only [len_new, len_put, len_kill]; omega)) only [↓ypre, ypost, ↓reduceIte, Nat.reduceEqDiff, Nat.reduceAdd, Nat.reduceSub, Nat.reduceLeDiff, Nat.zero_add, Nat.sub_zero, ynew, f1, f4, f5, decide_eq_false hlt, decide_eq_true (show (-1 : Int) < 0 by decide)]); try simp only [yback])
    have := hQ (.slice none 0 0) _ p1 (fun h => by rw [no] at h; cases h) (fun _ => rfl)
    rw [no] at this
    exact this
  have hr : r < t.ns.length := by omega
  have hnz : t.ns.getD r 0 ≠ 0 := by simpa using sq4
  obtain ⟨pi, pj, pk, pe⟩ := fc_places tf (f := fcF t) (by omega)
  have enth : nth t.ns (fcF t) = t.ns.getD r 0 := by
    rw [sq1]
    unfold nth
    rw [Int.toNat_natCast]
  have eE : fcE t = invN t.p (nth t.ns (fcF t)) := rfl
  have tin := tat_in tf pi pj pk
  have iv := invN_is hP (n := nth t.ns (fcF t)) (by rw [pe] at tin; rw [enth] at tin ⊢; omega)
  rw [← eE] at iv
  have ivb := iv.1
  have ivb2 := iv.2.1
  have okd : fcOK t = allN t.ns.length (fcAt t (fcF t) (fcE t)) := by
    unfold fcOK
    rw [decide_eq_true (show 0 ≤ fcF t by omega), Bool.true_and]
  have eR : fcR t = [fcU t (fcF t) (fcE t), fcV t (fcF t) (fcE t), fcW t (fcF t)] := rfl
  have hf0 : 0 ≤ fcF t := by omega
  have hfl : fcF t < t.ns.length := by omega
  rw [okd, eR] at hQ
  clear eE okd eR efc
  generalize fcF t = fz at *
  generalize fcE t = e at *
  have q1 : fz.tdiv (t.j * t.k) = fcI t fz := by
    rw [Int.tdiv_eq_ediv_of_nonneg hf0]
    unfold fcI
    rw [Int.ediv_ediv_of_nonneg (by omega), Int.mul_comm]
  have q2 : fz.tdiv t.k = fz / t.k := Int.tdiv_eq_ediv_of_nonneg hf0
  have q2b : 0 ≤ fz / t.k ∧ fz / t.k ≤ fz := ⟨Int.ediv_nonneg hf0 (by omega), Int.ediv_le_self _ hf0⟩
  have q3 : (fz / t.k).tmod t.j = fcJ t fz := by
    rw [Int.tmod_eq_emod_of_nonneg q2b.1]
    rfl
  have q4 : fz.tmod t.k = fcK t fz := by
    rw [Int.tmod_eq_emod_of_nonneg hf0]
    rfl
  have ixf := hv1.ix (k := .i64) (j := fz) (by omega) (by omega)
  have rdf := hv1.rd (j := fz) (by omega) (by omega)
  ((try simp (maxSteps := 3000000) (dsimp := false) (disch := first | omega | (simp only [len_new, len_put, len_kill]; omega)) only [↓ypre, ypost, ↓reduceIte, Nat.reduceEqDiff, Nat.reduceAdd, Nat.reduceSub, Nat.reduceLeDiff, Nat.zero_add, Nat.sub_zero, ynew, f1, f4, f5, decide_eq_false hlt, decide_eq_false (show ¬ fz < 0 by omega), rd1_of hb1, bin_quo, bin_rem, q1, q2, q3, q4, ixf, rdf, wrap64_in]); try simp only [yback])
  refine s_l01Inverse p5 (by rw [pe] at tin; rw [enth] at tin ⊢; omega) iv ?_
  ((try simp (maxSteps := 3000000) (dsimp := false) (disch := first | omega | (simp only [len_new, len_put, len_kill]; omega)) only [↓ypre, ypost, ↓reduceIte, Nat.reduceEqDiff, Nat.reduceAdd, Nat.reduceSub, Nat.reduceLeDiff, Nat.zero_add, Nat.sub_zero, ynew, f1, f4, f5]); try simp only [yback])
  generalize hH2 : AH.new K1 _ = H2
  obtain ⟨hb2, p2, n2⟩ := new_facts hH2
  generalize hH3 : AH.new H2 _ = H3
  obtain ⟨hb3, p3, n3⟩ := new_facts hH3
  generalize hH4 : AH.new H3 _ = H4
  obtain ⟨hb4, p4, n4⟩ := new_facts hH4
  have pz := (p2.trans p3).trans p4
  have lu : Lst H4 K1.length (gen 0 (fun a : Nat => (tat t a (fcJ t fz) (fcK t fz) * e).tmod t.p)) true := pre_get (p3.trans p4) hb2
  have lv : Lst H4 H2.length [] true := pre_get p4 hb3
  have lw : Lst H4 H3.length [] true := hb4
  refine WC_loop_inv (fun m f K2 => ∃ (a : Nat) (ku : Nat) (fu : Bool), m = t.i.toNat - a ∧ a ≤ t.i.toNat ∧ f 1 = .pointer (some ⟨h.length, 0, none⟩) ∧ f 6 = I64 (fcI t fz) ∧ f 7 = I64 (fcJ t fz) ∧ f 8 = I64 (fcK t fz) ∧ f 9 = I64 e ∧ f 10 = sl ku (gen a (fun a : Nat => (tat t a (fcJ t fz) (fcK t fz) * e).tmod t.p)).length ∧ f 11 = sl H2.length 0 ∧ f 12 = sl H3.length 0 ∧ f 13 = I64 a ∧ (K1 <+: K2) ∧ (Lst K2 ku (gen a (fun a : Nat => (tat t a (fcJ t fz) (fcK t fz) * e).tmod t.p)) fu) ∧ (Lst K2 H2.length [] true) ∧ (Lst K2 H3.length [] true) ∧ ((K1.length ≤ ku ∧ K1.length ≤ H2.length ∧ K1.length ≤ H3.length) ∧ ku ≠ H2.length ∧ ku ≠ H3.length ∧ H2.length ≠ H3.length)) ?_ (t.i.toNat - 0) _ _ ⟨0, K1.length, true, rfl, by omega, (by first | rfl | exact f1 | (simp [upd_apply]; done)), (by first | rfl | (simp [upd_apply]; done)), (by first | rfl | (simp [upd_apply]; done)), (by first | rfl | (simp [upd_apply]; done)), (by first | rfl | (simp [upd_apply]; done)), (by first | rfl | (simp [upd_apply]; done)), (by first | rfl | (simp [upd_apply]; done)), (by first | rfl | (simp [upd_apply]; done)), (by first | rfl | (simp [upd_apply]; done)), pz, lu, lv, lw, ⟨⟨by omega, by omega, by omega⟩, by omega, by omega, by omega⟩⟩
  rintro m f K2 ⟨a, ku, fu, rfl, ha, f1, f6, f7, f8, f9, f10, f11, f12, f13, pp, lu, lv, lw, hd⟩
  have hbK := pre_get pp hb1
  have hvK := hv.pre (p1.trans pp)
  have gl := gen_len (N := a) (g := fun a : Nat => (tat t a (fcJ t fz) (fcK t fz) * e).tmod t.p)
  by_cases hlt : (a : Int) < t.i
  · have ta := tat_in tf (i := (a : Int)) (show 0 ≤ (a : Int) ∧ (a : Int) < t.i by omega) pj pk
    ((try simp (maxSteps := 3000000) (dsimp := false) (disch := first | omega | (simp only [len_new, len_put, len_kill]; omega)) only [↓ypre, ypost, ↓reduceIte, Nat.reduceEqDiff, Nat.reduceAdd, Nat.reduceSub, Nat.reduceLeDiff, Nat.zero_add, Nat.sub_zero, ynew, f1, f6, f7, f8, f9, f10, f11, f12, f13, rd1_of hbK, decide_eq_true hlt, rdn_of hbK]); try simp only [yback])
    refine s_l05At hvK tf (by omega) pj pk fun H5 p5 => ?_
    have mb := mul_in (A := 5) (B := 5) (show 0 ≤ tat t a (fcJ t fz) (fcK t fz) ∧ tat t a (fcJ t fz) (fcK t fz) ≤ 5 by omega) (show 0 ≤ e ∧ e ≤ 5 by omega)
    ((try simp (maxSteps := 3000000) (dsimp := false) (disch := first | omega | (simp only [len_new, len_put, len_kill]; omega)) only [↓ypre, ypost, ↓reduceIte, Nat.reduceEqDiff, Nat.reduceAdd, Nat.reduceSub, Nat.reduceLeDiff, Nat.zero_add, Nat.sub_zero, ynew, f1, f6, f7, f8, f9, f10, f11, f12, f13, rd1_of (pre_get p5 hbK), bin_rem, wrap64_in]); try simp only [yback])
    refine ⟨p5, ?_⟩
    refine (lu.pre p5).app3 (by omega) fun H6 l6 pre6 keep6 lu' => ?_
    have l5 := pre_len p5
    have lt0 := lu.lt
    have lt1 := lv.lt
    have lt2 := lw.lt
    ((try simp (maxSteps := 3000000) (dsimp := false) (disch := first | omega | (simp only [len_new, len_put, len_kill]; omega)) only [↓ypre, ypost, ↓reduceIte, Nat.reduceEqDiff, Nat.reduceAdd, Nat.reduceSub, Nat.reduceLeDiff, Nat.zero_add, Nat.sub_zero, ynew, f1, f6, f7, f8, f9, f10, f11, f12, f13, wrap64_in]); try simp only [yback])
    rw [← gen_succ] at lu'
    refine InvQ_go (t.i.toNat - (a + 1)) (by omega) ⟨(a + 1), (H5.length + 1), false, rfl, by omega, (by first | rfl | exact f1 | (simp only [upd_apply]; rfl) | (show I64 _ = _; congr 1; omega)), (by first | rfl | exact f6 | (simp only [upd_apply]; rfl) | (show I64 _ = _; congr 1; omega)), (by first | rfl | exact f7 | (simp only [upd_apply]; rfl) | (show I64 _ = _; congr 1; omega)), (by first | rfl | exact f8 | (simp only [upd_apply]; rfl) | (show I64 _ = _; congr 1; omega)), (by first | rfl | exact f9 | (simp only [upd_apply]; rfl) | (show I64 _ = _; congr 1; omega)), (by rw [gen_succ]; rfl), (by first | rfl | exact f11 | (simp only [upd_apply]; rfl) | (show I64 _ = _; congr 1; omega)), (by first | rfl | exact f12 | (simp only [upd_apply]; rfl) | (show I64 _ = _; congr 1; omega)), (by first | rfl | exact f13 | (simp only [upd_apply]; rfl) | (show I64 _ = _; congr 1; omega)), (pre6 _ hd.1.1 (pp.trans p5)), lu', (keep6 _ _ (fun e => hd.2.1 e.symm) (lv.pre p5)), (keep6 _ _ (fun e => hd.2.2.1 e.symm) (lw.pre p5)), ⟨⟨by omega, by omega, by omega⟩, by omega, by omega, by omega⟩⟩
  have ea : a = t.i.toNat := by omega
  subst ea
  ((try simp (maxSteps := 3000000) (dsimp := false) (disch := first | omega | (simp only [len_new, len_put, len_kill]; omega)) only [↓ypre, ypost, ↓reduceIte, Nat.reduceEqDiff, Nat.reduceAdd, Nat.reduceSub, Nat.reduceLeDiff, Nat.zero_add, Nat.sub_zero, ynew, f1, f6, f7, f8, f9, f10, f11, f12, f13, rd1_of hbK, decide_eq_false hlt]); try simp only [yback])
  refine WC_loop_inv (fun m f K3 => ∃ (b : Nat) (kv : Nat) (fv : Bool), m = t.j.toNat - b ∧ b ≤ t.j.toNat ∧ f 1 = .pointer (some ⟨h.length, 0, none⟩) ∧ f 6 = I64 (fcI t fz) ∧ f 7 = I64 (fcJ t fz) ∧ f 8 = I64 (fcK t fz) ∧ f 9 = I64 e ∧ f 10 = sl ku (gen t.i.toNat (fun a : Nat => (tat t a (fcJ t fz) (fcK t fz) * e).tmod t.p)).length ∧ f 11 = sl kv (gen b (fun b : Nat => (tat t (fcI t fz) b (fcK t fz) * e).tmod t.p)).length ∧ f 12 = sl H3.length 0 ∧ f 14 = I64 b ∧ (K1 <+: K3) ∧ (Lst K3 ku (gen t.i.toNat (fun a : Nat => (tat t a (fcJ t fz) (fcK t fz) * e).tmod t.p)) fu) ∧ (Lst K3 kv (gen b (fun b : Nat => (tat t (fcI t fz) b (fcK t fz) * e).tmod t.p)) fv) ∧ (Lst K3 H3.length [] true) ∧ ((K1.length ≤ ku ∧ K1.length ≤ kv ∧ K1.length ≤ H3.length) ∧ ku ≠ kv ∧ ku ≠ H3.length ∧ kv ≠ H3.length)) ?_ (t.j.toNat - 0) _ _ ⟨0, H2.length, true, rfl, by omega, (by first | rfl | exact f1 | (simp [upd_apply]; done)), (by first | rfl | exact f6 | (simp [upd_apply]; done)), (by first | rfl | exact f7 | (simp [upd_apply]; done)), (by first | rfl | exact f8 | (simp [upd_apply]; done)), (by first | rfl | exact f9 | (simp [upd_apply]; done)), (by first | rfl | exact f10 | (simp [upd_apply]; done)), (by first | rfl | exact f11 | (simp [upd_apply]; done)), (by first | rfl | exact f12 | (simp [upd_apply]; done)), (by first | rfl | (simp [upd_apply]; done)), pp, lu, lv, lw, hd⟩
  rintro m f K3 ⟨b, kv, fv, rfl, hb, f1, f6, f7, f8, f9, f10, f11, f12, f14, pp, lu, lv, lw, hd⟩
  have hbK := pre_get pp hb1
  have hvK := hv.pre (p1.trans pp)
  have gl := gen_len (N := b) (g := fun b : Nat => (tat t (fcI t fz) b (fcK t fz) * e).tmod t.p)
  by_cases hlt : (b : Int) < t.j
  · have ta := tat_in tf pi (show 0 ≤ (b : Int) ∧ (b : Int) < t.j by omega) pk
    ((try simp (maxSteps := 3000000) (dsimp := false) (disch := first | omega | (simp only [len_new, len_put, len_kill]; omega)) only [↓ypre, ypost, ↓reduceIte, Nat.reduceEqDiff, Nat.reduceAdd, Nat.reduceSub, Nat.reduceLeDiff, Nat.zero_add, Nat.sub_zero, ynew, f1, f6, f7, f8, f9, f10, f11, f12, f14, rd1_of hbK, decide_eq_true hlt, rdn_of hbK]); try simp only [yback])
    refine s_l05At hvK tf pi (by omega) pk fun H5 p5 => ?_
    have mb := mul_in (A := 5) (B := 5) (show 0 ≤ tat t (fcI t fz) b (fcK t fz) ∧ tat t (fcI t fz) b (fcK t fz) ≤ 5 by omega) (show 0 ≤ e ∧ e ≤ 5 by omega)
    ((try simp (maxSteps := 3000000) (dsimp := false) (disch := first | omega | (simp only [len_new, len_put, len_kill]; omega)) only [↓ypre, ypost, ↓reduceIte, Nat.reduceEqDiff, Nat.reduceAdd, Nat.reduceSub, Nat.reduceLeDiff, Nat.zero_add, Nat.sub_zero, ynew, f1, f6, f7, f8, f9, f10, f11, f12, f14, rd1_of (pre_get p5 hbK), bin_rem, wrap64_in]); try simp only [yback])
    refine ⟨p5, ?_⟩
    refine (lv.pre p5).app3 (by omega) fun H6 l6 pre6 keep6 lv' => ?_
    have l5 := pre_len p5
    have lt0 := lu.lt
    have lt1 := lv.lt
    have lt2 := lw.lt
    ((try simp (maxSteps := 3000000) (dsimp := false) (disch := first | omega | (simp only [len_new, len_put, len_kill]; omega)) only [↓ypre, ypost, ↓reduceIte, Nat.reduceEqDiff, Nat.reduceAdd, Nat.reduceSub, Nat.reduceLeDiff, Nat.zero_add, Nat.sub_zero, ynew, f1, f6, f7, f8, f9, f10, f11, f12, f14, wrap64_in]); try simp only [yback])
    rw [← gen_succ] at lv'
    refine InvQ_go (t.j.toNat - (b + 1)) (by omega) ⟨(b + 1), (H5.length + 1), false, rfl, by omega, (by first | rfl | exact f1 | (simp only [upd_apply]; rfl) | (show I64 _ = _; congr 1; omega)), (by first | rfl | exact f6 | (simp only [upd_apply]; rfl) | (show I64 _ = _; congr 1; omega)), (by first | rfl | exact f7 | (simp only [upd_apply]; rfl) | (show I64 _ = _; congr 1; omega)), (by first | rfl | exact f8 | (simp only [upd_apply]; rfl) | (show I64 _ = _; congr 1; omega)), (by first | rfl | exact f9 | (simp only [upd_apply]; rfl) | (show I64 _ = _; congr 1; omega)), (by first | rfl | exact f10 | (simp only [upd_apply]; rfl) | (show I64 _ = _; congr 1; omega)), (by rw [gen_succ]; rfl), (by first | rfl | exact f12 | (simp only [upd_apply]; rfl) | (show I64 _ = _; congr 1; omega)), (by first | rfl | exact f14 | (simp only [upd_apply]; rfl) | (show I64 _ = _; congr 1; omega)), (pre6 _ hd.1.2.1 (pp.trans p5)), (keep6 _ _ hd.2.1 (lu.pre p5)), lv', (keep6 _ _ (fun e => hd.2.2.2 e.symm) (lw.pre p5)), ⟨⟨by omega, by omega, by omega⟩, by omega, by omega, by omega⟩⟩
  have eb : b = t.j.toNat := by omega
  subst eb
  ((try simp (maxSteps := 3000000) (dsimp := false) (disch := first | omega | (simp only [len_new, len_put, len_kill]; omega)) only [↓ypre, ypost, ↓reduceIte, Nat.reduceEqDiff, Nat.reduceAdd, Nat.reduceSub, Nat.reduceLeDiff, Nat.zero_add, Nat.sub_zero, ynew, f1, f6, f7, f8, f9, f10, f11, f12, f14, rd1_of hbK, decide_eq_false hlt]); try simp only [yback])
  refine WC_loop_inv (fun m f K4 => ∃ (c : Nat) (kw : Nat) (fw : Bool), m = t.k.toNat - c ∧ c ≤ t.k.toNat ∧ f 1 = .pointer (some ⟨h.length, 0, none⟩) ∧ f 6 = I64 (fcI t fz) ∧ f 7 = I64 (fcJ t fz) ∧ f 8 = I64 (fcK t fz) ∧ f 9 = I64 e ∧ f 10 = sl ku (gen t.i.toNat (fun a : Nat => (tat t a (fcJ t fz) (fcK t fz) * e).tmod t.p)).length ∧ f 11 = sl kv (gen t.j.toNat (fun b : Nat => (tat t (fcI t fz) b (fcK t fz) * e).tmod t.p)).length ∧ f 12 = sl kw (gen c (fun c : Nat => tat t (fcI t fz) (fcJ t fz) c)).length ∧ f 15 = I64 c ∧ (K1 <+: K4) ∧ (Lst K4 ku (gen t.i.toNat (fun a : Nat => (tat t a (fcJ t fz) (fcK t fz) * e).tmod t.p)) fu) ∧ (Lst K4 kv (gen t.j.toNat (fun b : Nat => (tat t (fcI t fz) b (fcK t fz) * e).tmod t.p)) fv) ∧ (Lst K4 kw (gen c (fun c : Nat => tat t (fcI t fz) (fcJ t fz) c)) fw) ∧ ((K1.length ≤ ku ∧ K1.length ≤ kv ∧ K1.length ≤ kw) ∧ ku ≠ kv ∧ ku ≠ kw ∧ kv ≠ kw)) ?_ (t.k.toNat - 0) _ _ ⟨0, H3.length, true, rfl, by omega, (by first | rfl | exact f1 | (simp [upd_apply]; done)), (by first | rfl | exact f6 | (simp [upd_apply]; done)), (by first | rfl | exact f7 | (simp [upd_apply]; done)), (by first | rfl | exact f8 | (simp [upd_apply]; done)), (by first | rfl | exact f9 | (simp [upd_apply]; done)), (by first | rfl | exact f10 | (simp [upd_apply]; done)), (by first | rfl | exact f11 | (simp [upd_apply]; done)), (by first | rfl | exact f12 | (simp [upd_apply]; done)), (by first | rfl | (simp [upd_apply]; done)), pp, lu, lv, lw, hd⟩
  rintro m f K4 ⟨c, kw, fw, rfl, hc, f1, f6, f7, f8, f9, f10, f11, f12, f15, pp, lu, lv, lw, hd⟩
  have hbK := pre_get pp hb1
  have hvK := hv.pre (p1.trans pp)
  have gl := gen_len (N := c) (g := fun c : Nat => tat t (fcI t fz) (fcJ t fz) c)
  by_cases hlt : (c : Int) < t.k
  · have ta := tat_in tf pi pj (show 0 ≤ (c : Int) ∧ (c : Int) < t.k by omega)
    ((try simp (maxSteps := 3000000) (dsimp := false) (disch := first | omega | (simp only [len_new, len_put, len_kill]; omega)) only [↓ypre, ypost, ↓reduceIte, Nat.reduceEqDiff, Nat.reduceAdd, Nat.reduceSub, Nat.reduceLeDiff, Nat.zero_add, Nat.sub_zero, ynew, f1, f6, f7, f8, f9, f10, f11, f12, f15, rd1_of hbK, decide_eq_true hlt, rdn_of hbK]); try simp only [yback])
    refine s_l05At hvK tf pi pj (by omega) fun H5 p5 => ?_
    ((try simp (maxSteps := 3000000) (dsimp := false) (disch := first | omega | (simp only [len_new, len_put, len_kill]; omega)) only [↓ypre, ypost, ↓reduceIte, Nat.reduceEqDiff, Nat.reduceAdd, Nat.reduceSub, Nat.reduceLeDiff, Nat.zero_add, Nat.sub_zero, ynew, f1, f6, f7, f8, f9, f10, f11, f12, f15, wrap64_in]); try simp only [yback])
    refine (lw.pre p5).app3 (by omega) fun H6 l6 pre6 keep6 lw' => ?_
    have l5 := pre_len p5
    have lt0 := lu.lt
    have lt1 := lv.lt
    have lt2 := lw.lt
    ((try simp (maxSteps := 3000000) (dsimp := false) (disch := first | omega | (simp only [len_new, len_put, len_kill]; omega)) only [↓ypre, ypost, ↓reduceIte, Nat.reduceEqDiff, Nat.reduceAdd, Nat.reduceSub, Nat.reduceLeDiff, Nat.zero_add, Nat.sub_zero, ynew, f1, f6, f7, f8, f9, f10, f11, f12, f15, wrap64_in]); try simp only [yback])
    rw [← gen_succ] at lw'
    refine InvQ_go (t.k.toNat - (c + 1)) (by omega) ⟨(c + 1), (H5.length + 1), false, rfl, by omega, (by first | rfl | exact f1 | (simp only [upd_apply]; rfl) | (show I64 _ = _; congr 1; omega)), (by first | rfl | exact f6 | (simp only [upd_apply]; rfl) | (show I64 _ = _; congr 1; omega)), (by first | rfl | exact f7 | (simp only [upd_apply]; rfl) | (show I64 _ = _; congr 1; omega)), (by first | rfl | exact f8 | (simp only [upd_apply]; rfl) | (show I64 _ = _; congr 1; omega)), (by first | rfl | exact f9 | (simp only [upd_apply]; rfl) | (show I64 _ = _; congr 1; omega)), (by first | rfl | exact f10 | (simp only [upd_apply]; rfl) | (show I64 _ = _; congr 1; omega)), (by first | rfl | exact f11 | (simp only [upd_apply]; rfl) | (show I64 _ = _; congr 1; omega)), (by rw [gen_succ]; rfl), (by first | rfl | exact f15 | (simp only [upd_apply]; rfl) | (show I64 _ = _; congr 1; omega)), (pre6 _ hd.1.2.2 (pp.trans p5)), (keep6 _ _ hd.2.2.1 (lu.pre p5)), (keep6 _ _ hd.2.2.2 (lv.pre p5)), lw', ⟨⟨by omega, by omega, by omega⟩, by omega, by omega, by omega⟩⟩
  have ec : c = t.k.toNat := by omega
  subst ec
  ((try simp (maxSteps := 3000000) (dsimp := false) (disch := first | omega | (simp only [len_new, len_put, len_kill]; omega)) only [↓ypre, ypost, ↓reduceIte, Nat.reduceEqDiff, Nat.reduceAdd, Nat.reduceSub, Nat.reduceLeDiff, Nat.zero_add, Nat.sub_zero, ynew, f1, f6, f7, f8, f9, f10, f11, f12, f15, rd1_of hbK, decide_eq_false hlt]); try simp only [yback])
  have lts0 := lu.lt
  have lts1 := lv.lt
  have lts2 := lw.lt
  obtain ⟨okF, hokF⟩ : ∃ okF, okF = fcAt t fz e := ⟨_, rfl⟩
  rw [← hokF] at hQ
  refine WC_loop_inv (fun m f K5 => ∃ (n : Nat), m = t.ns.length - n ∧ n ≤ t.ns.length ∧ f 1 = .pointer (some ⟨h.length, 0, none⟩) ∧ f 10 = sl ku (gen t.i.toNat (fun a : Nat => (tat t a (fcJ t fz) (fcK t fz) * e).tmod t.p)).length ∧ f 11 = sl kv (gen t.j.toNat (fun b : Nat => (tat t (fcI t fz) b (fcK t fz) * e).tmod t.p)).length ∧ f 12 = sl kw (gen t.k.toNat (fun c : Nat => tat t (fcI t fz) (fcJ t fz) c)).length ∧ f 16 = I64 n ∧ K5 = K4 ∧ (∀ j, j < n → okF j = true)) ?_ (t.ns.length - 0) _ _ ⟨0, rfl, by omega, (by first | rfl | exact f1 | (simp [upd_apply]; done)), (by first | rfl | exact f10 | (simp [upd_apply]; done)), (by first | rfl | exact f11 | (simp [upd_apply]; done)), (by first | rfl | exact f12 | (simp [upd_apply]; done)), (by first | rfl | (simp [upd_apply]; done)), rfl, (by omega)⟩
  rintro m f K5 ⟨n, rfl, hn, f1, f10, f11, f12, f16, rfl, ok⟩
  have lU := gen_len (N := t.i.toNat) (g := fun a : Nat => (tat t a (fcJ t fz) (fcK t fz) * e).tmod t.p)
  have lV := gen_len (N := t.j.toNat) (g := fun b : Nat => (tat t (fcI t fz) b (fcK t fz) * e).tmod t.p)
  have lW := gen_len (N := t.k.toNat) (g := fun c : Nat => tat t (fcI t fz) (fcJ t fz) c)
  have eU : fcU t fz e = gen t.i.toNat (fun a : Nat => (tat t a (fcJ t fz) (fcK t fz) * e).tmod t.p) := rfl
  have eV : fcV t fz e = gen t.j.toNat (fun b : Nat => (tat t (fcI t fz) b (fcK t fz) * e).tmod t.p) := rfl
  have eW : fcW t fz = gen t.k.toNat (fun c : Nat => tat t (fcI t fz) (fcJ t fz) c) := rfl
  by_cases hlt : (n : Int) < t.ns.length
  · have hn : n < t.ns.length := by omega
    obtain ⟨ri, rj, rk', re⟩ := fc_places tf (f := (n : Int)) (by omega)
    have w1 : (n : Int).tdiv (t.j * t.k) = fcI t n := by
      rw [Int.tdiv_eq_ediv_of_nonneg (by omega)]
      unfold fcI
      rw [Int.ediv_ediv_of_nonneg (by omega), Int.mul_comm]
    have w2 : (n : Int).tdiv t.k = (n : Int) / t.k := Int.tdiv_eq_ediv_of_nonneg (by omega)
    have w2b : 0 ≤ (n : Int) / t.k ∧ (n : Int) / t.k ≤ n := ⟨Int.ediv_nonneg (by omega) (by omega), Int.ediv_le_self _ (by omega)⟩
    have w3 : ((n : Int) / t.k).tmod t.j = fcJ t n := by
      rw [Int.tmod_eq_emod_of_nonneg w2b.1]
      rfl
    have w4 : (n : Int).tmod t.k = fcK t n := by
      rw [Int.tmod_eq_emod_of_nonneg (by omega)]
      rfl
    have ixu := Lst.ix (n := ku) (j := fcI t n) (len := (gen t.i.toNat (fun a : Nat => (tat t a (fcJ t fz) (fcK t fz) * e).tmod t.p)).length) (by omega)
    have ixv := Lst.ix (n := kv) (j := fcJ t n) (len := (gen t.j.toNat (fun b : Nat => (tat t (fcI t fz) b (fcK t fz) * e).tmod t.p)).length) (by omega)
    have ixw := Lst.ix (n := kw) (j := fcK t n) (len := (gen t.k.toNat (fun c : Nat => tat t (fcI t fz) (fcJ t fz) c)).length) (by omega)
    have rdu := lu.rd (j := (fcI t n).toNat) (by omega)
    have rdv := lv.rd (j := (fcJ t n).toNat) (by omega)
    have rdw := lw.rd (j := (fcK t n).toNat) (by omega)
    have bu := tmod_nn (a := tat t ((fcI t n).toNat : Nat) (fcJ t fz) (fcK t fz) * e) (J := t.p) (Int.mul_nonneg (tat_in tf (by omega) pj pk).1 (by omega)) (by omega)
    have bv := tmod_nn (a := tat t (fcI t fz) ((fcJ t n).toNat : Nat) (fcK t fz) * e) (J := t.p) (Int.mul_nonneg (tat_in tf pi (by omega) pk).1 (by omega)) (by omega)
    have bw := tat_in tf pi pj (k := ((fcK t n).toNat : Nat)) (by omega)
    have gu : (gen t.i.toNat (fun a : Nat => (tat t a (fcJ t fz) (fcK t fz) * e).tmod t.p)).getD (fcI t n).toNat 0 = (tat t ((fcI t n).toNat : Nat) (fcJ t fz) (fcK t fz) * e).tmod t.p := gen_get (by omega)
    have gv : (gen t.j.toNat (fun b : Nat => (tat t (fcI t fz) b (fcK t fz) * e).tmod t.p)).getD (fcJ t n).toNat 0 = (tat t (fcI t fz) ((fcJ t n).toNat : Nat) (fcK t fz) * e).tmod t.p := gen_get (by omega)
    have gw : (gen t.k.toNat (fun c : Nat => tat t (fcI t fz) (fcJ t fz) c)).getD (fcK t n).toNat 0 = tat t (fcI t fz) (fcJ t fz) ((fcK t n).toNat : Nat) := gen_get (by omega)
    rw [← gu] at bu
    rw [← gv] at bv
    rw [← gw] at bw
    have en : okF n = decide (((gen t.i.toNat (fun a : Nat => (tat t a (fcJ t fz) (fcK t fz) * e).tmod t.p)).getD (fcI t n).toNat 0 * (gen t.j.toNat (fun b : Nat => (tat t (fcI t fz) b (fcK t fz) * e).tmod t.p)).getD (fcJ t n).toNat 0 * (gen t.k.toNat (fun c : Nat => tat t (fcI t fz) (fcJ t fz) c)).getD (fcK t n).toNat 0).tmod t.p = t.ns.getD n 0) := by
      rw [hokF]
      rfl
    have ixn := hvK.ix (k := .i64) (j := n) (by omega) (by omega)
    have rdn := hvK.rd (j := n) (by omega) (by omega)
    simp only [nth, Int.toNat_natCast] at rdn
    clear gu gv gw
    generalize (gen t.i.toNat (fun a : Nat => (tat t a (fcJ t fz) (fcK t fz) * e).tmod t.p)).getD (fcI t n).toNat 0 = xu at *
    generalize (gen t.j.toNat (fun b : Nat => (tat t (fcI t fz) b (fcK t fz) * e).tmod t.p)).getD (fcJ t n).toNat 0 = xv at *
    generalize (gen t.k.toNat (fun c : Nat => tat t (fcI t fz) (fcJ t fz) c)).getD (fcK t n).toNat 0 = xw at *
    have m1 := mul_in (a := xu) (b := xv) (A := 5) (B := 5) (by omega) (by omega)
    have m2 := mul_in (a := xu * xv) (b := xw) (A := 25) (B := 5) m1 (by omega)
    ((try simp (maxSteps := 3000000) (dsimp := false) (disch := first | omega | (simp only [len_new, len_put, len_kill]; omega)) only [↓ypre, ypost, ↓reduceIte, Nat.reduceEqDiff, Nat.reduceAdd, Nat.reduceSub, Nat.reduceLeDiff, Nat.zero_add, Nat.sub_zero, ynew, f1, f10, f11, f12, f16, rd1_of hbK, hvK.len, decide_eq_true hlt, bin_quo, bin_rem, w1, w2, w3, w4, ixu, rdu, ixv, rdv, ixw, rdw, ixn, rdn, wrap64_in]); try simp only [yback])
    by_cases hc : (xu * xv * xw).tmod t.p = t.ns.getD n 0
    · rw [decide_eq_true hc] at en
      ((try simp (maxSteps := 3000000) (dsimp := false) (disch := first | omega | (simp only [len_new, len_put, len_kill]; omega)) only [↓ypre, ypost, ↓reduceIte, Nat.reduceEqDiff, Nat.reduceAdd, Nat.reduceSub, Nat.reduceLeDiff, Nat.zero_add, Nat.sub_zero, ynew, f1, f10, f11, f12, f16, decide_eq_false (show ¬ (xu * xv * xw).tmod t.p ≠ t.ns.getD n 0 from fun y => y hc), wrap64_in]); try simp only [yback])
      refine InvQ_go (t.ns.length - (n + 1)) (by omega) ⟨(n + 1), rfl, by omega, (by first | rfl | exact f1 | (simp only [upd_apply]; rfl) | (show I64 _ = _; congr 1; omega)), (by first | rfl | exact f10 | (simp only [upd_apply]; rfl) | (show I64 _ = _; congr 1; omega)), (by first | rfl | exact f11 | (simp only [upd_apply]; rfl) | (show I64 _ = _; congr 1; omega)), (by first | rfl | exact f12 | (simp only [upd_apply]; rfl) | (show I64 _ = _; congr 1; omega)), (by first | rfl | exact f16 | (simp only [upd_apply]; rfl) | (show I64 _ = _; congr 1; omega)), rfl, ?_⟩
      intro j hj
      by_cases hjn : j = n
      · subst hjn
        exact en
      · exact ok j (by omega)
    · rw [decide_eq_false hc] at en
      have no : allN t.ns.length okF = false := allN_false hn en
      ((try simp (maxSteps := 3000000) (dsimp := false) (disch := first | omega | (simp only [len_new, len_put, len_kill]; omega)) only [↓ypre, ypost, ↓reduceIte, Nat.reduceEqDiff, Nat.reduceAdd, Nat.reduceSub, Nat.reduceLeDiff, Nat.zero_add, Nat.sub_zero, ynew, f1, f10, f11, f12, f16, decide_eq_true (show (xu * xv * xw).tmod t.p ≠ t.ns.getD n 0 from hc)]); try simp only [yback])
      have := hQ (.slice none 0 0) _ (p1.trans pp) (fun y => by rw [no] at y; cases y) (fun _ => rfl)
      rw [no] at this
      exact this
  have en : n = t.ns.length := by omega
  subst en
  ((try simp (maxSteps := 3000000) (dsimp := false) (disch := first | omega | (simp only [len_new, len_put, len_kill]; omega)) only [↓ypre, ypost, ↓reduceIte, Nat.reduceEqDiff, Nat.reduceAdd, Nat.reduceSub, Nat.reduceLeDiff, Nat.zero_add, Nat.sub_zero, ynew, f1, f10, f11, f12, f16, rd1_of hbK, hvK.len, decide_eq_false hlt, sl_cells, sl_one, fillL, zrep]); try simp only [yback])
  have yes : allN t.ns.length okF = true := allN_true ok
  have hp := p1.trans pp
  have o := fc_three hp lu lv lw (by have := pre_len p1; omega) hd.2
  have := hQ _ _ (pre_new hp) (fun _ => o) (fun y => by rw [yes] at y; cases y)
  rw [yes] at this
  exact this

/-! ### IsSimple, FactorsOfSimple -/
noncomputable def siR (t : Ten) : Bool × Int := if isT t = true then (fcOK t, 0) else (false, 1)
noncomputable def faR (t : Ten) : List (List Int) × Int := if isT t = true then (if fcOK t = true then (fcR t, 0) else ([], 5)) else ([], 1)
theorem s_IsSimple {v : Value} {t : Ten} {h : AH} {Q : Value → AH → Prop} (hv : Ints h v t.ns) (hl : SmallS t.ns)
    (hQ : ∀ h', h <+: h' → Q (.tuple #[.bool (siR t).1, I64 (siR t).2]) h') : WF S 16 [tenV t v] h Q := by
  refine WF_fn (fn := c16) rfl rfl ?_
  unfold c16
  ((try simp (maxSteps := 3000000) (dsimp := false) (disch := first | omega | (simp only [len_new, len_put, len_kill]; omega)) only [↓ypre, ypost, ↓reduceIte, Nat.reduceEqDiff, Nat.reduceAdd, Nat.reduceSub, Nat.reduceLeDiff, Nat.zero_add, Nat.sub_zero, ynew, tenV, hv.one]); try simp only [yback])
  generalize hH1 : AH.new h _ = H1
  obtain ⟨hb1, p1, n1⟩ := new_facts hH1
  ((try simp (maxSteps := 3000000) (dsimp := false) (disch := first | omega | (simp only [len_new, len_put, len_kill]; omega)) only [↓ypre, ypost, ↓reduceIte, Nat.reduceEqDiff, Nat.reduceAdd, Nat.reduceSub, Nat.reduceLeDiff, Nat.zero_add, Nat.sub_zero, ynew, rdn_of hb1]); try simp only [yback])
  refine s_l05Is (hv.pre p1) hl fun H2 p2 => ?_
  have hb2 := pre_get p2 hb1
  unfold siR at hQ
  cases h1 : isT t with
  | false =>
    rw [h1, if_neg (by decide)] at hQ
    ((try simp (maxSteps := 3000000) (dsimp := false) (disch := first | omega | (simp only [len_new, len_put, len_kill]; omega)) only [↓ypre, ypost, ↓reduceIte, Nat.reduceEqDiff, Nat.reduceAdd, Nat.reduceSub, Nat.reduceLeDiff, Nat.zero_add, Nat.sub_zero, ynew]); try simp only [yback])
    exact hQ _ (p1.trans p2)
  | true =>
    rw [h1, if_pos rfl] at hQ
    ((try simp (maxSteps := 3000000) (dsimp := false) (disch := first | omega | (simp only [len_new, len_put, len_kill]; omega)) only [↓ypre, ypost, ↓reduceIte, Nat.reduceEqDiff, Nat.reduceAdd, Nat.reduceSub, Nat.reduceLeDiff, Nat.zero_add, Nat.sub_zero, ynew, rdn_of hb2]); try simp only [yback])
    refine s_l05Factors (hv.pre (p1.trans p2)) (isT_facts h1) (isT_isP h1) fun v' H3 p3 _ _ => ?_
    ((try simp (maxSteps := 3000000) (dsimp := false) (disch := first | omega | (simp only [len_new, len_put, len_kill]; omega)) only [↓ypre, ypost, ↓reduceIte, Nat.reduceEqDiff, Nat.reduceAdd, Nat.reduceSub, Nat.reduceLeDiff, Nat.zero_add, Nat.sub_zero, ynew]); try simp only [yback])
    exact hQ _ ((p1.trans p2).trans p3)
theorem s_FactorsOfSimple {v : Value} {t : Ten} {h : AH} {Q : Value → AH → Prop} (hv : Ints h v t.ns) (hl : SmallS t.ns)
    (hQ : ∀ v' h', h <+: h' → OwnRows h h' v' (faR t).1 → Q (.tuple #[v', I64 (faR t).2]) h') : WF S 20 [tenV t v] h Q := by
  refine WF_fn (fn := c20) rfl rfl ?_
  unfold c20
  ((try simp (maxSteps := 3000000) (dsimp := false) (disch := first | omega | (simp only [len_new, len_put, len_kill]; omega)) only [↓ypre, ypost, ↓reduceIte, Nat.reduceEqDiff, Nat.reduceAdd, Nat.reduceSub, Nat.reduceLeDiff, Nat.zero_add, Nat.sub_zero, ynew, tenV, hv.one]); try simp only [yback])
  generalize hH1 : AH.new h _ = H1
  obtain ⟨hb1, p1, n1⟩ := new_facts hH1
  ((try simp (maxSteps := 3000000) (dsimp := false) (disch := first | omega | (simp only [len_new, len_put, len_kill]; omega)) only [↓ypre, ypost, ↓reduceIte, Nat.reduceEqDiff, Nat.reduceAdd, Nat.reduceSub, Nat.reduceLeDiff, Nat.zero_add, Nat.sub_zero, ynew, rdn_of hb1]); try simp only [yback])
  refine s_l05Is (hv.pre p1) hl fun H2 p2 => ?_
  have hb2 := pre_get p2 hb1
  unfold faR at hQ
  cases h1 : isT t with
  | false =>
    rw [h1, if_neg (by decide)] at hQ
    ((try simp (maxSteps := 3000000) (dsimp := false) (disch := first | omega | (simp only [len_new, len_put, len_kill]; omega)) only [↓ypre, ypost, ↓reduceIte, Nat.reduceEqDiff, Nat.reduceAdd, Nat.reduceSub, Nat.reduceLeDiff, Nat.zero_add, Nat.sub_zero, ynew]); try simp only [yback])
    exact hQ _ _ (p1.trans p2) (.inl ⟨rfl, rfl⟩)
  | true =>
    rw [h1, if_pos rfl] at hQ
    ((try simp (maxSteps := 3000000) (dsimp := false) (disch := first | omega | (simp only [len_new, len_put, len_kill]; omega)) only [↓ypre, ypost, ↓reduceIte, Nat.reduceEqDiff, Nat.reduceAdd, Nat.reduceSub, Nat.reduceLeDiff, Nat.zero_add, Nat.sub_zero, ynew, rdn_of hb2]); try simp only [yback])
    refine s_l05Factors (hv.pre (p1.trans p2)) (isT_facts h1) (isT_isP h1) fun v' H3 p3 o3 _ => ?_
    cases h2 : fcOK t with
    | false =>
      rw [h2, if_neg (by decide)] at hQ
      ((try simp (maxSteps := 3000000) (dsimp := false) (disch := first | omega | (simp only [len_new, len_put, len_kill]; omega)) only [↓ypre, ypost, ↓reduceIte, Nat.reduceEqDiff, Nat.reduceAdd, Nat.reduceSub, Nat.reduceLeDiff, Nat.zero_add, Nat.sub_zero, ynew]); try simp only [yback])
      exact hQ _ _ ((p1.trans p2).trans p3) (.inl ⟨rfl, rfl⟩)
    | true =>
      rw [h2, if_pos rfl] at hQ
      ((try simp (maxSteps := 3000000) (dsimp := false) (disch := first | omega | (simp only [len_new, len_put, len_kill]; omega)) only [↓ypre, ypost, ↓reduceIte, Nat.reduceEqDiff, Nat.reduceAdd, Nat.reduceSub, Nat.reduceLeDiff, Nat.zero_add, Nat.sub_zero, ynew]); try simp only [yback])
      exact hQ _ _ ((p1.trans p2).trans p3) ((o3 h2).lo (pre_len (p1.trans p2)))
end Go.Proofs.Ytilpnbejpndgpaa.X

/- IsSimple and FactorsOfSimple of the program (printed by wip/tools/mkXR4.py). -/
set_option linter.unusedVariables false
set_option linter.unusedSimpArgs false
set_option maxRecDepth 20000
set_option maxHeartbeats 4000000
namespace Go.Proofs.Ytilpnbejpndgpaa.X
open Go Go.RowKit

theorem i_Equal {v w : Value} {ns ms : List Int} {h : AH} {Q : Value → AH → Prop} (hv : Ints h v ns) (hw : Ints h w ms) (hl : (ns.length : Int) ≤ 1048576) (hQ : Q (.bool (decide (ns = ms))) h) : WF S 120 [v, w] h Q := by
  refine WF_fn (fn := c120) rfl rfl ?_
  unfold c120
  have no : ns ≠ ms → Q (.bool false) h := fun hn => by rw [decide_eq_false hn] at hQ; exact hQ
  by_cases h1 : (ns.length : Int) = ms.length
  case neg =>
    ((try simp (maxSteps := 3000000) (dsimp := false) (disch := first | omega | (simp only [len_new, len_put, len_kill]; omega)) only [↓ypre, ypost, ↓reduceIte, Nat.reduceEqDiff, Nat.reduceAdd, Nat.reduceSub, Nat.reduceLeDiff, Nat.zero_add, Nat.sub_zero, ynew, hv.len, hw.len, decide_eq_true (show (ns.length : Int) ≠ ms.length from h1)]); try simp only [yback])
    exact no (fun e => h1 (by rw [e]))
  ((try simp (maxSteps := 3000000) (dsimp := false) (disch := first | omega | (simp only [len_new, len_put, len_kill]; omega)) only [↓ypre, ypost, ↓reduceIte, Nat.reduceEqDiff, Nat.reduceAdd, Nat.reduceSub, Nat.reduceLeDiff, Nat.zero_add, Nat.sub_zero, ynew, hv.len, hw.len, decide_eq_false (show ¬ (ns.length : Int) ≠ ms.length from fun y => y h1)]); try simp only [yback])
  refine WC_loop_inv (fun m f K1 => ∃ (i : Nat), m = ns.length - i ∧ i ≤ ns.length ∧ f 0 = v ∧ f 1 = w ∧ f 11 = v ∧ f 12 = I64 ns.length ∧ f 13 = I64 i ∧ K1 = h ∧ (∀ j, j < i → ns.getD j 0 = ms.getD j 0)) ?_ (ns.length - 0) _ _ ⟨0, rfl, by omega, (by first | rfl | (simp [upd_apply]; done)), (by first | rfl | (simp [upd_apply]; done)), (by first | rfl | (simp [upd_apply]; done)), (by first | rfl | (simp [upd_apply]; done)), (by first | rfl | (simp [upd_apply]; done)), rfl, (by omega)⟩
  rintro m f K1 ⟨i, rfl, hi, f0, f1, f11, f12, f13, rfl, hj⟩
  by_cases hlt : (i : Int) < ns.length
  · have ix := hv.ix (k := .i64) (j := i) (by omega) (by omega)
    have rd := hv.rd (j := i) (by omega) (by omega)
    have ix' := hw.ix (k := .i64) (j := i) (by omega) (by omega)
    have rd' := hw.rd (j := i) (by omega) (by omega)
    simp only [nth, Int.toNat_natCast] at rd rd'
    by_cases h2 : ns.getD i 0 = ms.getD i 0
    · ((try simp (maxSteps := 3000000) (dsimp := false) (disch := first | omega | (simp only [len_new, len_put, len_kill]; omega)) only [↓ypre, ypost, ↓reduceIte, Nat.reduceEqDiff, Nat.reduceAdd, Nat.reduceSub, Nat.reduceLeDiff, Nat.zero_add, Nat.sub_zero, ynew, f0, f1, f11, f12, f13, decide_eq_true hlt, ix, rd, ix', rd', decide_eq_false (show ¬ ns.getD i 0 ≠ ms.getD i 0 from fun y => y h2), wrap64_in]); try simp only [yback])
      refine InvQ_go (ns.length - (i + 1)) (by omega) ⟨(i + 1), rfl, by omega, (by first | rfl | exact f0 | (simp only [upd_apply]; rfl) | (show I64 _ = _; congr 1; omega)), (by first | rfl | exact f1 | (simp only [upd_apply]; rfl) | (show I64 _ = _; congr 1; omega)), (by first | rfl | exact f11 | (simp only [upd_apply]; rfl) | (show I64 _ = _; congr 1; omega)), (by first | rfl | exact f12 | (simp only [upd_apply]; rfl) | (show I64 _ = _; congr 1; omega)), (by first | rfl | exact f13 | (simp only [upd_apply]; rfl) | (show I64 _ = _; congr 1; omega)), rfl, ?_⟩
      intro j hj'
      by_cases e : j = i
      · subst e
        exact h2
      · exact hj j (by omega)
    · ((try simp (maxSteps := 3000000) (dsimp := false) (disch := first | omega | (simp only [len_new, len_put, len_kill]; omega)) only [↓ypre, ypost, ↓reduceIte, Nat.reduceEqDiff, Nat.reduceAdd, Nat.reduceSub, Nat.reduceLeDiff, Nat.zero_add, Nat.sub_zero, ynew, f0, f1, f11, f12, f13, decide_eq_true hlt, ix, rd, ix', rd', decide_eq_true (show ns.getD i 0 ≠ ms.getD i 0 from h2), wrap64_in]); try simp only [yback])
      exact no (fun e => h2 (by rw [e]))
  · have ei : i = ns.length := by omega
    subst ei
    ((try simp (maxSteps := 3000000) (dsimp := false) (disch := first | omega | (simp only [len_new, len_put, len_kill]; omega)) only [↓ypre, ypost, ↓reduceIte, Nat.reduceEqDiff, Nat.reduceAdd, Nat.reduceSub, Nat.reduceLeDiff, Nat.zero_add, Nat.sub_zero, ynew, f0, f1, f11, f12, f13, decide_eq_false hlt]); try simp only [yback])
    have e : ns = ms := by
      refine List.ext_getElem? fun j => ?_
      by_cases hjl : j < ns.length
      · have := hj j hjl
        simpa [List.getD_eq_getElem?_getD, List.getElem?_eq_getElem hjl, List.getElem?_eq_getElem (show j < ms.length by omega)] using this
      · rw [List.getElem?_eq_none (by omega), List.getElem?_eq_none (by omega)]
    rw [decide_eq_true e] at hQ
    exact hQ
theorem i_isSimple {v : Value} {t : Ten} {h : AH} {Q : Value → AH → Prop} (hv : Ints h v t.ns) (tf : TF t) (hP : isP t.p = true)
    (hQ : ∀ h', h <+: h' → Q (.bool (fcOK t)) h') : WF S 68 [tenV t v] h Q := by
  refine WF_fn (fn := c68) rfl rfl ?_
  unfold c68
  ((try simp (maxSteps := 3000000) (dsimp := false) (disch := first | omega | (simp only [len_new, len_put, len_kill]; omega)) only [↓ypre, ypost, ↓reduceIte, Nat.reduceEqDiff, Nat.reduceAdd, Nat.reduceSub, Nat.reduceLeDiff, Nat.zero_add, Nat.sub_zero, ynew, tenV, hv.one]); try simp only [yback])
  generalize hH1 : AH.new h _ = H1
  obtain ⟨hb1, p1, n1⟩ := new_facts hH1
  ((try simp (maxSteps := 3000000) (dsimp := false) (disch := first | omega | (simp only [len_new, len_put, len_kill]; omega)) only [↓ypre, ypost, ↓reduceIte, Nat.reduceEqDiff, Nat.reduceAdd, Nat.reduceSub, Nat.reduceLeDiff, Nat.zero_add, Nat.sub_zero, ynew, rdn_of hb1]); try simp only [yback])
  refine i_flattenRanks (hv.pre p1) tf hP fun v' H2 p2 o2 => ?_
  ((try simp (maxSteps := 3000000) (dsimp := false) (disch := first | omega | (simp only [len_new, len_put, len_kill]; omega)) only [↓ypre, ypost, ↓reduceIte, Nat.reduceEqDiff, Nat.reduceAdd, Nat.reduceSub, Nat.reduceLeDiff, Nat.zero_add, Nat.sub_zero, ynew, fillL, zrep]); try simp only [yback])
  generalize hH3 : AH.new H2 _ = H3
  obtain ⟨hb3, p3, n3⟩ := new_facts hH3
  refine i_Equal (ms := [1, 1, 1]) (o2.ints.pre p3) (Ints.own (ns := [1, 1, 1]) hb3 rfl) (by rw [gen_len]; decide) ?_
  have e : decide (gen 3 (flG t) = [1, 1, 1]) = fcOK t := by
    by_cases h1 : fcOK t = true
    · rw [decide_eq_true ((flG_iff tf hP).2 h1), h1]
    · rw [decide_eq_false (fun y => h1 ((flG_iff tf hP).1 y))]
      simpa using h1
  rw [e]
  ((try simp (maxSteps := 3000000) (dsimp := false) (disch := first | omega | (simp only [len_new, len_put, len_kill]; omega)) only [↓ypre, ypost, ↓reduceIte, Nat.reduceEqDiff, Nat.reduceAdd, Nat.reduceSub, Nat.reduceLeDiff, Nat.zero_add, Nat.sub_zero, ynew]); try simp only [yback])
  exact hQ _ ((p1.trans p2).trans p3)
theorem i_IsSimple {v : Value} {t : Ten} {h : AH} {Q : Value → AH → Prop} (hv : Ints h v t.ns) (hl : SmallS t.ns)
    (hQ : ∀ h', h <+: h' → Q (.tuple #[.bool (siR t).1, I64 (siR t).2]) h') : WF S 18 [tenV t v] h Q := by
  refine WF_fn (fn := c18) rfl rfl ?_
  unfold c18
  ((try simp (maxSteps := 3000000) (dsimp := false) (disch := first | omega | (simp only [len_new, len_put, len_kill]; omega)) only [↓ypre, ypost, ↓reduceIte, Nat.reduceEqDiff, Nat.reduceAdd, Nat.reduceSub, Nat.reduceLeDiff, Nat.zero_add, Nat.sub_zero, ynew, tenV, hv.one]); try simp only [yback])
  generalize hH1 : AH.new h _ = H1
  obtain ⟨hb1, p1, n1⟩ := new_facts hH1
  ((try simp (maxSteps := 3000000) (dsimp := false) (disch := first | omega | (simp only [len_new, len_put, len_kill]; omega)) only [↓ypre, ypost, ↓reduceIte, Nat.reduceEqDiff, Nat.reduceAdd, Nat.reduceSub, Nat.reduceLeDiff, Nat.zero_add, Nat.sub_zero, ynew, rdn_of hb1]); try simp only [yback])
  refine i_IsTensor (hv.pre p1) hl fun H2 p2 => ?_
  have hb2 := pre_get p2 hb1
  unfold siR at hQ
  cases h1 : isT t with
  | false =>
    rw [h1, if_neg (by decide)] at hQ
    ((try simp (maxSteps := 3000000) (dsimp := false) (disch := first | omega | (simp only [len_new, len_put, len_kill]; omega)) only [↓ypre, ypost, ↓reduceIte, Nat.reduceEqDiff, Nat.reduceAdd, Nat.reduceSub, Nat.reduceLeDiff, Nat.zero_add, Nat.sub_zero, ynew]); try simp only [yback])
    exact hQ _ (p1.trans p2)
  | true =>
    rw [h1, if_pos rfl] at hQ
    ((try simp (maxSteps := 3000000) (dsimp := false) (disch := first | omega | (simp only [len_new, len_put, len_kill]; omega)) only [↓ypre, ypost, ↓reduceIte, Nat.reduceEqDiff, Nat.reduceAdd, Nat.reduceSub, Nat.reduceLeDiff, Nat.zero_add, Nat.sub_zero, ynew, rdn_of hb2]); try simp only [yback])
    refine i_isSimple (hv.pre (p1.trans p2)) (isT_facts h1) (isT_isP h1) fun H3 p3 => ?_
    ((try simp (maxSteps := 3000000) (dsimp := false) (disch := first | omega | (simp only [len_new, len_put, len_kill]; omega)) only [↓ypre, ypost, ↓reduceIte, Nat.reduceEqDiff, Nat.reduceAdd, Nat.reduceSub, Nat.reduceLeDiff, Nat.zero_add, Nat.sub_zero, ynew]); try simp only [yback])
    exact hQ _ ((p1.trans p2).trans p3)
theorem i_Index1 {x : Int} {h : AH} {Q : Value → AH → Prop} (hQ : Q (.bool (decide (x ≠ 0))) h) : WF S 70 [I64 x] h Q := by
  refine WF_fn (fn := c70) rfl rfl ?_
  unfold c70
  ((try simp (maxSteps := 3000000) (dsimp := false) (disch := first | omega | (simp only [len_new, len_put, len_kill]; omega)) only [↓ypre, ypost, ↓reduceIte, Nat.reduceEqDiff, Nat.reduceAdd, Nat.reduceSub, Nat.reduceLeDiff, Nat.zero_add, Nat.sub_zero, ynew]); try simp only [yback])
  exact hQ
theorem i_IndexInts {v : Value} {ns : List Int} {h : AH} {Q : Value → AH → Prop} (hv : Ints h v ns) (hl : (ns.length : Int) ≤ 1048576)
    (hQ : Q (I64 (firstAt (fun n => decide (ns.getD n 0 ≠ 0)) ns.length 0)) h) : WF S 69 [v, .func (.func 70) #[] #[]] h Q := by
  refine WF_fn (fn := c69) rfl rfl ?_
  unfold c69
  obtain ⟨q, hq⟩ : ∃ q : Nat → Bool, q = fun n => decide (ns.getD n 0 ≠ 0) := ⟨_, rfl⟩
  rw [← hq] at hQ
  ((try simp (maxSteps := 3000000) (dsimp := false) (disch := first | omega | (simp only [len_new, len_put, len_kill]; omega)) only [↓ypre, ypost, ↓reduceIte, Nat.reduceEqDiff, Nat.reduceAdd, Nat.reduceSub, Nat.reduceLeDiff, Nat.zero_add, Nat.sub_zero, ynew, hv.len]); try simp only [yback])
  refine WC_loop_inv (fun m f K1 => ∃ (i : Nat), m = ns.length - i ∧ i ≤ ns.length ∧ f 0 = v ∧ f 1 = .func (.func 70) #[] #[] ∧ f 7 = I64 ns.length ∧ f 8 = I64 i ∧ K1 = h ∧ (firstAt q (ns.length - i) i = firstAt q ns.length 0)) ?_ (ns.length - 0) _ _ ⟨0, rfl, by omega, (by first | rfl | (simp [upd_apply]; done)), (by first | rfl | (simp [upd_apply]; done)), (by first | rfl | (simp [upd_apply]; done)), (by first | rfl | (simp [upd_apply]; done)), rfl, rfl⟩
  rintro m f K1 ⟨i, rfl, hi, f0, f1, f7, f8, rfl, hj⟩
  by_cases hlt : (i : Int) < ns.length
  · have ix := hv.ix (k := .i64) (j := i) (by omega) (by omega)
    have rd := hv.rd (j := i) (by omega) (by omega)
    simp only [nth, Int.toNat_natCast] at rd
    have hstep : firstAt q (ns.length - i) i = if q i = true then (i : Int) else firstAt q (ns.length - (i + 1)) (i + 1) := by
      rw [show ns.length - i = (ns.length - (i + 1)) + 1 by omega]
      rfl
    have hqi : q i = decide (ns.getD i 0 ≠ 0) := by rw [hq]
    ((try simp (maxSteps := 3000000) (dsimp := false) (disch := first | omega | (simp only [len_new, len_put, len_kill]; omega)) only [↓ypre, ypost, ↓reduceIte, Nat.reduceEqDiff, Nat.reduceAdd, Nat.reduceSub, Nat.reduceLeDiff, Nat.zero_add, Nat.sub_zero, ynew, f0, f1, f7, f8, decide_eq_true hlt, ix, rd, WK_func, args_nil]); try simp only [yback])
    refine i_Index1 ?_
    rw [← hqi]
    cases h1 : q i with
    | true =>
      ((try simp (maxSteps := 3000000) (dsimp := false) (disch := first | omega | (simp only [len_new, len_put, len_kill]; omega)) only [↓ypre, ypost, ↓reduceIte, Nat.reduceEqDiff, Nat.reduceAdd, Nat.reduceSub, Nat.reduceLeDiff, Nat.zero_add, Nat.sub_zero, ynew, f0, f1, f7, f8]); try simp only [yback])
      rw [← hj, hstep, if_pos h1] at hQ
      exact hQ
    | false =>
      ((try simp (maxSteps := 3000000) (dsimp := false) (disch := first | omega | (simp only [len_new, len_put, len_kill]; omega)) only [↓ypre, ypost, ↓reduceIte, Nat.reduceEqDiff, Nat.reduceAdd, Nat.reduceSub, Nat.reduceLeDiff, Nat.zero_add, Nat.sub_zero, ynew, f0, f1, f7, f8, wrap64_in]); try simp only [yback])
      refine InvQ_go (ns.length - (i + 1)) (by omega) ⟨(i + 1), rfl, by omega, (by first | rfl | exact f0 | (simp only [upd_apply]; rfl) | (show I64 _ = _; congr 1; omega)), (by first | rfl | exact f1 | (simp only [upd_apply]; rfl) | (show I64 _ = _; congr 1; omega)), (by first | rfl | exact f7 | (simp only [upd_apply]; rfl) | (show I64 _ = _; congr 1; omega)), (by first | rfl | exact f8 | (simp only [upd_apply]; rfl) | (show I64 _ = _; congr 1; omega)), rfl, ?_⟩
      rw [← hj, hstep, if_neg (by rw [h1]; simp)]
  · have ei : i = ns.length := by omega
    subst ei
    ((try simp (maxSteps := 3000000) (dsimp := false) (disch := first | omega | (simp only [len_new, len_put, len_kill]; omega)) only [↓ypre, ypost, ↓reduceIte, Nat.reduceEqDiff, Nat.reduceAdd, Nat.reduceSub, Nat.reduceLeDiff, Nat.zero_add, Nat.sub_zero, ynew, f0, f1, f7, f8, decide_eq_false hlt]); try simp only [yback])
    rw [← hj, Nat.sub_self] at hQ
    exact hQ
/-! lists -/
theorem i_FactorsOfSimple {v : Value} {t : Ten} {h : AH} {Q : Value → AH → Prop} (hv : Ints h v t.ns) (hl : SmallS t.ns)
    (hQ : ∀ v' h', h <+: h' → OwnRows h h' v' (faR t).1 → Q (.tuple #[v', I64 (faR t).2]) h') : WF S 21 [tenV t v] h Q := by
  refine WF_fn (fn := c21) rfl rfl ?_
  unfold c21
  ((try simp (maxSteps := 3000000) (dsimp := false) (disch := first | omega | (simp only [len_new, len_put, len_kill]; omega)) only [↓ypre, ypost, ↓reduceIte, Nat.reduceEqDiff, Nat.reduceAdd, Nat.reduceSub, Nat.reduceLeDiff, Nat.zero_add, Nat.sub_zero, ynew, tenV, hv.one]); try simp only [yback])
  generalize hH1 : AH.new h _ = H1
  obtain ⟨hb1, p1, n1⟩ := new_facts hH1
  ((try simp (maxSteps := 3000000) (dsimp := false) (disch := first | omega | (simp only [len_new, len_put, len_kill]; omega)) only [↓ypre, ypost, ↓reduceIte, Nat.reduceEqDiff, Nat.reduceAdd, Nat.reduceSub, Nat.reduceLeDiff, Nat.zero_add, Nat.sub_zero, ynew, rdn_of hb1]); try simp only [yback])
  refine i_IsTensor (hv.pre p1) hl fun H0 p0 => ?_
  have hb1 := pre_get p0 hb1
  unfold faR at hQ
  cases h1 : isT t with
  | false =>
    rw [h1, if_neg (by decide)] at hQ
    ((try simp (maxSteps := 3000000) (dsimp := false) (disch := first | omega | (simp only [len_new, len_put, len_kill]; omega)) only [↓ypre, ypost, ↓reduceIte, Nat.reduceEqDiff, Nat.reduceAdd, Nat.reduceSub, Nat.reduceLeDiff, Nat.zero_add, Nat.sub_zero, ynew]); try simp only [yback])
    exact hQ _ _ (p1.trans p0) (.inl ⟨rfl, rfl⟩)
  | true =>
  rw [h1, if_pos rfl] at hQ
  have tf := isT_facts h1
  have hP := isT_isP h1
  ((try simp (maxSteps := 3000000) (dsimp := false) (disch := first | omega | (simp only [len_new, len_put, len_kill]; omega)) only [↓ypre, ypost, ↓reduceIte, Nat.reduceEqDiff, Nat.reduceAdd, Nat.reduceSub, Nat.reduceLeDiff, Nat.zero_add, Nat.sub_zero, ynew, rdn_of hb1]); try simp only [yback])
  refine i_isSimple (hv.pre (p1.trans p0)) tf hP fun H2 p2 => ?_
  have hb1 := pre_get p2 hb1
  have p1 := (p1.trans p0).trans p2
  cases h2 : fcOK t with
  | false =>
    rw [h2, if_neg (by decide)] at hQ
    ((try simp (maxSteps := 3000000) (dsimp := false) (disch := first | omega | (simp only [len_new, len_put, len_kill]; omega)) only [↓ypre, ypost, ↓reduceIte, Nat.reduceEqDiff, Nat.reduceAdd, Nat.reduceSub, Nat.reduceLeDiff, Nat.zero_add, Nat.sub_zero, ynew]); try simp only [yback])
    exact hQ _ _ p1 (.inl ⟨rfl, rfl⟩)
  | true =>
  rw [h2, if_pos rfl] at hQ
  have p5 := isP_in hP
  have fi := tf.i
  have fj := tf.j
  have fk := tf.k
  have jk := mul_in1 (A := 9) (B := 9) tf.j tf.k
  have hl := tf.len
  have hl2 := tf.le
  have hv2 := hv.pre p1
  ((try simp (maxSteps := 3000000) (dsimp := false) (disch := first | omega | (simp only [len_new, len_put, len_kill]; omega)) only [↓ypre, ypost, ↓reduceIte, Nat.reduceEqDiff, Nat.reduceAdd, Nat.reduceSub, Nat.reduceLeDiff, Nat.zero_add, Nat.sub_zero, ynew, rd1_of hb1]); try simp only [yback])
  refine i_IndexInts hv2 hl2 ?_
  rw [show firstAt (fun n => decide (t.ns.getD n 0 ≠ 0)) t.ns.length 0 = fcF t from rfl]
  have sp := firstAt_spec (q := fun n => decide (t.ns.getD n 0 ≠ 0)) (m := t.ns.length) (i := 0)
  rw [show firstAt (fun n => decide (t.ns.getD n 0 ≠ 0)) t.ns.length 0 = fcF t from rfl] at sp
  rcases sp with ⟨sq1, sq2⟩ | ⟨r, sq1, _, sq3, sq4⟩
  · exfalso
    unfold fcOK at h2
    rw [sq1] at h2
    cases h2
  have hr : r < t.ns.length := by omega
  have hnz : t.ns.getD r 0 ≠ 0 := by simpa using sq4
  obtain ⟨pi, pj, pk, pe⟩ := fc_places tf (f := fcF t) (by omega)
  have enth : nth t.ns (fcF t) = t.ns.getD r 0 := by
    rw [sq1]
    unfold nth
    rw [Int.toNat_natCast]
  have eE : fcE t = invN t.p (nth t.ns (fcF t)) := rfl
  have tin := tat_in tf pi pj pk
  have iv := invN_is hP (n := nth t.ns (fcF t)) (by rw [pe] at tin; rw [enth] at tin ⊢; omega)
  rw [← eE] at iv
  have ivb := iv.1
  have ivb2 := iv.2.1
  have eR : fcR t = [fcU t (fcF t) (fcE t), fcV t (fcF t) (fcE t), fcW t (fcF t)] := rfl
  have hf0 : 0 ≤ fcF t := by omega
  have hfl : fcF t < t.ns.length := by omega
  rw [eR] at hQ
  clear eE eR
  generalize fcF t = fz at *
  generalize fcE t = e at *
  have q1 : (fz / t.k).tdiv t.j = fcI t fz := by
    rw [Int.tdiv_eq_ediv_of_nonneg (Int.ediv_nonneg hf0 (by omega))]
    rfl
  have q2 : fz.tdiv t.k = fz / t.k := Int.tdiv_eq_ediv_of_nonneg hf0
  have q2b : 0 ≤ fz / t.k ∧ fz / t.k ≤ fz := ⟨Int.ediv_nonneg hf0 (by omega), Int.ediv_le_self _ hf0⟩
  have q3 : (fz / t.k).tmod t.j = fcJ t fz := by
    rw [Int.tmod_eq_emod_of_nonneg q2b.1]
    rfl
  have q4 : fz.tmod t.k = fcK t fz := by
    rw [Int.tmod_eq_emod_of_nonneg hf0]
    rfl
  have ixf := hv2.ix (k := .i64) (j := fz) (by omega) (by omega)
  have rdf := hv2.rd (j := fz) (by omega) (by omega)
  ((try simp (maxSteps := 3000000) (dsimp := false) (disch := first | omega | (simp only [len_new, len_put, len_kill]; omega)) only [↓ypre, ypost, ↓reduceIte, Nat.reduceEqDiff, Nat.reduceAdd, Nat.reduceSub, Nat.reduceLeDiff, Nat.zero_add, Nat.sub_zero, ynew, rd1_of hb1, bin_quo, bin_rem, q1, q2, q3, q4, ixf, rdf, wrap64_in]); try simp only [yback])
  refine i_inverse p5 (by rw [pe] at tin; rw [enth] at tin ⊢; omega) iv ?_
  ((try simp (maxSteps := 3000000) (dsimp := false) (disch := first | omega | (simp only [len_new, len_put, len_kill]; omega)) only [↓ypre, ypost, ↓reduceIte, Nat.reduceEqDiff, Nat.reduceAdd, Nat.reduceSub, Nat.reduceLeDiff, Nat.zero_add, Nat.sub_zero, ynew]); try simp only [yback])
  generalize hH5 : AH.new H2 _ = H5
  obtain ⟨hb5, p25, n5⟩ := new_facts hH5
  generalize hH3 : AH.new H5 _ = H3
  obtain ⟨hb3, p3, n3⟩ := new_facts hH3
  generalize hH4 : AH.new H3 _ = H4
  obtain ⟨hb4, p4, n4⟩ := new_facts hH4
  have pz := (p25.trans p3).trans p4
  have lu : Lst H4 H2.length (gen 0 (fun a : Nat => (tat t a (fcJ t fz) (fcK t fz) * e).tmod t.p)) true := pre_get (p3.trans p4) hb5
  have lv : Lst H4 H5.length [] true := pre_get p4 hb3
  have lw : Lst H4 H3.length [] true := hb4
  ((try simp (maxSteps := 3000000) (dsimp := false) (disch := first | omega | (simp only [len_new, len_put, len_kill]; omega)) only [↓ypre, ypost, ↓reduceIte, Nat.reduceEqDiff, Nat.reduceAdd, Nat.reduceSub, Nat.reduceLeDiff, Nat.zero_add, Nat.sub_zero, ynew, rd1_of (pre_get pz hb1)]); try simp only [yback])
  refine WC_loop_inv (fun m f K1 => ∃ (a : Nat) (ku : Nat) (fu : Bool), m = t.i.toNat - a ∧ a ≤ t.i.toNat ∧ f 1 = .pointer (some ⟨h.length, 0, none⟩) ∧ f 5 = I64 (fcI t fz) ∧ f 6 = I64 (fcJ t fz) ∧ f 7 = I64 (fcK t fz) ∧ f 8 = I64 e ∧ f 9 = sl ku (gen a (fun a : Nat => (tat t a (fcJ t fz) (fcK t fz) * e).tmod t.p)).length ∧ f 10 = sl H5.length 0 ∧ f 11 = sl H3.length 0 ∧ f 56 = I64 t.i ∧ f 57 = I64 a ∧ (H2 <+: K1) ∧ (Lst K1 ku (gen a (fun a : Nat => (tat t a (fcJ t fz) (fcK t fz) * e).tmod t.p)) fu) ∧ (Lst K1 H5.length [] true) ∧ (Lst K1 H3.length [] true) ∧ ((H2.length ≤ ku ∧ H2.length ≤ H5.length ∧ H2.length ≤ H3.length) ∧ ku ≠ H5.length ∧ ku ≠ H3.length ∧ H5.length ≠ H3.length)) ?_ (t.i.toNat - 0) _ _ ⟨0, H2.length, true, rfl, by omega, (by first | rfl | (simp [upd_apply]; done)), (by first | rfl | (simp [upd_apply]; done)), (by first | rfl | (simp [upd_apply]; done)), (by first | rfl | (simp [upd_apply]; done)), (by first | rfl | (simp [upd_apply]; done)), (by first | rfl | (simp [upd_apply]; done)), (by first | rfl | (simp [upd_apply]; done)), (by first | rfl | (simp [upd_apply]; done)), (by first | rfl | (simp [upd_apply]; done)), (by first | rfl | (simp [upd_apply]; done)), pz, lu, lv, lw, ⟨⟨by omega, by omega, by omega⟩, by omega, by omega, by omega⟩⟩
  rintro m f K1 ⟨a, ku, fu, rfl, ha, f1, f5, f6, f7, f8, f9, f10, f11, f56, f57, pp, lu, lv, lw, hd⟩
  have hbK := pre_get pp hb1
  have hvK := hv.pre (p1.trans pp)
  have gl := gen_len (N := a) (g := fun a : Nat => (tat t a (fcJ t fz) (fcK t fz) * e).tmod t.p)
  by_cases hlt : (a : Int) < t.i
  · have ta := tat_in tf (i := (a : Int)) (show 0 ≤ (a : Int) ∧ (a : Int) < t.i by omega) pj pk
    ((try simp (maxSteps := 3000000) (dsimp := false) (disch := first | omega | (simp only [len_new, len_put, len_kill]; omega)) only [↓ypre, ypost, ↓reduceIte, Nat.reduceEqDiff, Nat.reduceAdd, Nat.reduceSub, Nat.reduceLeDiff, Nat.zero_add, Nat.sub_zero, ynew, f1, f5, f6, f7, f8, f9, f10, f11, f56, f57, decide_eq_true hlt, rdn_of hbK]); try simp only [yback])
    refine i_at hvK tf (by omega) pj pk fun H5 p5 => ?_
    have mb := mul_in (A := 5) (B := 5) (show 0 ≤ tat t a (fcJ t fz) (fcK t fz) ∧ tat t a (fcJ t fz) (fcK t fz) ≤ 5 by omega) (show 0 ≤ e ∧ e ≤ 5 by omega)
    ((try simp (maxSteps := 3000000) (dsimp := false) (disch := first | omega | (simp only [len_new, len_put, len_kill]; omega)) only [↓ypre, ypost, ↓reduceIte, Nat.reduceEqDiff, Nat.reduceAdd, Nat.reduceSub, Nat.reduceLeDiff, Nat.zero_add, Nat.sub_zero, ynew, f1, f5, f6, f7, f8, f9, f10, f11, f56, f57, rd1_of (pre_get p5 hbK), bin_rem, wrap64_in]); try simp only [yback])
    refine ⟨p5, ?_⟩
    refine (lu.pre p5).app3 (by omega) fun H6 l6 pre6 keep6 lu' => ?_
    have l5 := pre_len p5
    have lt0 := lu.lt
    have lt1 := lv.lt
    have lt2 := lw.lt
    ((try simp (maxSteps := 3000000) (dsimp := false) (disch := first | omega | (simp only [len_new, len_put, len_kill]; omega)) only [↓ypre, ypost, ↓reduceIte, Nat.reduceEqDiff, Nat.reduceAdd, Nat.reduceSub, Nat.reduceLeDiff, Nat.zero_add, Nat.sub_zero, ynew, f1, f5, f6, f7, f8, f9, f10, f11, f56, f57, wrap64_in]); try simp only [yback])
    rw [← gen_succ] at lu'
    refine InvQ_go (t.i.toNat - (a + 1)) (by omega) ⟨(a + 1), (H5.length + 1), false, rfl, by omega, (by first | rfl | exact f1 | (simp only [upd_apply]; rfl) | (show I64 _ = _; congr 1; omega)), (by first | rfl | exact f5 | (simp only [upd_apply]; rfl) | (show I64 _ = _; congr 1; omega)), (by first | rfl | exact f6 | (simp only [upd_apply]; rfl) | (show I64 _ = _; congr 1; omega)), (by first | rfl | exact f7 | (simp only [upd_apply]; rfl) | (show I64 _ = _; congr 1; omega)), (by first | rfl | exact f8 | (simp only [upd_apply]; rfl) | (show I64 _ = _; congr 1; omega)), (by rw [gen_succ]; rfl), (by first | rfl | exact f10 | (simp only [upd_apply]; rfl) | (show I64 _ = _; congr 1; omega)), (by first | rfl | exact f11 | (simp only [upd_apply]; rfl) | (show I64 _ = _; congr 1; omega)), (by first | rfl | exact f56 | (simp only [upd_apply]; rfl) | (show I64 _ = _; congr 1; omega)), (by first | rfl | exact f57 | (simp only [upd_apply]; rfl) | (show I64 _ = _; congr 1; omega)), (pre6 _ hd.1.1 (pp.trans p5)), lu', (keep6 _ _ (fun e => hd.2.1 e.symm) (lv.pre p5)), (keep6 _ _ (fun e => hd.2.2.1 e.symm) (lw.pre p5)), ⟨⟨by omega, by omega, by omega⟩, by omega, by omega, by omega⟩⟩
  have ea : a = t.i.toNat := by omega
  subst ea
  ((try simp (maxSteps := 3000000) (dsimp := false) (disch := first | omega | (simp only [len_new, len_put, len_kill]; omega)) only [↓ypre, ypost, ↓reduceIte, Nat.reduceEqDiff, Nat.reduceAdd, Nat.reduceSub, Nat.reduceLeDiff, Nat.zero_add, Nat.sub_zero, ynew, f1, f5, f6, f7, f8, f9, f10, f11, f56, f57, rd1_of hbK, decide_eq_false hlt]); try simp only [yback])
  refine WC_loop_inv (fun m f K2 => ∃ (b : Nat) (kv : Nat) (fv : Bool), m = t.j.toNat - b ∧ b ≤ t.j.toNat ∧ f 1 = .pointer (some ⟨h.length, 0, none⟩) ∧ f 5 = I64 (fcI t fz) ∧ f 6 = I64 (fcJ t fz) ∧ f 7 = I64 (fcK t fz) ∧ f 8 = I64 e ∧ f 9 = sl ku (gen t.i.toNat (fun a : Nat => (tat t a (fcJ t fz) (fcK t fz) * e).tmod t.p)).length ∧ f 10 = sl kv (gen b (fun b : Nat => (tat t (fcI t fz) b (fcK t fz) * e).tmod t.p)).length ∧ f 11 = sl H3.length 0 ∧ f 75 = I64 t.j ∧ f 76 = I64 b ∧ (H2 <+: K2) ∧ (Lst K2 ku (gen t.i.toNat (fun a : Nat => (tat t a (fcJ t fz) (fcK t fz) * e).tmod t.p)) fu) ∧ (Lst K2 kv (gen b (fun b : Nat => (tat t (fcI t fz) b (fcK t fz) * e).tmod t.p)) fv) ∧ (Lst K2 H3.length [] true) ∧ ((H2.length ≤ ku ∧ H2.length ≤ kv ∧ H2.length ≤ H3.length) ∧ ku ≠ kv ∧ ku ≠ H3.length ∧ kv ≠ H3.length)) ?_ (t.j.toNat - 0) _ _ ⟨0, H5.length, true, rfl, by omega, (by first | rfl | exact f1 | (simp [upd_apply]; done)), (by first | rfl | exact f5 | (simp [upd_apply]; done)), (by first | rfl | exact f6 | (simp [upd_apply]; done)), (by first | rfl | exact f7 | (simp [upd_apply]; done)), (by first | rfl | exact f8 | (simp [upd_apply]; done)), (by first | rfl | exact f9 | (simp [upd_apply]; done)), (by first | rfl | exact f10 | (simp [upd_apply]; done)), (by first | rfl | exact f11 | (simp [upd_apply]; done)), (by first | rfl | (simp [upd_apply]; done)), (by first | rfl | (simp [upd_apply]; done)), pp, lu, lv, lw, hd⟩
  rintro m f K2 ⟨b, kv, fv, rfl, hb, f1, f5, f6, f7, f8, f9, f10, f11, f75, f76, pp, lu, lv, lw, hd⟩
  have hbK := pre_get pp hb1
  have hvK := hv.pre (p1.trans pp)
  have gl := gen_len (N := b) (g := fun b : Nat => (tat t (fcI t fz) b (fcK t fz) * e).tmod t.p)
  by_cases hlt : (b : Int) < t.j
  · have ta := tat_in tf pi (show 0 ≤ (b : Int) ∧ (b : Int) < t.j by omega) pk
    ((try simp (maxSteps := 3000000) (dsimp := false) (disch := first | omega | (simp only [len_new, len_put, len_kill]; omega)) only [↓ypre, ypost, ↓reduceIte, Nat.reduceEqDiff, Nat.reduceAdd, Nat.reduceSub, Nat.reduceLeDiff, Nat.zero_add, Nat.sub_zero, ynew, f1, f5, f6, f7, f8, f9, f10, f11, f75, f76, decide_eq_true hlt, rdn_of hbK]); try simp only [yback])
    refine i_at hvK tf pi (by omega) pk fun H5 p5 => ?_
    have mb := mul_in (A := 5) (B := 5) (show 0 ≤ tat t (fcI t fz) b (fcK t fz) ∧ tat t (fcI t fz) b (fcK t fz) ≤ 5 by omega) (show 0 ≤ e ∧ e ≤ 5 by omega)
    ((try simp (maxSteps := 3000000) (dsimp := false) (disch := first | omega | (simp only [len_new, len_put, len_kill]; omega)) only [↓ypre, ypost, ↓reduceIte, Nat.reduceEqDiff, Nat.reduceAdd, Nat.reduceSub, Nat.reduceLeDiff, Nat.zero_add, Nat.sub_zero, ynew, f1, f5, f6, f7, f8, f9, f10, f11, f75, f76, rd1_of (pre_get p5 hbK), bin_rem, wrap64_in]); try simp only [yback])
    refine ⟨p5, ?_⟩
    refine (lv.pre p5).app3 (by omega) fun H6 l6 pre6 keep6 lv' => ?_
    have l5 := pre_len p5
    have lt0 := lu.lt
    have lt1 := lv.lt
    have lt2 := lw.lt
    ((try simp (maxSteps := 3000000) (dsimp := false) (disch := first | omega | (simp only [len_new, len_put, len_kill]; omega)) only [↓ypre, ypost, ↓reduceIte, Nat.reduceEqDiff, Nat.reduceAdd, Nat.reduceSub, Nat.reduceLeDiff, Nat.zero_add, Nat.sub_zero, ynew, f1, f5, f6, f7, f8, f9, f10, f11, f75, f76, wrap64_in]); try simp only [yback])
    rw [← gen_succ] at lv'
    refine InvQ_go (t.j.toNat - (b + 1)) (by omega) ⟨(b + 1), (H5.length + 1), false, rfl, by omega, (by first | rfl | exact f1 | (simp only [upd_apply]; rfl) | (show I64 _ = _; congr 1; omega)), (by first | rfl | exact f5 | (simp only [upd_apply]; rfl) | (show I64 _ = _; congr 1; omega)), (by first | rfl | exact f6 | (simp only [upd_apply]; rfl) | (show I64 _ = _; congr 1; omega)), (by first | rfl | exact f7 | (simp only [upd_apply]; rfl) | (show I64 _ = _; congr 1; omega)), (by first | rfl | exact f8 | (simp only [upd_apply]; rfl) | (show I64 _ = _; congr 1; omega)), (by first | rfl | exact f9 | (simp only [upd_apply]; rfl) | (show I64 _ = _; congr 1; omega)), (by rw [gen_succ]; rfl), (by first | rfl | exact f11 | (simp only [upd_apply]; rfl) | (show I64 _ = _; congr 1; omega)), (by first | rfl | exact f75 | (simp only [upd_apply]; rfl) | (show I64 _ = _; congr 1; omega)), (by first | rfl | exact f76 | (simp only [upd_apply]; rfl) | (show I64 _ = _; congr 1; omega)), (pre6 _ hd.1.2.1 (pp.trans p5)), (keep6 _ _ hd.2.1 (lu.pre p5)), lv', (keep6 _ _ (fun e => hd.2.2.2 e.symm) (lw.pre p5)), ⟨⟨by omega, by omega, by omega⟩, by omega, by omega, by omega⟩⟩
  have eb : b = t.j.toNat := by omega
  subst eb
  ((try simp (maxSteps := 3000000) (dsimp := false) (disch := first | omega | (simp only [len_new, len_put, len_kill]; omega)) only [↓ypre, ypost, ↓reduceIte, Nat.reduceEqDiff, Nat.reduceAdd, Nat.reduceSub, Nat.reduceLeDiff, Nat.zero_add, Nat.sub_zero, ynew, f1, f5, f6, f7, f8, f9, f10, f11, f75, f76, rd1_of hbK, decide_eq_false hlt]); try simp only [yback])
  refine WC_loop_inv (fun m f K3 => ∃ (c : Nat) (kw : Nat) (fw : Bool), m = t.k.toNat - c ∧ c ≤ t.k.toNat ∧ f 1 = .pointer (some ⟨h.length, 0, none⟩) ∧ f 5 = I64 (fcI t fz) ∧ f 6 = I64 (fcJ t fz) ∧ f 7 = I64 (fcK t fz) ∧ f 8 = I64 e ∧ f 9 = sl ku (gen t.i.toNat (fun a : Nat => (tat t a (fcJ t fz) (fcK t fz) * e).tmod t.p)).length ∧ f 10 = sl kv (gen t.j.toNat (fun b : Nat => (tat t (fcI t fz) b (fcK t fz) * e).tmod t.p)).length ∧ f 11 = sl kw (gen c (fun c : Nat => tat t (fcI t fz) (fcJ t fz) c)).length ∧ f 94 = I64 t.k ∧ f 95 = I64 c ∧ (H2 <+: K3) ∧ (Lst K3 ku (gen t.i.toNat (fun a : Nat => (tat t a (fcJ t fz) (fcK t fz) * e).tmod t.p)) fu) ∧ (Lst K3 kv (gen t.j.toNat (fun b : Nat => (tat t (fcI t fz) b (fcK t fz) * e).tmod t.p)) fv) ∧ (Lst K3 kw (gen c (fun c : Nat => tat t (fcI t fz) (fcJ t fz) c)) fw) ∧ ((H2.length ≤ ku ∧ H2.length ≤ kv ∧ H2.length ≤ kw) ∧ ku ≠ kv ∧ ku ≠ kw ∧ kv ≠ kw)) ?_ (t.k.toNat - 0) _ _ ⟨0, H3.length, true, rfl, by omega, (by first | rfl | exact f1 | (simp [upd_apply]; done)), (by first | rfl | exact f5 | (simp [upd_apply]; done)), (by first | rfl | exact f6 | (simp [upd_apply]; done)), (by first | rfl | exact f7 | (simp [upd_apply]; done)), (by first | rfl | exact f8 | (simp [upd_apply]; done)), (by first | rfl | exact f9 | (simp [upd_apply]; done)), (by first | rfl | exact f10 | (simp [upd_apply]; done)), (by first | rfl | exact f11 | (simp [upd_apply]; done)), (by first | rfl | (simp [upd_apply]; done)), (by first | rfl | (simp [upd_apply]; done)), pp, lu, lv, lw, hd⟩
  rintro m f K3 ⟨c, kw, fw, rfl, hc, f1, f5, f6, f7, f8, f9, f10, f11, f94, f95, pp, lu, lv, lw, hd⟩
  have hbK := pre_get pp hb1
  have hvK := hv.pre (p1.trans pp)
  have gl := gen_len (N := c) (g := fun c : Nat => tat t (fcI t fz) (fcJ t fz) c)
  by_cases hlt : (c : Int) < t.k
  · have ta := tat_in tf pi pj (show 0 ≤ (c : Int) ∧ (c : Int) < t.k by omega)
    ((try simp (maxSteps := 3000000) (dsimp := false) (disch := first | omega | (simp only [len_new, len_put, len_kill]; omega)) only [↓ypre, ypost, ↓reduceIte, Nat.reduceEqDiff, Nat.reduceAdd, Nat.reduceSub, Nat.reduceLeDiff, Nat.zero_add, Nat.sub_zero, ynew, f1, f5, f6, f7, f8, f9, f10, f11, f94, f95, decide_eq_true hlt, rdn_of hbK]); try simp only [yback])
    refine i_at hvK tf pi pj (by omega) fun H5 p5 => ?_
    ((try simp (maxSteps := 3000000) (dsimp := false) (disch := first | omega | (simp only [len_new, len_put, len_kill]; omega)) only [↓ypre, ypost, ↓reduceIte, Nat.reduceEqDiff, Nat.reduceAdd, Nat.reduceSub, Nat.reduceLeDiff, Nat.zero_add, Nat.sub_zero, ynew, f1, f5, f6, f7, f8, f9, f10, f11, f94, f95, wrap64_in]); try simp only [yback])
    refine (lw.pre p5).app3 (by omega) fun H6 l6 pre6 keep6 lw' => ?_
    have l5 := pre_len p5
    have lt0 := lu.lt
    have lt1 := lv.lt
    have lt2 := lw.lt
    ((try simp (maxSteps := 3000000) (dsimp := false) (disch := first | omega | (simp only [len_new, len_put, len_kill]; omega)) only [↓ypre, ypost, ↓reduceIte, Nat.reduceEqDiff, Nat.reduceAdd, Nat.reduceSub, Nat.reduceLeDiff, Nat.zero_add, Nat.sub_zero, ynew, f1, f5, f6, f7, f8, f9, f10, f11, f94, f95, wrap64_in]); try simp only [yback])
    rw [← gen_succ] at lw'
    refine InvQ_go (t.k.toNat - (c + 1)) (by omega) ⟨(c + 1), (H5.length + 1), false, rfl, by omega, (by first | rfl | exact f1 | (simp only [upd_apply]; rfl) | (show I64 _ = _; congr 1; omega)), (by first | rfl | exact f5 | (simp only [upd_apply]; rfl) | (show I64 _ = _; congr 1; omega)), (by first | rfl | exact f6 | (simp only [upd_apply]; rfl) | (show I64 _ = _; congr 1; omega)), (by first | rfl | exact f7 | (simp only [upd_apply]; rfl) | (show I64 _ = _; congr 1; omega)), (by first | rfl | exact f8 | (simp only [upd_apply]; rfl) | (show I64 _ = _; congr 1; omega)), (by first | rfl | exact f9 | (simp only [upd_apply]; rfl) | (show I64 _ = _; congr 1; omega)), (by first | rfl | exact f10 | (simp only [upd_apply]; rfl) | (show I64 _ = _; congr 1; omega)), (by rw [gen_succ]; rfl), (by first | rfl | exact f94 | (simp only [upd_apply]; rfl) | (show I64 _ = _; congr 1; omega)), (by first | rfl | exact f95 | (simp only [upd_apply]; rfl) | (show I64 _ = _; congr 1; omega)), (pre6 _ hd.1.2.2 (pp.trans p5)), (keep6 _ _ hd.2.2.1 (lu.pre p5)), (keep6 _ _ hd.2.2.2 (lv.pre p5)), lw', ⟨⟨by omega, by omega, by omega⟩, by omega, by omega, by omega⟩⟩
  have ec : c = t.k.toNat := by omega
  subst ec
  ((try simp (maxSteps := 3000000) (dsimp := false) (disch := first | omega | (simp only [len_new, len_put, len_kill]; omega)) only [↓ypre, ypost, ↓reduceIte, Nat.reduceEqDiff, Nat.reduceAdd, Nat.reduceSub, Nat.reduceLeDiff, Nat.zero_add, Nat.sub_zero, ynew, f1, f5, f6, f7, f8, f9, f10, f11, f94, f95, decide_eq_false hlt]); try simp only [yback])
  ((try simp (maxSteps := 3000000) (dsimp := false) (disch := first | omega | (simp only [len_new, len_put, len_kill]; omega)) only [↓ypre, ypost, ↓reduceIte, Nat.reduceEqDiff, Nat.reduceAdd, Nat.reduceSub, Nat.reduceLeDiff, Nat.zero_add, Nat.sub_zero, ynew, f1, f5, f6, f7, f8, f9, f10, f11, f94, f95, sl_cells, sl_one, fillL, zrep]); try simp only [yback])
  have hp := p1.trans pp
  have o := fc_three hp lu lv lw (by have := pre_len p1; omega) hd.2
  exact hQ _ _ (pre_new hp) o
theorem faR_small (t : Ten) : SmallM (faR t).1 := by
  unfold faR
  split
  · rename_i h
    have tf := isT_facts h
    have fi := tf.i
    have fj := tf.j
    have fk := tf.k
    split
    · have e1 : (fcU t (fcF t) (fcE t)).length = t.i.toNat := gen_len
      have e2 : (fcV t (fcF t) (fcE t)).length = t.j.toNat := gen_len
      have e3 : (fcW t (fcF t)).length = t.k.toNat := gen_len
      refine smallM_of (A := 3) (B := 9) (by simp [fcR]) (fun i hi => ?_) (by omega)
      have hi' : i < 3 := by simpa [fcR] using hi
      have hc : i = 0 ∨ i = 1 ∨ i = 2 := by omega
      rcases hc with rfl | rfl | rfl
      · show (fcU t (fcF t) (fcE t)).length ≤ 9
        omega
      · show (fcV t (fcF t) (fcE t)).length ≤ 9
        omega
      · show (fcW t (fcF t)).length ≤ 9
        omega
    · exact smallM_nil
  · exact smallM_nil
end Go.Proofs.Ytilpnbejpndgpaa.X
