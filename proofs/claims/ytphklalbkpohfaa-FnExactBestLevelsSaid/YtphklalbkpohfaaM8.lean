/- Texts of one claim, put together by merge.py: XS11, XS12, XS13, XS14. -/
import Derived.Test.YtphklalbkpohfaaM7
import Derived.Test.YtphklalbkpohfaaM6
/- Repeated costs: plainly; the reference's walk; limited sums of products. -/
set_option linter.unusedVariables false
set_option linter.unusedSimpArgs false
set_option maxRecDepth 20000
set_option maxHeartbeats 4000000
namespace Go.Proofs.Ytphklalbkpohfaa.X
open Go Go.RowKit

def rep (a M n : Int) : Nat → Int → Int → Int → Option (Int × Int)
  | 0, t, s, z => some (t, s)
  | k + 1, t, s, z => if 1000000000000000 < t * a ∨ 1000000000000000 < s * a ∨ 1000000000000000 < s * a + M * z * z then none else rep a M n k (t * a) (s * a + M * z * z) (z * n)
def more (x : Sch) : Int := cw x.ps 0 x.ps.length + cw x.ps 1 x.ps.length + cq x.ps x.ps.length 9
def repX (x : Sch) (k : Nat) (b : Int) : Option (Int × Int) := rep x.ps.length (more x) x.n k (b * b * b) (b * b * b - b * b) b
def repV : Option (Int × Int) → Value
  | none => .tuple #[I64 0, I64 0, .bool false]
  | some (t, s) => .tuple #[I64 t, I64 s, .bool true]
theorem sm_nn {g : Nat → Int} : ∀ {n : Nat}, (∀ j, j < n → 0 ≤ g j) → 0 ≤ sm g n
  | 0, _ => Int.le_refl _
  | n + 1, h => by
    have h1 := sm_nn (n := n) (fun j hj => h j (by omega))
    have h2 := h n (by omega)
    simp only [sm]
    omega
theorem wt_pos {q : List Int} (hq : q.length = 9) (hz : isZ q = false) : 1 ≤ wt q 9 := by
  apply Decidable.byContradiction
  intro hc
  have hw := wt_in q 9
  have h0 : wt q 9 = 0 := by omega
  have mono : ∀ i j : Nat, i ≤ j → wt q i ≤ wt q j := fun i j hij => by
    induction j with
    | zero => rw [show i = 0 by omega]; exact Int.le_refl _
    | succ j ih =>
      by_cases h : i = j + 1
      · rw [h]; exact Int.le_refl _
      · have := ih (by omega)
        have := nz_in (q.getD j 0)
        show wt q i ≤ wt q j + nz (q.getD j 0)
        omega
  have all : ∀ j, j < 9 → q.getD j 0 = 0 := fun j hj => by
    apply Decidable.byContradiction
    intro hne
    have h1 := mono (j + 1) 9 (by omega)
    have h2 : wt q (j + 1) = wt q j + nz (q.getD j 0) := rfl
    have h3 := wt_in q j
    unfold nz at h2
    rw [if_neg hne] at h2
    omega
  have : q = z9 := by
    refine List.ext_getElem? fun j => ?_
    by_cases hj : j < 9
    · have h1 := all j hj
      rw [List.getD_eq_getElem?_getD, List.getElem?_eq_getElem (by omega)] at h1
      rw [List.getElem?_eq_getElem (by omega)]
      have h1' : q[j] = 0 := h1
      rw [h1']
      have : j = 0 ∨ j = 1 ∨ j = 2 ∨ j = 3 ∨ j = 4 ∨ j = 5 ∨ j = 6 ∨ j = 7 ∨ j = 8 := by omega
      rcases this with rfl | rfl | rfl | rfl | rfl | rfl | rfl | rfl | rfl <;> rfl
    · rw [List.getElem?_eq_none (by omega), List.getElem?_eq_none (by show z9.length ≤ j; have : z9.length = 9 := rfl; omega)]
  rw [this] at hz
  simp [isZ] at hz
theorem more_in {x : Sch} (hx : isX x = true) (hw : Wid 27 x.ps) : 0 ≤ more x ∧ more x ≤ 750 := by
  have hl := (isX_sz hx).2
  have ok : ∀ j, j < x.ps.length → ∀ s, s < 3 → 1 ≤ wt (seg (x.ps.getD j []) s) 9 := fun j hj s hs => by
    have h1 : x.ps.all (okProd x) = true := by
      unfold isX at hx
      simp only [Bool.and_eq_true] at hx
      exact hx.2
    have hm : x.ps.getD j [] ∈ x.ps := by
      rw [List.getD_eq_getElem?_getD, List.getElem?_eq_getElem hj]
      exact List.getElem_mem hj
    have h2 := List.all_eq_true.1 h1 _ hm
    have h27 := hw _ hm
    simp only [okProd, hasZ, Bool.and_eq_true, Bool.not_eq_true', Bool.or_eq_false_iff] at h2
    have hz : isZ (seg (x.ps.getD j []) s) = false := by
      have : s = 0 ∨ s = 1 ∨ s = 2 := by omega
      rcases this with rfl | rfl | rfl
      · exact h2.2.1.1
      · exact h2.2.1.2
      · exact h2.2.2
    exact wt_pos (by unfold seg; rw [List.length_take, List.length_drop, h27]; omega) hz
  have n0 : 0 ≤ cw x.ps 0 x.ps.length := sm_nn fun j hj => by have := ok j hj 0 (by omega); omega
  have n1 : 0 ≤ cw x.ps 1 x.ps.length := sm_nn fun j hj => by have := ok j hj 1 (by omega); omega
  have b0 := cw_in x.ps 0 x.ps.length
  have b1 := cw_in x.ps 1 x.ps.length
  have b2 := cq_in x.ps x.ps.length 9
  have b2' : (x.ps.length : Int) * ((9 : Nat) : Int) ≤ 30 * 9 := (mul_in (A := 30) (B := 9) (by omega) (by omega)).2
  unfold more
  omega
theorem zz_in {z M : Int} (hz : 1 ≤ z ∧ z ≤ 6561000) (hM : 0 ≤ M ∧ M ≤ 750) : (1 ≤ z * z ∧ z * z ≤ 43046721000000) ∧ (0 ≤ M * z ∧ M * z ≤ 4920750000) ∧ 0 ≤ M * z * z ∧ M * z * z ≤ 32285040750000000 := by
  have h1 := mul_in1 (A := 6561000) (B := 6561000) hz hz
  have h2 := mul_in (a := M) (b := z) (A := 750) (B := 6561000) hM (by omega)
  have h3 := mul_in (a := M * z) (b := z) (A := 4920750000) (B := 6561000) (by omega) (by omega)
  omega
theorem size_in {z n : Int} {k : Nat} (hn : 1 ≤ n) (hz : 1 ≤ z ∧ z * n ^ k ≤ 6561000) : z ≤ 6561000 := by
  have h1 := (pow_in (n := n) (N := n) ⟨hn, Int.le_refl _⟩ k).1
  have := Int.mul_le_mul_of_nonneg_left h1 (show 0 ≤ z by omega)
  rw [Int.mul_one] at this
  omega
theorem s_l06Repeated {v : Value} {x : Sch} {k : Nat} {b : Int} {h : AH} {Q : Value → AH → Prop} (hv : Prods h v x.ps) (hx : isX x = true) (hk : k ≤ 8) (hb : 1 ≤ b ∧ b ≤ 100000) (hbk : b * x.n ^ k ≤ 6561000)
    (hQ : ∀ h', h <+: h' → Q (repV (repX x k b)) h') : WF S 91 [schV x v, I64 k, I64 b] h Q := by
  refine WF_fn (fn := c91) rfl rfl ?_
  unfold c91
  have z := (isX_sz hx).1
  have hl := (isX_sz hx).2
  have hM := more_in hx hv.1.widL
  have zn := z.n
  have b2 := mul_in1 (A := 100000) (B := 100000) hb hb
  have b3 := mul_in1 (a := b * b) (b := b) (A := 10000000000) (B := 100000) (by omega) hb
  have b3' : b * b ≤ b * b * b := by
    have := Int.mul_le_mul_of_nonneg_left hb.1 (show 0 ≤ b * b by omega)
    rw [Int.mul_one] at this
    exact this
  try simp (maxSteps := 3000000) (disch := first | omega | (simp only [len_new, len_put, len_kill]; omega)) only [↓xpre, xpost, ↓reduceIte, Nat.reduceEqDiff, Nat.reduceAdd, Nat.reduceSub, Nat.reduceLeDiff, Nat.zero_add, Nat.sub_zero, schV, hv.one]
  generalize hH1 : AH.new h _ = H1
  obtain ⟨hb1, p1, n1⟩ := new_facts hH1
  try simp (maxSteps := 3000000) (disch := first | omega | (simp only [len_new, len_put, len_kill]; omega)) only [↓xpre, xpost, ↓reduceIte, Nat.reduceEqDiff, Nat.reduceAdd, Nat.reduceSub, Nat.reduceLeDiff, Nat.zero_add, Nat.sub_zero, rdn_of hb1]
  refine s_l06Cost (hv.pre p1) hl fun v2 H2 p2 o2 => ?_
  have hb1 := pre_get p2 hb1
  rcases o2 with ⟨_, o2⟩ | ⟨n, e, full, q1, rfl, hg⟩
  · simp [costL] at o2
  have c0 := cw_in x.ps 0 x.ps.length
  have c1 := cw_in x.ps 1 x.ps.length
  have c2 := cq_in x.ps x.ps.length 9
  have ix : ∀ j : Nat, j < 4 → ixsV 1 (.slice (some ⟨n, 0, none⟩) (costL x).length 1) (I64 j) = some (.pointer (some ⟨n, j, none⟩)) := fun j hj => by
    rw [ixsV_some, if_pos ⟨by omega, by show (j : Int) < 4; omega, rfl⟩]
    simp
  have ix0 : ixsV 1 (.slice (some ⟨n, 0, none⟩) (costL x).length 1) (I64 0) = _ := ix 0 (by omega)
  have ix1 : ixsV 1 (.slice (some ⟨n, 0, none⟩) (costL x).length 1) (I64 1) = _ := ix 1 (by omega)
  have ix2 : ixsV 1 (.slice (some ⟨n, 0, none⟩) (costL x).length 1) (I64 2) = _ := ix 2 (by omega)
  have ix3 : ixsV 1 (.slice (some ⟨n, 0, none⟩) (costL x).length 1) (I64 3) = _ := ix 3 (by omega)
  have r0 : AH.rd1 H2 n 0 = some (I64 x.ps.length) := by rw [rd1_of hg]; rfl
  have r1 : AH.rd1 H2 n 1 = some (I64 (cw x.ps 0 x.ps.length)) := by rw [rd1_of hg]; rfl
  have r2 : AH.rd1 H2 n 2 = some (I64 (cw x.ps 1 x.ps.length)) := by rw [rd1_of hg]; rfl
  have r3 : AH.rd1 H2 n 3 = some (I64 (cq x.ps x.ps.length 9)) := by rw [rd1_of hg]; rfl
  try simp (maxSteps := 3000000) (disch := first | omega | (simp only [len_new, len_put, len_kill]; omega)) only [↓xpre, xpost, ↓reduceIte, Nat.reduceEqDiff, Nat.reduceAdd, Nat.reduceSub, Nat.reduceLeDiff, Nat.zero_add, Nat.sub_zero, ix1, ix2, ix3, r1, r2, r3, wrap64_in]
  refine WC_loop_inv (fun m f K1 => ∃ (i : Nat) (t : Int) (s : Int) (w : Int), m = k - i ∧ i ≤ k ∧ f 1 = I64 k ∧ f 3 = .pointer (some ⟨h.length, 0, none⟩) ∧ f 9 = .slice (some ⟨n, 0, none⟩) (costL x).length 1 ∧ f 10 = I64 (more x) ∧ f 11 = I64 t ∧ f 12 = I64 s ∧ f 13 = I64 w ∧ f 14 = I64 i ∧ (K1 = H2) ∧ (rep x.ps.length (more x) x.n (k - i) t s w = repX x k b) ∧ (0 ≤ t ∧ t ≤ 1000000000000000) ∧ (0 ≤ s ∧ s ≤ 1000000000000000) ∧ (1 ≤ w ∧ w * x.n ^ (k - i) ≤ 6561000)) ?_ (k - 0) _ _ ⟨0, b * b * b, b * b * b - b * b, b, rfl, by omega, (by first | rfl | (simp [upd_apply]; done)), (by first | rfl | (simp [upd_apply]; done)), (by first | rfl | (simp [upd_apply]; done)), (by first | rfl | (simp [upd_apply]; done)), (by first | rfl | (simp [upd_apply]; done)), (by first | rfl | (simp [upd_apply]; done)), (by first | rfl | (simp [upd_apply]; done)), (by first | rfl | (simp [upd_apply]; done)), rfl, rfl, (by omega), (by omega), ⟨hb.1, hbk⟩⟩
  rintro m f K1 ⟨i, t, s, w, rfl, hi, f1, f3, f9, f10, f11, f12, f13, f14, hK, hr, ht, hs, hw⟩
  subst hK
  by_cases hlt : (i : Int) < k
  · have hi' : i < k := by omega
    have hwl := size_in (by omega) hw
    obtain ⟨w2, w3, w4⟩ := zz_in ⟨hw.1, hwl⟩ hM
    have ta := mul_in (a := t) (b := (x.ps.length : Int)) (A := 1000000000000000) (B := 30) ht (by omega)
    have sa := mul_in (a := s) (b := (x.ps.length : Int)) (A := 1000000000000000) (B := 30) hs (by omega)
    have wn := mul_in1 (a := w) (b := x.n) (A := 6561000) (B := 3) ⟨hw.1, hwl⟩ zn
    have hrs : rep x.ps.length (more x) x.n (k - i) t s w = if 1000000000000000 < t * x.ps.length ∨ 1000000000000000 < s * x.ps.length ∨ 1000000000000000 < s * x.ps.length + more x * w * w then none else rep x.ps.length (more x) x.n (k - (i + 1)) (t * x.ps.length) (s * x.ps.length + more x * w * w) (w * x.n) := by
      rw [show k - i = (k - (i + 1)) + 1 by omega]
      rfl
    rw [hrs] at hr
    have hQ2 := hQ _ (p1.trans p2)
    have d0 := decide_eq_true hlt
    have dz := decide_eq_false (show ¬ (1000000000000000 < w * w) by omega)
    by_cases k1 : 1000000000000000 < t * x.ps.length
    · try simp (maxSteps := 3000000) (disch := first | omega | (simp only [len_new, len_put, len_kill]; omega)) only [↓xpre, xpost, ↓reduceIte, Nat.reduceEqDiff, Nat.reduceAdd, Nat.reduceSub, Nat.reduceLeDiff, Nat.zero_add, Nat.sub_zero, f1, f3, f9, f10, f11, f12, f13, f14, d0, ix0, r0, wrap64_in, decide_eq_true k1, WG_un, xres_tmp3]
      rw [← hr, if_pos (.inl k1)] at hQ2
      exact hQ2
    have d1 := decide_eq_false k1
    by_cases k2 : 1000000000000000 < s * x.ps.length
    · try simp (maxSteps := 3000000) (disch := first | omega | (simp only [len_new, len_put, len_kill]; omega)) only [↓xpre, xpost, ↓reduceIte, Nat.reduceEqDiff, Nat.reduceAdd, Nat.reduceSub, Nat.reduceLeDiff, Nat.zero_add, Nat.sub_zero, f1, f3, f9, f10, f11, f12, f13, f14, d0, ix0, r0, wrap64_in, d1, decide_eq_true k2, WG_un, xres_tmp3]
      rw [← hr, if_pos (.inr (.inl k2))] at hQ2
      exact hQ2
    have d2 := decide_eq_false k2
    by_cases k3 : 1000000000000000 < s * x.ps.length + more x * w * w
    · try simp (maxSteps := 3000000) (disch := first | omega | (simp only [len_new, len_put, len_kill]; omega)) only [↓xpre, xpost, ↓reduceIte, Nat.reduceEqDiff, Nat.reduceAdd, Nat.reduceSub, Nat.reduceLeDiff, Nat.zero_add, Nat.sub_zero, f1, f3, f9, f10, f11, f12, f13, f14, d0, ix0, r0, wrap64_in, d1, d2, dz, rd1_of hb1, decide_eq_true k3, xres_tmp3]
      rw [← hr, if_pos (.inr (.inr k3))] at hQ2
      exact hQ2
    · try simp (maxSteps := 3000000) (disch := first | omega | (simp only [len_new, len_put, len_kill]; omega)) only [↓xpre, xpost, ↓reduceIte, Nat.reduceEqDiff, Nat.reduceAdd, Nat.reduceSub, Nat.reduceLeDiff, Nat.zero_add, Nat.sub_zero, f1, f3, f9, f10, f11, f12, f13, f14, d0, ix0, r0, wrap64_in, d1, d2, dz, rd1_of hb1, decide_eq_false k3]
      rw [if_neg (by omega)] at hr
      refine InvQ_go (k - (i + 1)) (by omega) ⟨(i + 1), (t * x.ps.length), (s * x.ps.length + more x * w * w), (w * x.n), rfl, by omega, (by first | rfl | exact f1 | (simp only [upd_apply]; rfl) | (show I64 _ = _; congr 1; omega)), (by first | rfl | exact f3 | (simp only [upd_apply]; rfl) | (show I64 _ = _; congr 1; omega)), (by first | rfl | exact f9 | (simp only [upd_apply]; rfl) | (show I64 _ = _; congr 1; omega)), (by first | rfl | exact f10 | (simp only [upd_apply]; rfl) | (show I64 _ = _; congr 1; omega)), (by first | rfl | exact f11 | (simp only [upd_apply]; rfl) | (show I64 _ = _; congr 1; omega)), (by first | rfl | exact f12 | (simp only [upd_apply]; rfl) | (show I64 _ = _; congr 1; omega)), (by first | rfl | exact f13 | (simp only [upd_apply]; rfl) | (show I64 _ = _; congr 1; omega)), (by first | rfl | exact f14 | (simp only [upd_apply]; rfl) | (show I64 _ = _; congr 1; omega)), rfl, hr, (by omega), (by omega), ⟨wn.1, ?_⟩⟩
      have e1 := hw.2
      rw [show k - i = (k - (i + 1)) + 1 by omega, Int.pow_succ, Int.mul_comm (x.n ^ _) x.n, ← Int.mul_assoc] at e1
      exact e1
  · have ei : k - i = 0 := by omega
    rw [ei] at hr
    try simp (maxSteps := 3000000) (disch := first | omega | (simp only [len_new, len_put, len_kill]; omega)) only [↓xpre, xpost, ↓reduceIte, Nat.reduceEqDiff, Nat.reduceAdd, Nat.reduceSub, Nat.reduceLeDiff, Nat.zero_add, Nat.sub_zero, f1, f3, f9, f10, f11, f12, f13, f14, decide_eq_false hlt, xres_tmp3]
    have hQ2 := hQ _ (p1.trans p2)
    rw [← hr] at hQ2
    exact hQ2
end Go.Proofs.Ytphklalbkpohfaa.X

/- Limited sums of products; the program's repeated costs. -/
set_option linter.unusedVariables false
set_option linter.unusedSimpArgs false
set_option maxRecDepth 20000
set_option maxHeartbeats 4000000
namespace Go.Proofs.Ytphklalbkpohfaa.X
open Go Go.RowKit

def mn (a : Int) : Int := if 1000000000000001 < a then 1000000000000001 else a
def over (a b : Int) : Prop := 0 < mn b ∧ (1000000000000000 : Int).tdiv (mn b) < mn a
instance {a b : Int} : Decidable (over a b) := by unfold over; infer_instance
def limN : Int → List (List Int) → Int
  | all, [] => all
  | all, q :: r => if over (q.getD 0 0) (q.getD 1 0) then 1000000000000001 else limN (mn (all + mn (q.getD 0 0) * mn (q.getD 1 0))) r
theorem mn_in {a : Int} (h : 0 ≤ a) : 0 ≤ mn a ∧ mn a ≤ 1000000000000001 := by unfold mn; split <;> omega
theorem mn_id {a : Int} (h : a ≤ 1000000000000001) : mn a = a := by unfold mn; rw [if_neg (by omega)]
theorem over_iff {a b : Int} (ha : 0 ≤ a) (hb : 0 ≤ b) : over a b ↔ 1000000000000000 < mn a * mn b := by
  have h1 := mn_in ha
  have h2 := mn_in hb
  unfold over
  by_cases h0 : 0 < mn b
  · rw [Int.tdiv_eq_ediv_of_nonneg (by omega), Int.ediv_lt_iff_lt_mul h0]
    exact ⟨fun h => h.2, fun h => ⟨h0, h⟩⟩
  · have e : mn b = 0 := by omega
    rw [e, Int.mul_zero]
    omega
theorem mn_mul {a b : Int} (ha : 0 ≤ a) (hb : 0 ≤ b) : (1000000000000000 < mn a * mn b ↔ 1000000000000000 < a * b) ∧ (¬ 1000000000000000 < a * b → mn a * mn b = a * b) := by
  by_cases b0 : b = 0
  · subst b0
    rw [mn_id (a := 0) (by omega), Int.mul_zero, Int.mul_zero]
    omega
  by_cases a0 : a = 0
  · subst a0
    rw [mn_id (a := 0) (by omega), Int.zero_mul, Int.zero_mul]
    omega
  have p1 : a ≤ a * b := by
    have := Int.mul_le_mul_of_nonneg_left (show 1 ≤ b by omega) ha
    rw [Int.mul_one] at this
    exact this
  have p2 : b ≤ a * b := by
    have := Int.mul_le_mul_of_nonneg_right (show 1 ≤ a by omega) hb
    rw [Int.one_mul] at this
    exact this
  have ma : 1 ≤ mn a := by unfold mn; split <;> omega
  have mb : 1 ≤ mn b := by unfold mn; split <;> omega
  have q1 : mn a ≤ mn a * mn b := by
    have := Int.mul_le_mul_of_nonneg_left mb (show 0 ≤ mn a by omega)
    rw [Int.mul_one] at this
    exact this
  have q2 : mn b ≤ mn a * mn b := by
    have := Int.mul_le_mul_of_nonneg_right ma (show 0 ≤ mn b by omega)
    rw [Int.one_mul] at this
    exact this
  by_cases ha1 : 1000000000000001 < a
  · have : mn a = 1000000000000001 := by unfold mn; rw [if_pos ha1]
    omega
  · by_cases hb1 : 1000000000000001 < b
    · have : mn b = 1000000000000001 := by unfold mn; rw [if_pos hb1]
      omega
    · rw [mn_id (a := a) (by omega), mn_id (a := b) (by omega)]
      omega
theorem lim1 {a b : Int} (ha : 0 ≤ a) (hb : 0 ≤ b) : limN 0 [[a, b]] = mn (a * b) := by
  have k := mn_mul ha hb
  show (if over a b then 1000000000000001 else mn (0 + mn a * mn b)) = mn (a * b)
  by_cases h : 1000000000000000 < a * b
  · rw [if_pos ((over_iff ha hb).2 (k.1.2 h))]
    unfold mn
    split <;> omega
  · rw [if_neg (fun e => h (k.1.1 ((over_iff ha hb).1 e))), k.2 h, Int.zero_add]
theorem lim2 {a b c d : Int} (ha : 0 ≤ a) (hb : 0 ≤ b) (hc : 0 ≤ c) (hd : 0 ≤ d) : limN 0 [[a, b], [c, d]] = mn (a * b + c * d) := by
  have k := mn_mul ha hb
  have k' := mn_mul hc hd
  have n1 := Int.mul_nonneg ha hb
  have n2 := Int.mul_nonneg hc hd
  show (if over a b then 1000000000000001 else if over c d then 1000000000000001 else mn (mn (0 + mn a * mn b) + mn c * mn d)) = mn (a * b + c * d)
  by_cases h : 1000000000000000 < a * b
  · rw [if_pos ((over_iff ha hb).2 (k.1.2 h))]
    unfold mn
    split <;> omega
  · rw [if_neg (fun e => h (k.1.1 ((over_iff ha hb).1 e))), k.2 h, Int.zero_add, mn_id (a := a * b) (by omega)]
    by_cases h' : 1000000000000000 < c * d
    · rw [if_pos ((over_iff hc hd).2 (k'.1.2 h'))]
      unfold mn
      split <;> omega
    · rw [if_neg (fun e => h' (k'.1.1 ((over_iff hc hd).1 e))), k'.2 h']
theorem i_limited {v : Value} {L : List (List Int)} {h : AH} {Q : Value → AH → Prop} (hv : Els .i64 2 h v L) (hl : (L.length : Int) ≤ 1048576) (hn : ∀ i, i < L.length → 0 ≤ (L.getD i []).getD 0 0 ∧ 0 ≤ (L.getD i []).getD 1 0)
    (hQ : ∀ h', h <+: h' → Q (I64 (limN 0 L)) h') : WF S 112 [v] h Q := by
  refine WF_fn (fn := c112) rfl rfl ?_
  unfold c112
  try simp (maxSteps := 3000000) (disch := first | omega | (simp only [len_new, len_put, len_kill]; omega)) only [↓xpre, xpost, ↓reduceIte, Nat.reduceEqDiff, Nat.reduceAdd, Nat.reduceSub, Nat.reduceLeDiff, Nat.zero_add, Nat.sub_zero, hv.len]
  refine WC_loop_inv (fun m f K1 => ∃ (i : Nat) (all : Int), m = L.length - i ∧ i ≤ L.length ∧ f 3 = I64 all ∧ f 8 = v ∧ f 9 = I64 L.length ∧ f 10 = I64 i ∧ (h <+: K1) ∧ (0 ≤ all ∧ all ≤ 1000000000000001) ∧ (limN all (L.drop i) = limN 0 L)) ?_ (L.length - 0) _ _ ⟨0, 0, rfl, by omega, (by first | rfl | (simp [upd_apply]; done)), (by first | rfl | (simp [upd_apply]; done)), (by first | rfl | (simp [upd_apply]; done)), (by first | rfl | (simp [upd_apply]; done)), List.prefix_refl _, (by omega), rfl⟩
  rintro m f K1 ⟨i, all, rfl, hi, f3, f8, f9, f10, pp, ha, hL⟩
  have hvK := hv.pre pp
  by_cases hlt : (i : Int) < L.length
  · have hi' : i < L.length := by omega
    obtain ⟨n, off, hix, hrn, hr1⟩ := hvK.at hi'
    have r2 := hrn 0 2 (by omega)
    have wd := hvK.wid hi'
    rw [List.drop_zero, List.take_of_length_le (by omega), Nat.add_zero] at r2
    have hn' := hn i hi'
    have hd : L.drop i = L.getD i [] :: L.drop (i + 1) := by
      rw [List.getD_eq_getElem?_getD, List.getElem?_eq_getElem hi', List.drop_eq_getElem_cons hi']
      rfl
    rw [hd] at hL
    generalize L.getD i [] = q at *
    obtain ⟨a, b, rfl⟩ : ∃ a b, q = [a, b] := by
      match q, wd with
      | [a, b], _ => exact ⟨a, b, rfl⟩
    have ha0 : 0 ≤ a := hn'.1
    have hb0 : 0 ≤ b := hn'.2
    have e1 : cel .i64 [a, b] = [I64 a, I64 b] := rfl
    rw [e1] at r2
    have ma := mn_in ha0
    have mb := mn_in hb0
    have m1 : mm1 false (I64 a) (I64 1000000000000001) = some (I64 (mn a)) := rfl
    have m2 : mm1 false (I64 b) (I64 1000000000000001) = some (I64 (mn b)) := rfl
    have ix0 : ∀ n : Nat, ixaV 2 1 (.pointer (some ⟨n, 0, none⟩)) (I64 0) = some (.pointer (some ⟨n, 0, none⟩)) := fun n => rfl
    have ix1 : ∀ n : Nat, ixaV 2 1 (.pointer (some ⟨n, 0, none⟩)) (I64 1) = some (.pointer (some ⟨n, 1, none⟩)) := fun n => rfl
    have hs : limN all ([a, b] :: L.drop (i + 1)) = if over a b then 1000000000000001 else limN (mn (all + mn a * mn b)) (L.drop (i + 1)) := rfl
    have ov := over_iff ha0 hb0
    have d0 := decide_eq_true hlt
    by_cases k1 : 0 < mn b
    · have tq : 0 ≤ (1000000000000000 : Int).tdiv (mn b) ∧ (1000000000000000 : Int).tdiv (mn b) ≤ 1000000000000000 := by
        rw [Int.tdiv_eq_ediv_of_nonneg (by omega)]
        exact ⟨Int.ediv_nonneg (by omega) (by omega), Int.ediv_le_self _ (by omega)⟩
      by_cases k2 : (1000000000000000 : Int).tdiv (mn b) < mn a
      · try simp (maxSteps := 3000000) (disch := first | omega | (simp only [len_new, len_put, len_kill]; omega)) only [↓xpre, xpost, ↓reduceIte, Nat.reduceEqDiff, Nat.reduceAdd, Nat.reduceSub, Nat.reduceLeDiff, Nat.zero_add, Nat.sub_zero, f3, f8, f9, f10, d0, hix, r2, ↓WX_ixa, ix0, ix1, ↓WX_mm1, m1, m2, decide_eq_true k1, bin_quo, wrap64_in, decide_eq_true k2]
        have := hQ _ (pp.trans (pre_new (b := ⟨[I64 a, I64 b], 134, false, true⟩) (List.prefix_refl _)))
        rw [← hL, hs, if_pos ⟨k1, k2⟩] at this
        exact this
      · have no : ¬ over a b := fun e => k2 e.2
        rw [hs, if_neg no] at hL
        have pb : ¬ 1000000000000000 < mn a * mn b := fun e => no (ov.2 e)
        have pn := Int.mul_nonneg ma.1 mb.1
        have m3 : mm1 false (I64 (all + mn a * mn b)) (I64 1000000000000001) = some (I64 (mn (all + mn a * mn b))) := rfl
        try simp (maxSteps := 3000000) (disch := first | omega | (simp only [len_new, len_put, len_kill]; omega)) only [↓xpre, xpost, ↓reduceIte, Nat.reduceEqDiff, Nat.reduceAdd, Nat.reduceSub, Nat.reduceLeDiff, Nat.zero_add, Nat.sub_zero, f3, f8, f9, f10, d0, hix, r2, ↓WX_ixa, ix0, ix1, ↓WX_mm1, m1, m2, decide_eq_true k1, bin_quo, wrap64_in, decide_eq_false k2, m3]
        refine InvQ_go (L.length - (i + 1)) (by omega) ⟨(i + 1), (mn (all + mn a * mn b)), rfl, by omega, (by first | rfl | exact f3 | (simp only [upd_apply]; rfl) | (show I64 _ = _; congr 1; omega)), (by first | rfl | exact f8 | (simp only [upd_apply]; rfl) | (show I64 _ = _; congr 1; omega)), (by first | rfl | exact f9 | (simp only [upd_apply]; rfl) | (show I64 _ = _; congr 1; omega)), (by first | rfl | exact f10 | (simp only [upd_apply]; rfl) | (show I64 _ = _; congr 1; omega)), (pp.trans (pre_new (List.prefix_refl _))), (mn_in (by omega)), hL⟩
    · have no : ¬ over a b := fun e => k1 e.1
      rw [hs, if_neg no] at hL
      have e0 : mn b = 0 := by omega
      have pe : mn a * mn b = 0 := by rw [e0, Int.mul_zero]
      have m3 : mm1 false (I64 (all + mn a * mn b)) (I64 1000000000000001) = some (I64 (mn (all + mn a * mn b))) := rfl
      try simp (maxSteps := 3000000) (disch := first | omega | (simp only [len_new, len_put, len_kill]; omega)) only [↓xpre, xpost, ↓reduceIte, Nat.reduceEqDiff, Nat.reduceAdd, Nat.reduceSub, Nat.reduceLeDiff, Nat.zero_add, Nat.sub_zero, f3, f8, f9, f10, d0, hix, r2, ↓WX_ixa, ix0, ix1, ↓WX_mm1, m1, m2, decide_eq_false k1, WG_un, wrap64_in, m3]
      refine InvQ_go (L.length - (i + 1)) (by omega) ⟨(i + 1), (mn (all + mn a * mn b)), rfl, by omega, (by first | rfl | exact f3 | (simp only [upd_apply]; rfl) | (show I64 _ = _; congr 1; omega)), (by first | rfl | exact f8 | (simp only [upd_apply]; rfl) | (show I64 _ = _; congr 1; omega)), (by first | rfl | exact f9 | (simp only [upd_apply]; rfl) | (show I64 _ = _; congr 1; omega)), (by first | rfl | exact f10 | (simp only [upd_apply]; rfl) | (show I64 _ = _; congr 1; omega)), (pp.trans (pre_new (List.prefix_refl _))), (mn_in (by omega)), hL⟩
  · have ei : i = L.length := by omega
    subst ei
    rw [List.drop_length] at hL
    try simp (maxSteps := 3000000) (disch := first | omega | (simp only [len_new, len_put, len_kill]; omega)) only [↓xpre, xpost, ↓reduceIte, Nat.reduceEqDiff, Nat.reduceAdd, Nat.reduceSub, Nat.reduceLeDiff, Nat.zero_add, Nat.sub_zero, f3, f8, f9, f10, decide_eq_false hlt]
    have := hQ _ pp
    rw [← hL] at this
    exact this
theorem els_1 {h : AH} {n : Nat} {a b : Int} {e : TypeId} {ro full : Bool} (hg : h.get n = some ⟨[I64 a, I64 b], e, ro, full⟩) : Els .i64 2 h (.slice (some ⟨n, 0, none⟩) 1 2) [[a, b]] := by
  refine .inr ⟨n, 0, _, rfl, hg, fun i hi => ?_⟩
  have : i = 0 := by simpa using hi
  subst this
  exact ⟨by simp, rfl⟩
theorem els_2 {h : AH} {n : Nat} {a b c d : Int} {e : TypeId} {ro full : Bool} (hg : h.get n = some ⟨[I64 a, I64 b, I64 c, I64 d], e, ro, full⟩) : Els .i64 2 h (.slice (some ⟨n, 0, none⟩) 2 2) [[a, b], [c, d]] := by
  refine .inr ⟨n, 0, _, rfl, hg, fun i hi => ?_⟩
  have : i = 0 ∨ i = 1 := by
    have : i < 2 := hi
    omega
  rcases this with rfl | rfl
  · exact ⟨by simp, rfl⟩
  · exact ⟨by simp, rfl⟩
theorem i_lim1 {n : Nat} {a b : Int} {h : AH} {e : TypeId} {ro full : Bool} {Q : Value → AH → Prop} (hg : h.get n = some ⟨[I64 a, I64 b], e, ro, full⟩) (ha : 0 ≤ a) (hb : 0 ≤ b) (hQ : ∀ h', h <+: h' → Q (I64 (mn (a * b))) h') :
    WF S 112 [.slice (some ⟨n, 0, none⟩) 1 2] h Q := by
  refine i_limited (els_1 hg) (by simp) (fun i hi => ?_) fun h' p => ?_
  · have : i = 0 := by simpa using hi
    subst this
    exact ⟨ha, hb⟩
  · rw [lim1 ha hb]
    exact hQ h' p
theorem i_lim2 {n : Nat} {a b c d : Int} {h : AH} {e : TypeId} {ro full : Bool} {Q : Value → AH → Prop} (hg : h.get n = some ⟨[I64 a, I64 b, I64 c, I64 d], e, ro, full⟩) (ha : 0 ≤ a) (hb : 0 ≤ b) (hc : 0 ≤ c) (hd : 0 ≤ d)
    (hQ : ∀ h', h <+: h' → Q (I64 (mn (a * b + c * d))) h') : WF S 112 [.slice (some ⟨n, 0, none⟩) 2 2] h Q := by
  refine i_limited (els_2 hg) (by simp) (fun i hi => ?_) fun h' p => ?_
  · have : i = 0 ∨ i = 1 := by
      have : i < 2 := hi
      omega
    rcases this with rfl | rfl
    · exact ⟨ha, hb⟩
    · exact ⟨hc, hd⟩
  · rw [lim2 ha hb hc hd]
    exact hQ h' p
end Go.Proofs.Ytphklalbkpohfaa.X

/- The program's repeated and mixed costs. -/
set_option linter.unusedVariables false
set_option linter.unusedSimpArgs false
set_option maxRecDepth 20000
set_option maxHeartbeats 4000000
namespace Go.Proofs.Ytphklalbkpohfaa.X
open Go Go.RowKit

theorem mn_gt {a : Int} : (1000000000000000 < mn a) ↔ 1000000000000000 < a := by unfold mn; split <;> omega
theorem i_repeated {v : Value} {x : Sch} {k : Nat} {b : Int} {h : AH} {Q : Value → AH → Prop} (hv : Prods h v x.ps) (hx : isX x = true) (hk : k ≤ 8) (hb : 1 ≤ b ∧ b ≤ 6561000) (hb0 : b ≤ 100000 ∨ k = 0) (hbk : b * x.n ^ k ≤ 6561000)
    (hQ : ∀ h', h <+: h' → (b ≤ 100000 → Q (repV (repX x k b)) h') ∧ (100000 < b → ∀ t s : Int, 0 ≤ t ∧ t ≤ 1000000000000001 → 0 ≤ s ∧ s ≤ 1000000000000001 → Q (.tuple #[I64 t, I64 s, .bool false]) h')) : WF S 92 [schV x v, I64 k, I64 b] h Q := by
  refine WF_fn (fn := c92) rfl rfl ?_
  unfold c92
  have z := (isX_sz hx).1
  have hl := (isX_sz hx).2
  have hM := more_in hx hv.1.widL
  have zn := z.n
  have b2 := mul_in1 (A := 6561000) (B := 6561000) hb hb
  have mb2 : mn (b * b) = b * b := mn_id (by omega)
  have b3 := Int.mul_nonneg (show 0 ≤ b * b by omega) (show 0 ≤ b by omega)
  have b3m := Int.mul_nonneg (show 0 ≤ b * b by omega) (show 0 ≤ b - 1 by omega)
  have e3m : b * b * (b - 1) = b * b * b - b * b := by rw [Int.mul_sub, Int.mul_one]
  try simp (maxSteps := 3000000) (disch := first | omega | (simp only [len_new, len_put, len_kill]; omega)) only [↓xpre, xpost, ↓reduceIte, Nat.reduceEqDiff, Nat.reduceAdd, Nat.reduceSub, Nat.reduceLeDiff, Nat.zero_add, Nat.sub_zero, schV, hv.one]
  generalize hH1 : AH.new h _ = H1
  obtain ⟨hb1, p1, n1⟩ := new_facts hH1
  try simp (maxSteps := 3000000) (disch := first | omega | (simp only [len_new, len_put, len_kill]; omega)) only [↓xpre, xpost, ↓reduceIte, Nat.reduceEqDiff, Nat.reduceAdd, Nat.reduceSub, Nat.reduceLeDiff, Nat.zero_add, Nat.sub_zero, rdn_of hb1]
  refine i_costOf (hv.pre p1) hl fun H2 p2 => ?_
  have hb1 := pre_get p2 hb1
  have w1 : ∀ (h1 : AH) (e : TypeId), (h1.new ⟨[.int .i64 0, .int .i64 0, .int .i64 0, .int .i64 0], e, false, true⟩).wr h1.length 0 (cel .i64 (costL x)) = some (h1.new ⟨cel .i64 (costL x), e, false, true⟩) := fun h1 e => wr_all rfl
  try simp (maxSteps := 3000000) (disch := first | omega | (simp only [len_new, len_put, len_kill]; omega)) only [↓xpre, xpost, ↓reduceIte, Nat.reduceEqDiff, Nat.reduceAdd, Nat.reduceSub, Nat.reduceLeDiff, Nat.zero_add, Nat.sub_zero, aggV, cel_all, cel_len, costL_len, ↓w1, List.append_nil, fillL, zrep]
  generalize hH3 : AH.new H2 _ = H3
  obtain ⟨hb3, p3, n3⟩ := new_facts hH3
  generalize hH4 : AH.new H3 _ = H4
  obtain ⟨hb4, p4, n4⟩ := new_facts hH4
  refine i_lim1 hb4 (by omega) (by omega) fun H5 p5 => ?_
  rw [mb2]
  try simp (maxSteps := 3000000) (disch := first | omega | (simp only [len_new, len_put, len_kill]; omega)) only [↓xpre, xpost, ↓reduceIte, Nat.reduceEqDiff, Nat.reduceAdd, Nat.reduceSub, Nat.reduceLeDiff, Nat.zero_add, Nat.sub_zero, fillL, zrep]
  generalize hH6 : AH.new H5 _ = H6
  obtain ⟨hb6, p6, n6⟩ := new_facts hH6
  refine i_lim1 hb6 (by omega) (by omega) fun H7 p7 => ?_
  try simp (maxSteps := 3000000) (disch := first | omega | (simp only [len_new, len_put, len_kill]; omega)) only [↓xpre, xpost, ↓reduceIte, Nat.reduceEqDiff, Nat.reduceAdd, Nat.reduceSub, Nat.reduceLeDiff, Nat.zero_add, Nat.sub_zero, fillL, zrep, wrap64_in]
  generalize hH8 : AH.new H7 _ = H8
  obtain ⟨hb8, p8, n8⟩ := new_facts hH8
  refine i_lim1 hb8 (by omega) (by omega) fun H9 p9 => ?_
  have hc9 := pre_get (((p4.trans p5).trans (p6.trans p7)).trans (p8.trans p9)) hb3
  have hb9 := pre_get ((((p3.trans p4).trans p5).trans (p6.trans p7)).trans (p8.trans p9)) hb1
  have ph := (p1.trans p2).trans ((((p3.trans p4).trans p5).trans (p6.trans p7)).trans (p8.trans p9))
  rw [e3m]
  have c0 := cw_in x.ps 0 x.ps.length
  have c1 := cw_in x.ps 1 x.ps.length
  have c2 := cq_in x.ps x.ps.length 9
  have c2' : (x.ps.length : Int) * ((9 : Nat) : Int) ≤ 30 * 9 := (mul_in (A := 30) (B := 9) (by omega) (by omega)).2
  try simp (maxSteps := 3000000) (disch := first | omega | (simp only [len_new, len_put, len_kill]; omega)) only [↓xpre, xpost, ↓reduceIte, Nat.reduceEqDiff, Nat.reduceAdd, Nat.reduceSub, Nat.reduceLeDiff, Nat.zero_add, Nat.sub_zero]
  by_cases hbig : 100000 < b
  · have hk0 : k = 0 := by omega
    subst hk0
    have b2big : 10000000000 ≤ b * b := by
      have := (mul_in1 (a := 100000) (b := 100000) (A := b) (B := b) (by omega) (by omega)).2
      omega
    have hm : mn (b * b * b) = 1000000000000001 := by
      have h1 := Int.mul_le_mul_of_nonneg_left (show 100001 ≤ b by omega) (show 0 ≤ b * b by omega)
      unfold mn
      rw [if_pos (by omega)]
    have ms := mn_in (show 0 ≤ b * b * b - b * b by omega)
    rw [hm]
    refine WC_loop ?_
    try simp (maxSteps := 3000000) (disch := first | omega | (simp only [len_new, len_put, len_kill]; omega)) only [↓xpre, xpost, ↓reduceIte, Nat.reduceEqDiff, Nat.reduceAdd, Nat.reduceSub, Nat.reduceLeDiff, Nat.zero_add, Nat.sub_zero, decide_eq_false (show ¬ ((0 : Int) < ((0 : Nat) : Int)) by omega), decide_eq_false (show ¬ ((1000000000000001 : Int) ≤ 1000000000000000) by omega), WG_un, xres_tmp3]
    exact (hQ _ ph).2 hbig _ _ (by omega) ms
  have hb5 : b ≤ 100000 := by omega
  have hQ := fun h' p => (hQ h' p).1 hb5
  have b2 := mul_in1 (A := 100000) (B := 100000) ⟨hb.1, hb5⟩ ⟨hb.1, hb5⟩
  have b3 := mul_in1 (a := b * b) (b := b) (A := 10000000000) (B := 100000) (by omega) ⟨hb.1, hb5⟩
  have b3' : b * b ≤ b * b * b := by
    have := Int.mul_le_mul_of_nonneg_left hb.1 (show 0 ≤ b * b by omega)
    rw [Int.mul_one] at this
    exact this
  rw [mn_id (a := b * b * b) (by omega), mn_id (a := b * b * b - b * b) (by omega)]
  refine WC_loop_inv (fun m f K1 => ∃ (i : Nat) (t : Int) (s : Int) (w : Int), m = k - i ∧ i ≤ k ∧ f 3 = .pointer (some ⟨h.length, 0, none⟩) ∧ f 9 = .pointer (some ⟨H2.length, 0, none⟩) ∧ f 11 = I64 t ∧ f 12 = I64 s ∧ f 13 = I64 w ∧ f 33 = I64 k ∧ f 34 = I64 i ∧ (H9 <+: K1) ∧ (rep x.ps.length (more x) x.n (k - i) t s w = repX x k b) ∧ (0 ≤ t ∧ t ≤ 1000000000000000) ∧ (0 ≤ s ∧ s ≤ 1000000000000000) ∧ (1 ≤ w ∧ w * x.n ^ (k - i) ≤ 6561000)) ?_ (k - 0) _ _ ⟨0, b * b * b, b * b * b - b * b, b, rfl, by omega, (by first | rfl | (simp [upd_apply]; done)), (by first | rfl | (simp [upd_apply]; done)), (by first | rfl | (simp [upd_apply]; done)), (by first | rfl | (simp [upd_apply]; done)), (by first | rfl | (simp [upd_apply]; done)), (by first | rfl | (simp [upd_apply]; done)), (by first | rfl | (simp [upd_apply]; done)), List.prefix_refl _, rfl, (by omega), (by omega), ⟨hb.1, hbk⟩⟩
  rintro m f K1 ⟨i, t, s, w, rfl, hi, f3, f9, f11, f12, f13, f33, f34, pp, hr, ht, hs, hw⟩
  have hcK := pre_get pp hc9
  have hbK := pre_get pp hb9
  by_cases hlt : (i : Int) < k
  · have hi' : i < k := by omega
    have hwl := size_in (by omega) hw
    obtain ⟨w2, w3, w4⟩ := zz_in ⟨hw.1, hwl⟩ hM
    have ta := mul_in (a := t) (b := (x.ps.length : Int)) (A := 1000000000000000) (B := 30) ht (by omega)
    have sa := mul_in (a := s) (b := (x.ps.length : Int)) (A := 1000000000000000) (B := 30) hs (by omega)
    have wn := mul_in1 (a := w) (b := x.n) (A := 6561000) (B := 3) ⟨hw.1, hwl⟩ zn
    have hrs : rep x.ps.length (more x) x.n (k - i) t s w = if 1000000000000000 < t * x.ps.length ∨ 1000000000000000 < s * x.ps.length ∨ 1000000000000000 < s * x.ps.length + more x * w * w then none else rep x.ps.length (more x) x.n (k - (i + 1)) (t * x.ps.length) (s * x.ps.length + more x * w * w) (w * x.n) := by
      rw [show k - i = (k - (i + 1)) + 1 by omega]
      rfl
    rw [hrs] at hr
    have ix0 : ∀ n : Nat, ixaV 4 1 (.pointer (some ⟨n, 0, none⟩)) (I64 0) = some (.pointer (some ⟨n, 0, none⟩)) := fun n => rfl
    have ix1 : ∀ n : Nat, ixaV 4 1 (.pointer (some ⟨n, 0, none⟩)) (I64 1) = some (.pointer (some ⟨n, 1, none⟩)) := fun n => rfl
    have ix2 : ∀ n : Nat, ixaV 4 1 (.pointer (some ⟨n, 0, none⟩)) (I64 2) = some (.pointer (some ⟨n, 2, none⟩)) := fun n => rfl
    have ix3 : ∀ n : Nat, ixaV 4 1 (.pointer (some ⟨n, 0, none⟩)) (I64 3) = some (.pointer (some ⟨n, 3, none⟩)) := fun n => rfl
    have r0 : AH.rd1 K1 H2.length 0 = some (I64 x.ps.length) := by rw [rd1_of hcK]; rfl
    have r1 : AH.rd1 K1 H2.length 1 = some (I64 (cw x.ps 0 x.ps.length)) := by rw [rd1_of hcK]; rfl
    have r2 : AH.rd1 K1 H2.length 2 = some (I64 (cw x.ps 1 x.ps.length)) := by rw [rd1_of hcK]; rfl
    have r3 : AH.rd1 K1 H2.length 3 = some (I64 (cq x.ps x.ps.length 9)) := by rw [rd1_of hcK]; rfl
    have em : cw x.ps 0 x.ps.length + cw x.ps 1 x.ps.length + cq x.ps x.ps.length 9 = more x := rfl
    try simp (maxSteps := 3000000) (disch := first | omega | (simp only [len_new, len_put, len_kill]; omega)) only [↓xpre, xpost, ↓reduceIte, Nat.reduceEqDiff, Nat.reduceAdd, Nat.reduceSub, Nat.reduceLeDiff, Nat.zero_add, Nat.sub_zero, f3, f9, f11, f12, f13, f33, f34, decide_eq_true hlt, ↓WX_ixa, ix0, ix1, ix2, ix3, r0, r1, r2, r3, wrap64_in, fillL, zrep, em]
    generalize hHa : AH.new K1 _ = Ha
    obtain ⟨hba, pa, na⟩ := new_facts hHa
    refine i_lim1 hba (by omega) (by omega) fun Hb pb => ?_
    rw [mn_id (a := w * w) (by omega)]
    try simp (maxSteps := 3000000) (disch := first | omega | (simp only [len_new, len_put, len_kill]; omega)) only [↓xpre, xpost, ↓reduceIte, Nat.reduceEqDiff, Nat.reduceAdd, Nat.reduceSub, Nat.reduceLeDiff, Nat.zero_add, Nat.sub_zero, f3, f9, f11, f12, f13, f33, f34, fillL, zrep]
    refine ⟨pb, ?_⟩
    generalize hHc : AH.new Hb _ = Hc
    obtain ⟨hbc, pc, nc⟩ := new_facts hHc
    refine i_lim2 hbc hs.1 (by omega) hM.1 (by omega) fun Hd pd => ?_
    have eass : more x * (w * w) = more x * w * w := (Int.mul_assoc _ _ _).symm
    rw [eass]
    have hcd := pre_get ((pa.trans pb).trans (pc.trans pd)) hcK
    have hbd := pre_get ((pa.trans pb).trans (pc.trans pd)) hbK
    have r0' : AH.rd1 Hd H2.length 0 = some (I64 x.ps.length) := by rw [rd1_of hcd]; rfl
    try simp (maxSteps := 3000000) (disch := first | omega | (simp only [len_new, len_put, len_kill]; omega)) only [↓xpre, xpost, ↓reduceIte, Nat.reduceEqDiff, Nat.reduceAdd, Nat.reduceSub, Nat.reduceLeDiff, Nat.zero_add, Nat.sub_zero, f3, f9, f11, f12, f13, f33, f34, ↓WX_ixa, ix0, r0', fillL, zrep]
    generalize hHe : AH.new Hd _ = He
    obtain ⟨hbe, pe, ne⟩ := new_facts hHe
    refine i_lim1 hbe ht.1 (by omega) fun Hf pf => ?_
    have hbf := pre_get (pe.trans pf) hbd
    have pz := pp.trans (((pa.trans pb).trans (pc.trans pd)).trans (pe.trans pf))
    have mt := @mn_gt (t * x.ps.length)
    have ms := @mn_gt (s * x.ps.length + more x * w * w)
    have hQ2 := hQ _ (ph.trans pz)
    by_cases k1 : 1000000000000000 < mn (t * x.ps.length)
    · try simp (maxSteps := 3000000) (disch := first | omega | (simp only [len_new, len_put, len_kill]; omega)) only [↓xpre, xpost, ↓reduceIte, Nat.reduceEqDiff, Nat.reduceAdd, Nat.reduceSub, Nat.reduceLeDiff, Nat.zero_add, Nat.sub_zero, f3, f9, f11, f12, f13, f33, f34, rd1_of hbf, wrap64_in, decide_eq_true k1, WG_un, xres_tmp3]
      rw [← hr, if_pos (.inl (mt.1 k1))] at hQ2
      exact hQ2
    by_cases k2 : 1000000000000000 < mn (s * x.ps.length + more x * w * w)
    · try simp (maxSteps := 3000000) (disch := first | omega | (simp only [len_new, len_put, len_kill]; omega)) only [↓xpre, xpost, ↓reduceIte, Nat.reduceEqDiff, Nat.reduceAdd, Nat.reduceSub, Nat.reduceLeDiff, Nat.zero_add, Nat.sub_zero, f3, f9, f11, f12, f13, f33, f34, rd1_of hbf, wrap64_in, decide_eq_false k1, decide_eq_true k2, xres_tmp3]
      rw [← hr, if_pos (.inr (.inr (ms.1 k2)))] at hQ2
      exact hQ2
    · have q1 : ¬ 1000000000000000 < t * x.ps.length := fun e => k1 (mt.2 e)
      have q2 : ¬ 1000000000000000 < s * x.ps.length + more x * w * w := fun e => k2 (ms.2 e)
      rw [if_neg (by omega)] at hr
      have it := mn_id (a := t * x.ps.length) (by omega)
      have is := mn_id (a := s * x.ps.length + more x * w * w) (by omega)
      try simp (maxSteps := 3000000) (disch := first | omega | (simp only [len_new, len_put, len_kill]; omega)) only [↓xpre, xpost, ↓reduceIte, Nat.reduceEqDiff, Nat.reduceAdd, Nat.reduceSub, Nat.reduceLeDiff, Nat.zero_add, Nat.sub_zero, f3, f9, f11, f12, f13, f33, f34, rd1_of hbf, wrap64_in, decide_eq_false k1, decide_eq_false k2]
      rw [it, is]
      refine InvQ_go (k - (i + 1)) (by omega) ⟨(i + 1), (t * x.ps.length), (s * x.ps.length + more x * w * w), (w * x.n), rfl, by omega, (by first | rfl | exact f3 | (simp only [upd_apply]; rfl) | (show I64 _ = _; congr 1; omega)), (by first | rfl | exact f9 | (simp only [upd_apply]; rfl) | (show I64 _ = _; congr 1; omega)), (by first | rfl | exact f11 | (simp only [upd_apply]; rfl) | (show I64 _ = _; congr 1; omega)), (by first | rfl | exact f12 | (simp only [upd_apply]; rfl) | (show I64 _ = _; congr 1; omega)), (by first | rfl | exact f13 | (simp only [upd_apply]; rfl) | (show I64 _ = _; congr 1; omega)), (by first | rfl | exact f33 | (simp only [upd_apply]; rfl) | (show I64 _ = _; congr 1; omega)), (by first | rfl | exact f34 | (simp only [upd_apply]; rfl) | (show I64 _ = _; congr 1; omega)), pz, hr, (by omega), (by omega), ⟨wn.1, ?_⟩⟩
      have e1 := hw.2
      rw [show k - i = (k - (i + 1)) + 1 by omega, Int.pow_succ, Int.mul_comm (x.n ^ _) x.n, ← Int.mul_assoc] at e1
      exact e1
  · have ei : k - i = 0 := by omega
    rw [ei] at hr
    try simp (maxSteps := 3000000) (disch := first | omega | (simp only [len_new, len_put, len_kill]; omega)) only [↓xpre, xpost, ↓reduceIte, Nat.reduceEqDiff, Nat.reduceAdd, Nat.reduceSub, Nat.reduceLeDiff, Nat.zero_add, Nat.sub_zero, f3, f9, f11, f12, f13, f33, f34, decide_eq_false hlt, decide_eq_true ht.2, decide_eq_true hs.2, xres_tmp3]
    have hQ2 := hQ _ (ph.trans pp)
    rw [← hr] at hQ2
    exact hQ2
end Go.Proofs.Ytphklalbkpohfaa.X

/- RepeatedCost and MixedCost, both sides. -/
set_option linter.unusedVariables false
set_option linter.unusedSimpArgs false
set_option maxRecDepth 20000
set_option maxHeartbeats 4000000
namespace Go.Proofs.Ytphklalbkpohfaa.X
open Go Go.RowKit

def isL (n : Int) : Bool := decide (0 ≤ n ∧ n ≤ 8)
def isB (n : Int) : Bool := decide (1 ≤ n ∧ n ≤ 1000)
theorem i_isLevels {n : Int} {h : AH} {Q : Value → AH → Prop} (hQ : Q (.bool (isL n)) h) : WF S 88 [I64 n] h Q := by
  refine WF_fn (fn := c88) rfl rfl ?_
  unfold c88
  unfold isL at hQ
  by_cases c1 : 0 ≤ n
  · by_cases c2 : n ≤ 8
    · try simp (maxSteps := 3000000) (disch := first | omega | (simp only [len_new, len_put, len_kill]; omega)) only [↓xpre, xpost, ↓reduceIte, Nat.reduceEqDiff, Nat.reduceAdd, Nat.reduceSub, Nat.reduceLeDiff, Nat.zero_add, Nat.sub_zero, decide_eq_true c1, decide_eq_true c2]
      rw [decide_eq_true ⟨c1, c2⟩] at hQ
      exact hQ
    · try simp (maxSteps := 3000000) (disch := first | omega | (simp only [len_new, len_put, len_kill]; omega)) only [↓xpre, xpost, ↓reduceIte, Nat.reduceEqDiff, Nat.reduceAdd, Nat.reduceSub, Nat.reduceLeDiff, Nat.zero_add, Nat.sub_zero, decide_eq_true c1, decide_eq_false c2]
      rw [decide_eq_false (by omega)] at hQ
      exact hQ
  · try simp (maxSteps := 3000000) (disch := first | omega | (simp only [len_new, len_put, len_kill]; omega)) only [↓xpre, xpost, ↓reduceIte, Nat.reduceEqDiff, Nat.reduceAdd, Nat.reduceSub, Nat.reduceLeDiff, Nat.zero_add, Nat.sub_zero, decide_eq_false c1, WG_un]
    rw [decide_eq_false (by omega)] at hQ
    exact hQ
theorem i_isBase {n : Int} {h : AH} {Q : Value → AH → Prop} (hQ : Q (.bool (isB n)) h) : WF S 89 [I64 n] h Q := by
  refine WF_fn (fn := c89) rfl rfl ?_
  unfold c89
  unfold isB at hQ
  by_cases c1 : 1 ≤ n
  · by_cases c2 : n ≤ 1000
    · try simp (maxSteps := 3000000) (disch := first | omega | (simp only [len_new, len_put, len_kill]; omega)) only [↓xpre, xpost, ↓reduceIte, Nat.reduceEqDiff, Nat.reduceAdd, Nat.reduceSub, Nat.reduceLeDiff, Nat.zero_add, Nat.sub_zero, decide_eq_true c1, decide_eq_true c2]
      rw [decide_eq_true ⟨c1, c2⟩] at hQ
      exact hQ
    · try simp (maxSteps := 3000000) (disch := first | omega | (simp only [len_new, len_put, len_kill]; omega)) only [↓xpre, xpost, ↓reduceIte, Nat.reduceEqDiff, Nat.reduceAdd, Nat.reduceSub, Nat.reduceLeDiff, Nat.zero_add, Nat.sub_zero, decide_eq_true c1, decide_eq_false c2]
      rw [decide_eq_false (by omega)] at hQ
      exact hQ
  · try simp (maxSteps := 3000000) (disch := first | omega | (simp only [len_new, len_put, len_kill]; omega)) only [↓xpre, xpost, ↓reduceIte, Nat.reduceEqDiff, Nat.reduceAdd, Nat.reduceSub, Nat.reduceLeDiff, Nat.zero_add, Nat.sub_zero, decide_eq_false c1, WG_un]
    rw [decide_eq_false (by omega)] at hQ
    exact hQ
theorem s_l06Code {v : Value} {x : Sch} {l b : Int} {h : AH} {Q : Value → AH → Prop} (hv : Prods h v x.ps) (hl : SmallX x.ps) (hQ : ∀ h', h <+: h' → Q (I64 (sqC x (isL l && isB b))) h') : WF S 86 [schV x v, I64 l, I64 b] h Q := by
  refine WF_fn (fn := c86) rfl rfl ?_
  unfold c86
  try simp (maxSteps := 3000000) (disch := first | omega | (simp only [len_new, len_put, len_kill]; omega)) only [↓xpre, xpost, ↓reduceIte, Nat.reduceEqDiff, Nat.reduceAdd, Nat.reduceSub, Nat.reduceLeDiff, Nat.zero_add, Nat.sub_zero, schV, hv.one]
  generalize hH1 : AH.new h _ = H1
  obtain ⟨hb1, p1, n1⟩ := new_facts hH1
  try simp (maxSteps := 3000000) (disch := first | omega | (simp only [len_new, len_put, len_kill]; omega)) only [↓xpre, xpost, ↓reduceIte, Nat.reduceEqDiff, Nat.reduceAdd, Nat.reduceSub, Nat.reduceLeDiff, Nat.zero_add, Nat.sub_zero, rdn_of hb1]
  refine s_l06Square (hv.pre p1) hl fun H2 p2 => ?_
  have hQ2 := hQ _ (p1.trans p2)
  by_cases c0 : sqC x true = 0
  case neg =>
    rw [sqC_same c0] at hQ2
    try simp (maxSteps := 3000000) (disch := first | omega | (simp only [len_new, len_put, len_kill]; omega)) only [↓xpre, xpost, ↓reduceIte, Nat.reduceEqDiff, Nat.reduceAdd, Nat.reduceSub, Nat.reduceLeDiff, Nat.zero_add, Nat.sub_zero, decide_eq_false c0, WG_un]
    exact hQ2
  try simp (maxSteps := 3000000) (disch := first | omega | (simp only [len_new, len_put, len_kill]; omega)) only [↓xpre, xpost, ↓reduceIte, Nat.reduceEqDiff, Nat.reduceAdd, Nat.reduceSub, Nat.reduceLeDiff, Nat.zero_add, Nat.sub_zero, decide_eq_true c0, c0]
  refine s_l01In ?_
  have e1 : decide (0 ≤ l ∧ l ≤ 8) = isL l := rfl
  have e2 : decide (1 ≤ b ∧ b ≤ 1000) = isB b := rfl
  rw [e1]
  cases c1 : isL l with
  | false =>
    rw [c1, Bool.false_and, sqC_2 c0] at hQ2
    try simp (maxSteps := 3000000) (disch := first | omega | (simp only [len_new, len_put, len_kill]; omega)) only [↓xpre, xpost, ↓reduceIte, Nat.reduceEqDiff, Nat.reduceAdd, Nat.reduceSub, Nat.reduceLeDiff, Nat.zero_add, Nat.sub_zero, WG_un]
    exact hQ2
  | true =>
    rw [c1, Bool.true_and] at hQ2
    try simp (maxSteps := 3000000) (disch := first | omega | (simp only [len_new, len_put, len_kill]; omega)) only [↓xpre, xpost, ↓reduceIte, Nat.reduceEqDiff, Nat.reduceAdd, Nat.reduceSub, Nat.reduceLeDiff, Nat.zero_add, Nat.sub_zero]
    refine s_l01In ?_
    rw [e2]
    cases c2 : isB b with
    | false =>
      rw [c2, sqC_2 c0] at hQ2
      try simp (maxSteps := 3000000) (disch := first | omega | (simp only [len_new, len_put, len_kill]; omega)) only [↓xpre, xpost, ↓reduceIte, Nat.reduceEqDiff, Nat.reduceAdd, Nat.reduceSub, Nat.reduceLeDiff, Nat.zero_add, Nat.sub_zero]
      exact hQ2
    | true =>
      rw [c2, c0] at hQ2
      try simp (maxSteps := 3000000) (disch := first | omega | (simp only [len_new, len_put, len_kill]; omega)) only [↓xpre, xpost, ↓reduceIte, Nat.reduceEqDiff, Nat.reduceAdd, Nat.reduceSub, Nat.reduceLeDiff, Nat.zero_add, Nat.sub_zero]
      exact hQ2
def mixB (x : Sch) (k : Nat) (b : Int) : Option Int := if b ≤ 100000 then (match repX x k b with | none => none | some (t, s) => if 1000000000000000 < t + s then none else some (t + s)) else none
theorem rep_in {a M n : Int} : ∀ {k : Nat} {t s z t' s' : Int}, rep a M n k t s z = some (t', s') → 0 ≤ a → 0 ≤ M → 1 ≤ n → 1 ≤ z → 0 ≤ t ∧ t ≤ 1000000000000000 → 0 ≤ s ∧ s ≤ 1000000000000000 → (0 ≤ t' ∧ t' ≤ 1000000000000000) ∧ 0 ≤ s' ∧ s' ≤ 1000000000000000
  | 0, t, s, z, t', s', h, _, _, _, _, ht, hs => by
    simp only [rep, Option.some.injEq, Prod.mk.injEq] at h
    obtain ⟨rfl, rfl⟩ := h
    exact ⟨ht, hs⟩
  | k + 1, t, s, z, t', s', h, ha, hM, hn, hz, ht, hs => by
    unfold rep at h
    split at h
    · cases h
    · rename_i hc
      have h1 := Int.mul_nonneg ht.1 ha
      have h2 := Int.mul_nonneg hs.1 ha
      have h3 := Int.mul_nonneg (Int.mul_nonneg hM (show 0 ≤ z by omega)) (show 0 ≤ z by omega)
      have h4 := (mul_in1 (a := z) (b := n) (A := z) (B := n) (by omega) (by omega)).1
      exact rep_in h ha hM hn h4 (by omega) (by omega)
theorem repX_in {x : Sch} {k : Nat} {b t s : Int} (hx : isX x = true) (hw : Wid 27 x.ps) (hb : 1 ≤ b ∧ b ≤ 100000) (h : repX x k b = some (t, s)) : (0 ≤ t ∧ t ≤ 1000000000000000) ∧ 0 ≤ s ∧ s ≤ 1000000000000000 := by
  have z := (isX_sz hx).1
  have hM := more_in hx hw
  have zn := z.n
  have b2 := mul_in1 (A := 100000) (B := 100000) hb hb
  have b3 := mul_in1 (a := b * b) (b := b) (A := 10000000000) (B := 100000) (by omega) hb
  have b3' : b * b ≤ b * b * b := by
    have := Int.mul_le_mul_of_nonneg_left hb.1 (show 0 ≤ b * b by omega)
    rw [Int.mul_one] at this
    exact this
  exact rep_in h (by omega) hM.1 (by omega) (by omega) (by omega) (by omega)
theorem mixB_in {x : Sch} {k : Nat} {b n : Int} (hx : isX x = true) (hw : Wid 27 x.ps) (hb : 1 ≤ b) (h : mixB x k b = some n) : 0 ≤ n ∧ n ≤ 1000000000000000 := by
  unfold mixB at h
  split at h
  · rename_i hb1
    cases hr : repX x k b with
    | none => rw [hr] at h; cases h
    | some q =>
      obtain ⟨t, s⟩ := q
      have := repX_in hx hw ⟨hb, hb1⟩ hr
      rw [hr] at h
      simp only at h
      split at h
      · cases h
      · cases h
        omega
  · cases h
theorem s_l06Mixed {v : Value} {x : Sch} {k : Nat} {b : Int} {h : AH} {Q : Value → AH → Prop} (hv : Prods h v x.ps) (hx : isX x = true) (hk : k ≤ 8) (hb : 1 ≤ b ∧ b ≤ 100000) (hbk : b * x.n ^ k ≤ 6561000)
    (hQ : ∀ h', h <+: h' → (∀ n, mixB x k b = some n → Q (.tuple #[I64 n, .bool true]) h') ∧ (mixB x k b = none → ∀ n, Q (.tuple #[I64 n, .bool false]) h')) : WF S 87 [schV x v, I64 k, I64 b] h Q := by
  refine WF_fn (fn := c87) rfl rfl ?_
  unfold c87
  try simp (maxSteps := 3000000) (disch := first | omega | (simp only [len_new, len_put, len_kill]; omega)) only [↓xpre, xpost, ↓reduceIte, Nat.reduceEqDiff, Nat.reduceAdd, Nat.reduceSub, Nat.reduceLeDiff, Nat.zero_add, Nat.sub_zero, schV, hv.one]
  generalize hH1 : AH.new h _ = H1
  obtain ⟨hb1, p1, n1⟩ := new_facts hH1
  try simp (maxSteps := 3000000) (disch := first | omega | (simp only [len_new, len_put, len_kill]; omega)) only [↓xpre, xpost, ↓reduceIte, Nat.reduceEqDiff, Nat.reduceAdd, Nat.reduceSub, Nat.reduceLeDiff, Nat.zero_add, Nat.sub_zero, rdn_of hb1]
  refine s_l06Repeated (hv.pre p1) hx hk hb hbk fun H2 p2 => ?_
  obtain ⟨q1, q2⟩ := hQ _ (p1.trans p2)
  unfold mixB at q1 q2
  rw [if_pos hb.2] at q1 q2
  cases hr : repX x k b with
  | none =>
    rw [hr] at q2
    try simp (maxSteps := 3000000) (disch := first | omega | (simp only [len_new, len_put, len_kill]; omega)) only [↓xpre, xpost, ↓reduceIte, Nat.reduceEqDiff, Nat.reduceAdd, Nat.reduceSub, Nat.reduceLeDiff, Nat.zero_add, Nat.sub_zero, repV, WG_un]
    exact q2 rfl 0
  | some q =>
    obtain ⟨t, s⟩ := q
    have bb := repX_in hx hv.1.widL hb hr
    rw [hr] at q1 q2
    simp only at q1 q2
    by_cases c1 : 1000000000000000 < t + s
    · rw [if_pos c1] at q2
      try simp (maxSteps := 3000000) (disch := first | omega | (simp only [len_new, len_put, len_kill]; omega)) only [↓xpre, xpost, ↓reduceIte, Nat.reduceEqDiff, Nat.reduceAdd, Nat.reduceSub, Nat.reduceLeDiff, Nat.zero_add, Nat.sub_zero, repV, wrap64_in, decide_eq_true c1]
      exact q2 rfl 0
    · rw [if_neg c1] at q1
      try simp (maxSteps := 3000000) (disch := first | omega | (simp only [len_new, len_put, len_kill]; omega)) only [↓xpre, xpost, ↓reduceIte, Nat.reduceEqDiff, Nat.reduceAdd, Nat.reduceSub, Nat.reduceLeDiff, Nat.zero_add, Nat.sub_zero, repV, wrap64_in, decide_eq_false c1]
      exact q1 _ rfl
theorem i_mixed {v : Value} {x : Sch} {k : Nat} {b : Int} {h : AH} {Q : Value → AH → Prop} (hv : Prods h v x.ps) (hx : isX x = true) (hk : k ≤ 8) (hb : 1 ≤ b ∧ b ≤ 6561000) (hb0 : b ≤ 100000 ∨ k = 0) (hbk : b * x.n ^ k ≤ 6561000)
    (hQ : ∀ h', h <+: h' → (∀ n, mixB x k b = some n → Q (.tuple #[I64 n, .bool true]) h') ∧ (mixB x k b = none → ∀ n, Q (.tuple #[I64 n, .bool false]) h')) : WF S 90 [schV x v, I64 k, I64 b] h Q := by
  refine WF_fn (fn := c90) rfl rfl ?_
  unfold c90
  try simp (maxSteps := 3000000) (disch := first | omega | (simp only [len_new, len_put, len_kill]; omega)) only [↓xpre, xpost, ↓reduceIte, Nat.reduceEqDiff, Nat.reduceAdd, Nat.reduceSub, Nat.reduceLeDiff, Nat.zero_add, Nat.sub_zero, schV, hv.one]
  generalize hH1 : AH.new h _ = H1
  obtain ⟨hb1, p1, n1⟩ := new_facts hH1
  try simp (maxSteps := 3000000) (disch := first | omega | (simp only [len_new, len_put, len_kill]; omega)) only [↓xpre, xpost, ↓reduceIte, Nat.reduceEqDiff, Nat.reduceAdd, Nat.reduceSub, Nat.reduceLeDiff, Nat.zero_add, Nat.sub_zero, rdn_of hb1]
  refine i_repeated (hv.pre p1) hx hk hb hb0 hbk fun H2 p2 => ⟨fun h5 => ?_, fun hbig t s ht hs => ?_⟩
  · obtain ⟨q1, q2⟩ := hQ _ (p1.trans p2)
    unfold mixB at q1 q2
    rw [if_pos h5] at q1 q2
    cases hr : repX x k b with
    | none =>
      rw [hr] at q2
      try simp (maxSteps := 3000000) (disch := first | omega | (simp only [len_new, len_put, len_kill]; omega)) only [↓xpre, xpost, ↓reduceIte, Nat.reduceEqDiff, Nat.reduceAdd, Nat.reduceSub, Nat.reduceLeDiff, Nat.zero_add, Nat.sub_zero, repV, WG_un, wrap64_in]
      exact q2 rfl _
    | some q =>
      obtain ⟨t, s⟩ := q
      have bb := repX_in hx hv.1.widL ⟨hb.1, h5⟩ hr
      rw [hr] at q1 q2
      simp only at q1 q2
      by_cases c1 : t + s ≤ 1000000000000000
      · rw [if_neg (by omega)] at q1
        try simp (maxSteps := 3000000) (disch := first | omega | (simp only [len_new, len_put, len_kill]; omega)) only [↓xpre, xpost, ↓reduceIte, Nat.reduceEqDiff, Nat.reduceAdd, Nat.reduceSub, Nat.reduceLeDiff, Nat.zero_add, Nat.sub_zero, repV, wrap64_in, decide_eq_true c1]
        exact q1 _ rfl
      · rw [if_pos (by omega)] at q2
        try simp (maxSteps := 3000000) (disch := first | omega | (simp only [len_new, len_put, len_kill]; omega)) only [↓xpre, xpost, ↓reduceIte, Nat.reduceEqDiff, Nat.reduceAdd, Nat.reduceSub, Nat.reduceLeDiff, Nat.zero_add, Nat.sub_zero, repV, wrap64_in, decide_eq_false c1]
        exact q2 rfl _
  · obtain ⟨q1, q2⟩ := hQ _ (p1.trans p2)
    unfold mixB at q2
    rw [if_neg (by omega)] at q2
    try simp (maxSteps := 3000000) (disch := first | omega | (simp only [len_new, len_put, len_kill]; omega)) only [↓xpre, xpost, ↓reduceIte, Nat.reduceEqDiff, Nat.reduceAdd, Nat.reduceSub, Nat.reduceLeDiff, Nat.zero_add, Nat.sub_zero, WG_un, wrap64_in]
    exact q2 rfl _

/-! ### MixedCost -/
def mcR (x : Sch) (l b : Int) : Int × Int := if sqC x (isL l && isB b) = 0 then (match mixB x l.toNat b with | none => (0, 3) | some n => (n, 0)) else (0, sqC x (isL l && isB b))
theorem base_in {x : Sch} {k : Nat} {b : Int} (z : SZ x) (hk : k ≤ 8) (hb : 1 ≤ b ∧ b ≤ 1000) : b * x.n ^ k ≤ 6561000 := by
  have h1 := pow_in (n := x.n) (N := 3) ⟨z.n.1, z.n.2⟩ k
  have h2 := pow_up (N := 3) (by omega) hk
  have h3 : (3 : Int) ^ 8 = 6561 := by decide
  exact (mul_in1 (A := 1000) (B := 6561) hb (by omega)).2
theorem s_MixedCost {v : Value} {x : Sch} {l b : Int} {h : AH} {Q : Value → AH → Prop} (hv : Prods h v x.ps) (hl : SmallX x.ps)
    (hQ : ∀ h', h <+: h' → Q (.tuple #[I64 (mcR x l b).1, I64 (mcR x l b).2]) h') : WF S 44 [schV x v, I64 l, I64 b] h Q := by
  refine WF_fn (fn := c44) rfl rfl ?_
  unfold c44
  try simp (maxSteps := 3000000) (disch := first | omega | (simp only [len_new, len_put, len_kill]; omega)) only [↓xpre, xpost, ↓reduceIte, Nat.reduceEqDiff, Nat.reduceAdd, Nat.reduceSub, Nat.reduceLeDiff, Nat.zero_add, Nat.sub_zero, schV, hv.one]
  generalize hH1 : AH.new h _ = H1
  obtain ⟨hb1, p1, n1⟩ := new_facts hH1
  try simp (maxSteps := 3000000) (disch := first | omega | (simp only [len_new, len_put, len_kill]; omega)) only [↓xpre, xpost, ↓reduceIte, Nat.reduceEqDiff, Nat.reduceAdd, Nat.reduceSub, Nat.reduceLeDiff, Nat.zero_add, Nat.sub_zero, rdn_of hb1]
  refine s_l06Code (hv.pre p1) hl fun H2 p2 => ?_
  have hb1 := pre_get p2 hb1
  unfold mcR at hQ
  by_cases c0 : sqC x (isL l && isB b) = 0
  case neg =>
    have hQ2 := hQ _ (p1.trans p2)
    rw [if_neg c0] at hQ2
    try simp (maxSteps := 3000000) (disch := first | omega | (simp only [len_new, len_put, len_kill]; omega)) only [↓xpre, xpost, ↓reduceIte, Nat.reduceEqDiff, Nat.reduceAdd, Nat.reduceSub, Nat.reduceLeDiff, Nat.zero_add, Nat.sub_zero, decide_eq_true (show sqC x (isL l && isB b) ≠ 0 from c0)]
    exact hQ2
  rw [if_pos c0] at hQ
  obtain ⟨x1, x2, x3⟩ := sqC_0 c0
  simp only [Bool.and_eq_true] at x3
  have l1 : 0 ≤ l ∧ l ≤ 8 := by have := x3.1; unfold isL at this; exact of_decide_eq_true this
  have b1 : 1 ≤ b ∧ b ≤ 1000 := by have := x3.2; unfold isB at this; exact of_decide_eq_true this
  obtain ⟨k, rfl⟩ : ∃ k : Nat, l = k := ⟨l.toNat, by omega⟩
  rw [Int.toNat_natCast] at hQ
  try simp (maxSteps := 3000000) (disch := first | omega | (simp only [len_new, len_put, len_kill]; omega)) only [↓xpre, xpost, ↓reduceIte, Nat.reduceEqDiff, Nat.reduceAdd, Nat.reduceSub, Nat.reduceLeDiff, Nat.zero_add, Nat.sub_zero, decide_eq_false (show ¬ (sqC x (isL k && isB b) ≠ 0) from fun e => e c0), rdn_of hb1]
  refine s_l06Mixed (hv.pre (p1.trans p2)) x1 (by omega) (by omega) (base_in (isX_sz x1).1 (by omega) b1) fun H3 p3 => ⟨fun n hn => ?_, fun hn n => ?_⟩
  · try simp (maxSteps := 3000000) (disch := first | omega | (simp only [len_new, len_put, len_kill]; omega)) only [↓xpre, xpost, ↓reduceIte, Nat.reduceEqDiff, Nat.reduceAdd, Nat.reduceSub, Nat.reduceLeDiff, Nat.zero_add, Nat.sub_zero]
    have := hQ _ ((p1.trans p2).trans p3)
    rw [hn] at this
    exact this
  · try simp (maxSteps := 3000000) (disch := first | omega | (simp only [len_new, len_put, len_kill]; omega)) only [↓xpre, xpost, ↓reduceIte, Nat.reduceEqDiff, Nat.reduceAdd, Nat.reduceSub, Nat.reduceLeDiff, Nat.zero_add, Nat.sub_zero]
    have := hQ _ ((p1.trans p2).trans p3)
    rw [hn] at this
    exact this
theorem i_MixedCost {v : Value} {x : Sch} {l b : Int} {h : AH} {Q : Value → AH → Prop} (hv : Prods h v x.ps) (hl : SmallX x.ps)
    (hQ : ∀ h', h <+: h' → Q (.tuple #[I64 (mcR x l b).1, I64 (mcR x l b).2]) h') : WF S 45 [schV x v, I64 l, I64 b] h Q := by
  refine WF_fn (fn := c45) rfl rfl ?_
  unfold c45
  try simp (maxSteps := 3000000) (disch := first | omega | (simp only [len_new, len_put, len_kill]; omega)) only [↓xpre, xpost, ↓reduceIte, Nat.reduceEqDiff, Nat.reduceAdd, Nat.reduceSub, Nat.reduceLeDiff, Nat.zero_add, Nat.sub_zero, schV, hv.one]
  generalize hH1 : AH.new h _ = H1
  obtain ⟨hb1, p1, n1⟩ := new_facts hH1
  unfold mcR at hQ
  have main : ∀ f : Bool, f = (isL l && isB b) → ∀ (H2 : AH), H1 <+: H2 → True := fun _ _ _ _ => trivial
  try simp (maxSteps := 3000000) (disch := first | omega | (simp only [len_new, len_put, len_kill]; omega)) only [↓xpre, xpost, ↓reduceIte, Nat.reduceEqDiff, Nat.reduceAdd, Nat.reduceSub, Nat.reduceLeDiff, Nat.zero_add, Nat.sub_zero, rdn_of hb1]
  refine i_isLevels ?_
  have stop : sqC x (isL l && isB b) ≠ 0 → ∀ H2, H1 <+: H2 → Q (.tuple #[I64 0, I64 (sqC x (isL l && isB b))]) H2 := fun e H2 p => by
    have := hQ _ (p1.trans p)
    rw [if_neg e] at this
    exact this
  cases c1 : isL l with
  | false =>
    rw [c1, Bool.false_and] at stop
    try simp (maxSteps := 3000000) (disch := first | omega | (simp only [len_new, len_put, len_kill]; omega)) only [↓xpre, xpost, ↓reduceIte, Nat.reduceEqDiff, Nat.reduceAdd, Nat.reduceSub, Nat.reduceLeDiff, Nat.zero_add, Nat.sub_zero, WG_un]
    refine ⟨List.prefix_refl _, ?_⟩
    refine i_squareCode (hv.pre p1) hl fun H2 p2 => ?_
    try simp (maxSteps := 3000000) (disch := first | omega | (simp only [len_new, len_put, len_kill]; omega)) only [↓xpre, xpost, ↓reduceIte, Nat.reduceEqDiff, Nat.reduceAdd, Nat.reduceSub, Nat.reduceLeDiff, Nat.zero_add, Nat.sub_zero, decide_eq_true (show sqC x false ≠ 0 from sqC_f)]
    exact stop sqC_f _ p2
  | true =>
    rw [c1, Bool.true_and] at stop hQ
    try simp (maxSteps := 3000000) (disch := first | omega | (simp only [len_new, len_put, len_kill]; omega)) only [↓xpre, xpost, ↓reduceIte, Nat.reduceEqDiff, Nat.reduceAdd, Nat.reduceSub, Nat.reduceLeDiff, Nat.zero_add, Nat.sub_zero]
    refine ⟨List.prefix_refl _, ?_⟩
    refine i_isBase ?_
    try simp (maxSteps := 3000000) (disch := first | omega | (simp only [len_new, len_put, len_kill]; omega)) only [↓xpre, xpost, ↓reduceIte, Nat.reduceEqDiff, Nat.reduceAdd, Nat.reduceSub, Nat.reduceLeDiff, Nat.zero_add, Nat.sub_zero]
    refine ⟨List.prefix_refl _, ?_⟩
    refine i_squareCode (hv.pre p1) hl fun H2 p2 => ?_
    have hb1 := pre_get p2 hb1
    by_cases c0 : sqC x (isB b) = 0
    case neg =>
      try simp (maxSteps := 3000000) (disch := first | omega | (simp only [len_new, len_put, len_kill]; omega)) only [↓xpre, xpost, ↓reduceIte, Nat.reduceEqDiff, Nat.reduceAdd, Nat.reduceSub, Nat.reduceLeDiff, Nat.zero_add, Nat.sub_zero, decide_eq_true (show sqC x (isB b) ≠ 0 from c0)]
      exact stop c0 _ p2
    rw [if_pos c0] at hQ
    obtain ⟨x1, x2, x3⟩ := sqC_0 c0
    have l1 : 0 ≤ l ∧ l ≤ 8 := by unfold isL at c1; exact of_decide_eq_true c1
    have b1 : 1 ≤ b ∧ b ≤ 1000 := by unfold isB at x3; exact of_decide_eq_true x3
    obtain ⟨k, rfl⟩ : ∃ k : Nat, l = k := ⟨l.toNat, by omega⟩
    rw [Int.toNat_natCast] at hQ
    try simp (maxSteps := 3000000) (disch := first | omega | (simp only [len_new, len_put, len_kill]; omega)) only [↓xpre, xpost, ↓reduceIte, Nat.reduceEqDiff, Nat.reduceAdd, Nat.reduceSub, Nat.reduceLeDiff, Nat.zero_add, Nat.sub_zero, decide_eq_false (show ¬ (sqC x (isB b) ≠ 0) from fun e => e c0), rdn_of hb1]
    refine i_mixed (hv.pre (p1.trans p2)) x1 (by omega) (by omega) (by omega) (base_in (isX_sz x1).1 (by omega) b1) fun H3 p3 => ⟨fun n hn => ?_, fun hn n => ?_⟩
    · try simp (maxSteps := 3000000) (disch := first | omega | (simp only [len_new, len_put, len_kill]; omega)) only [↓xpre, xpost, ↓reduceIte, Nat.reduceEqDiff, Nat.reduceAdd, Nat.reduceSub, Nat.reduceLeDiff, Nat.zero_add, Nat.sub_zero]
      have := hQ _ ((p1.trans p2).trans p3)
      rw [hn] at this
      exact this
    · try simp (maxSteps := 3000000) (disch := first | omega | (simp only [len_new, len_put, len_kill]; omega)) only [↓xpre, xpost, ↓reduceIte, Nat.reduceEqDiff, Nat.reduceAdd, Nat.reduceSub, Nat.reduceLeDiff, Nat.zero_add, Nat.sub_zero]
      have := hQ _ ((p1.trans p2).trans p3)
      rw [hn] at this
      exact this

/-! ### RepeatedCost -/
def rcR (x : Sch) (l : Int) : List Int × Int := if sqC x (isL l) = 0 then (match repX x l.toNat 1 with | none => ([], 3) | some (t, s) => ([t, s], 0)) else ([], sqC x (isL l))
theorem rcR_small (x : Sch) (l : Int) : SmallS (rcR x l).1 := by
  unfold rcR SmallS
  split
  · split <;> simp
  · simp
theorem s_RepeatedCost {v : Value} {x : Sch} {l : Int} {h : AH} {Q : Value → AH → Prop} (hv : Prods h v x.ps) (hl : SmallX x.ps)
    (hQ : ∀ v' h', h <+: h' → OwnR h h' v' (rcR x l).1 → Q (.tuple #[v', I64 (rcR x l).2]) h') : WF S 50 [schV x v, I64 l] h Q := by
  refine WF_fn (fn := c50) rfl rfl ?_
  unfold c50
  try simp (maxSteps := 3000000) (disch := first | omega | (simp only [len_new, len_put, len_kill]; omega)) only [↓xpre, xpost, ↓reduceIte, Nat.reduceEqDiff, Nat.reduceAdd, Nat.reduceSub, Nat.reduceLeDiff, Nat.zero_add, Nat.sub_zero, schV, hv.one]
  generalize hH1 : AH.new h _ = H1
  obtain ⟨hb1, p1, n1⟩ := new_facts hH1
  try simp (maxSteps := 3000000) (disch := first | omega | (simp only [len_new, len_put, len_kill]; omega)) only [↓xpre, xpost, ↓reduceIte, Nat.reduceEqDiff, Nat.reduceAdd, Nat.reduceSub, Nat.reduceLeDiff, Nat.zero_add, Nat.sub_zero, rdn_of hb1]
  refine s_l06Square (hv.pre p1) hl fun H2 p2 => ?_
  have hb1 := pre_get p2 hb1
  have ph := p1.trans p2
  unfold rcR at hQ
  by_cases c0 : sqC x true = 0
  case neg =>
    have e := sqC_same (b := isL l) c0
    rw [e, if_neg c0] at hQ
    try simp (maxSteps := 3000000) (disch := first | omega | (simp only [len_new, len_put, len_kill]; omega)) only [↓xpre, xpost, ↓reduceIte, Nat.reduceEqDiff, Nat.reduceAdd, Nat.reduceSub, Nat.reduceLeDiff, Nat.zero_add, Nat.sub_zero, decide_eq_false c0, WG_un, decide_eq_true (show sqC x true ≠ 0 from c0)]
    exact hQ _ _ ph (.inl ⟨rfl, rfl⟩)
  try simp (maxSteps := 3000000) (disch := first | omega | (simp only [len_new, len_put, len_kill]; omega)) only [↓xpre, xpost, ↓reduceIte, Nat.reduceEqDiff, Nat.reduceAdd, Nat.reduceSub, Nat.reduceLeDiff, Nat.zero_add, Nat.sub_zero, decide_eq_true c0, c0]
  refine s_l01In ?_
  have e1 : decide (0 ≤ l ∧ l ≤ 8) = isL l := rfl
  rw [e1]
  cases c1 : isL l with
  | false =>
    rw [c1, if_neg sqC_f, sqC_2 c0] at hQ
    try simp (maxSteps := 3000000) (disch := first | omega | (simp only [len_new, len_put, len_kill]; omega)) only [↓xpre, xpost, ↓reduceIte, Nat.reduceEqDiff, Nat.reduceAdd, Nat.reduceSub, Nat.reduceLeDiff, Nat.zero_add, Nat.sub_zero, decide_eq_true (show (2 : Int) ≠ 0 by decide)]
    exact hQ _ _ ph (.inl ⟨rfl, rfl⟩)
  | true =>
    rw [c1, if_pos c0] at hQ
    have x1 := (sqC_0 c0).1
    have l1 : 0 ≤ l ∧ l ≤ 8 := by unfold isL at c1; exact of_decide_eq_true c1
    obtain ⟨k, rfl⟩ : ∃ k : Nat, l = k := ⟨l.toNat, by omega⟩
    rw [Int.toNat_natCast] at hQ
    try simp (maxSteps := 3000000) (disch := first | omega | (simp only [len_new, len_put, len_kill]; omega)) only [↓xpre, xpost, ↓reduceIte, Nat.reduceEqDiff, Nat.reduceAdd, Nat.reduceSub, Nat.reduceLeDiff, Nat.zero_add, Nat.sub_zero, decide_eq_false (show ¬ ((0 : Int) ≠ 0) by decide), rdn_of hb1]
    refine s_l06Repeated (hv.pre ph) x1 (by omega) (by omega) (base_in (isX_sz x1).1 (by omega) (by omega)) fun H3 p3 => ?_
    cases hr : repX x k 1 with
    | none =>
      rw [hr] at hQ
      try simp (maxSteps := 3000000) (disch := first | omega | (simp only [len_new, len_put, len_kill]; omega)) only [↓xpre, xpost, ↓reduceIte, Nat.reduceEqDiff, Nat.reduceAdd, Nat.reduceSub, Nat.reduceLeDiff, Nat.zero_add, Nat.sub_zero, repV]
      exact hQ _ _ (ph.trans p3) (.inl ⟨rfl, rfl⟩)
    | some q =>
      obtain ⟨t, s⟩ := q
      rw [hr] at hQ
      try simp (maxSteps := 3000000) (disch := first | omega | (simp only [len_new, len_put, len_kill]; omega)) only [↓xpre, xpost, ↓reduceIte, Nat.reduceEqDiff, Nat.reduceAdd, Nat.reduceSub, Nat.reduceLeDiff, Nat.zero_add, Nat.sub_zero, repV, fillL, zrep]
      exact hQ _ _ ((ph.trans p3).trans (pre_new (List.prefix_refl _))) (.inr ⟨H3.length, _, true, pre_len (ph.trans p3), rfl, get_new_same⟩)
theorem i_RepeatedCost {v : Value} {x : Sch} {l : Int} {h : AH} {Q : Value → AH → Prop} (hv : Prods h v x.ps) (hl : SmallX x.ps)
    (hQ : ∀ v' h', h <+: h' → OwnR h h' v' (rcR x l).1 → Q (.tuple #[v', I64 (rcR x l).2]) h') : WF S 51 [schV x v, I64 l] h Q := by
  refine WF_fn (fn := c51) rfl rfl ?_
  unfold c51
  try simp (maxSteps := 3000000) (disch := first | omega | (simp only [len_new, len_put, len_kill]; omega)) only [↓xpre, xpost, ↓reduceIte, Nat.reduceEqDiff, Nat.reduceAdd, Nat.reduceSub, Nat.reduceLeDiff, Nat.zero_add, Nat.sub_zero, schV, hv.one]
  generalize hH1 : AH.new h _ = H1
  obtain ⟨hb1, p1, n1⟩ := new_facts hH1
  unfold rcR at hQ
  try simp (maxSteps := 3000000) (disch := first | omega | (simp only [len_new, len_put, len_kill]; omega)) only [↓xpre, xpost, ↓reduceIte, Nat.reduceEqDiff, Nat.reduceAdd, Nat.reduceSub, Nat.reduceLeDiff, Nat.zero_add, Nat.sub_zero, rdn_of hb1]
  refine i_isLevels ?_
  try simp (maxSteps := 3000000) (disch := first | omega | (simp only [len_new, len_put, len_kill]; omega)) only [↓xpre, xpost, ↓reduceIte, Nat.reduceEqDiff, Nat.reduceAdd, Nat.reduceSub, Nat.reduceLeDiff, Nat.zero_add, Nat.sub_zero]
  refine ⟨List.prefix_refl _, ?_⟩
  refine i_squareCode (hv.pre p1) hl fun H2 p2 => ?_
  have hb1 := pre_get p2 hb1
  have ph := p1.trans p2
  by_cases c0 : sqC x (isL l) = 0
  case neg =>
    rw [if_neg c0] at hQ
    try simp (maxSteps := 3000000) (disch := first | omega | (simp only [len_new, len_put, len_kill]; omega)) only [↓xpre, xpost, ↓reduceIte, Nat.reduceEqDiff, Nat.reduceAdd, Nat.reduceSub, Nat.reduceLeDiff, Nat.zero_add, Nat.sub_zero, decide_eq_true (show sqC x (isL l) ≠ 0 from c0)]
    exact hQ _ _ ph (.inl ⟨rfl, rfl⟩)
  rw [if_pos c0] at hQ
  obtain ⟨x1, x2, x3⟩ := sqC_0 c0
  have l1 : 0 ≤ l ∧ l ≤ 8 := by unfold isL at x3; exact of_decide_eq_true x3
  obtain ⟨k, rfl⟩ : ∃ k : Nat, l = k := ⟨l.toNat, by omega⟩
  rw [Int.toNat_natCast] at hQ
  try simp (maxSteps := 3000000) (disch := first | omega | (simp only [len_new, len_put, len_kill]; omega)) only [↓xpre, xpost, ↓reduceIte, Nat.reduceEqDiff, Nat.reduceAdd, Nat.reduceSub, Nat.reduceLeDiff, Nat.zero_add, Nat.sub_zero, decide_eq_false (show ¬ (sqC x (isL k) ≠ 0) from fun e => e c0), rdn_of hb1]
  refine i_repeated (hv.pre ph) x1 (by omega) (by omega) (by omega) (base_in (isX_sz x1).1 (by omega) (by omega)) fun H3 p3 => ⟨fun _ => ?_, fun hbig => by omega⟩
  cases hr : repX x k 1 with
  | none =>
    rw [hr] at hQ
    try simp (maxSteps := 3000000) (disch := first | omega | (simp only [len_new, len_put, len_kill]; omega)) only [↓xpre, xpost, ↓reduceIte, Nat.reduceEqDiff, Nat.reduceAdd, Nat.reduceSub, Nat.reduceLeDiff, Nat.zero_add, Nat.sub_zero, repV]
    exact hQ _ _ (ph.trans p3) (.inl ⟨rfl, rfl⟩)
  | some q =>
    obtain ⟨t, s⟩ := q
    rw [hr] at hQ
    try simp (maxSteps := 3000000) (disch := first | omega | (simp only [len_new, len_put, len_kill]; omega)) only [↓xpre, xpost, ↓reduceIte, Nat.reduceEqDiff, Nat.reduceAdd, Nat.reduceSub, Nat.reduceLeDiff, Nat.zero_add, Nat.sub_zero, repV, fillL, zrep]
    exact hQ _ _ ((ph.trans p3).trans (pre_new (List.prefix_refl _))) (.inr ⟨H3.length, _, true, pre_len (ph.trans p3), rfl, get_new_same⟩)
end Go.Proofs.Ytphklalbkpohfaa.X
