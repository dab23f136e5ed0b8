/- Texts of one claim, put together by merge.py: XQ1, XR1, XQ2, XF34, XF35, XR2, XF11, XF12, XF13, XF14, XF15, XQ3. -/
import Derived.Test.YtapafdpnmakekaaTS7
import Derived.Test.YtapafdpnmakekaaTS8
/- Sums, congruences and ranks by certificates: a table has the rank R if it is a product through R and holds an identity of R. -/
set_option linter.unusedVariables false
set_option linter.unusedSimpArgs false
set_option maxRecDepth 20000
set_option maxHeartbeats 4000000
namespace Go.Proofs.Ytapafdpnmakekaa.X

/-- The sum of the first n. -/
def sm : Nat → (Nat → Int) → Int
  | 0, _ => 0
  | n + 1, f => sm n f + f n
theorem sm_ext {f g : Nat → Int} : ∀ {n : Nat}, (∀ i, i < n → f i = g i) → sm n f = sm n g
  | 0, _ => rfl
  | n + 1, h => by rw [sm, sm, sm_ext (fun i hi => h i (by omega)), h n (by omega)]
theorem sm_zero {n : Nat} : sm n (fun _ => 0) = 0 := by
  induction n with
  | zero => rfl
  | succ n ih => rw [sm, ih]; rfl
theorem sm_zero' {f : Nat → Int} {n : Nat} (h : ∀ i, i < n → f i = 0) : sm n f = 0 := by rw [sm_ext h, sm_zero]
theorem sm_add {f g : Nat → Int} {n : Nat} : sm n (fun i => f i + g i) = sm n f + sm n g := by
  induction n with
  | zero => rfl
  | succ n ih => simp only [sm, ih]; omega
theorem sm_mul {f : Nat → Int} {c : Int} {n : Nat} : sm n (fun i => c * f i) = c * sm n f := by
  induction n with
  | zero => simp [sm]
  | succ n ih => simp only [sm, ih, Int.mul_add]
theorem sm_mulr {f : Nat → Int} {c : Int} {n : Nat} : sm n (fun i => f i * c) = sm n f * c := by
  induction n with
  | zero => simp [sm]
  | succ n ih => simp only [sm, ih, Int.add_mul]
theorem sm_comm {f : Nat → Nat → Int} {n m : Nat} : sm n (fun i => sm m (fun j => f i j)) = sm m (fun j => sm n (fun i => f i j)) := by
  induction n with
  | zero => simp only [sm]; exact sm_zero.symm
  | succ n ih => simp only [sm, ih]; rw [← sm_add]
theorem sm_left {f : Nat → Int} {n : Nat} : sm (n + 1) f = f 0 + sm n (fun i => f (i + 1)) := by
  induction n with
  | zero => simp [sm]
  | succ n ih => rw [sm, ih, sm]; omega
theorem sm_split {f : Nat → Int} {n m : Nat} : sm (n + m) f = sm n f + sm m (fun i => f (n + i)) := by
  induction m with
  | zero => simp [sm]
  | succ m ih => rw [← Nat.add_assoc, sm, ih, sm]; omega
theorem sm_rows {f : Nat → Int} {n m : Nat} : sm (n * m) f = sm n (fun a => sm m (fun b => f (a * m + b))) := by
  induction n with
  | zero => simp [sm]
  | succ n ih => rw [Nat.succ_mul, sm_split, ih, sm]
theorem sm_delta {f : Nat → Int} {n a : Nat} (h : a < n) : sm n (fun i => if i = a then f i else 0) = f a := by
  induction n with
  | zero => omega
  | succ n ih =>
    rw [sm]
    by_cases e : a = n
    · subst e
      rw [if_pos rfl, sm_zero' (fun i hi => if_neg (by omega))]
      omega
    · rw [ih (by omega), if_neg (by omega)]
      omega
theorem sm_prod {f g h : Nat → Int} {n m : Nat} (e : ∀ a b, a < n → b < m → f (a * m + b) = g a * h b) : sm (n * m) f = sm n g * sm m h := by
  rw [sm_rows, ← sm_mulr]
  refine sm_ext fun a ha => ?_
  rw [← sm_mul]
  exact sm_ext fun b hb => e a b ha hb

/-- Equal modulo p. -/
def Cg (p a b : Int) : Prop := p ∣ a - b
theorem Cg.rfl' {p a : Int} : Cg p a a := ⟨0, by omega⟩
theorem Cg.of {p a b : Int} (h : a = b) : Cg p a b := by subst h; exact .rfl'
theorem Cg.symm {p a b : Int} (h : Cg p a b) : Cg p b a := by
  obtain ⟨k, h⟩ := h
  exact ⟨-k, by rw [Int.mul_neg]; omega⟩
theorem Cg.trans {p a b c : Int} (h : Cg p a b) (g : Cg p b c) : Cg p a c := by
  obtain ⟨k, h⟩ := h
  obtain ⟨l, g⟩ := g
  exact ⟨k + l, by rw [Int.mul_add]; omega⟩
theorem Cg.add {p a b c d : Int} (h : Cg p a b) (g : Cg p c d) : Cg p (a + c) (b + d) := by
  obtain ⟨k, h⟩ := h
  obtain ⟨l, g⟩ := g
  exact ⟨k + l, by rw [Int.mul_add]; omega⟩
theorem Cg.mul {p a b c d : Int} (h : Cg p a b) (g : Cg p c d) : Cg p (a * c) (b * d) := by
  obtain ⟨k, h⟩ := h
  obtain ⟨l, g⟩ := g
  exact ⟨k * c + b * l, by grind⟩
theorem Cg.sm {p : Int} {f g : Nat → Int} : ∀ {n : Nat}, (∀ i, i < n → Cg p (f i) (g i)) → Cg p (sm n f) (sm n g)
  | 0, _ => .rfl'
  | n + 1, h => (Cg.sm fun i hi => h i (by omega)).add (h n (by omega))

/-- Numbers other than 0 have inverses. -/
def Fld (p : Int) : Prop := 2 ≤ p ∧ ∀ x, ¬ p ∣ x → ∃ w, Cg p (w * x) 1
def dl (a b : Nat) : Int := if a = b then 1 else 0

/-- An identity of s that goes through r: s is at most r. -/
theorem dim_le {p : Int} (hp : Fld p) : ∀ (r s : Nat) (U V : Nat → Nat → Int), (∀ i j, i < s → j < s → Cg p (sm r fun k => U i k * V k j) (dl i j)) → s ≤ r
  | 0, 0, U, V, h => Nat.le_refl _
  | 0, s + 1, U, V, h => by
    have := h 0 0 (by omega) (by omega)
    obtain ⟨k, hk⟩ := this
    simp only [sm, dl, if_true] at hk
    have : p ∣ 1 := ⟨-k, by rw [Int.mul_neg]; omega⟩
    have := Int.le_of_dvd (by omega) this
    have := hp.1
    omega
  | r + 1, 0, U, V, h => by omega
  | r + 1, s + 1, U, V, h => by
    -- a place where the last row is not 0
    have h1 : ∃ k, k < r + 1 ∧ ¬ p ∣ U s k := by
      refine Classical.byContradiction fun hn => ?_
      have hz : ∀ k, k < r + 1 → p ∣ U s k := fun k hk => Classical.byContradiction fun hd => hn ⟨k, hk, hd⟩
      have h2 := h s s (by omega) (by omega)
      have h3 : Cg p (sm (r + 1) fun k => U s k * V k s) (sm (r + 1) fun _ => 0) := Cg.sm fun k hk => by
        obtain ⟨q, hq⟩ := hz k hk
        exact ⟨q * V k s, by rw [hq, ← Int.mul_assoc]; omega⟩
      rw [sm_zero] at h3
      have h4 := h3.symm.trans h2
      obtain ⟨k, hk⟩ := h4
      simp only [dl, if_true] at hk
      have h5 : p ∣ 1 := ⟨-k, by rw [Int.mul_neg]; omega⟩
      have := Int.le_of_dvd (by omega) h5
      have := hp.1
      omega
    obtain ⟨k0, hk0, hd⟩ := h1
    obtain ⟨w, hw⟩ := hp.2 _ hd
    -- the places without k0
    let nx : Nat → Nat := fun k => if k = k0 then r else k
    have hsum : ∀ (f : Nat → Int), sm (r + 1) f = sm r (fun k => f (nx k)) + f k0 := fun f => by
      by_cases e : k0 = r
      · subst e
        rw [sm, sm_ext (f := fun k => f (nx k)) (g := f) fun i hi => by show f (if i = k0 then k0 else i) = f i; rw [if_neg (by omega)]]
      · have e1 : sm r (fun k => f (nx k)) = sm r f + sm r (fun k => if k = k0 then f r - f k else 0) := by
          rw [← sm_add]
          refine sm_ext fun i hi => ?_
          show f (if i = k0 then r else i) = _
          by_cases e2 : i = k0
          · rw [if_pos e2, if_pos e2]; omega
          · rw [if_neg e2, if_neg e2]; omega
        rw [e1, sm_delta (f := fun k => f r - f k) (by omega), sm]
        show _ + f r = _ + (f r - f k0) + f k0
        omega
    refine Nat.succ_le_succ (dim_le hp r s (fun i k => U i (nx k) - U i k0 * w * U s (nx k)) (fun k j => V (nx k) j) fun i j hi hj => ?_)
    have a1 := h i j (by omega) (by omega)
    have a2 := h s j (by omega) (by omega)
    rw [hsum] at a1 a2
    have a3 : sm r (fun k => (U i (nx k) - U i k0 * w * U s (nx k)) * V (nx k) j) = sm r (fun k => U i (nx k) * V (nx k) j) + (- (U i k0 * w)) * sm r (fun k => U s (nx k) * V (nx k) j) := by
      rw [← sm_mul, ← sm_add]
      exact sm_ext fun k hk => by grind
    rw [a3]
    have e0 : dl s j = 0 := if_neg (by omega)
    rw [e0] at a2
    generalize sm r (fun k => U i (nx k) * V (nx k) j) = x1 at *
    generalize sm r (fun k => U s (nx k) * V (nx k) j) = x2 at *
    obtain ⟨q1, a1⟩ := a1
    obtain ⟨q2, a2⟩ := a2
    obtain ⟨q3, hw⟩ := hw
    exact ⟨q1 - U i k0 * w * q2 + U i k0 * V k0 j * q3, by grind⟩

/-- A table has the rank R. -/
structure Rk (p : Int) (A : Nat → Nat → Int) (n w R : Nat) : Prop where
  up : ∃ X Y : Nat → Nat → Int, ∀ i j, i < n → j < w → Cg p (A i j) (sm R fun r => X i r * Y r j)
  lo : ∃ P Q : Nat → Nat → Int, ∀ a b, a < R → b < R → Cg p (sm n fun i => sm w fun j => P a i * A i j * Q j b) (dl a b)

theorem Rk.nil {p : Int} {A : Nat → Nat → Int} {n : Nat} : Rk p A n 0 0 :=
  ⟨⟨fun _ _ => 0, fun _ _ => 0, fun _ _ _ h => by omega⟩, ⟨fun _ _ => 0, fun _ _ => 0, fun _ _ h => by omega⟩⟩
theorem Rk.none {p : Int} {A : Nat → Nat → Int} {w : Nat} : Rk p A 0 w 0 :=
  ⟨⟨fun _ _ => 0, fun _ _ => 0, fun _ _ h => by omega⟩, ⟨fun _ _ => 0, fun _ _ => 0, fun _ _ h => by omega⟩⟩
/-- A column of zeros put ahead. -/
theorem Rk.zcol {p : Int} {A B : Nat → Nat → Int} {n w R : Nat} (h : Rk p B n w R) (hz : ∀ i, i < n → A i 0 = 0) (hB : ∀ i j, i < n → j < w → B i j = A i (j + 1)) : Rk p A n (w + 1) R := by
  obtain ⟨⟨X, Y, hu⟩, ⟨P, Q, hl⟩⟩ := h
  refine ⟨⟨X, fun r j => if j = 0 then 0 else Y r (j - 1), fun i j hi hj => ?_⟩, ⟨P, fun j b => if j = 0 then 0 else Q (j - 1) b, fun a b ha hb => ?_⟩⟩
  · cases j with
    | zero =>
      rw [hz i hi, sm_zero' fun r _ => by simp]
      exact .rfl'
    | succ j =>
      have := hu i j hi (by omega)
      rw [hB i j hi (by omega)] at this
      simpa using this
  · have := hl a b ha hb
    refine Cg.trans (.of ?_) this
    refine sm_ext fun i hi => ?_
    rw [sm_left]
    simp only [if_true, Int.mul_zero, Int.zero_add]
    refine sm_ext fun j hj => ?_
    rw [hB i j hi hj]
    simp
/-- A pivot in the first place, zeros below it. -/
theorem Rk.pivot {p : Int} {A B : Nat → Nat → Int} {n w R : Nat} (hp : Fld p) (h : Rk p B n w R) (hs : ¬ p ∣ A 0 0) (hz : ∀ i, i < n → Cg p (A (i + 1) 0) 0) (hB : ∀ i j, i < n → j < w → B i j = A (i + 1) (j + 1)) : Rk p A (n + 1) (w + 1) (R + 1) := by
  obtain ⟨⟨X, Y, hu⟩, ⟨P, Q, hl⟩⟩ := h
  obtain ⟨s', hw⟩ := hp.2 _ hs
  refine ⟨⟨fun i r => if r = 0 then (if i = 0 then 1 else 0) else (if i = 0 then 0 else X (i - 1) (r - 1)), fun r j => if r = 0 then A 0 j else if j = 0 then 0 else Y (r - 1) (j - 1), fun i j hi hj => ?_⟩,
    ⟨fun a i => if a = 0 then (if i = 0 then s' else 0) else (if i = 0 then 0 else P (a - 1) (i - 1)),
     fun j b => if b = 0 then (if j = 0 then 1 else 0) else (if j = 0 then - (s' * sm w fun l => A 0 (l + 1) * Q l (b - 1)) else Q (j - 1) (b - 1)), fun a b ha hb => ?_⟩⟩
  · rw [sm_left]
    simp only [if_true, Nat.add_sub_cancel, Nat.succ_ne_zero, if_false, Nat.add_one_ne_zero]
    cases i with
    | zero =>
      simp only [if_true]
      rw [sm_zero' fun r _ => by simp]
      exact .of (by omega)
    | succ i =>
      simp only [Nat.succ_ne_zero, if_false, Nat.add_sub_cancel, Nat.add_one_ne_zero]
      cases j with
      | zero =>
        refine (hz i (by omega)).trans (.of ?_)
        rw [sm_zero' fun r _ => by simp]
        omega
      | succ j =>
        have := hu i j (by omega) (by omega)
        rw [hB i j (by omega) (by omega)] at this
        refine this.trans (.of ?_)
        simp only [Nat.succ_ne_zero, if_false, Nat.add_sub_cancel, Nat.add_one_ne_zero, Int.zero_mul, Int.zero_add]
  · rw [sm_left]
    simp only [if_true, Nat.add_sub_cancel, Nat.succ_ne_zero, if_false, Nat.add_one_ne_zero]
    cases a with
    | zero =>
      simp only [if_true, Int.zero_mul, sm_zero, Int.add_zero]
      rw [sm_left]
      simp only [if_true, Nat.add_sub_cancel, Nat.succ_ne_zero, if_false, Nat.add_one_ne_zero]
      cases b with
      | zero =>
        simp only [if_true, Int.mul_zero, sm_zero, Int.add_zero, Int.mul_one]
        exact hw
      | succ b =>
        simp only [Nat.succ_ne_zero, if_false, Nat.add_sub_cancel, Nat.add_one_ne_zero]
        have e : (sm w fun i => s' * A 0 (i + 1) * Q i b) = s' * sm w fun l => A 0 (l + 1) * Q l b := by
          rw [← sm_mul]
          exact sm_ext fun l _ => Int.mul_assoc _ _ _
        rw [e]
        have e0 : dl 0 (b + 1) = 0 := if_neg (by omega)
        rw [e0]
        generalize (sm w fun l => A 0 (l + 1) * Q l b) = z
        obtain ⟨q, hq⟩ := hw
        exact ⟨- (s' * z) * q, by grind⟩
    | succ a =>
      simp only [Nat.succ_ne_zero, if_false, Nat.add_sub_cancel, Nat.add_one_ne_zero, Int.zero_mul, sm_zero, Int.zero_add]
      cases b with
      | zero =>
        have e0 : dl (a + 1) 0 = 0 := if_neg (by omega)
        rw [e0]
        have : Cg p (sm n fun i => sm (w + 1) fun j => P a i * A (i + 1) j * if j = 0 then 1 else 0) (sm n fun i => 0) := Cg.sm fun i hi => by
          rw [sm_left]
          simp only [if_true, Nat.succ_ne_zero, if_false, Nat.add_one_ne_zero, Int.mul_zero, sm_zero, Int.add_zero, Int.mul_one]
          have := (Cg.rfl' (a := P a i)).mul (hz i hi)
          rwa [Int.mul_zero] at this
        rw [sm_zero] at this
        simpa using this
      | succ b =>
        have e0 : dl (a + 1) (b + 1) = dl a b := by simp [dl]
        rw [e0]
        simp only [Nat.succ_ne_zero, if_false, Nat.add_sub_cancel, Nat.add_one_ne_zero]
        refine Cg.trans ?_ (hl a b (by omega) (by omega))
        refine Cg.sm fun i hi => ?_
        rw [sm_left]
        simp only [if_true, Nat.succ_ne_zero, if_false, Nat.add_sub_cancel, Nat.add_one_ne_zero]
        have e1 : (sm w fun j => P a i * B i j * Q j b) = sm w fun j => P a i * A (i + 1) (j + 1) * Q j b := sm_ext fun j hj => by rw [hB i j hi hj]
        rw [e1]
        have z := hz i hi
        generalize (sm w fun j => P a i * A (i + 1) (j + 1) * Q j b) = y
        generalize (sm w fun l => A 0 (l + 1) * Q l b) = x
        obtain ⟨q, hq⟩ := z
        exact ⟨- (P a i * s' * x) * q, by grind⟩
/-- Rows changed by steps that can be undone. -/
theorem Rk.rows {p : Int} {A B : Nat → Nat → Int} {n w R : Nat} (h : Rk p B n w R) (G H : Nat → Nat → Int) (hG : ∀ l j, l < n → j < w → Cg p (B l j) (sm n fun i => G l i * A i j)) (hH : ∀ i j, i < n → j < w → Cg p (A i j) (sm n fun l => H i l * B l j)) : Rk p A n w R := by
  obtain ⟨⟨X, Y, hu⟩, ⟨P, Q, hl⟩⟩ := h
  refine ⟨⟨fun i r => sm n fun l => H i l * X l r, Y, fun i j hi hj => ?_⟩, ⟨fun a i => sm n fun l => P a l * G l i, Q, fun a b ha hb => ?_⟩⟩
  · refine (hH i j hi hj).trans ?_
    have h1 : Cg p (sm n fun l => H i l * B l j) (sm n fun l => H i l * sm R fun r => X l r * Y r j) := Cg.sm fun l hl' => Cg.rfl'.mul (hu l j hl' hj)
    refine h1.trans (.of ?_)
    have h2 : (sm n fun l => H i l * sm R fun r => X l r * Y r j) = sm n fun l => sm R fun r => H i l * X l r * Y r j := sm_ext fun l _ => by
      rw [← sm_mul]
      exact sm_ext fun r _ => (Int.mul_assoc _ _ _).symm
    rw [h2, sm_comm]
    exact sm_ext fun r _ => sm_mulr
  · refine Cg.trans ?_ (hl a b ha hb)
    have h1 : Cg p (sm n fun l => sm w fun j => P a l * B l j * Q j b) (sm n fun l => sm w fun j => P a l * (sm n fun i => G l i * A i j) * Q j b) :=
      Cg.sm fun l hl' => Cg.sm fun j hj => (Cg.rfl'.mul (hG l j hl' hj)).mul .rfl'
    refine Cg.trans (.of ?_) h1.symm
    have h2 : (sm n fun i => sm w fun j => (sm n fun l => P a l * G l i) * A i j * Q j b) = sm n fun i => sm w fun j => sm n fun l => P a l * G l i * A i j * Q j b := sm_ext fun i _ => sm_ext fun j _ => by
      rw [← sm_mulr, ← sm_mulr]
    have h3 : (sm n fun l => sm w fun j => P a l * (sm n fun i => G l i * A i j) * Q j b) = sm n fun l => sm w fun j => sm n fun i => P a l * G l i * A i j * Q j b := sm_ext fun l _ => sm_ext fun j _ => by
      rw [← sm_mul, ← sm_mulr]
      exact sm_ext fun i _ => by grind
    rw [h2, h3]
    have h4 : (sm n fun i => sm w fun j => sm n fun l => P a l * G l i * A i j * Q j b) = sm n fun i => sm n fun l => sm w fun j => P a l * G l i * A i j * Q j b := sm_ext fun i _ => sm_comm
    have h5 : (sm n fun l => sm w fun j => sm n fun i => P a l * G l i * A i j * Q j b) = sm n fun l => sm n fun i => sm w fun j => P a l * G l i * A i j * Q j b := sm_ext fun l _ => sm_comm
    rw [h4, h5]
    exact sm_comm

/-- A table of three indexes has the rank R as a table of rows. -/
structure Rk3 (p : Int) (T : Nat → Nat → Nat → Int) (I J K R : Nat) : Prop where
  up : ∃ (X : Nat → Nat → Int) (Y : Nat → Nat → Nat → Int), ∀ i j k, i < I → j < J → k < K → Cg p (T i j k) (sm R fun r => X i r * Y r j k)
  lo : ∃ (P : Nat → Nat → Int) (Q : Nat → Nat → Nat → Int), ∀ a b, a < R → b < R → Cg p (sm I fun i => sm J fun j => sm K fun k => P a i * T i j k * Q j k b) (dl a b)
theorem lin_lt {j k J K : Nat} (hj : j < J) (hk : k < K) : j * K + k < J * K := by
  have := Nat.mul_le_mul_right K (show j + 1 ≤ J from hj)
  rw [Nat.succ_mul] at this
  omega
theorem Rk.three {p : Int} {A : Nat → Nat → Int} {T : Nat → Nat → Nat → Int} {I J K R : Nat} (h : Rk p A I (J * K) R) (hT : ∀ i j k, i < I → j < J → k < K → T i j k = A i (j * K + k)) : Rk3 p T I J K R := by
  obtain ⟨⟨X, Y, hu⟩, ⟨P, Q, hl⟩⟩ := h
  refine ⟨⟨X, fun r j k => Y r (j * K + k), fun i j k hi hj hk => ?_⟩, ⟨P, fun j k b => Q (j * K + k) b, fun a b ha hb => ?_⟩⟩
  · rw [hT i j k hi hj hk]
    exact hu i _ hi (lin_lt hj hk)
  · refine Cg.trans (.of ?_) (hl a b ha hb)
    refine sm_ext fun i hi => ?_
    rw [sm_rows]
    exact sm_ext fun j hj => sm_ext fun k hk => by rw [hT i j k hi hj hk]

/-- The rank is at most every number that the table goes through. -/
theorem Rk3.le {p : Int} {T : Nat → Nat → Nat → Int} {I J K R S : Nat} (hp : Fld p) (h : Rk3 p T I J K R) {X : Nat → Nat → Int} {Y : Nat → Nat → Nat → Int} (hu : ∀ i j k, i < I → j < J → k < K → Cg p (T i j k) (sm S fun r => X i r * Y r j k)) : R ≤ S := by
  obtain ⟨_, ⟨P, Q, hl⟩⟩ := h
  refine dim_le hp S R (fun a r => sm I fun i => P a i * X i r) (fun r b => sm J fun j => sm K fun k => Y r j k * Q j k b) fun a b ha hb => ?_
  refine Cg.trans ?_ (hl a b ha hb)
  have h1 : Cg p (sm I fun i => sm J fun j => sm K fun k => P a i * T i j k * Q j k b) (sm I fun i => sm J fun j => sm K fun k => P a i * (sm S fun r => X i r * Y r j k) * Q j k b) :=
    Cg.sm fun i hi => Cg.sm fun j hj => Cg.sm fun k hk => (Cg.rfl'.mul (hu i j k hi hj hk)).mul .rfl'
  refine Cg.trans (.of ?_) h1.symm
  have h2 : (sm I fun i => sm J fun j => sm K fun k => P a i * (sm S fun r => X i r * Y r j k) * Q j k b) = sm I fun i => sm S fun r => sm J fun j => sm K fun k => P a i * X i r * (Y r j k * Q j k b) := sm_ext fun i _ => by
    rw [sm_comm (n := S)]
    refine sm_ext fun j _ => ?_
    rw [sm_comm (n := S)]
    refine sm_ext fun k _ => ?_
    rw [← sm_mul, ← sm_mulr]
    exact sm_ext fun r _ => by grind
  rw [h2, sm_comm (n := I)]
  refine sm_ext fun r _ => ?_
  rw [← sm_mulr]
  refine sm_ext fun i _ => ?_
  rw [← sm_mul]
  refine sm_ext fun j _ => ?_
  rw [← sm_mul]
theorem Rk3.eq {p : Int} {T : Nat → Nat → Nat → Int} {I J K R S : Nat} (hp : Fld p) (h : Rk3 p T I J K R) (g : Rk3 p T I J K S) : R = S := by
  obtain ⟨X, Y, hu⟩ := h.up
  obtain ⟨X', Y', hu'⟩ := g.up
  exact Nat.le_antisymm (h.le hp hu') (g.le hp hu)

/-- Sums. -/
theorem Rk3.add {p : Int} {T A B : Nat → Nat → Nat → Int} {c : Int} {I J K R a b : Nat} (hp : Fld p) (h : Rk3 p T I J K R) (hA : Rk3 p A I J K a) (hB : Rk3 p B I J K b) (e : ∀ i j k, i < I → j < J → k < K → Cg p (T i j k) (A i j k + c * B i j k)) : R ≤ a + b := by
  obtain ⟨X, Y, hu⟩ := hA.up
  obtain ⟨X', Y', hu'⟩ := hB.up
  refine h.le hp (X := fun i r => if r < a then X i r else X' i (r - a)) (Y := fun r j k => if r < a then Y r j k else c * Y' (r - a) j k) fun i j k hi hj hk => ?_
  refine (e i j k hi hj hk).trans (((hu i j k hi hj hk).add (Cg.rfl'.mul (hu' i j k hi hj hk))).trans (.of ?_))
  rw [sm_split, ← sm_mul]
  congr 1
  · exact sm_ext fun r hr => by rw [if_pos hr, if_pos hr]
  · exact sm_ext fun r hr => by rw [if_neg (by omega), if_neg (by omega), Nat.add_sub_cancel_left]; grind

theorem dl_mul {a b a' b' R : Nat} (h : b < R) (h' : b' < R) : dl (a * R + b) (a' * R + b') = dl a a' * dl b b' := by
  unfold dl
  by_cases e : a = a'
  · subst e
    by_cases e2 : b = b'
    · subst e2; simp
    · rw [if_neg (by omega), if_neg e2]; simp
  · have : a * R + b ≠ a' * R + b' := fun h3 => by
      have h4 : (a * R + b) / R = (a' * R + b') / R := by rw [h3]
      have hR : 0 < R := by omega
      rw [Nat.mul_comm, Nat.mul_add_div hR, Nat.mul_comm, Nat.mul_add_div hR, Nat.div_eq_of_lt h, Nat.div_eq_of_lt h'] at h4
      omega
    rw [if_neg this, if_neg e]; simp
theorem dm {a b m : Nat} (h : b < m) : (a * m + b) / m = a ∧ (a * m + b) % m = b := by
  have hm : 0 < m := by omega
  constructor
  · rw [Nat.mul_comm, Nat.mul_add_div hm, Nat.div_eq_of_lt h]; rfl
  · rw [Nat.mul_comm, Nat.mul_add_mod, Nat.mod_eq_of_lt h]
theorem dm_of {x n m : Nat} (h : x < n * m) : x / m < n ∧ x % m < m ∧ x = x / m * m + x % m := by
  have hm : 0 < m := by
    rcases Nat.eq_zero_or_pos m with e | e
    · subst e; simp at h
    · exact e
  exact ⟨(Nat.div_lt_iff_lt_mul hm).2 h, Nat.mod_lt _ hm, by rw [Nat.mul_comm]; exact (Nat.div_add_mod x m).symm⟩
/-- Products. -/
theorem Rk3.kron {p : Int} {T A B : Nat → Nat → Nat → Int} {I J K I' J' K' a b : Nat} (hA : Rk3 p A I J K a) (hB : Rk3 p B I' J' K' b)
    (e : ∀ i i' j j' k k', i < I → i' < I' → j < J → j' < J' → k < K → k' < K' → Cg p (T (i * I' + i') (j * J' + j') (k * K' + k')) (A i j k * B i' j' k')) : Rk3 p T (I * I') (J * J') (K * K') (a * b) := by
  obtain ⟨⟨X, Y, hu⟩, ⟨P, Q, hl⟩⟩ := hA
  obtain ⟨⟨X', Y', hu'⟩, ⟨P', Q', hl'⟩⟩ := hB
  refine ⟨⟨fun i r => X (i / I') (r / b) * X' (i % I') (r % b), fun r j k => Y (r / b) (j / J') (k / K') * Y' (r % b) (j % J') (k % K'), fun i j k hi hj hk => ?_⟩,
    ⟨fun c i => P (c / b) (i / I') * P' (c % b) (i % I'), fun j k c => Q (j / J') (k / K') (c / b) * Q' (j % J') (k % K') (c % b), fun c d hc hd => ?_⟩⟩
  · obtain ⟨i1, i2, ei⟩ := dm_of hi
    obtain ⟨j1, j2, ej⟩ := dm_of hj
    obtain ⟨k1, k2, ek⟩ := dm_of hk
    have h1 := e _ _ _ _ _ _ i1 i2 j1 j2 k1 k2
    rw [← ei, ← ej, ← ek] at h1
    refine h1.trans (((hu _ _ _ i1 j1 k1).mul (hu' _ _ _ i2 j2 k2)).trans (.of ?_))
    symm
    refine sm_prod fun r r' hr hr' => ?_
    try dsimp only
    rw [(dm hr').1, (dm hr').2]
    grind
  · obtain ⟨c1, c2, ec⟩ := dm_of hc
    obtain ⟨d1, d2, ed⟩ := dm_of hd
    have h0 := (hl _ _ c1 d1).mul (hl' _ _ c2 d2)
    rw [← dl_mul c2 d2, ← ec, ← ed] at h0
    refine Cg.trans ?_ h0
    try dsimp only
    generalize c / b = cc, c % b = c', d / b = dd, d % b = d'
    have h1 : Cg p (sm (I * I') fun i => sm (J * J') fun j => sm (K * K') fun k => P cc (i / I') * P' c' (i % I') * T i j k * (Q (j / J') (k / K') dd * Q' (j % J') (k % K') d'))
        (sm (I * I') fun i => sm (J * J') fun j => sm (K * K') fun k => P cc (i / I') * P' c' (i % I') * (A (i / I') (j / J') (k / K') * B (i % I') (j % J') (k % K')) * (Q (j / J') (k / K') dd * Q' (j % J') (k % K') d')) :=
      Cg.sm fun i hi => Cg.sm fun j hj => Cg.sm fun k hk => by
        obtain ⟨i1, i2, ei⟩ := dm_of hi
        obtain ⟨j1, j2, ej⟩ := dm_of hj
        obtain ⟨k1, k2, ek⟩ := dm_of hk
        have h1 := e _ _ _ _ _ _ i1 i2 j1 j2 k1 k2
        rw [← ei, ← ej, ← ek] at h1
        exact (Cg.rfl'.mul h1).mul .rfl'
    refine h1.trans (.of ?_)
    refine sm_prod fun i i' hi hi' => ?_
    try dsimp only
    rw [(dm hi').1, (dm hi').2]
    refine sm_prod fun j j' hj hj' => ?_
    try dsimp only
    rw [(dm hj').1, (dm hj').2]
    refine sm_prod fun k k' hk hk' => ?_
    try dsimp only
    rw [(dm hk').1, (dm hk').2]
    grind
/-- Direct sums. -/
theorem Rk3.dsum {p : Int} {T A B : Nat → Nat → Nat → Int} {I J K I' J' K' a b : Nat} (hA : Rk3 p A I J K a) (hB : Rk3 p B I' J' K' b)
    (e1 : ∀ i j k, i < I → j < J → k < K → T i j k = A i j k) (e2 : ∀ i j k, i < I' → j < J' → k < K' → T (I + i) (J + j) (K + k) = B i j k)
    (e0 : ∀ i j k, ¬ (i < I ∧ j < J ∧ k < K) → ¬ (I ≤ i ∧ J ≤ j ∧ K ≤ k) → T i j k = 0) : Rk3 p T (I + I') (J + J') (K + K') (a + b) := by
  obtain ⟨⟨X, Y, hu⟩, ⟨P, Q, hl⟩⟩ := hA
  obtain ⟨⟨X', Y', hu'⟩, ⟨P', Q', hl'⟩⟩ := hB
  refine ⟨⟨fun i r => if r < a then (if i < I then X i r else 0) else (if i < I then 0 else X' (i - I) (r - a)),
      fun r j k => if r < a then (if j < J ∧ k < K then Y r j k else 0) else (if J ≤ j ∧ K ≤ k then Y' (r - a) (j - J) (k - K) else 0), fun i j k hi hj hk => ?_⟩,
    ⟨fun c i => if c < a then (if i < I then P c i else 0) else (if i < I then 0 else P' (c - a) (i - I)),
      fun j k c => if c < a then (if j < J ∧ k < K then Q j k c else 0) else (if J ≤ j ∧ K ≤ k then Q' (j - J) (k - K) (c - a) else 0), fun c d hc hd => ?_⟩⟩
  · dsimp only
    rw [sm_split]
    by_cases h1 : i < I ∧ j < J ∧ k < K
    · rw [e1 i j k h1.1 h1.2.1 h1.2.2]
      refine (hu i j k h1.1 h1.2.1 h1.2.2).trans (.of ?_)
      rw [sm_zero' (f := fun r => _ * _) (n := b) fun r _ => by
        rw [if_neg (show ¬ a + r < a by omega), if_pos h1.1, Int.zero_mul]]
      rw [Int.add_zero]
      exact sm_ext fun r hr => by rw [if_pos hr, if_pos hr, if_pos h1.1, if_pos h1.2]
    · by_cases h2 : I ≤ i ∧ J ≤ j ∧ K ≤ k
      · have h3 := e2 (i - I) (j - J) (k - K) (by omega) (by omega) (by omega)
        rw [show I + (i - I) = i by omega, show J + (j - J) = j by omega, show K + (k - K) = k by omega] at h3
        rw [h3]
        refine (hu' _ _ _ (by omega) (by omega) (by omega)).trans (.of ?_)
        rw [sm_zero' (f := fun r => _ * _) (n := a) fun r hr => by
          rw [if_pos hr, if_neg (show ¬ i < I by omega), Int.zero_mul]]
        rw [Int.zero_add]
        exact sm_ext fun r hr => by rw [if_neg (show ¬ a + r < a by omega), if_neg (show ¬ a + r < a by omega), if_neg (show ¬ i < I by omega), if_pos h2.2, Nat.add_sub_cancel_left]
      · rw [e0 i j k h1 h2]
        refine .of ?_
        rw [sm_zero' (f := fun r => _ * _) (n := a) fun r hr => by
          rw [if_pos hr, if_pos hr]
          by_cases h3 : i < I
          · rw [if_neg (show ¬ (j < J ∧ k < K) from fun h4 => h1 ⟨h3, h4⟩), Int.mul_zero]
          · rw [if_neg h3, Int.zero_mul]]
        rw [sm_zero' (f := fun r => _ * _) (n := b) fun r hr => by
          rw [if_neg (show ¬ a + r < a by omega), if_neg (show ¬ a + r < a by omega)]
          by_cases h3 : i < I
          · rw [if_pos h3, Int.zero_mul]
          · rw [if_neg (show ¬ (J ≤ j ∧ K ≤ k) from fun h4 => h2 ⟨by omega, h4⟩), Int.mul_zero]]
        rfl
  · dsimp only
    rw [sm_split]
    by_cases h1 : c < a
    · -- the first part alone
      simp only [if_pos h1]
      rw [sm_zero' (f := fun i => _) (n := I') fun i _ => by
        rw [if_neg (show ¬ I + i < I by omega)]
        exact sm_zero' fun j _ => sm_zero' fun k _ => by rw [Int.zero_mul, Int.zero_mul]]
      rw [Int.add_zero]
      have hin : ∀ i, i < I → (sm (J + J') fun j => sm (K + K') fun k => (if i < I then P c i else 0) * T i j k * (if d < a then if j < J ∧ k < K then Q j k d else 0 else if J ≤ j ∧ K ≤ k then Q' (j - J) (k - K) (d - a) else 0))
          = sm J fun j => sm K fun k => P c i * A i j k * (if d < a then Q j k d else 0) := fun i hi => by
        rw [if_pos hi, sm_split, sm_zero' (f := fun j => _) (n := J') fun j _ => sm_zero' fun k _ => by
          rw [e0 i (J + j) k (by omega) (by omega), Int.mul_zero, Int.zero_mul]]
        rw [Int.add_zero]
        refine sm_ext fun j hj => ?_
        rw [sm_split, sm_zero' (f := fun k => _) (n := K') fun k _ => by
          rw [e0 i j (K + k) (by omega) (by omega), Int.mul_zero, Int.zero_mul]]
        rw [Int.add_zero]
        refine sm_ext fun k hk => ?_
        rw [e1 i j k hi hj hk]
        by_cases hda : d < a
        · rw [if_pos hda, if_pos hda, if_pos ⟨hj, hk⟩]
        · rw [if_neg hda, if_neg hda, if_neg (show ¬ (J ≤ j ∧ K ≤ k) by omega)]
      rw [sm_ext hin]
      by_cases h2 : d < a
      · simp only [if_pos h2]
        exact hl c d h1 h2
      · simp only [if_neg h2, Int.mul_zero, sm_zero]
        rw [show dl c d = 0 from if_neg (by omega)]
        exact .rfl'
    · simp only [if_neg h1]
      rw [sm_zero' (f := fun i => _) (n := I) fun i hi => by
        rw [if_pos hi]
        exact sm_zero' fun j _ => sm_zero' fun k _ => by rw [Int.zero_mul, Int.zero_mul]]
      rw [Int.zero_add]
      have hin : ∀ i, i < I' → (sm (J + J') fun j => sm (K + K') fun k => (if I + i < I then 0 else P' (c - a) (I + i - I)) * T (I + i) j k * (if d < a then if j < J ∧ k < K then Q j k d else 0 else if J ≤ j ∧ K ≤ k then Q' (j - J) (k - K) (d - a) else 0))
          = sm J' fun j => sm K' fun k => P' (c - a) i * B i j k * (if d < a then 0 else Q' j k (d - a)) := fun i hi => by
        rw [if_neg (show ¬ I + i < I by omega), Nat.add_sub_cancel_left, sm_split, sm_zero' (f := fun j => _) (n := J) fun j hj => sm_zero' fun k _ => by
          rw [e0 (I + i) j k (by omega) (by omega), Int.mul_zero, Int.zero_mul]]
        rw [Int.zero_add]
        refine sm_ext fun j hj => ?_
        rw [sm_split, sm_zero' (f := fun k => _) (n := K) fun k hk => by
          rw [e0 (I + i) (J + j) k (by omega) (by omega), Int.mul_zero, Int.zero_mul]]
        rw [Int.zero_add]
        refine sm_ext fun k hk => ?_
        rw [e2 i j k hi hj hk]
        by_cases hda : d < a
        · rw [if_pos hda, if_pos hda, if_neg (show ¬ (J + j < J ∧ K + k < K) by omega)]
        · rw [if_neg hda, if_neg hda, if_pos (show J ≤ J + j ∧ K ≤ K + k by omega), Nat.add_sub_cancel_left, Nat.add_sub_cancel_left]
      rw [sm_ext hin]
      by_cases h2 : d < a
      · simp only [if_pos h2, Int.mul_zero, sm_zero]
        rw [show dl c d = 0 from if_neg (by omega)]
        exact .rfl'
      · simp only [if_neg h2]
        have := hl' (c - a) (d - a) (by omega) (by omega)
        have ed : dl (c - a) (d - a) = dl c d := by
          unfold dl
          by_cases e : c = d
          · rw [if_pos e, if_pos (by omega)]
          · rw [if_neg e, if_neg (by omega)]
        rwa [ed] at this
end Go.Proofs.Ytapafdpnmakekaa.X

/- Rank one: the elimination finds one row just if all small determinants are 0. -/
set_option linter.unusedVariables false
set_option linter.unusedSimpArgs false
set_option maxRecDepth 20000
set_option maxHeartbeats 4000000
namespace Go.Proofs.Ytapafdpnmakekaa.X
open Go Go.RowKit

theorem tmod_dvd (x p : Int) : p ∣ x - x.tmod p := ⟨x.tdiv p, by have := Int.mul_tdiv_add_tmod x p; omega⟩
theorem dvd_small {p x : Int} (h : p ∣ x) (h0 : 0 ≤ x ∧ x < p) : x = 0 := by
  have := Int.emod_eq_zero_of_dvd h
  rw [Int.emod_eq_of_lt h0.1 h0.2] at this
  exact this
theorem md_dvd (p x : Int) : p ∣ x - md p x := by
  unfold md
  obtain ⟨a, ha⟩ := tmod_dvd x p
  obtain ⟨b, hb⟩ := tmod_dvd (x.tmod p + p) p
  exact ⟨a + b - 1, by grind⟩
theorem inv_dvd {p n w : Int} (h : IsInv p n w) : ∃ q, w * n = 1 + p * q := by
  obtain ⟨q, hq⟩ := tmod_dvd (w * n) p
  rw [h.2.2.1] at hq
  exact ⟨q, by omega⟩
theorem pivot_none {T : List (List Int)} {c : Nat} : ∀ {m r : Nat}, pivot T c m r = r + m → ∀ i, r ≤ i → i < r + m → tb T i c = 0
  | 0, r, h, i, h1, h2 => by omega
  | m + 1, r, h, i, h1, h2 => by
    unfold pivot at h
    by_cases h0 : tb T r c = 0
    · rw [if_pos h0] at h
      by_cases hi : i = r
      · subst hi
        exact h0
      · exact pivot_none (m := m) (r := r + 1) (by omega) i (by omega) (by omega)
    · rw [if_neg h0] at h
      omega
theorem elim_ge {p : Int} : ∀ {m : Nat} {T : List (List Int)} {r c : Nat}, r ≤ elim p T r c m
  | 0, T, r, c => Nat.le_refl _
  | m + 1, T, r, c => by
    unfold elim
    refine Nat.le_trans ?_ elim_ge
    unfold colStep
    split
    · exact Nat.le_refl _
    · simp
theorem tb_swapped {T : List (List Int)} {r i j l : Nat} (hr : r < T.length) (hi : i < T.length) : tb (swapped T r i) j l = if j = r then tb T i l else if j = i then tb T r l else tb T j l := by
  unfold tb
  rw [swapped_get hr hi]
  split
  · rfl
  · split <;> rfl
end Go.Proofs.Ytapafdpnmakekaa.X

/- The elimination finds the rank. -/
set_option linter.unusedVariables false
set_option linter.unusedSimpArgs false
set_option maxRecDepth 20000
set_option maxHeartbeats 4000000
namespace Go.Proofs.Ytapafdpnmakekaa.X

theorem fld_of {p : Int} (hP : isP p = true) : Fld p := by
  have hp := isP_in hP
  refine ⟨hp.1, fun x hx => ?_⟩
  have h0 : 0 ≤ x % p ∧ x % p < p := ⟨Int.emod_nonneg _ (by omega), Int.emod_lt_of_pos _ (by omega)⟩
  have h1 : x % p ≠ 0 := fun e => hx (Int.dvd_of_emod_eq_zero e)
  obtain ⟨w, hw⟩ := inv_is hP (n := x % p) (by omega)
  obtain ⟨q, hq⟩ := inv_dvd hw
  have := Int.mul_ediv_add_emod x p
  exact ⟨w, q + w * (x / p), by grind⟩
theorem inv_cg {p n : Int} (hP : isP p = true) (hn : 1 ≤ n ∧ n < p) : Cg p (invN p n * n) 1 := by
  obtain ⟨q, hq⟩ := inv_dvd (invN_is hP hn)
  exact ⟨q, by omega⟩
theorem small_not {p x : Int} (h : 0 ≤ x ∧ x < p) (h0 : x ≠ 0) : ¬ p ∣ x := fun hd => h0 (dvd_small hd h)

theorem swept_tb {p : Int} {S : List (List Int)} {w r c j l : Nat} (g : Good p S w) (hj : j < S.length) (hl : l < w) :
    Cg p (tb (swept p S r c S.length) j l) (tb S j l - (if r < j then tb S j c * invN p (tb S r c) else 0) * tb S r l) := by
  have e : tb (swept p S r c S.length) j l = if r < j then md p ((S.getD j []).getD l 0 - ((S.getD j []).getD c 0 * invN p ((S.getD r []).getD c 0)).tmod p * (S.getD r []).getD l 0) else tb S j l := by
    unfold tb
    rw [swept_get hj]
    by_cases h : r < j
    · rw [if_pos ⟨h, hj⟩, if_pos h]
      unfold rowOp
      rw [gen_get (by rw [(g j hj).1]; exact hl)]
    · rw [if_neg (by omega), if_neg h]
  rw [e]
  by_cases h : r < j
  · rw [if_pos h, if_pos h]
    unfold tb
    obtain ⟨a, ha⟩ := md_dvd p ((S.getD j []).getD l 0 - ((S.getD j []).getD c 0 * invN p ((S.getD r []).getD c 0)).tmod p * (S.getD r []).getD l 0)
    obtain ⟨b, hb⟩ := tmod_dvd ((S.getD j []).getD c 0 * invN p ((S.getD r []).getD c 0)) p
    exact ⟨-a + b * (S.getD r []).getD l 0, by grind⟩
  · rw [if_neg h, if_neg h]
    exact .of (by omega)

theorem elim_rk {p : Int} (hP : isP p = true) {w : Nat} : ∀ (m : Nat) (T : List (List Int)) (r c : Nat), Good p T w → r ≤ T.length → c + m = w →
    Rk p (fun i j => tb T (r + i) (c + j)) (T.length - r) m (elim p T r c m - r)
  | 0, T, r, c, g, hr, hc => by
    unfold elim
    rw [Nat.sub_self]
    exact Rk.nil
  | m + 1, T, r, c, g, hr, hc => by
    have hp := isP_in hP
    have g2 := g.colStep (c := c) hp.1 hr
    unfold elim
    have hk := pivot_le (T := T) (c := c) (m := T.length - r) (r := r)
    by_cases hpv : pivot T c (T.length - r) r = T.length
    · have e : colStep p T r c = (T, r) := by unfold colStep; rw [if_pos hpv]
      rw [e]
      have ih := elim_rk hP m T r (c + 1) g hr (by omega)
      refine ih.zcol (fun i hi => ?_) (fun i j hi hj => ?_)
      · show tb T (r + i) c = 0
        exact pivot_none (m := T.length - r) (r := r) (by omega) (r + i) (by omega) (by omega)
      · show tb T (r + i) (c + 1 + j) = tb T (r + i) (c + (j + 1))
        congr 1
        omega
    · generalize hk0 : pivot T c (T.length - r) r = k at hpv hk
      have hkl : k < T.length := by omega
      have hne : tb T k c ≠ 0 := by
        have := pivot_ne (T := T) (c := c) (m := T.length - r) (r := r) (by rw [hk0]; omega)
        rwa [hk0] at this
      have e : colStep p T r c = (swept p (swapped T r k) r c T.length, r + 1) := by unfold colStep; rw [hk0, if_neg hpv]
      rw [e] at g2 ⊢
      have gS := g.swapped (r := r) (i := k) (by omega) hkl
      have hSl : (swapped T r k).length = T.length := swapped_len
      have ih := elim_rk hP m (swept p (swapped T r k) r c T.length) (r + 1) (c + 1) g2.1 (by rw [swept_len, hSl]; omega) (by omega)
      have hge := elim_ge (p := p) (m := m) (T := swept p (swapped T r k) r c T.length) (r := r + 1) (c := c + 1)
      generalize hE : elim p (swept p (swapped T r k) r c T.length) (r + 1) (c + 1) m = E at ih hge
      rw [swept_len, hSl] at ih
      have hcw : c < w := by omega
      have sr : tb (swapped T r k) r c = tb T k c := by rw [tb_swapped (by omega) hkl, if_pos rfl]
      have rk := (g k hkl).2 c hcw
      have iv := inv_cg hP (n := tb T k c) (by omega)
      have st := fun j l (hj : j < T.length) (hl : l < w) => swept_tb (r := r) (c := c) (j := j) (l := l) gS (by rw [hSl]; exact hj) hl
      simp only [hSl, sr] at st
      -- the swept table has one rank more
      have up := ih.pivot (A := fun i j => tb (swept p (swapped T r k) r c T.length) (r + i) (c + j)) (fld_of hP) (by
          show ¬ p ∣ tb (swept p (swapped T r k) r c T.length) (r + 0) (c + 0)
          rw [Nat.add_zero, Nat.add_zero]
          intro hd
          have h1 := st r c (by omega) hcw
          rw [if_neg (by omega), sr] at h1
          obtain ⟨q1, h1⟩ := h1
          obtain ⟨q2, hd⟩ := hd
          exact small_not rk hne ⟨q2 - q1, by grind⟩) (fun i hi => by
          show Cg p (tb (swept p (swapped T r k) r c T.length) (r + (i + 1)) (c + 0)) 0
          rw [Nat.add_zero]
          have h1 := st (r + (i + 1)) c (by omega) hcw
          rw [if_pos (by omega), sr] at h1
          obtain ⟨q1, h1⟩ := h1
          obtain ⟨q2, iv⟩ := iv
          exact ⟨q1 - tb (swapped T r k) (r + (i + 1)) c * q2, by grind⟩) (fun i j hi hj => by
          show tb _ (r + 1 + i) (c + 1 + j) = tb _ (r + (i + 1)) (c + (j + 1))
          rw [show r + 1 + i = r + (i + 1) by omega, show c + 1 + j = c + (j + 1) by omega])
      rw [show T.length - (r + 1) + 1 = T.length - r by omega, show E - (r + 1) + 1 = E - r by omega] at up
      -- undo the sweeping
      have back : Rk p (fun i j => tb (swapped T r k) (r + i) (c + j)) (T.length - r) (m + 1) (E - r) := by
        refine up.rows (fun l i => dl i l - (if i = 0 then (if 0 < l then tb (swapped T r k) (r + l) c * invN p (tb T k c) else 0) else 0))
          (fun i l => dl l i + (if l = 0 then (if 0 < i then tb (swapped T r k) (r + i) c * invN p (tb T k c) else 0) else 0)) (fun l j hl hj => ?_) (fun i j hi hj => ?_)
        · have h1 := st (r + l) (c + j) (by omega) (by omega)
          refine h1.trans (.of ?_)
          have e1 : (sm (T.length - r) fun i => (dl i l - (if i = 0 then (if 0 < l then tb (swapped T r k) (r + l) c * invN p (tb T k c) else 0) else 0)) * tb (swapped T r k) (r + i) (c + j))
              = (sm (T.length - r) fun i => if i = l then tb (swapped T r k) (r + i) (c + j) else 0) + (sm (T.length - r) fun i => if i = 0 then - (if 0 < l then tb (swapped T r k) (r + l) c * invN p (tb T k c) else 0) * tb (swapped T r k) (r + i) (c + j) else 0) := by
            rw [← sm_add]
            refine sm_ext fun i hi => ?_
            unfold dl
            by_cases a1 : i = l <;> by_cases a2 : i = 0 <;> simp only [a1, a2, if_true, if_false] <;> grind
          rw [e1, sm_delta (by omega), sm_delta (by omega), Nat.add_zero]
          by_cases h0 : 0 < l
          · rw [if_pos h0, if_pos (by omega)]; grind
          · rw [if_neg h0, if_neg (by omega)]; grind
        · have h1 := st (r + i) (c + j) (by omega) (by omega)
          have h2 := st r (c + j) (by omega) (by omega)
          rw [if_neg (by omega)] at h2
          have e1 : (sm (T.length - r) fun l => (dl l i + (if l = 0 then (if 0 < i then tb (swapped T r k) (r + i) c * invN p (tb T k c) else 0) else 0)) * tb (swept p (swapped T r k) r c T.length) (r + l) (c + j))
              = (sm (T.length - r) fun l => if l = i then tb (swept p (swapped T r k) r c T.length) (r + l) (c + j) else 0) + (sm (T.length - r) fun l => if l = 0 then (if 0 < i then tb (swapped T r k) (r + i) c * invN p (tb T k c) else 0) * tb (swept p (swapped T r k) r c T.length) (r + l) (c + j) else 0) := by
            rw [← sm_add]
            refine sm_ext fun l hl => ?_
            unfold dl
            by_cases a1 : l = i <;> by_cases a2 : l = 0 <;> simp only [a1, a2, if_true, if_false] <;> grind
          show Cg p _ (sm (T.length - r) fun l => (dl l i + (if l = 0 then (if 0 < i then tb (swapped T r k) (r + i) c * invN p (tb T k c) else 0) else 0)) * tb (swept p (swapped T r k) r c T.length) (r + l) (c + j))
          rw [e1, sm_delta (by omega), sm_delta (by omega), Nat.add_zero]
          obtain ⟨q1, h1⟩ := h1
          obtain ⟨q2, h2⟩ := h2
          by_cases h0 : 0 < i
          · rw [if_pos (show r < r + i by omega)] at h1
            rw [if_pos h0]
            exact ⟨-q1 - tb (swapped T r k) (r + i) c * invN p (tb T k c) * q2, by grind⟩
          · rw [if_neg (show ¬ r < r + i by omega)] at h1
            rw [if_neg h0]
            exact ⟨-q1, by grind⟩
      -- undo the swap
      have sg : ∀ i, i < T.length - r → (if i = 0 then k - r else if i = k - r then 0 else i) < T.length - r := fun i hi => by
        split
        · omega
        · split <;> omega
      have sw : ∀ i j, i < T.length - r → tb (swapped T r k) (r + i) (c + j) = tb T (r + (if i = 0 then k - r else if i = k - r then 0 else i)) (c + j) := fun i j hi => by
        rw [tb_swapped (by omega) hkl]
        by_cases a : i = 0
        · rw [if_pos (by omega), if_pos a]; congr 1; omega
        · rw [if_neg (by omega), if_neg a]
          by_cases b : i = k - r
          · rw [if_pos (by omega), if_pos b]; rfl
          · rw [if_neg (by omega), if_neg b]
      refine back.rows (fun l i => dl i (if l = 0 then k - r else if l = k - r then 0 else l)) (fun i l => dl l (if i = 0 then k - r else if i = k - r then 0 else i)) (fun l j hl hj => .of ?_) (fun i j hi hj => .of ?_)
      · show tb (swapped T r k) (r + l) (c + j) = _
        rw [sw l j hl]
        have := sm_delta (f := fun i => tb T (r + i) (c + j)) (sg l hl)
        rw [← this]
        refine sm_ext fun i _ => ?_
        unfold dl
        by_cases a : i = (if l = 0 then k - r else if l = k - r then 0 else l)
        · rw [if_pos a, if_pos a, Int.one_mul]
        · rw [if_neg a, if_neg a, Int.zero_mul]
      · show tb T (r + i) (c + j) = sm (T.length - r) fun l => dl l (if i = 0 then k - r else if i = k - r then 0 else i) * tb (swapped T r k) (r + l) (c + j)
        have h1 := sm_delta (f := fun l => tb (swapped T r k) (r + l) (c + j)) (sg i hi)
        have h2 : (sm (T.length - r) fun l => dl l (if i = 0 then k - r else if i = k - r then 0 else i) * tb (swapped T r k) (r + l) (c + j)) = tb (swapped T r k) (r + (if i = 0 then k - r else if i = k - r then 0 else i)) (c + j) := by
          rw [← h1]
          refine sm_ext fun l _ => ?_
          unfold dl
          by_cases a : l = (if i = 0 then k - r else if i = k - r then 0 else i)
          · rw [if_pos a, if_pos a, Int.one_mul]
          · rw [if_neg a, if_neg a, Int.zero_mul]
        rw [h2, sw _ j (sg i hi)]
        congr 2
        by_cases a : i = 0
        · rw [if_pos a]
          by_cases b : k - r = 0
          · rw [if_pos b]; omega
          · rw [if_neg b, if_pos rfl]; omega
        · rw [if_neg a]
          by_cases b : i = k - r
          · rw [if_pos b, if_pos rfl]; exact b
          · rw [if_neg b, if_neg a, if_neg b]
theorem rankN_rk {p : Int} (hP : isP p = true) {w : Nat} {T : List (List Int)} (g : Good p T w) (h : 1 ≤ T.length) : Rk p (fun i j => tb T i j) T.length w (rankN p T) := by
  have := elim_rk hP w T 0 0 g (by omega) (by omega)
  unfold rankN
  rw [(g 0 (by omega)).1]
  simpa using this
end Go.Proofs.Ytapafdpnmakekaa.X

/- The results of SliceOf are small. -/
set_option linter.unusedVariables false
set_option linter.unusedSimpArgs false
set_option maxRecDepth 20000
set_option maxHeartbeats 4000000
namespace Go.Proofs.Ytapafdpnmakekaa.X
open Go Go.RowKit

end Go.Proofs.Ytapafdpnmakekaa.X

/- FlattenRanks, both sides. -/
set_option linter.unusedVariables false
set_option linter.unusedSimpArgs false
set_option maxRecDepth 20000
set_option maxHeartbeats 4000000
namespace Go.Proofs.Ytapafdpnmakekaa.X
open Go Go.RowKit

def flatU (u : Ten) : List (List Int) := parts u.ns (u.j * u.k).toNat u.i.toNat
theorem flatU_good {u : Ten} (f : TF u) : Good u.p (flatU u) (u.j * u.k).toNat ∧ (flatU u).length = u.i.toNat ∧ u.ns.length = u.i.toNat * (u.j * u.k).toNat := by
  have jk := mul_in1 (A := 9) (B := 9) f.j f.k
  have fi := f.i
  obtain ⟨w, hw⟩ : ∃ w : Nat, u.j * u.k = w := ⟨(u.j * u.k).toNat, by omega⟩
  obtain ⟨n, hn⟩ : ∃ n : Nat, u.i = n := ⟨u.i.toNat, by omega⟩
  have hl : u.ns.length = n * w := by
    have hl := f.len
    rw [Int.mul_assoc, hw, hn] at hl
    exact_mod_cast hl
  unfold flatU
  rw [hw, hn, Int.toNat_natCast, Int.toNat_natCast]
  refine ⟨fun i hi => ?_, parts_len, hl⟩
  rw [parts_len] at hi
  unfold tb
  rw [parts_get hi]
  have hr := mul_row (w := w) hi
  refine ⟨by simp; omega, fun l hl' => ?_⟩
  rw [cut_get hl']
  have := f.num ((i * w + l : Nat) : Int) (by omega) (by omega)
  unfold nth at this
  rw [Int.toNat_natCast] at this
  exact this
noncomputable def flG (t : Ten) (s : Nat) : Int := (rankN t.p (flatU (turnN s t)) : Nat)
noncomputable def flR (t : Ten) : List Int × Int := if isT t = true then (gen 3 (flG t), 0) else ([], 1)

theorem i_flattenRanks {v : Value} {t : Ten} {h : AH} {Q : Value → AH → Prop} (hv : Ints h v t.ns) (ft : TF t) (hp : isP t.p = true)
    (hQ : ∀ v' h', h <+: h' → OwnR h h' v' (gen 3 (flG t)) → Q v' h') : WF S 185 [tenV t v] h Q := by
  refine WF_fn (fn := c185) rfl rfl ?_
  unfold c185
  try simp (maxSteps := 3000000) (disch := first | omega | (simp only [len_new, len_put, len_kill]; omega)) only [↓xpre, xpost, ↓reduceIte, Nat.reduceEqDiff, Nat.reduceAdd, Nat.reduceSub, Nat.reduceLeDiff, Nat.zero_add, Nat.sub_zero, tenV, hv.one, fillL, zrep]
  generalize hH1 : AH.new h _ = H1
  obtain ⟨hb1, p1, n1⟩ := new_facts hH1
  generalize hH2 : AH.new H1 _ = H2
  obtain ⟨hb2, p2, n2⟩ := new_facts hH2
  refine WC_loop_inv (fun m f K1 => ∃ (s : Nat) (sv : Value), m = 3 - s ∧ s ≤ 3 ∧ f 1 = .pointer (some ⟨h.length, 0, none⟩) ∧ f 3 = sv ∧ f 7 = I64 s ∧ (H1 <+: K1) ∧ (WayF K1 H1.length sv (gen s (flG t)))) ?_ (3 - 0) _ _ ⟨0, .slice (some ⟨H1.length, 0, none⟩) 0 1, rfl, by omega, (by first | rfl | (simp [upd_apply]; done)), (by first | rfl | (simp [upd_apply]; done)), (by first | rfl | (simp [upd_apply]; done)), p2, ⟨H1.length, true, by rw [gen_len], Nat.le_refl _, hb2⟩⟩
  rintro m f K1 ⟨s, sv, rfl, hs, f1, f3, f7, pp, way⟩
  have hbK := pre_get pp hb1
  try simp (maxSteps := 3000000) (disch := first | omega | (simp only [len_new, len_put, len_kill]; omega)) only [↓xpre, xpost, ↓reduceIte, Nat.reduceEqDiff, Nat.reduceAdd, Nat.reduceSub, Nat.reduceLeDiff, Nat.zero_add, Nat.sub_zero, f1, f3, f7, IfW_dec]
  refine ⟨fun hlt => ?_, fun hge => ?_⟩
  · have fu := TF.turnN (n := s) ft
    have hg := flatU_good fu
    have jk := mul_in1 (A := 9) (B := 9) fu.j fu.k
    have fi := fu.i
    try simp (maxSteps := 3000000) (disch := first | omega | (simp only [len_new, len_put, len_kill]; omega)) only [↓xpre, xpost, ↓reduceIte, Nat.reduceEqDiff, Nat.reduceAdd, Nat.reduceSub, Nat.reduceLeDiff, Nat.zero_add, Nat.sub_zero, f1, f3, f7, rdn_of hbK]
    refine i_turned (hv.pre (p1.trans pp)) ft (by omega) fun v3 H3 p3 i3 => ?_
    have hb3 := pre_get p3 hbK
    try simp (maxSteps := 3000000) (disch := first | omega | (simp only [len_new, len_put, len_kill]; omega)) only [↓xpre, xpost, ↓reduceIte, Nat.reduceEqDiff, Nat.reduceAdd, Nat.reduceSub, Nat.reduceLeDiff, Nat.zero_add, Nat.sub_zero, f1, f3, f7, tenV, i3.one]
    generalize hH4 : AH.new H3 _ = H4
    obtain ⟨hb4, p4, n4⟩ := new_facts hH4
    have hb5 := pre_get p4 hb3
    have ejk : (turnN s t).j * (turnN s t).k = (((turnN s t).j * (turnN s t).k).toNat : Int) := by omega
    try simp (maxSteps := 3000000) (disch := first | omega | (simp only [len_new, len_put, len_kill]; omega)) only [↓xpre, xpost, ↓reduceIte, Nat.reduceEqDiff, Nat.reduceAdd, Nat.reduceSub, Nat.reduceLeDiff, Nat.zero_add, Nat.sub_zero, f1, f3, f7, rd1_of hb5, rd1_of hb4, wrap64_in]
    rw [ejk]
    refine i_parted (n := (turnN s t).i.toNat) (i3.pre p4) fu.le (by omega) hg.2.2 fun v5 H5 p5 o5 => ?_
    try simp (maxSteps := 3000000) (disch := first | omega | (simp only [len_new, len_put, len_kill]; omega)) only [↓xpre, xpost, ↓reduceIte, Nat.reduceEqDiff, Nat.reduceAdd, Nat.reduceSub, Nat.reduceLeDiff, Nat.zero_add, Nat.sub_zero, f1, f3, f7]
    refine ⟨p5, ?_⟩
    refine i_rank _ (flatU (turnN s t)) _ _ _ _ o5.rows hp (by rw [hg.2.1]; omega) (by rw [← turnN_p (n := s) (t := t)]; exact hg.1) (by omega) fun H6 p6 => ?_
    try simp (maxSteps := 3000000) (disch := first | omega | (simp only [len_new, len_put, len_kill]; omega)) only [↓xpre, xpost, ↓reduceIte, Nat.reduceEqDiff, Nat.reduceAdd, Nat.reduceSub, Nat.reduceLeDiff, Nat.zero_add, Nat.sub_zero, f1, f3, f7, fillL, zrep]
    refine (way.pre ((p3.trans p4).trans (p5.trans p6))).app (by rw [gen_len]; omega) fun sv' h6 k6 pre6 way6 => ?_
    try simp (maxSteps := 3000000) (disch := first | omega | (simp only [len_new, len_put, len_kill]; omega)) only [↓xpre, xpost, ↓reduceIte, Nat.reduceEqDiff, Nat.reduceAdd, Nat.reduceSub, Nat.reduceLeDiff, Nat.zero_add, Nat.sub_zero, f1, f3, f7, wrap64_in]
    refine InvQ_go (3 - (s + 1)) (by omega) ⟨(s + 1), sv', rfl, by omega, (by first | rfl | exact f1 | (simp only [upd_apply]; rfl) | (show I64 _ = _; congr 1; omega)), (by first | rfl | exact f3 | (simp only [upd_apply]; rfl) | (show I64 _ = _; congr 1; omega)), (by first | rfl | exact f7 | (simp only [upd_apply]; rfl) | (show I64 _ = _; congr 1; omega)), (pre6 _ (Nat.le_refl _) (pp.trans ((p3.trans p4).trans (p5.trans p6)))), (by rw [gen_succ]; exact way6)⟩
  · have e : s = 3 := by omega
    subst e
    try simp (maxSteps := 3000000) (disch := first | omega | (simp only [len_new, len_put, len_kill]; omega)) only [↓xpre, xpost, ↓reduceIte, Nat.reduceEqDiff, Nat.reduceAdd, Nat.reduceSub, Nat.reduceLeDiff, Nat.zero_add, Nat.sub_zero, f1, f3, f7]
    obtain ⟨kb, fu, rfl, q2, q3⟩ := way
    exact hQ _ _ (p1.trans pp) (.inr ⟨kb, _, fu, by omega, rfl, q3⟩)
theorem isT_isP {t : Ten} (h : isT t = true) : isP t.p = true := by
  simp only [isT, Bool.and_eq_true, decide_eq_true_eq] at h
  exact h.1.1.1.1.1
theorem i_FlattenRanks {v : Value} {t : Ten} {h : AH} {Q : Value → AH → Prop} (hv : Ints h v t.ns) (hl : (t.ns.length : Int) ≤ 1048576)
    (hQ : ∀ v' h', h <+: h' → OwnR h h' v' (flR t).1 → Q (.tuple #[v', I64 (flR t).2]) h') : WF S 30 [tenV t v] h Q := by
  refine WF_fn (fn := c30) rfl rfl ?_
  unfold c30
  try simp (maxSteps := 3000000) (disch := first | omega | (simp only [len_new, len_put, len_kill]; omega)) only [↓xpre, xpost, ↓reduceIte, Nat.reduceEqDiff, Nat.reduceAdd, Nat.reduceSub, Nat.reduceLeDiff, Nat.zero_add, Nat.sub_zero, tenV, hv.one]
  generalize hH1 : AH.new h _ = H1
  obtain ⟨hb1, p1, n1⟩ := new_facts hH1
  try simp (maxSteps := 3000000) (disch := first | omega | (simp only [len_new, len_put, len_kill]; omega)) only [↓xpre, xpost, ↓reduceIte, Nat.reduceEqDiff, Nat.reduceAdd, Nat.reduceSub, Nat.reduceLeDiff, Nat.zero_add, Nat.sub_zero, rdn_of hb1]
  refine i_IsTensor (hv.pre p1) hl fun H2 p2 => ?_
  have hb2 := pre_get p2 hb1
  unfold flR at hQ
  cases h1 : isT t with
  | false =>
    rw [h1, if_neg (by decide)] at hQ
    try simp (maxSteps := 3000000) (disch := first | omega | (simp only [len_new, len_put, len_kill]; omega)) only [↓xpre, xpost, ↓reduceIte, Nat.reduceEqDiff, Nat.reduceAdd, Nat.reduceSub, Nat.reduceLeDiff, Nat.zero_add, Nat.sub_zero]
    exact hQ _ _ (p1.trans p2) (.inl ⟨rfl, rfl⟩)
  | true =>
    rw [h1, if_pos rfl] at hQ
    try simp (maxSteps := 3000000) (disch := first | omega | (simp only [len_new, len_put, len_kill]; omega)) only [↓xpre, xpost, ↓reduceIte, Nat.reduceEqDiff, Nat.reduceAdd, Nat.reduceSub, Nat.reduceLeDiff, Nat.zero_add, Nat.sub_zero, rdn_of hb2]
    refine i_flattenRanks (hv.pre (p1.trans p2)) (isT_facts h1) (isT_isP h1) fun v3 H3 p3 o3 => ?_
    try simp (maxSteps := 3000000) (disch := first | omega | (simp only [len_new, len_put, len_kill]; omega)) only [↓xpre, xpost, ↓reduceIte, Nat.reduceEqDiff, Nat.reduceAdd, Nat.reduceSub, Nat.reduceLeDiff, Nat.zero_add, Nat.sub_zero]
    exact hQ _ _ ((p1.trans p2).trans p3) (o3.lo (pre_len (p1.trans p2)))
end Go.Proofs.Ytapafdpnmakekaa.X

/- Simple tensors, plainly: the three ranks are 1 just if the lists through the first number other than 0 make the tensor. -/
set_option linter.unusedVariables false
set_option linter.unusedSimpArgs false
set_option maxRecDepth 20000
set_option maxHeartbeats 4000000
namespace Go.Proofs.Ytapafdpnmakekaa.X
open Go Go.RowKit

/-- The number at its place in the flat rows. -/
theorem flat_tb {u : Ten} (f : TF u) {a b c : Int} (ha : 0 ≤ a ∧ a < u.i) (hb : 0 ≤ b ∧ b < u.j) (hc : 0 ≤ c ∧ c < u.k) :
    a.toNat < (flatU u).length ∧ (b * u.k + c).toNat < (u.j * u.k).toNat ∧ tb (flatU u) a.toNat (b * u.k + c).toNat = tat u a b c := by
  have g := flatU_good f
  have b1 := lin_in hb hc
  have jk := f.k
  refine ⟨by rw [g.2.1]; omega, by omega, ?_⟩
  unfold tb flatU tat nth
  rw [parts_get (by omega), cut_get (by omega)]
  congr 1
  have h1 := Int.mul_nonneg ha.1 (show 0 ≤ u.j * u.k by omega)
  have e : (a * u.j + b) * u.k + c = a * (u.j * u.k) + (b * u.k + c) := by grind
  rw [e]
  have e2 : ((a.toNat * (u.j * u.k).toNat : Nat) : Int) = a * (u.j * u.k) := by
    rw [Int.natCast_mul, Int.toNat_of_nonneg ha.1, Int.toNat_of_nonneg (by omega)]
  omega
/-- A turned tensor's numbers. -/
theorem tat_turn {t : Ten} (f : TF t) {a b c : Int} (ha : 0 ≤ a ∧ a < t.i) (hb : 0 ≤ b ∧ b < t.j) (hc : 0 ≤ c ∧ c < t.k) : tat (turnT t) b c a = tat t a b c := by
  have b1 := lin_in hb hc
  have b2 := lin_in b1.2 ha
  have e : tat (turnT t) b c a = turnG t ((b * t.k + c) * t.i + a).toNat := by
    show nth (gen _ _) _ = _
    unfold nth
    show (gen (t.j * t.k * t.i).toNat (turnG t)).getD ((b * t.k + c) * t.i + a).toNat 0 = _
    rw [gen_get (by omega)]
  rw [e]
  unfold turnG
  rw [Int.toNat_of_nonneg (show 0 ≤ (b * t.k + c) * t.i + a by omega)]
  have d1 : ((b * t.k + c) * t.i + a) % t.i = a := by rw [Int.add_comm, Int.add_mul_emod_self_right, Int.emod_eq_of_lt ha.1 ha.2]
  have d2 : ((b * t.k + c) * t.i + a) / t.i = b * t.k + c := by rw [Int.add_comm, Int.add_mul_ediv_right _ _ (by omega), Int.ediv_eq_zero_of_lt ha.1 ha.2, Int.zero_add]
  have d3 : (b * t.k + c) % t.k = c := by rw [Int.add_comm, Int.add_mul_emod_self_right, Int.emod_eq_of_lt hc.1 hc.2]
  have d4 : (b * t.k + c) / t.k = b := by rw [Int.add_comm, Int.add_mul_ediv_right _ _ (by omega), Int.ediv_eq_zero_of_lt hc.1 hc.2, Int.zero_add]
  rw [d1, d2, d3, d4]

/-! ### The lists through one number -/
section
variable (t : Ten) (f e : Int)
end
end Go.Proofs.Ytapafdpnmakekaa.X

/- The program's sum of two tensors. -/
set_option linter.unusedVariables false
set_option linter.unusedSimpArgs false
set_option maxRecDepth 20000
set_option maxHeartbeats 4000000
namespace Go.Proofs.Ytapafdpnmakekaa.X
open Go Go.RowKit

theorem i_AddTensors {v w : Value} {t u : Ten} {c : Int} {h : AH} {Q : Value → AH → Prop} (hv : Ints h v t.ns) (hl : (t.ns.length : Int) ≤ 1048576) (hw : Ints h w u.ns) (hl' : (u.ns.length : Int) ≤ 1048576)
    (hQ : ∀ v' h', h <+: h' → OwnR h h' v' (addR t u c).1.ns → Q (.tuple #[tenV (addR t u c).1 v', I64 (addR t u c).2]) h') : WF S 25 [tenV t v, tenV u w, I64 c] h Q := by
  refine WF_fn (fn := c25) rfl rfl ?_
  unfold c25
  try simp (maxSteps := 3000000) (disch := first | omega | (simp only [len_new, len_put, len_kill]; omega)) only [↓xpre, xpost, ↓reduceIte, Nat.reduceEqDiff, Nat.reduceAdd, Nat.reduceSub, Nat.reduceLeDiff, Nat.zero_add, Nat.sub_zero, tenV, hv.one, hw.one, fillL, zrep]
  generalize hH1 : AH.new h _ = H1
  obtain ⟨hb1, p1, n1⟩ := new_facts hH1
  generalize hH2 : AH.new H1 _ = H2
  obtain ⟨hb2, p2, n2⟩ := new_facts hH2
  generalize hH3 : AH.new H2 _ = H3
  obtain ⟨hb3, p3, n3⟩ := new_facts hH3
  generalize hH4 : AH.new H3 _ = H4
  obtain ⟨hb4, p4, n4⟩ := new_facts hH4
  generalize hH5 : AH.new H4 _ = H5
  obtain ⟨hb5, p5, n5⟩ := new_facts hH5
  have hb1 := pre_get (((p2.trans p3).trans p4).trans p5) hb1
  have hb2 := pre_get ((p3.trans p4).trans p5) hb2
  have hb3 := pre_get (p4.trans p5) hb3
  have hb4 := pre_get p5 hb4
  have ph := (((p1.trans p2).trans p3).trans p4).trans p5
  refine i_areTensors (hv.pre ph) (hw.pre ph) hl hl' hb5 fun H6 p6 => ?_
  have hb1 := pre_get p6 hb1
  have hb2 := pre_get p6 hb2
  have hb3 := pre_get p6 hb3
  have hb4 := pre_get p6 hb4
  have ph := ph.trans p6
  have l6 := get_lt hb4
  by_cases hd : isT t = true ∧ isT u = true
  case neg =>
    have e : (isT t && isT u) = false := by
      cases h1 : isT t <;> cases h2 : isT u <;> simp_all
    try simp (maxSteps := 3000000) (disch := first | omega | (simp only [len_new, len_put, len_kill]; omega)) only [↓xpre, xpost, ↓reduceIte, Nat.reduceEqDiff, Nat.reduceAdd, Nat.reduceSub, Nat.reduceLeDiff, Nat.zero_add, Nat.sub_zero, e, fillL, wr_of hb4]
    rw [show addR t u c = (noT, 1) by unfold addR; rw [if_neg hd]] at hQ
    exact hQ (.slice none 0 0) _ (pre_put ph (by omega)) (.inl ⟨rfl, rfl⟩)
  have f := isT_facts hd.1
  have fu := isT_facts hd.2
  have fp := f.p
  have bad2 : ∀ H7, H6 <+: H7 → ¬ (t.p = u.p ∧ t.i = u.i ∧ t.j = u.j ∧ t.k = u.k ∧ 0 ≤ c ∧ c < t.p) → ∀ b, Q (.tuple #[.agg #[I64 0, I64 0, I64 0, I64 0, .slice none 0 0], I64 2]) (AH.put H7 H3.length b) := fun H7 p7 hn b => by
    rw [show addR t u c = (noT, 2) by unfold addR; rw [if_pos hd, if_neg hn]] at hQ
    exact hQ (.slice none 0 0) _ (pre_put (ph.trans p7) (by omega)) (.inl ⟨rfl, rfl⟩)
  try simp (maxSteps := 3000000) (disch := first | omega | (simp only [len_new, len_put, len_kill]; omega)) only [↓xpre, xpost, ↓reduceIte, Nat.reduceEqDiff, Nat.reduceAdd, Nat.reduceSub, Nat.reduceLeDiff, Nat.zero_add, Nat.sub_zero, hd.1, hd.2, rd1_of hb1, rd1_of hb2]
  by_cases e1 : t.p = u.p
  case neg =>
    try simp (maxSteps := 3000000) (disch := first | omega | (simp only [len_new, len_put, len_kill]; omega)) only [↓xpre, xpost, ↓reduceIte, Nat.reduceEqDiff, Nat.reduceAdd, Nat.reduceSub, Nat.reduceLeDiff, Nat.zero_add, Nat.sub_zero, e1, ne_eq, not_false_eq_true, fillL, wr_of hb4]
    exact bad2 _ (List.prefix_refl _) (fun h => e1 h.1) _
  try simp (maxSteps := 3000000) (disch := first | omega | (simp only [len_new, len_put, len_kill]; omega)) only [↓xpre, xpost, ↓reduceIte, Nat.reduceEqDiff, Nat.reduceAdd, Nat.reduceSub, Nat.reduceLeDiff, Nat.zero_add, Nat.sub_zero, decide_eq_false (show ¬ (t.p ≠ u.p) from fun h => h e1), rdn_of hb1, rdn_of hb2]
  refine i_sides (t := t) hv.one fun H7 p7 => ?_
  have hb1 := pre_get p7 hb1
  have hb2 := pre_get p7 hb2
  have hb3 := pre_get p7 hb3
  have hb4 := pre_get p7 hb4
  have l7 := pre_len p7
  try simp (maxSteps := 3000000) (disch := first | omega | (simp only [len_new, len_put, len_kill]; omega)) only [↓xpre, xpost, ↓reduceIte, Nat.reduceEqDiff, Nat.reduceAdd, Nat.reduceSub, Nat.reduceLeDiff, Nat.zero_add, Nat.sub_zero, rdn_of hb1, rdn_of hb2]
  refine ⟨p7, ?_⟩
  refine i_sides (t := u) hw.one fun H8 p8 => ?_
  have hb1 := pre_get p8 hb1
  have hb2 := pre_get p8 hb2
  have hb3 := pre_get p8 hb3
  have hb4 := pre_get p8 hb4
  have l8 := pre_len p8
  have p78 := p7.trans p8
  try simp (maxSteps := 3000000) (disch := first | omega | (simp only [len_new, len_put, len_kill]; omega)) only [↓xpre, xpost, ↓reduceIte, Nat.reduceEqDiff, Nat.reduceAdd, Nat.reduceSub, Nat.reduceLeDiff, Nat.zero_add, Nat.sub_zero]
  by_cases e2 : t.i = u.i ∧ t.j = u.j ∧ t.k = u.k
  case neg =>
    try simp (maxSteps := 3000000) (disch := first | omega | (simp only [len_new, len_put, len_kill]; omega)) only [↓xpre, xpost, ↓reduceIte, Nat.reduceEqDiff, Nat.reduceAdd, Nat.reduceSub, Nat.reduceLeDiff, Nat.zero_add, Nat.sub_zero, decide_eq_false e2, bne, Bool.false_bne, fillL, wr_of hb4, show ((false == true) = false) from rfl]
    exact bad2 _ p78 (fun h => e2 ⟨h.2.1, h.2.2.1, h.2.2.2.1⟩) _
  try simp (maxSteps := 3000000) (disch := first | omega | (simp only [len_new, len_put, len_kill]; omega)) only [↓xpre, xpost, ↓reduceIte, Nat.reduceEqDiff, Nat.reduceAdd, Nat.reduceSub, Nat.reduceLeDiff, Nat.zero_add, Nat.sub_zero, decide_eq_true e2, bne, show ((true == true) = true) from rfl, rd1_of hb1, rd1_of hb2, rd1_of hb3]
  by_cases e3 : c < 0
  · try simp (maxSteps := 3000000) (disch := first | omega | (simp only [len_new, len_put, len_kill]; omega)) only [↓xpre, xpost, ↓reduceIte, Nat.reduceEqDiff, Nat.reduceAdd, Nat.reduceSub, Nat.reduceLeDiff, Nat.zero_add, Nat.sub_zero, e3, fillL, wr_of hb4]
    exact bad2 _ p78 (fun h => by omega) _
  try simp (maxSteps := 3000000) (disch := first | omega | (simp only [len_new, len_put, len_kill]; omega)) only [↓xpre, xpost, ↓reduceIte, Nat.reduceEqDiff, Nat.reduceAdd, Nat.reduceSub, Nat.reduceLeDiff, Nat.zero_add, Nat.sub_zero, e3, rd1_of hb1, rd1_of hb3]
  by_cases e4 : t.p ≤ c
  · try simp (maxSteps := 3000000) (disch := first | omega | (simp only [len_new, len_put, len_kill]; omega)) only [↓xpre, xpost, ↓reduceIte, Nat.reduceEqDiff, Nat.reduceAdd, Nat.reduceSub, Nat.reduceLeDiff, Nat.zero_add, Nat.sub_zero, e4, fillL, wr_of hb4]
    exact bad2 _ p78 (fun h => by omega) _
  try simp (maxSteps := 3000000) (disch := first | omega | (simp only [len_new, len_put, len_kill]; omega)) only [↓xpre, xpost, ↓reduceIte, Nat.reduceEqDiff, Nat.reduceAdd, Nat.reduceSub, Nat.reduceLeDiff, Nat.zero_add, Nat.sub_zero, e4, rd1_of hb1]
  have hcc : 0 ≤ c ∧ c < t.p := by omega
  rw [show addR t u c = (addT t u c, 0) by unfold addR; rw [if_pos hd, if_pos ⟨e1, e2.1, e2.2.1, e2.2.2, hcc.1, hcc.2⟩]] at hQ
  have ph := ph.trans p78
  have hf : Tells S H8 (.func (.func 179) #[] #[.pointer (some ⟨h.length, 0, none⟩), .pointer (some ⟨H2.length, 0, none⟩), .pointer (some ⟨H1.length, 0, none⟩)]) t.i t.j t.k (fun i j k => tat t i j k + c * tat u i j k) := by
    intro i j k hi hj hk h1 hp Q hQ
    rw [WK_func]
    exact i_add1 (pre_get hp hb1) (pre_get hp hb2) (pre_get hp hb3) (hv.pre (ph.trans hp)) (hw.pre (ph.trans hp)) f fu e1 hcc e2 hi hj hk hQ
  refine i_tensor (num := fun i j k => tat t i j k + c * tat u i j k) (by omega) f.i f.j f.k hf fun v' H9 p9 o => ?_
  rw [add_eq e2] at o ⊢
  have hb4 := pre_get p9 hb4
  have l9 := get_lt hb4
  try simp (maxSteps := 3000000) (disch := first | omega | (simp only [len_new, len_put, len_kill]; omega)) only [↓xpre, xpost, ↓reduceIte, Nat.reduceEqDiff, Nat.reduceAdd, Nat.reduceSub, Nat.reduceLeDiff, Nat.zero_add, Nat.sub_zero, tenV, o.ints.one, wr_of hb4]
  exact hQ v' _ (pre_put (ph.trans p9) (by omega)) ((o.put_ne (by omega)).lo (by have := pre_len ph; omega))
end Go.Proofs.Ytapafdpnmakekaa.X

/- The Kronecker product of the reference; codes for two tensors. -/
set_option linter.unusedVariables false
set_option linter.unusedSimpArgs false
set_option maxRecDepth 20000
set_option maxHeartbeats 4000000
namespace Go.Proofs.Ytapafdpnmakekaa.X
open Go Go.RowKit

def mmV (isMax : Bool) (x : Value) (l : List Value) : Option Value := match x with
  | .int k a => (xmm isMax a l).map fun b => .int k b
  | _ => none
theorem WX_mm {S : XS} {f : Fr} {h : AH} {Q : Value → AH → Prop} {b : Bool} {x : Operand} {l : List Operand} : WX S (.mm b x l) f h Q = WV (mmV b (ev f x) (l.map (ev f))) fun v => Q v h := by
  rw [WX_op (fun _ => rfl)]
  have : xop (.mm b x l) f h = (mmV b (ev f x) (l.map (ev f))).map (·, h) := by
    simp only [xop, mmV]
    generalize ev f x = vx
    cases vx <;> try rfl
    simp only
    generalize xmm b _ _ = r
    cases r <;> rfl
  rw [this]
  cases mmV b (ev f x) (l.map (ev f)) <;> simp [OQ_some, WV_some, OQ_none, WV_none]
theorem mmV_3 {a b c : Int} : mmV true (.int .i64 a) [.int .i64 b, .int .i64 c] = some (.int .i64 (if (if b > a then b else a) < c then c else (if b > a then b else a))) := by
  simp [mmV, xmm]
theorem max3 {a b c : Int} : (9 < (if (if b > a then b else a) < c then c else (if b > a then b else a))) ↔ ¬ (a ≤ 9 ∧ b ≤ 9 ∧ c ≤ 9) := by
  split <;> split <;> omega

def twoC (t u : Ten) : Int := if isT t = true ∧ isT u = true then (if t.p = u.p then 0 else 2) else 1
theorem s_l05Two {v w : Value} {t u : Ten} {h : AH} {Q : Value → AH → Prop} (hv : Ints h v t.ns) (hl : (t.ns.length : Int) ≤ 1048576) (hw : Ints h w u.ns) (hl' : (u.ns.length : Int) ≤ 1048576)
    (hQ : ∀ h', h <+: h' → Q (I64 (twoC t u)) h') : WF S 189 [tenV t v, tenV u w] h Q := by
  refine WF_fn (fn := c189) rfl rfl ?_
  unfold c189
  try simp (maxSteps := 3000000) (disch := first | omega | (simp only [len_new, len_put, len_kill]; omega)) only [↓xpre, xpost, ↓reduceIte, Nat.reduceEqDiff, Nat.reduceAdd, Nat.reduceSub, Nat.reduceLeDiff, Nat.zero_add, Nat.sub_zero, tenV, hv.one, hw.one]
  generalize hH1 : AH.new h _ = H1
  obtain ⟨hb1, p1, n1⟩ := new_facts hH1
  generalize hH2 : AH.new H1 _ = H2
  obtain ⟨hb2, p2, n2⟩ := new_facts hH2
  have hb1 := pre_get p2 hb1
  have ph := p1.trans p2
  refine s_l05Is (hv.pre ph) hl fun H3 p3 => ?_
  have hb1 := pre_get p3 hb1
  have hb2 := pre_get p3 hb2
  have ph := ph.trans p3
  unfold twoC at hQ
  cases ht : isT t with
  | false =>
    try simp (maxSteps := 3000000) (disch := first | omega | (simp only [len_new, len_put, len_kill]; omega)) only [↓xpre, xpost, ↓reduceIte, Nat.reduceEqDiff, Nat.reduceAdd, Nat.reduceSub, Nat.reduceLeDiff, Nat.zero_add, Nat.sub_zero]
    have := hQ _ ph
    simpa [ht] using this
  | true =>
    try simp (maxSteps := 3000000) (disch := first | omega | (simp only [len_new, len_put, len_kill]; omega)) only [↓xpre, xpost, ↓reduceIte, Nat.reduceEqDiff, Nat.reduceAdd, Nat.reduceSub, Nat.reduceLeDiff, Nat.zero_add, Nat.sub_zero, rdn_of hb2]
    refine s_l05Is (hw.pre ph) hl' fun H4 p4 => ?_
    have hb1 := pre_get p4 hb1
    have hb2 := pre_get p4 hb2
    have ph := ph.trans p4
    have hQ4 := hQ _ ph
    cases hu : isT u with
    | false =>
      try simp (maxSteps := 3000000) (disch := first | omega | (simp only [len_new, len_put, len_kill]; omega)) only [↓xpre, xpost, ↓reduceIte, Nat.reduceEqDiff, Nat.reduceAdd, Nat.reduceSub, Nat.reduceLeDiff, Nat.zero_add, Nat.sub_zero]
      simpa [hu] using hQ4
    | true =>
      try simp (maxSteps := 3000000) (disch := first | omega | (simp only [len_new, len_put, len_kill]; omega)) only [↓xpre, xpost, ↓reduceIte, Nat.reduceEqDiff, Nat.reduceAdd, Nat.reduceSub, Nat.reduceLeDiff, Nat.zero_add, Nat.sub_zero, rd1_of hb1, rd1_of hb2]
      by_cases e : t.p = u.p
      · try simp (maxSteps := 3000000) (disch := first | omega | (simp only [len_new, len_put, len_kill]; omega)) only [↓xpre, xpost, ↓reduceIte, Nat.reduceEqDiff, Nat.reduceAdd, Nat.reduceSub, Nat.reduceLeDiff, Nat.zero_add, Nat.sub_zero, decide_eq_false (show ¬ (t.p ≠ u.p) from fun h => h e)]
        simpa [ht, hu, e] using hQ4
      · try simp (maxSteps := 3000000) (disch := first | omega | (simp only [len_new, len_put, len_kill]; omega)) only [↓xpre, xpost, ↓reduceIte, Nat.reduceEqDiff, Nat.reduceAdd, Nat.reduceSub, Nat.reduceLeDiff, Nat.zero_add, Nat.sub_zero, decide_eq_true (show t.p ≠ u.p from e)]
        simpa [ht, hu, e] using hQ4

def twoS (t u : Ten) (ok : Bool) : Int := if isT t = true ∧ isT u = true then (if t.p = u.p then (if ok = true then 0 else 3) else 2) else 1
theorem i_twoTensors {v w z : Value} {t u : Ten} {ns : List Int} {h : AH} {Q : Value → AH → Prop} (hv : Ints h v t.ns) (hl : (t.ns.length : Int) ≤ 1048576) (hw : Ints h w u.ns) (hl' : (u.ns.length : Int) ≤ 1048576)
    (hz : Ints h z ns) (hlz : (ns.length : Int) ≤ 1048576)
    (hQ : ∀ h', h <+: h' → Q (I64 (twoS t u (ns.all side))) h') : WF S 187 [tenV t v, tenV u w, z] h Q := by
  refine WF_fn (fn := c187) rfl rfl ?_
  unfold c187
  try simp (maxSteps := 3000000) (disch := first | omega | (simp only [len_new, len_put, len_kill]; omega)) only [↓xpre, xpost, ↓reduceIte, Nat.reduceEqDiff, Nat.reduceAdd, Nat.reduceSub, Nat.reduceLeDiff, Nat.zero_add, Nat.sub_zero, tenV, hv.one, hw.one, fillL, zrep]
  generalize hH1 : AH.new h _ = H1
  obtain ⟨hb1, p1, n1⟩ := new_facts hH1
  generalize hH2 : AH.new H1 _ = H2
  obtain ⟨hb2, p2, n2⟩ := new_facts hH2
  generalize hH3 : AH.new H2 _ = H3
  obtain ⟨hb3, p3, n3⟩ := new_facts hH3
  have hb1 := pre_get (p2.trans p3) hb1
  have hb2 := pre_get p3 hb2
  have ph := (p1.trans p2).trans p3
  refine i_areTensors (hv.pre ph) (hw.pre ph) hl hl' hb3 fun H4 p4 => ?_
  have hb1 := pre_get p4 hb1
  have hb2 := pre_get p4 hb2
  have ph := ph.trans p4
  have hQ4 := hQ _ ph
  unfold twoS at hQ4
  by_cases hd : isT t = true ∧ isT u = true
  case neg =>
    have e : (isT t && isT u) = false := by
      cases h1 : isT t <;> cases h2 : isT u <;> simp_all
    try simp (maxSteps := 3000000) (disch := first | omega | (simp only [len_new, len_put, len_kill]; omega)) only [↓xpre, xpost, ↓reduceIte, Nat.reduceEqDiff, Nat.reduceAdd, Nat.reduceSub, Nat.reduceLeDiff, Nat.zero_add, Nat.sub_zero, e]
    rw [if_neg hd] at hQ4
    exact hQ4
  try simp (maxSteps := 3000000) (disch := first | omega | (simp only [len_new, len_put, len_kill]; omega)) only [↓xpre, xpost, ↓reduceIte, Nat.reduceEqDiff, Nat.reduceAdd, Nat.reduceSub, Nat.reduceLeDiff, Nat.zero_add, Nat.sub_zero, hd.1, hd.2, rd1_of hb1, rd1_of hb2]
  rw [if_pos hd] at hQ4
  by_cases e : t.p = u.p
  · try simp (maxSteps := 3000000) (disch := first | omega | (simp only [len_new, len_put, len_kill]; omega)) only [↓xpre, xpost, ↓reduceIte, Nat.reduceEqDiff, Nat.reduceAdd, Nat.reduceSub, Nat.reduceLeDiff, Nat.zero_add, Nat.sub_zero, decide_eq_false (show ¬ (t.p ≠ u.p) from fun h => h e)]
    rw [if_pos e] at hQ4
    refine i_isSide (hz.pre ph) hlz ?_
    cases hs : ns.all side with
    | true =>
      try simp (maxSteps := 3000000) (disch := first | omega | (simp only [len_new, len_put, len_kill]; omega)) only [↓xpre, xpost, ↓reduceIte, Nat.reduceEqDiff, Nat.reduceAdd, Nat.reduceSub, Nat.reduceLeDiff, Nat.zero_add, Nat.sub_zero]
      rw [hs] at hQ4
      exact hQ4
    | false =>
      try simp (maxSteps := 3000000) (disch := first | omega | (simp only [len_new, len_put, len_kill]; omega)) only [↓xpre, xpost, ↓reduceIte, Nat.reduceEqDiff, Nat.reduceAdd, Nat.reduceSub, Nat.reduceLeDiff, Nat.zero_add, Nat.sub_zero]
      rw [hs] at hQ4
      exact hQ4
  · try simp (maxSteps := 3000000) (disch := first | omega | (simp only [len_new, len_put, len_kill]; omega)) only [↓xpre, xpost, ↓reduceIte, Nat.reduceEqDiff, Nat.reduceAdd, Nat.reduceSub, Nat.reduceLeDiff, Nat.zero_add, Nat.sub_zero, decide_eq_true (show t.p ≠ u.p from e)]
    rw [if_neg e] at hQ4
    exact hQ4

theorem tdiv_in {a I J : Int} (ha : 0 ≤ a ∧ a < I * J) (hJ : 1 ≤ J) : 0 ≤ a.tdiv J ∧ a.tdiv J < I := by
  rw [Int.tdiv_eq_ediv_of_nonneg ha.1]
  exact ⟨Int.ediv_nonneg ha.1 (by omega), Int.ediv_lt_of_lt_mul (by omega) ha.2⟩
theorem tmod_in {a J : Int} (ha : 0 ≤ a) (hJ : 1 ≤ J) : 0 ≤ a.tmod J ∧ a.tmod J < J := by
  rw [Int.tmod_eq_emod_of_nonneg ha]
  exact ⟨Int.emod_nonneg _ (by omega), Int.emod_lt_of_pos _ (by omega)⟩

/-- Written in order. -/
def DoneS (N : Nat) (g : Nat → Int) (l : List Int) (m : Int) : Prop := l.length = N ∧ ∀ n : Nat, (n : Int) < m → l.getD n 0 = g n
theorem DoneS.step {N : Nat} {g : Nat → Int} {l : List Int} {m : Int} (d : DoneS N g l m) (hm : 0 ≤ m ∧ m < N) {x : Int} (hx : x = g m.toNat) : DoneS N g (l.set m.toNat x) (m + 1) := by
  refine ⟨by rw [List.length_set]; exact d.1, fun n hn => ?_⟩
  rw [set_getD (by rw [d.1]; omega)]
  split
  · rename_i e
    rw [e, hx]
  · exact d.2 n (by omega)
theorem DoneS.all {N : Nat} {g : Nat → Int} {l : List Int} {m : Int} (d : DoneS N g l m) (hm : m = N) : l = gen N g := gen_ext d.1 fun n hn => d.2 n (by omega)

def krN (t u : Ten) (a b c : Int) : Int := tat t (a.tdiv u.i) (b.tdiv u.j) (c.tdiv u.k) * tat u (a.tmod u.i) (b.tmod u.j) (c.tmod u.k)
def krT (t u : Ten) : Ten := tenT t.p (t.i * u.i) (t.j * u.j) (t.k * u.k) (krN t u)

/-- The state of the reference's product. -/
structure KrS (t u s : Ten) (v w : Value) (h0 h : AH) (b5 nb : Nat) (l : List Int) : Prop where
  hp : h0 <+: h
  lo : h0.length + 3 ≤ nb ∧ nb < b5
  g1 : OwnB h h0.length [I64 t.p, I64 t.i, I64 t.j, I64 t.k, v] true
  g2 : OwnB h (h0.length + 1) [I64 u.p, I64 u.i, I64 u.j, I64 u.k, w] true
  g3 : ∃ c, c.length = 5 ∧ OwnB h (h0.length + 2) c true
  g5 : OwnB h b5 [I64 s.p, I64 s.i, I64 s.j, I64 s.k, .slice (some ⟨nb, 0, none⟩) (s.i * s.j * s.k).toNat 1] true
  gn : OwnB h nb (l.map (Value.int .i64)) true
theorem KrS.pre {t u s : Ten} {v w : Value} {h0 h h' : AH} {b5 nb : Nat} {l : List Int} (a : KrS t u s v w h0 h b5 nb l) (p : h <+: h') : KrS t u s v w h0 h' b5 nb l := by
  obtain ⟨c, c1, c2⟩ := a.g3
  exact ⟨a.hp.trans p, a.lo, a.g1.pre p, a.g2.pre p, ⟨c, c1, c2.pre p⟩, a.g5.pre p, a.gn.pre p⟩

theorem s_l05Kronecker {v w : Value} {t u : Ten} {h : AH} {Q : Value → AH → Prop} (hv : Ints h v t.ns) (hw : Ints h w u.ns) (f : TF t) (fu : TF u) (ep : t.p = u.p)
    (ki : t.i * u.i ≤ 9) (kj : t.j * u.j ≤ 9) (kk : t.k * u.k ≤ 9)
    (hQ : ∀ v' h', h <+: h' → OwnR h h' v' (krT t u).ns → Q (tenV (krT t u) v') h') : WF S 192 [tenV t v, tenV u w] h Q := by
  refine WF_fn (fn := c192) rfl rfl ?_
  unfold c192
  have fi := f.i
  have fj := f.j
  have fk := f.k
  have ui := fu.i
  have uj := fu.j
  have uk := fu.k
  have mi := mul_in1 (A := 9) (B := 9) fi ui
  have mj := mul_in1 (A := 9) (B := 9) fj uj
  have mk := mul_in1 (A := 9) (B := 9) fk uk
  generalize hI : t.i * u.i = I at *
  generalize hJ : t.j * u.j = J at *
  generalize hK : t.k * u.k = K at *
  have ij := mul_in1 (a := I) (b := J) (A := 9) (B := 9) (by omega) (by omega)
  have ijk := mul_in1 (a := I * J) (b := K) (A := 81) (B := 9) (by omega) (by omega)
  have hs : krT t u = tenT t.p I J K (krN t u) := by unfold krT; rw [hI, hJ, hK]
  try simp (maxSteps := 3000000) (disch := first | omega | (simp only [len_new, len_put, len_kill]; omega)) only [↓xpre, xpost, ↓reduceIte, Nat.reduceEqDiff, Nat.reduceAdd, Nat.reduceSub, Nat.reduceLeDiff, Nat.zero_add, Nat.sub_zero, tenV, hv.one, hw.one, wrap64_in, hI, hJ, hK]
  refine s_l05Empty (by omega) (by omega) fun v' H3 hp o => ?_
  try simp (maxSteps := 3000000) (disch := first | omega | (simp only [len_new, len_put, len_kill]; omega)) only [↓xpre, xpost, ↓reduceIte, Nat.reduceEqDiff, Nat.reduceAdd, Nat.reduceSub, Nat.reduceLeDiff, Nat.zero_add, Nat.sub_zero, tenV, o.ints.one]
  obtain ⟨nb, e, q1, rfl, q2⟩ := o
  generalize hH1 : AH.new h _ = H1 at hp q1 ⊢
  obtain ⟨hb1, p1, n1⟩ := new_facts hH1
  generalize hH2 : AH.new H1 _ = H2 at hp q1
  obtain ⟨hb2, p2, n2⟩ := new_facts hH2
  generalize hH2' : AH.new H2 _ = H2' at hp q1
  obtain ⟨hb2', p2', n2'⟩ := new_facts hH2'
  generalize hH4 : AH.new H3 _ = H4
  obtain ⟨hb4, p4, n4⟩ := new_facts hH4
  have q3 := get_lt q2
  rw [List.length_replicate] at hb4
  have hN : (((I * J * K).toNat : Nat) : Int) = I * J * K := Int.toNat_of_nonneg (by omega)
  have st0 : KrS t u ⟨t.p, I, J, K, []⟩ v w h H4 H3.length nb (List.replicate (I * J * K).toNat 0) :=
    ⟨(((p1.trans p2).trans p2').trans hp).trans p4, by omega, ⟨_, pre_get p4 (pre_get hp (pre_get p2' (pre_get p2 hb1)))⟩, by rw [← n1]; exact ⟨_, pre_get p4 (pre_get hp (pre_get p2' hb2))⟩,
      ⟨_, rfl, by rw [show h.length + 2 = H2.length by omega]; exact ⟨_, pre_get p4 (pre_get hp hb2')⟩⟩, ⟨_, hb4⟩, ⟨_, pre_get p4 q2⟩⟩
  refine WC_loop_inv (fun n f h1 => ∃ (i : Int) (l : List Int), n = (I - i).toNat ∧ (0 ≤ i ∧ i ≤ I) ∧ f 2 = .pointer (some ⟨h.length, 0, none⟩) ∧ f 3 = .pointer (some ⟨H1.length, 0, none⟩) ∧ f 4 = .pointer (some ⟨H2.length, 0, none⟩) ∧ f 5 = .pointer (some ⟨H3.length, 0, none⟩) ∧
    f 6 = I64 i ∧ KrS t u ⟨t.p, I, J, K, []⟩ v w h h1 H3.length nb l ∧ DoneS (I * J * K).toNat (tenG t.p J K (krN t u)) l (i * J * K)) ?_ (I - 0).toNat _ _ ⟨0, _, rfl, by omega, rfl, rfl, rfl, rfl, rfl, st0, List.length_replicate, fun n hn => by simp at hn; omega⟩
  rintro n fr h1 ⟨i, l, rfl, hi, f2, f3, f4, f5, f6, st, dn⟩
  obtain ⟨t5, g5⟩ := st.g5
  try simp (maxSteps := 3000000) (disch := first | omega | (simp only [len_new, len_put, len_kill]; omega)) only [↓xpre, xpost, ↓reduceIte, Nat.reduceEqDiff, Nat.reduceAdd, Nat.reduceSub, Nat.reduceLeDiff, Nat.zero_add, Nat.sub_zero, f2, f3, f4, f5, f6, rd1_of g5, IfW_dec]
  refine ⟨fun hlt => ?_, fun hge => ?_⟩
  · clear g5
    refine WC_loop_inv (fun n f h1 => ∃ (j : Int) (l : List Int), n = (J - j).toNat ∧ (0 ≤ j ∧ j ≤ J) ∧ f 2 = .pointer (some ⟨h.length, 0, none⟩) ∧ f 3 = .pointer (some ⟨H1.length, 0, none⟩) ∧ f 4 = .pointer (some ⟨H2.length, 0, none⟩) ∧ f 5 = .pointer (some ⟨H3.length, 0, none⟩) ∧
      f 6 = I64 i ∧ f 7 = I64 j ∧ KrS t u ⟨t.p, I, J, K, []⟩ v w h h1 H3.length nb l ∧ DoneS (I * J * K).toNat (tenG t.p J K (krN t u)) l ((i * J + j) * K)) ?_ (J - 0).toNat _ _ ⟨0, l, rfl, by omega, f2, f3, f4, f5, f6, rfl, st, by rw [Int.add_zero]; exact dn⟩
    clear f2 f3 f4 f5 f6 st dn
    rintro n fr h1 ⟨j, l, rfl, hj, f2, f3, f4, f5, f6, f7, st, dn⟩
    obtain ⟨t5, g5⟩ := st.g5
    try simp (maxSteps := 3000000) (disch := first | omega | (simp only [len_new, len_put, len_kill]; omega)) only [↓xpre, xpost, ↓reduceIte, Nat.reduceEqDiff, Nat.reduceAdd, Nat.reduceSub, Nat.reduceLeDiff, Nat.zero_add, Nat.sub_zero, f2, f3, f4, f5, f6, f7, rd1_of g5, IfW_dec]
    refine ⟨fun hltj => ?_, fun hge => ?_⟩
    · clear g5
      refine WC_loop_inv (fun n f h1 => ∃ (k : Int) (l : List Int), n = (K - k).toNat ∧ (0 ≤ k ∧ k ≤ K) ∧ f 2 = .pointer (some ⟨h.length, 0, none⟩) ∧ f 3 = .pointer (some ⟨H1.length, 0, none⟩) ∧ f 4 = .pointer (some ⟨H2.length, 0, none⟩) ∧ f 5 = .pointer (some ⟨H3.length, 0, none⟩) ∧
        f 6 = I64 i ∧ f 7 = I64 j ∧ f 8 = I64 k ∧ KrS t u ⟨t.p, I, J, K, []⟩ v w h h1 H3.length nb l ∧ DoneS (I * J * K).toNat (tenG t.p J K (krN t u)) l ((i * J + j) * K + k)) ?_ (K - 0).toNat _ _ ⟨0, l, rfl, by omega, f2, f3, f4, f5, f6, f7, rfl, st, by rw [Int.add_zero]; exact dn⟩
      clear f2 f3 f4 f5 f6 f7 st dn
      rintro n fr h1 ⟨k, l, rfl, hk, f2, f3, f4, f5, f6, f7, f8, st, dn⟩
      obtain ⟨t1, g1⟩ := st.g1
      obtain ⟨t2, g2⟩ := st.g2
      obtain ⟨t5, g5⟩ := st.g5
      rw [← n1] at g2
      try simp (maxSteps := 3000000) (disch := first | omega | (simp only [len_new, len_put, len_kill]; omega)) only [↓xpre, xpost, ↓reduceIte, Nat.reduceEqDiff, Nat.reduceAdd, Nat.reduceSub, Nat.reduceLeDiff, Nat.zero_add, Nat.sub_zero, f2, f3, f4, f5, f6, f7, f8, rd1_of g5, IfW_dec]
      refine ⟨fun hltk => ?_, fun hge => ?_⟩
      · have b1 := lin_in (i := i) (I := I) (j := j) (J := J) (by omega) (by omega)
        have b2 := lin_in b1.2 (j := k) (J := K) (by omega)
        have d1 := tdiv_in (a := i) (I := t.i) (J := u.i) (by rw [hI]; omega) (by omega)
        have d2 := tdiv_in (a := j) (I := t.j) (J := u.j) (by rw [hJ]; omega) (by omega)
        have d3 := tdiv_in (a := k) (I := t.k) (J := u.k) (by rw [hK]; omega) (by omega)
        have m1 := tmod_in (a := i) (J := u.i) (by omega) (by omega)
        have m2 := tmod_in (a := j) (J := u.j) (by omega) (by omega)
        have m3 := tmod_in (a := k) (J := u.k) (by omega) (by omega)
        try simp (maxSteps := 3000000) (disch := first | omega | (simp only [len_new, len_put, len_kill]; omega)) only [↓xpre, xpost, ↓reduceIte, Nat.reduceEqDiff, Nat.reduceAdd, Nat.reduceSub, Nat.reduceLeDiff, Nat.zero_add, Nat.sub_zero, f2, f3, f4, f5, f6, f7, f8, rd1_of g1, rd1_of g2, rd1_of g5, rdn_of g1, wrap64_in, bin_quo]
        refine s_l05At (t := t) (hv.pre st.hp) f d1 d2 d3 fun h2 p5 => ?_
        have g1 := pre_get p5 g1
        have g2 := pre_get p5 g2
        try simp (maxSteps := 3000000) (disch := first | omega | (simp only [len_new, len_put, len_kill]; omega)) only [↓xpre, xpost, ↓reduceIte, Nat.reduceEqDiff, Nat.reduceAdd, Nat.reduceSub, Nat.reduceLeDiff, Nat.zero_add, Nat.sub_zero, f2, f3, f4, f5, f6, f7, f8, rd1_of g2, rdn_of g2, bin_rem]
        refine ⟨p5, ?_⟩
        refine s_l05At (t := u) (hw.pre (st.hp.trans p5)) fu m1 m2 m3 fun h3 p6 => ?_
        have st3 := st.pre (p5.trans p6)
        have g1 := pre_get p6 g1
        obtain ⟨tn, gn⟩ := st3.gn
        have hll := dn.1
        have a1 := tat_in f d1 d2 d3
        have a2 := tat_in fu m1 m2 m3
        have fp := f.p
        have fup := fu.p
        have a3 := mul_in (a := tat t (i.tdiv u.i) (j.tdiv u.j) (k.tdiv u.k)) (b := tat u (i.tmod u.i) (j.tmod u.j) (k.tmod u.k)) (A := 5) (B := 5) (by omega) (by omega)
        try simp (maxSteps := 3000000) (disch := first | omega | (simp only [len_new, len_put, len_kill]; omega)) only [↓xpre, xpost, ↓reduceIte, Nat.reduceEqDiff, Nat.reduceAdd, Nat.reduceSub, Nat.reduceLeDiff, Nat.zero_add, Nat.sub_zero, f2, f3, f4, f5, f6, f7, f8, rd1_of g1, wrap64_in, bin_rem, ixsV_some, wr_of gn]
        refine ⟨p6, ⟨by omega, by omega⟩, by simp [hll]; omega, ?_⟩
        refine InvQ_go (K - (k + 1)).toNat (by omega) ⟨k + 1, l.set ((i * J + j) * K + k).toNat ((krN t u i j k).tmod t.p), rfl, by omega, f2, f3, f4, f5, f6, f7, rfl, ?_, ?_⟩
        · have lo := st.lo
          obtain ⟨c2, c3, c4⟩ := st3.g3
          refine ⟨pre_put st3.hp (by omega), lo, st3.g1.put_ne (by omega), st3.g2.put_ne (by omega), ⟨c2, c3, c4.put_ne (by omega)⟩, st3.g5.put_ne (by omega), ⟨tn, ?_⟩⟩
          rw [get_put_same (get_lt gn)]
          simp only [Nat.zero_add, Nat.mul_one]
          rw [splice_map (by omega)]
          rfl
        · rw [← Int.add_assoc]
          refine dn.step (by omega) ?_
          have e1 := dec (a := i * J + j) (i := k) (I := K) (by omega)
          have e2 := dec (a := i) (i := j) (I := J) (by omega)
          unfold tenG
          rw [Int.toNat_of_nonneg (by omega), e1.1, e1.2, e2.1, e2.2]
      · try simp (maxSteps := 3000000) (disch := first | omega | (simp only [len_new, len_put, len_kill]; omega)) only [↓xpre, xpost, ↓reduceIte, Nat.reduceEqDiff, Nat.reduceAdd, Nat.reduceSub, Nat.reduceLeDiff, Nat.zero_add, Nat.sub_zero, f2, f3, f4, f5, f6, f7, wrap64_in]
        have : k = K := by omega
        subst this
        refine InvQ_go (J - (j + 1)).toNat (by omega) ⟨j + 1, l, rfl, by omega, f2, f3, f4, f5, f6, rfl, st, ?_⟩
        have e1 : (i * J + (j + 1)) * k = (i * J + j) * k + k := by rw [← Int.add_assoc, Int.add_mul (i * J + j), Int.one_mul]
        rw [e1]
        exact dn
    · try simp (maxSteps := 3000000) (disch := first | omega | (simp only [len_new, len_put, len_kill]; omega)) only [↓xpre, xpost, ↓reduceIte, Nat.reduceEqDiff, Nat.reduceAdd, Nat.reduceSub, Nat.reduceLeDiff, Nat.zero_add, Nat.sub_zero, f2, f3, f4, f5, f6, wrap64_in]
      have : j = J := by omega
      subst this
      refine InvQ_go (I - (i + 1)).toNat (by omega) ⟨i + 1, l, rfl, by omega, f2, f3, f4, f5, rfl, st, ?_⟩
      have e1 : (i + 1) * j * K = (i * j + j) * K := by rw [Int.add_mul i, Int.one_mul]
      rw [e1]
      exact dn
  · have : i = I := by omega
    subst this
    have hall := dn.all (by omega)
    have lo := st.lo
    obtain ⟨c, c3, t2, g2⟩ := st.g3
    obtain ⟨c0, c1, c2, c4, c5, rfl⟩ : ∃ a b d e g, c = [a, b, d, e, g] := by
      match c, c3 with
      | [a, b, d, e, g], _ => exact ⟨_, _, _, _, _, rfl⟩
    rw [show h.length + 2 = H2.length by omega] at g2
    have l2 := get_lt g2
    try simp (maxSteps := 3000000) (disch := first | omega | (simp only [len_new, len_put, len_kill]; omega)) only [↓xpre, xpost, ↓reduceIte, Nat.reduceEqDiff, Nat.reduceAdd, Nat.reduceSub, Nat.reduceLeDiff, Nat.zero_add, Nat.sub_zero, f2, f3, f4, f5, f6, rdn_of g5, wr_of g2]
    rw [hs] at hQ
    obtain ⟨tn, gn⟩ := st.gn
    refine hQ _ _ (pre_put (n := H2.length) st.hp (by omega)) (.inr ⟨nb, tn, true, by omega, ?_, ?_⟩)
    · simp only [tenT, gen_len]
    · rw [get_put_ne (by omega), gn, hall]
      rfl
end Go.Proofs.Ytapafdpnmakekaa.X

/- The Kronecker product, both sides. -/
set_option linter.unusedVariables false
set_option linter.unusedSimpArgs false
set_option maxRecDepth 20000
set_option maxHeartbeats 4000000
namespace Go.Proofs.Ytapafdpnmakekaa.X
open Go Go.RowKit

def krR (t u : Ten) : Ten × Int :=
  if isT t = true ∧ isT u = true then (if t.p = u.p then (if t.i * u.i ≤ 9 ∧ t.j * u.j ≤ 9 ∧ t.k * u.k ≤ 9 then (krT t u, 0) else (noT, 3)) else (noT, 2)) else (noT, 1)
theorem gen_le {i j k : Int} {g : Nat → Int} (h1 : 1 ≤ i ∧ i ≤ 9) (h2 : 1 ≤ j ∧ j ≤ 9) (h3 : 1 ≤ k ∧ k ≤ 9) : (((gen (i * j * k).toNat g).length : Nat) : Int) ≤ 1048576 := by
  have ij := mul_in1 (A := 9) (B := 9) h1 h2
  have ijk := mul_in1 (A := 81) (B := 9) ij h3
  rw [gen_len]
  omega
theorem krR_len (t u : Ten) : (((krR t u).1.ns.length : Nat) : Int) ≤ 1048576 := by
  unfold krR
  split
  · rename_i h
    have f := isT_facts h.1
    have fu := isT_facts h.2
    split
    · split
      · rename_i h9
        have mi := mul_in1 (A := 9) (B := 9) f.i fu.i
        have mj := mul_in1 (A := 9) (B := 9) f.j fu.j
        have mk := mul_in1 (A := 9) (B := 9) f.k fu.k
        exact gen_le (by omega) (by omega) (by omega)
      · simp [noT]
    · simp [noT]
  · simp [noT]

theorem s_KroneckerTensors {v w : Value} {t u : Ten} {h : AH} {Q : Value → AH → Prop} (hv : Ints h v t.ns) (hl : (t.ns.length : Int) ≤ 1048576) (hw : Ints h w u.ns) (hl' : (u.ns.length : Int) ≤ 1048576)
    (hQ : ∀ v' h', h <+: h' → OwnR h h' v' (krR t u).1.ns → Q (.tuple #[tenV (krR t u).1 v', I64 (krR t u).2]) h') : WF S 35 [tenV t v, tenV u w] h Q := by
  refine WF_fn (fn := c35) rfl rfl ?_
  unfold c35
  try simp (maxSteps := 3000000) (disch := first | omega | (simp only [len_new, len_put, len_kill]; omega)) only [↓xpre, xpost, ↓reduceIte, Nat.reduceEqDiff, Nat.reduceAdd, Nat.reduceSub, Nat.reduceLeDiff, Nat.zero_add, Nat.sub_zero, tenV, hv.one, hw.one]
  generalize hH1 : AH.new h _ = H1
  obtain ⟨hb1, p1, n1⟩ := new_facts hH1
  generalize hH2 : AH.new H1 _ = H2
  obtain ⟨hb2, p2, n2⟩ := new_facts hH2
  generalize hH3 : AH.new H2 _ = H3
  obtain ⟨hb3, p3, n3⟩ := new_facts hH3
  have hb1 := pre_get (p2.trans p3) hb1
  have hb2 := pre_get p3 hb2
  have ph := (p1.trans p2).trans p3
  try simp (maxSteps := 3000000) (disch := first | omega | (simp only [len_new, len_put, len_kill]; omega)) only [↓xpre, xpost, ↓reduceIte, Nat.reduceEqDiff, Nat.reduceAdd, Nat.reduceSub, Nat.reduceLeDiff, Nat.zero_add, Nat.sub_zero, rdn_of hb1, rdn_of hb2]
  refine s_l05Two (hv.pre ph) hl (hw.pre ph) hl' fun H4 p4 => ?_
  have hb1 := pre_get p4 hb1
  have hb2 := pre_get p4 hb2
  have hb3 := pre_get p4 hb3
  have ph := ph.trans p4
  have l4 := get_lt hb3
  unfold krR at hQ
  unfold twoC
  by_cases hd : isT t = true ∧ isT u = true
  case neg =>
    rw [if_neg hd] at hQ ⊢
    try simp (maxSteps := 3000000) (disch := first | omega | (simp only [len_new, len_put, len_kill]; omega)) only [↓xpre, xpost, ↓reduceIte, Nat.reduceEqDiff, Nat.reduceAdd, Nat.reduceSub, Nat.reduceLeDiff, Nat.zero_add, Nat.sub_zero, decide_eq_true (show (1 : Int) ≠ 0 by decide), fillL, wr_of hb3]
    exact hQ (.slice none 0 0) _ (pre_put ph (by omega)) (.inl ⟨rfl, rfl⟩)
  rw [if_pos hd] at hQ ⊢
  by_cases e1 : t.p = u.p
  case neg =>
    rw [if_neg e1] at hQ ⊢
    try simp (maxSteps := 3000000) (disch := first | omega | (simp only [len_new, len_put, len_kill]; omega)) only [↓xpre, xpost, ↓reduceIte, Nat.reduceEqDiff, Nat.reduceAdd, Nat.reduceSub, Nat.reduceLeDiff, Nat.zero_add, Nat.sub_zero, decide_eq_true (show (2 : Int) ≠ 0 by decide), fillL, wr_of hb3]
    exact hQ (.slice none 0 0) _ (pre_put ph (by omega)) (.inl ⟨rfl, rfl⟩)
  rw [if_pos e1] at hQ ⊢
  have f := isT_facts hd.1
  have fu := isT_facts hd.2
  have mi := mul_in1 (A := 9) (B := 9) f.i fu.i
  have mj := mul_in1 (A := 9) (B := 9) f.j fu.j
  have mk := mul_in1 (A := 9) (B := 9) f.k fu.k
  try simp (maxSteps := 3000000) (disch := first | omega | (simp only [len_new, len_put, len_kill]; omega)) only [↓xpre, xpost, ↓reduceIte, Nat.reduceEqDiff, Nat.reduceAdd, Nat.reduceSub, Nat.reduceLeDiff, Nat.zero_add, Nat.sub_zero, decide_eq_false (show ¬ ((0 : Int) ≠ 0) by decide), rd1_of hb1, rd1_of hb2, ↓WX_mm, mmV_3, wrap64_in, max3]
  by_cases e2 : t.i * u.i ≤ 9 ∧ t.j * u.j ≤ 9 ∧ t.k * u.k ≤ 9
  case neg =>
    rw [if_neg e2] at hQ
    try simp (maxSteps := 3000000) (disch := first | omega | (simp only [len_new, len_put, len_kill]; omega)) only [↓xpre, xpost, ↓reduceIte, Nat.reduceEqDiff, Nat.reduceAdd, Nat.reduceSub, Nat.reduceLeDiff, Nat.zero_add, Nat.sub_zero, decide_eq_true e2, fillL, wr_of hb3]
    exact hQ (.slice none 0 0) _ (pre_put ph (by omega)) (.inl ⟨rfl, rfl⟩)
  rw [if_pos e2] at hQ
  try simp (maxSteps := 3000000) (disch := first | omega | (simp only [len_new, len_put, len_kill]; omega)) only [↓xpre, xpost, ↓reduceIte, Nat.reduceEqDiff, Nat.reduceAdd, Nat.reduceSub, Nat.reduceLeDiff, Nat.zero_add, Nat.sub_zero, decide_eq_false (show ¬ ¬ (t.i * u.i ≤ 9 ∧ t.j * u.j ≤ 9 ∧ t.k * u.k ≤ 9) from fun h => h e2), rdn_of hb1, rdn_of hb2]
  refine s_l05Kronecker (hv.pre ph) (hw.pre ph) f fu e1 e2.1 e2.2.1 e2.2.2 fun v' H5 p5 o => ?_
  have hb3 := pre_get p5 hb3
  have l5 := get_lt hb3
  try simp (maxSteps := 3000000) (disch := first | omega | (simp only [len_new, len_put, len_kill]; omega)) only [↓xpre, xpost, ↓reduceIte, Nat.reduceEqDiff, Nat.reduceAdd, Nat.reduceSub, Nat.reduceLeDiff, Nat.zero_add, Nat.sub_zero, tenV, o.ints.one, wr_of hb3]
  exact hQ v' _ (pre_put (ph.trans p5) (by omega)) ((o.put_ne (by omega)).lo (by have := pre_len ph; omega))

theorem i_kr1 {v w : Value} {t u : Ten} {i j k : Int} {h : AH} {n m : Nat} {e e' : TypeId} {ro full ro' full' : Bool} {Q : Value → AH → Prop} (hb : h.get n = some ⟨[I64 t.p, I64 t.i, I64 t.j, I64 t.k, v], e, ro, full⟩)
    (hb' : h.get m = some ⟨[I64 u.p, I64 u.i, I64 u.j, I64 u.k, w], e', ro', full'⟩) (hv : Ints h v t.ns) (hw : Ints h w u.ns) (f : TF t) (fu : TF u)
    (h9 : t.i * u.i ≤ 9 ∧ t.j * u.j ≤ 9 ∧ t.k * u.k ≤ 9)
    (hi : 0 ≤ i ∧ i < t.i * u.i) (hj : 0 ≤ j ∧ j < t.j * u.j) (hk : 0 ≤ k ∧ k < t.k * u.k) (hQ : ∀ h', h <+: h' → Q (I64 (krN t u i j k)) h') :
    WF S 191 [I64 i, I64 j, I64 k, .pointer (some ⟨n, 0, none⟩), .pointer (some ⟨m, 0, none⟩)] h Q := by
  refine WF_fn (fn := c191) rfl rfl ?_
  unfold c191
  have ui := fu.i
  have uj := fu.j
  have uk := fu.k
  have ti := f.i
  have tj := f.j
  have tk := f.k
  have d1 := tdiv_in hi ui.1
  have d2 := tdiv_in hj uj.1
  have d3 := tdiv_in hk uk.1
  have m1 := tmod_in hi.1 ui.1
  have m2 := tmod_in hj.1 uj.1
  have m3 := tmod_in hk.1 uk.1
  try simp (maxSteps := 3000000) (disch := first | omega | (simp only [len_new, len_put, len_kill]; omega)) only [↓xpre, xpost, ↓reduceIte, Nat.reduceEqDiff, Nat.reduceAdd, Nat.reduceSub, Nat.reduceLeDiff, Nat.zero_add, Nat.sub_zero, rdn_of hb, rd1_of hb', bin_quo, wrap64_in]
  refine i_at (t := t) hv f d1 d2 d3 fun h1 p1 => ?_
  have hb' := pre_get p1 hb'
  try simp (maxSteps := 3000000) (disch := first | omega | (simp only [len_new, len_put, len_kill]; omega)) only [↓xpre, xpost, ↓reduceIte, Nat.reduceEqDiff, Nat.reduceAdd, Nat.reduceSub, Nat.reduceLeDiff, Nat.zero_add, Nat.sub_zero, rdn_of hb', rd1_of hb', bin_rem]
  refine ⟨p1, ?_⟩
  refine i_at (t := u) (hw.pre p1) fu m1 m2 m3 fun h2 p2 => ?_
  have a1 := tat_in f d1 d2 d3
  have a2 := tat_in fu m1 m2 m3
  have fp := f.p
  have fup := fu.p
  have a3 := mul_in (a := tat t (i.tdiv u.i) (j.tdiv u.j) (k.tdiv u.k)) (b := tat u (i.tmod u.i) (j.tmod u.j) (k.tmod u.k)) (A := 5) (B := 5) (by omega) (by omega)
  try simp (maxSteps := 3000000) (disch := first | omega | (simp only [len_new, len_put, len_kill]; omega)) only [↓xpre, xpost, ↓reduceIte, Nat.reduceEqDiff, Nat.reduceAdd, Nat.reduceSub, Nat.reduceLeDiff, Nat.zero_add, Nat.sub_zero, wrap64_in]
  exact hQ _ (p1.trans p2)

theorem i_KroneckerTensors {v w : Value} {t u : Ten} {h : AH} {Q : Value → AH → Prop} (hv : Ints h v t.ns) (hl : (t.ns.length : Int) ≤ 1048576) (hw : Ints h w u.ns) (hl' : (u.ns.length : Int) ≤ 1048576)
    (hQ : ∀ v' h', h <+: h' → OwnR h h' v' (krR t u).1.ns → Q (.tuple #[tenV (krR t u).1 v', I64 (krR t u).2]) h') : WF S 34 [tenV t v, tenV u w] h Q := by
  refine WF_fn (fn := c34) rfl rfl ?_
  unfold c34
  try simp (maxSteps := 3000000) (disch := first | omega | (simp only [len_new, len_put, len_kill]; omega)) only [↓xpre, xpost, ↓reduceIte, Nat.reduceEqDiff, Nat.reduceAdd, Nat.reduceSub, Nat.reduceLeDiff, Nat.zero_add, Nat.sub_zero, tenV, hv.one, hw.one, fillL, zrep]
  generalize hH1 : AH.new h _ = H1
  obtain ⟨hb1, p1, n1⟩ := new_facts hH1
  generalize hH2 : AH.new H1 _ = H2
  obtain ⟨hb2, p2, n2⟩ := new_facts hH2
  generalize hH3 : AH.new H2 _ = H3
  obtain ⟨hb3, p3, n3⟩ := new_facts hH3
  generalize hH4 : AH.new H3 _ = H4
  obtain ⟨hb4, p4, n4⟩ := new_facts hH4
  have hb1 := pre_get ((p2.trans p3).trans p4) hb1
  have hb2 := pre_get (p3.trans p4) hb2
  have hb3 := pre_get p4 hb3
  have ph := ((p1.trans p2).trans p3).trans p4
  refine i_twoTensors (hv.pre ph) hl (hw.pre ph) hl' (ints_lit hb4) (by simp) fun H5 p5 => ?_
  have hb1 := pre_get p5 hb1
  have hb2 := pre_get p5 hb2
  have hb3 := pre_get p5 hb3
  have ph := ph.trans p5
  have l5 := get_lt hb3
  unfold krR at hQ
  unfold twoS
  by_cases hd : isT t = true ∧ isT u = true
  case neg =>
    rw [if_neg hd] at hQ ⊢
    try simp (maxSteps := 3000000) (disch := first | omega | (simp only [len_new, len_put, len_kill]; omega)) only [↓xpre, xpost, ↓reduceIte, Nat.reduceEqDiff, Nat.reduceAdd, Nat.reduceSub, Nat.reduceLeDiff, Nat.zero_add, Nat.sub_zero, decide_eq_true (show (1 : Int) ≠ 0 by decide), fillL, wr_of hb3]
    exact hQ (.slice none 0 0) _ (pre_put ph (by omega)) (.inl ⟨rfl, rfl⟩)
  rw [if_pos hd] at hQ ⊢
  by_cases e1 : t.p = u.p
  case neg =>
    rw [if_neg e1] at hQ ⊢
    try simp (maxSteps := 3000000) (disch := first | omega | (simp only [len_new, len_put, len_kill]; omega)) only [↓xpre, xpost, ↓reduceIte, Nat.reduceEqDiff, Nat.reduceAdd, Nat.reduceSub, Nat.reduceLeDiff, Nat.zero_add, Nat.sub_zero, decide_eq_true (show (2 : Int) ≠ 0 by decide), fillL, wr_of hb3]
    exact hQ (.slice none 0 0) _ (pre_put ph (by omega)) (.inl ⟨rfl, rfl⟩)
  rw [if_pos e1] at hQ ⊢
  have f := isT_facts hd.1
  have fu := isT_facts hd.2
  have mi := mul_in1 (A := 9) (B := 9) f.i fu.i
  have mj := mul_in1 (A := 9) (B := 9) f.j fu.j
  have mk := mul_in1 (A := 9) (B := 9) f.k fu.k
  have hs : ([IntKind.i64.wrap (t.i * u.i), IntKind.i64.wrap (t.j * u.j), IntKind.i64.wrap (t.k * u.k)].all side = true) ↔ (t.i * u.i ≤ 9 ∧ t.j * u.j ≤ 9 ∧ t.k * u.k ≤ 9) := by
    rw [wrap64_in (by omega) (by omega), wrap64_in (by omega) (by omega), wrap64_in (by omega) (by omega)]
    simp only [List.all_cons, List.all_nil, Bool.and_true, Bool.and_eq_true, side_iff]
    omega
  by_cases e2 : t.i * u.i ≤ 9 ∧ t.j * u.j ≤ 9 ∧ t.k * u.k ≤ 9
  case neg =>
    rw [if_neg e2] at hQ
    rw [if_neg (fun h => e2 (hs.1 h))]
    try simp (maxSteps := 3000000) (disch := first | omega | (simp only [len_new, len_put, len_kill]; omega)) only [↓xpre, xpost, ↓reduceIte, Nat.reduceEqDiff, Nat.reduceAdd, Nat.reduceSub, Nat.reduceLeDiff, Nat.zero_add, Nat.sub_zero, decide_eq_true (show (3 : Int) ≠ 0 by decide), fillL, wr_of hb3]
    exact hQ (.slice none 0 0) _ (pre_put ph (by omega)) (.inl ⟨rfl, rfl⟩)
  rw [if_pos e2] at hQ
  rw [if_pos (hs.2 e2)]
  try simp (maxSteps := 3000000) (disch := first | omega | (simp only [len_new, len_put, len_kill]; omega)) only [↓xpre, xpost, ↓reduceIte, Nat.reduceEqDiff, Nat.reduceAdd, Nat.reduceSub, Nat.reduceLeDiff, Nat.zero_add, Nat.sub_zero, decide_eq_false (show ¬ ((0 : Int) ≠ 0) by decide), rd1_of hb1, rd1_of hb2, wrap64_in]
  have hf : Tells S H5 (.func (.func 191) #[] #[.pointer (some ⟨h.length, 0, none⟩), .pointer (some ⟨H1.length, 0, none⟩)]) (t.i * u.i) (t.j * u.j) (t.k * u.k) (krN t u) := by
    intro i j k hi hj hk h1 hp Q hQ
    rw [WK_func]
    exact i_kr1 (pre_get hp hb1) (pre_get hp hb2) (hv.pre (ph.trans hp)) (hw.pre (ph.trans hp)) f fu e2 hi hj hk hQ
  have fp := f.p
  refine i_tensor (num := krN t u) (by omega) (by omega) (by omega) (by omega) hf fun v' H9 p9 o => ?_
  have hb3 := pre_get p9 hb3
  have l9 := get_lt hb3
  try simp (maxSteps := 3000000) (disch := first | omega | (simp only [len_new, len_put, len_kill]; omega)) only [↓xpre, xpost, ↓reduceIte, Nat.reduceEqDiff, Nat.reduceAdd, Nat.reduceSub, Nat.reduceLeDiff, Nat.zero_add, Nat.sub_zero, tenV, o.ints.one, wr_of hb3]
  exact hQ v' _ (pre_put (ph.trans p9) (by omega)) ((o.put_ne (by omega)).lo (by have := pre_len ph; omega))
end Go.Proofs.Ytapafdpnmakekaa.X

/- The direct sum, both sides. -/
set_option linter.unusedVariables false
set_option linter.unusedSimpArgs false
set_option maxRecDepth 20000
set_option maxHeartbeats 4000000
namespace Go.Proofs.Ytapafdpnmakekaa.X
open Go Go.RowKit

def dsN (t u : Ten) (a b c : Int) : Int := if a < t.i ∧ b < t.j ∧ c < t.k then tat t a b c else if t.i ≤ a ∧ t.j ≤ b ∧ t.k ≤ c then tat u (a - t.i) (b - t.j) (c - t.k) else 0
def dsT (t u : Ten) : Ten := tenT t.p (t.i + u.i) (t.j + u.j) (t.k + u.k) (dsN t u)
def dsR (t u : Ten) : Ten × Int :=
  if isT t = true ∧ isT u = true then (if t.p = u.p then (if t.i + u.i ≤ 9 ∧ t.j + u.j ≤ 9 ∧ t.k + u.k ≤ 9 then (dsT t u, 0) else (noT, 3)) else (noT, 2)) else (noT, 1)
theorem dsR_len (t u : Ten) : (((dsR t u).1.ns.length : Nat) : Int) ≤ 1048576 := by
  unfold dsR
  split
  · rename_i h
    have f := isT_facts h.1
    have fu := isT_facts h.2
    have q1 := f.i
    have q2 := f.j
    have q3 := f.k
    have r1 := fu.i
    have r2 := fu.j
    have r3 := fu.k
    split
    · split
      · rename_i h9
        exact gen_le (by omega) (by omega) (by omega)
      · simp [noT]
    · simp [noT]
  · simp [noT]
theorem dsN_in {t u : Ten} (f : TF t) (fu : TF u) (ep : t.p = u.p) {a b c : Int} (ha : 0 ≤ a ∧ a < t.i + u.i) (hb : 0 ≤ b ∧ b < t.j + u.j) (hc : 0 ≤ c ∧ c < t.k + u.k) : 0 ≤ dsN t u a b c ∧ dsN t u a b c < t.p := by
  unfold dsN
  split
  · rename_i h
    exact tat_in f (by omega) (by omega) (by omega)
  · split
    · rename_i h
      have := tat_in fu (i := a - t.i) (j := b - t.j) (k := c - t.k) (by omega) (by omega) (by omega)
      omega
    · have := f.p
      omega
/-- Written in order, zeros behind. -/
def DoneZ (N : Nat) (g : Nat → Int) (l : List Int) (m : Int) : Prop := DoneS N g l m ∧ ∀ n : Nat, m ≤ (n : Int) → l.getD n 0 = 0
theorem DoneZ.step {N : Nat} {g : Nat → Int} {l : List Int} {m : Int} (d : DoneZ N g l m) (hm : 0 ≤ m ∧ m < N) {x : Int} (hx : x = g m.toNat) : DoneZ N g (l.set m.toNat x) (m + 1) := by
  refine ⟨d.1.step hm hx, fun n hn => ?_⟩
  rw [set_getD (by rw [d.1.1]; omega), if_neg (by omega)]
  exact d.2 n (by omega)
theorem DoneZ.skip {N : Nat} {g : Nat → Int} {l : List Int} {m : Int} (d : DoneZ N g l m) (hm : 0 ≤ m ∧ m < N) (hx : g m.toNat = 0) : DoneZ N g l (m + 1) := by
  refine ⟨⟨d.1.1, fun n hn => ?_⟩, fun n hn => d.2 n (by omega)⟩
  by_cases h : (n : Int) < m
  · exact d.1.2 n h
  · have : n = m.toNat := by omega
    rw [d.2 n (by omega), this, hx]

theorem s_DirectSum {v w : Value} {t u : Ten} {h : AH} {Q : Value → AH → Prop} (hv : Ints h v t.ns) (hl : (t.ns.length : Int) ≤ 1048576) (hw : Ints h w u.ns) (hl' : (u.ns.length : Int) ≤ 1048576)
    (hQ : ∀ v' h', h <+: h' → OwnR h h' v' (dsR t u).1.ns → Q (.tuple #[tenV (dsR t u).1 v', I64 (dsR t u).2]) h') : WF S 33 [tenV t v, tenV u w] h Q := by
  refine WF_fn (fn := c33) rfl rfl ?_
  unfold c33
  try simp (maxSteps := 3000000) (disch := first | omega | (simp only [len_new, len_put, len_kill]; omega)) only [↓xpre, xpost, ↓reduceIte, Nat.reduceEqDiff, Nat.reduceAdd, Nat.reduceSub, Nat.reduceLeDiff, Nat.zero_add, Nat.sub_zero, tenV, hv.one, hw.one]
  generalize hH1 : AH.new h _ = H1
  obtain ⟨hb1, p1, n1⟩ := new_facts hH1
  generalize hH2 : AH.new H1 _ = H2
  obtain ⟨hb2, p2, n2⟩ := new_facts hH2
  generalize hH3 : AH.new H2 _ = H3
  obtain ⟨hb3, p3, n3⟩ := new_facts hH3
  have hb1 := pre_get (p2.trans p3) hb1
  have hb2 := pre_get p3 hb2
  have ph := (p1.trans p2).trans p3
  try simp (maxSteps := 3000000) (disch := first | omega | (simp only [len_new, len_put, len_kill]; omega)) only [↓xpre, xpost, ↓reduceIte, Nat.reduceEqDiff, Nat.reduceAdd, Nat.reduceSub, Nat.reduceLeDiff, Nat.zero_add, Nat.sub_zero, rdn_of hb1, rdn_of hb2]
  refine s_l05Two (hv.pre ph) hl (hw.pre ph) hl' fun H4 p4 => ?_
  have hb1 := pre_get p4 hb1
  have hb2 := pre_get p4 hb2
  have hb3 := pre_get p4 hb3
  have ph := ph.trans p4
  have l4 := get_lt hb3
  unfold dsR at hQ
  unfold twoC
  by_cases hd : isT t = true ∧ isT u = true
  case neg =>
    rw [if_neg hd] at hQ ⊢
    try simp (maxSteps := 3000000) (disch := first | omega | (simp only [len_new, len_put, len_kill]; omega)) only [↓xpre, xpost, ↓reduceIte, Nat.reduceEqDiff, Nat.reduceAdd, Nat.reduceSub, Nat.reduceLeDiff, Nat.zero_add, Nat.sub_zero, decide_eq_true (show (1 : Int) ≠ 0 by decide), fillL, wr_of hb3]
    exact hQ (.slice none 0 0) _ (pre_put ph (by omega)) (.inl ⟨rfl, rfl⟩)
  rw [if_pos hd] at hQ ⊢
  by_cases ep : t.p = u.p
  case neg =>
    rw [if_neg ep] at hQ ⊢
    try simp (maxSteps := 3000000) (disch := first | omega | (simp only [len_new, len_put, len_kill]; omega)) only [↓xpre, xpost, ↓reduceIte, Nat.reduceEqDiff, Nat.reduceAdd, Nat.reduceSub, Nat.reduceLeDiff, Nat.zero_add, Nat.sub_zero, decide_eq_true (show (2 : Int) ≠ 0 by decide), fillL, wr_of hb3]
    exact hQ (.slice none 0 0) _ (pre_put ph (by omega)) (.inl ⟨rfl, rfl⟩)
  rw [if_pos ep] at hQ ⊢
  have f := isT_facts hd.1
  have fu := isT_facts hd.2
  have fi := f.i
  have fj := f.j
  have fk := f.k
  have ui := fu.i
  have uj := fu.j
  have uk := fu.k
  try simp (maxSteps := 3000000) (disch := first | omega | (simp only [len_new, len_put, len_kill]; omega)) only [↓xpre, xpost, ↓reduceIte, Nat.reduceEqDiff, Nat.reduceAdd, Nat.reduceSub, Nat.reduceLeDiff, Nat.zero_add, Nat.sub_zero, decide_eq_false (show ¬ ((0 : Int) ≠ 0) by decide), rd1_of hb1, rd1_of hb2, ↓WX_mm, mmV_3, wrap64_in, max3]
  by_cases e2 : t.i + u.i ≤ 9 ∧ t.j + u.j ≤ 9 ∧ t.k + u.k ≤ 9
  case neg =>
    rw [if_neg e2] at hQ
    try simp (maxSteps := 3000000) (disch := first | omega | (simp only [len_new, len_put, len_kill]; omega)) only [↓xpre, xpost, ↓reduceIte, Nat.reduceEqDiff, Nat.reduceAdd, Nat.reduceSub, Nat.reduceLeDiff, Nat.zero_add, Nat.sub_zero, decide_eq_true e2, fillL, wr_of hb3]
    exact hQ (.slice none 0 0) _ (pre_put ph (by omega)) (.inl ⟨rfl, rfl⟩)
  rw [if_pos e2] at hQ
  try simp (maxSteps := 3000000) (disch := first | omega | (simp only [len_new, len_put, len_kill]; omega)) only [↓xpre, xpost, ↓reduceIte, Nat.reduceEqDiff, Nat.reduceAdd, Nat.reduceSub, Nat.reduceLeDiff, Nat.zero_add, Nat.sub_zero, decide_eq_false (show ¬ ¬ (t.i + u.i ≤ 9 ∧ t.j + u.j ≤ 9 ∧ t.k + u.k ≤ 9) from fun h => h e2), rd1_of hb1, rd1_of hb2, wrap64_in]
  have hs : dsT t u = tenT t.p (t.i + u.i) (t.j + u.j) (t.k + u.k) (dsN t u) := rfl
  have fp := f.p
  generalize hI : t.i + u.i = I at *
  generalize hJ : t.j + u.j = J at *
  generalize hK : t.k + u.k = K at *
  have ij := mul_in1 (a := I) (b := J) (A := 9) (B := 9) (by omega) (by omega)
  have ijk := mul_in1 (a := I * J) (b := K) (A := 81) (B := 9) (by omega) (by omega)
  refine s_l05Empty (by omega) (by omega) fun v' H5 p5 o => ?_
  try simp (maxSteps := 3000000) (disch := first | omega | (simp only [len_new, len_put, len_kill]; omega)) only [↓xpre, xpost, ↓reduceIte, Nat.reduceEqDiff, Nat.reduceAdd, Nat.reduceSub, Nat.reduceLeDiff, Nat.zero_add, Nat.sub_zero, tenV, o.ints.one]
  obtain ⟨nb, e, q1, rfl, q2⟩ := o
  generalize hH6 : AH.new H5 _ = H6
  obtain ⟨hb6, p6, n6⟩ := new_facts hH6
  have q3 := get_lt q2
  rw [List.length_replicate] at hb6
  have hN : (((I * J * K).toNat : Nat) : Int) = I * J * K := Int.toNat_of_nonneg (by omega)
  have up := p5.trans p6
  have st0 : KrS t u ⟨t.p, I, J, K, []⟩ v w h H6 H5.length nb (List.replicate (I * J * K).toNat 0) :=
    ⟨ph.trans up, by omega, ⟨_, pre_get up hb1⟩, by rw [← n1]; exact ⟨_, pre_get up hb2⟩,
      ⟨_, rfl, by rw [show h.length + 2 = H2.length by omega]; exact ⟨_, pre_get up hb3⟩⟩, ⟨_, hb6⟩, ⟨_, pre_get p6 q2⟩⟩
  refine WC_loop_inv (fun n f h1 => ∃ (i : Int) (l : List Int), n = (I - i).toNat ∧ (0 ≤ i ∧ i ≤ I) ∧ f 2 = .pointer (some ⟨h.length, 0, none⟩) ∧ f 3 = .pointer (some ⟨H1.length, 0, none⟩) ∧ f 4 = .pointer (some ⟨H2.length, 0, none⟩) ∧ f 7 = .pointer (some ⟨H5.length, 0, none⟩) ∧
    f 8 = I64 i ∧ KrS t u ⟨t.p, I, J, K, []⟩ v w h h1 H5.length nb l ∧ DoneZ (I * J * K).toNat (tenG t.p J K (dsN t u)) l (i * J * K)) ?_ (I - 0).toNat _ _ ⟨0, _, rfl, by omega, rfl, rfl, rfl, rfl, rfl, st0, ⟨List.length_replicate, fun n hn => by simp at hn; omega⟩, fun n hn => by
      rw [List.getD_eq_getElem?_getD, List.getElem?_replicate]
      split <;> rfl⟩
  rintro n fr h1 ⟨i, l, rfl, hi, f2, f3, f4, f7, f8, st, dn⟩
  obtain ⟨t5, g5⟩ := st.g5
  try simp (maxSteps := 3000000) (disch := first | omega | (simp only [len_new, len_put, len_kill]; omega)) only [↓xpre, xpost, ↓reduceIte, Nat.reduceEqDiff, Nat.reduceAdd, Nat.reduceSub, Nat.reduceLeDiff, Nat.zero_add, Nat.sub_zero, f2, f3, f4, f7, f8, rd1_of g5, IfW_dec]
  refine ⟨fun hlt => ?_, fun hge => ?_⟩
  · clear g5
    refine WC_loop_inv (fun n f h1 => ∃ (j : Int) (l : List Int), n = (J - j).toNat ∧ (0 ≤ j ∧ j ≤ J) ∧ f 2 = .pointer (some ⟨h.length, 0, none⟩) ∧ f 3 = .pointer (some ⟨H1.length, 0, none⟩) ∧ f 4 = .pointer (some ⟨H2.length, 0, none⟩) ∧ f 7 = .pointer (some ⟨H5.length, 0, none⟩) ∧
      f 8 = I64 i ∧ f 9 = I64 j ∧ KrS t u ⟨t.p, I, J, K, []⟩ v w h h1 H5.length nb l ∧ DoneZ (I * J * K).toNat (tenG t.p J K (dsN t u)) l ((i * J + j) * K)) ?_ (J - 0).toNat _ _ ⟨0, l, rfl, by omega, f2, f3, f4, f7, f8, rfl, st, by rw [Int.add_zero]; exact dn⟩
    clear f2 f3 f4 f7 f8 st dn
    rintro n fr h1 ⟨j, l, rfl, hj, f2, f3, f4, f7, f8, f9, st, dn⟩
    obtain ⟨t5, g5⟩ := st.g5
    try simp (maxSteps := 3000000) (disch := first | omega | (simp only [len_new, len_put, len_kill]; omega)) only [↓xpre, xpost, ↓reduceIte, Nat.reduceEqDiff, Nat.reduceAdd, Nat.reduceSub, Nat.reduceLeDiff, Nat.zero_add, Nat.sub_zero, f2, f3, f4, f7, f8, f9, rd1_of g5, IfW_dec]
    refine ⟨fun hltj => ?_, fun hge => ?_⟩
    · clear g5
      refine WC_loop_inv (fun n f h1 => ∃ (k : Int) (l : List Int), n = (K - k).toNat ∧ (0 ≤ k ∧ k ≤ K) ∧ f 2 = .pointer (some ⟨h.length, 0, none⟩) ∧ f 3 = .pointer (some ⟨H1.length, 0, none⟩) ∧ f 4 = .pointer (some ⟨H2.length, 0, none⟩) ∧ f 7 = .pointer (some ⟨H5.length, 0, none⟩) ∧
        f 8 = I64 i ∧ f 9 = I64 j ∧ f 10 = I64 k ∧ KrS t u ⟨t.p, I, J, K, []⟩ v w h h1 H5.length nb l ∧ DoneZ (I * J * K).toNat (tenG t.p J K (dsN t u)) l ((i * J + j) * K + k)) ?_ (K - 0).toNat _ _ ⟨0, l, rfl, by omega, f2, f3, f4, f7, f8, f9, rfl, st, by rw [Int.add_zero]; exact dn⟩
      clear f2 f3 f4 f7 f8 f9 st dn
      rintro n fr h1 ⟨k, l, rfl, hk, f2, f3, f4, f7, f8, f9, f10, st, dn⟩
      obtain ⟨t1, g1⟩ := st.g1
      obtain ⟨t2, g2⟩ := st.g2
      obtain ⟨t5, g5⟩ := st.g5
      rw [← n1] at g2
      try simp (maxSteps := 3000000) (disch := first | omega | (simp only [len_new, len_put, len_kill]; omega)) only [↓xpre, xpost, ↓reduceIte, Nat.reduceEqDiff, Nat.reduceAdd, Nat.reduceSub, Nat.reduceLeDiff, Nat.zero_add, Nat.sub_zero, f2, f3, f4, f7, f8, f9, f10, rd1_of g5, IfW_dec]
      refine ⟨fun hltk => ?_, fun hge => ?_⟩
      · have b1 := lin_in (i := i) (I := I) (j := j) (J := J) (by omega) (by omega)
        have b2 := lin_in b1.2 (j := k) (J := K) (by omega)
        have hg : tenG t.p J K (dsN t u) ((i * J + j) * K + k).toNat = dsN t u i j k := by
          have e1 := dec (a := i * J + j) (i := k) (I := K) (by omega)
          have e2 := dec (a := i) (i := j) (I := J) (by omega)
          have q := dsN_in f fu ep (a := i) (b := j) (c := k) (by omega) (by omega) (by omega)
          unfold tenG
          rw [Int.toNat_of_nonneg (by omega), e1.1, e1.2, e2.1, e2.2]
          exact Int.tmod_eq_of_lt q.1 q.2
        have lo := st.lo
        have hll := dn.1.1
        have skip : ¬ (i < t.i ∧ j < t.j ∧ k < t.k) → ¬ (t.i ≤ i ∧ t.j ≤ j ∧ t.k ≤ k) → DoneZ (I * J * K).toNat (tenG t.p J K (dsN t u)) l ((i * J + j) * K + (k + 1)) := fun a1 a2 => by
          rw [← Int.add_assoc]
          refine dn.skip (by omega) ?_
          rw [hg]
          unfold dsN
          rw [if_neg a1, if_neg a2]
        try simp (maxSteps := 3000000) (disch := first | omega | (simp only [len_new, len_put, len_kill]; omega)) only [↓xpre, xpost, ↓reduceIte, Nat.reduceEqDiff, Nat.reduceAdd, Nat.reduceSub, Nat.reduceLeDiff, Nat.zero_add, Nat.sub_zero, f2, f3, f4, f7, f8, f9, f10, rd1_of g1, rd1_of g5, wrap64_in]
        by_cases x1 : i < t.i
        · have y1 : ¬ t.i ≤ i := by omega
          by_cases x2 : j < t.j
          · by_cases x3 : k < t.k
            · try simp (maxSteps := 3000000) (disch := first | omega | (simp only [len_new, len_put, len_kill]; omega)) only [↓xpre, xpost, ↓reduceIte, Nat.reduceEqDiff, Nat.reduceAdd, Nat.reduceSub, Nat.reduceLeDiff, Nat.zero_add, Nat.sub_zero, f2, f3, f4, f7, f8, f9, f10, rd1_of g1, rd1_of g5, rdn_of g1, wrap64_in, x1, x2, x3]
              refine s_l05At (t := t) (hv.pre st.hp) f (by omega) (by omega) (by omega) fun h2 p5 => ?_
              have st3 := st.pre p5
              obtain ⟨tn, gn⟩ := st3.gn
              try simp (maxSteps := 3000000) (disch := first | omega | (simp only [len_new, len_put, len_kill]; omega)) only [↓xpre, xpost, ↓reduceIte, Nat.reduceEqDiff, Nat.reduceAdd, Nat.reduceSub, Nat.reduceLeDiff, Nat.zero_add, Nat.sub_zero, f2, f3, f4, f7, f8, f9, f10, ixsV_some, wr_of gn, wrap64_in]
              refine ⟨p5, ⟨by omega, by omega⟩, by simp [hll]; omega, ?_⟩
              refine InvQ_go (K - (k + 1)).toNat (by omega) ⟨k + 1, l.set ((i * J + j) * K + k).toNat (tat t i j k), rfl, by omega, f2, f3, f4, f7, f8, f9, rfl, ?_, ?_⟩
              · obtain ⟨c2, c3, c4⟩ := st3.g3
                refine ⟨pre_put st3.hp (by omega), lo, st3.g1.put_ne (by omega), st3.g2.put_ne (by omega), ⟨c2, c3, c4.put_ne (by omega)⟩, st3.g5.put_ne (by omega), ⟨tn, ?_⟩⟩
                rw [get_put_same (get_lt gn)]
                simp only [Nat.zero_add, Nat.mul_one]
                rw [splice_map (by omega)]
              · rw [← Int.add_assoc]
                refine dn.step (by omega) ?_
                rw [hg]
                unfold dsN
                rw [if_pos ⟨x1, x2, x3⟩]
            · try simp (maxSteps := 3000000) (disch := first | omega | (simp only [len_new, len_put, len_kill]; omega)) only [↓xpre, xpost, ↓reduceIte, Nat.reduceEqDiff, Nat.reduceAdd, Nat.reduceSub, Nat.reduceLeDiff, Nat.zero_add, Nat.sub_zero, f2, f3, f4, f7, f8, f9, f10, rd1_of g1, rd1_of g5, wrap64_in, x1, x2, x3, y1]
              exact InvQ_go (K - (k + 1)).toNat (by omega) ⟨k + 1, l, rfl, by omega, f2, f3, f4, f7, f8, f9, rfl, st, skip (by omega) (by omega)⟩
          · try simp (maxSteps := 3000000) (disch := first | omega | (simp only [len_new, len_put, len_kill]; omega)) only [↓xpre, xpost, ↓reduceIte, Nat.reduceEqDiff, Nat.reduceAdd, Nat.reduceSub, Nat.reduceLeDiff, Nat.zero_add, Nat.sub_zero, f2, f3, f4, f7, f8, f9, f10, rd1_of g1, rd1_of g5, wrap64_in, x1, x2, y1]
            exact InvQ_go (K - (k + 1)).toNat (by omega) ⟨k + 1, l, rfl, by omega, f2, f3, f4, f7, f8, f9, rfl, st, skip (by omega) (by omega)⟩
        · have y1 : t.i ≤ i := by omega
          by_cases y2 : t.j ≤ j
          · by_cases y3 : t.k ≤ k
            · try simp (maxSteps := 3000000) (disch := first | omega | (simp only [len_new, len_put, len_kill]; omega)) only [↓xpre, xpost, ↓reduceIte, Nat.reduceEqDiff, Nat.reduceAdd, Nat.reduceSub, Nat.reduceLeDiff, Nat.zero_add, Nat.sub_zero, f2, f3, f4, f7, f8, f9, f10, rd1_of g1, rd1_of g5, rdn_of g2, wrap64_in, x1, y1, y2, y3]
              refine s_l05At (t := u) (hw.pre st.hp) fu (by omega) (by omega) (by omega) fun h2 p5 => ?_
              have st3 := st.pre p5
              obtain ⟨tn, gn⟩ := st3.gn
              try simp (maxSteps := 3000000) (disch := first | omega | (simp only [len_new, len_put, len_kill]; omega)) only [↓xpre, xpost, ↓reduceIte, Nat.reduceEqDiff, Nat.reduceAdd, Nat.reduceSub, Nat.reduceLeDiff, Nat.zero_add, Nat.sub_zero, f2, f3, f4, f7, f8, f9, f10, ixsV_some, wr_of gn, wrap64_in]
              refine ⟨p5, ⟨by omega, by omega⟩, by simp [hll]; omega, ?_⟩
              refine InvQ_go (K - (k + 1)).toNat (by omega) ⟨k + 1, l.set ((i * J + j) * K + k).toNat (tat u (i - t.i) (j - t.j) (k - t.k)), rfl, by omega, f2, f3, f4, f7, f8, f9, rfl, ?_, ?_⟩
              · obtain ⟨c2, c3, c4⟩ := st3.g3
                refine ⟨pre_put st3.hp (by omega), lo, st3.g1.put_ne (by omega), st3.g2.put_ne (by omega), ⟨c2, c3, c4.put_ne (by omega)⟩, st3.g5.put_ne (by omega), ⟨tn, ?_⟩⟩
                rw [get_put_same (get_lt gn)]
                simp only [Nat.zero_add, Nat.mul_one]
                rw [splice_map (by omega)]
              · rw [← Int.add_assoc]
                refine dn.step (by omega) ?_
                rw [hg]
                unfold dsN
                rw [if_neg (by omega), if_pos ⟨y1, y2, y3⟩]
            · try simp (maxSteps := 3000000) (disch := first | omega | (simp only [len_new, len_put, len_kill]; omega)) only [↓xpre, xpost, ↓reduceIte, Nat.reduceEqDiff, Nat.reduceAdd, Nat.reduceSub, Nat.reduceLeDiff, Nat.zero_add, Nat.sub_zero, f2, f3, f4, f7, f8, f9, f10, rd1_of g1, rd1_of g5, wrap64_in, x1, y1, y2, y3]
              exact InvQ_go (K - (k + 1)).toNat (by omega) ⟨k + 1, l, rfl, by omega, f2, f3, f4, f7, f8, f9, rfl, st, skip (by omega) (by omega)⟩
          · try simp (maxSteps := 3000000) (disch := first | omega | (simp only [len_new, len_put, len_kill]; omega)) only [↓xpre, xpost, ↓reduceIte, Nat.reduceEqDiff, Nat.reduceAdd, Nat.reduceSub, Nat.reduceLeDiff, Nat.zero_add, Nat.sub_zero, f2, f3, f4, f7, f8, f9, f10, rd1_of g1, rd1_of g5, wrap64_in, x1, y1, y2]
            exact InvQ_go (K - (k + 1)).toNat (by omega) ⟨k + 1, l, rfl, by omega, f2, f3, f4, f7, f8, f9, rfl, st, skip (by omega) (by omega)⟩
      · try simp (maxSteps := 3000000) (disch := first | omega | (simp only [len_new, len_put, len_kill]; omega)) only [↓xpre, xpost, ↓reduceIte, Nat.reduceEqDiff, Nat.reduceAdd, Nat.reduceSub, Nat.reduceLeDiff, Nat.zero_add, Nat.sub_zero, f2, f3, f4, f7, f8, f9, wrap64_in]
        have : k = K := by omega
        subst this
        refine InvQ_go (J - (j + 1)).toNat (by omega) ⟨j + 1, l, rfl, by omega, f2, f3, f4, f7, f8, rfl, st, ?_⟩
        have e1 : (i * J + (j + 1)) * k = (i * J + j) * k + k := by rw [← Int.add_assoc, Int.add_mul (i * J + j), Int.one_mul]
        rw [e1]
        exact dn
    · try simp (maxSteps := 3000000) (disch := first | omega | (simp only [len_new, len_put, len_kill]; omega)) only [↓xpre, xpost, ↓reduceIte, Nat.reduceEqDiff, Nat.reduceAdd, Nat.reduceSub, Nat.reduceLeDiff, Nat.zero_add, Nat.sub_zero, f2, f3, f4, f7, f8, wrap64_in]
      have : j = J := by omega
      subst this
      refine InvQ_go (I - (i + 1)).toNat (by omega) ⟨i + 1, l, rfl, by omega, f2, f3, f4, f7, rfl, st, ?_⟩
      have e1 : (i + 1) * j * K = (i * j + j) * K := by rw [Int.add_mul i, Int.one_mul]
      rw [e1]
      exact dn
  · have : i = I := by omega
    subst this
    have hall := dn.1.all (by omega)
    have lo := st.lo
    obtain ⟨c, c3, t2, g2⟩ := st.g3
    obtain ⟨c0, c1, c2, c4, c5, rfl⟩ : ∃ a b d e g, c = [a, b, d, e, g] := by
      match c, c3 with
      | [a, b, d, e, g], _ => exact ⟨_, _, _, _, _, rfl⟩
    rw [show h.length + 2 = H2.length by omega] at g2
    have l2 := get_lt g2
    try simp (maxSteps := 3000000) (disch := first | omega | (simp only [len_new, len_put, len_kill]; omega)) only [↓xpre, xpost, ↓reduceIte, Nat.reduceEqDiff, Nat.reduceAdd, Nat.reduceSub, Nat.reduceLeDiff, Nat.zero_add, Nat.sub_zero, f2, f3, f4, f7, f8, rdn_of g5, wr_of g2]
    rw [hs] at hQ
    obtain ⟨tn, gn⟩ := st.gn
    refine hQ _ _ (pre_put (n := H2.length) st.hp (by omega)) (.inr ⟨nb, tn, true, by omega, ?_, ?_⟩)
    · simp only [tenT, gen_len]
    · rw [get_put_ne (by omega), gn, hall]
      rfl
end Go.Proofs.Ytapafdpnmakekaa.X

/- The direct sum, the program's side. -/
set_option linter.unusedVariables false
set_option linter.unusedSimpArgs false
set_option maxRecDepth 20000
set_option maxHeartbeats 4000000
namespace Go.Proofs.Ytapafdpnmakekaa.X
open Go Go.RowKit

theorem i_ds1 {v w : Value} {t u : Ten} {i j k : Int} {h : AH} {n m : Nat} {e e' : TypeId} {ro full ro' full' : Bool} {Q : Value → AH → Prop} (hb : h.get n = some ⟨[I64 t.p, I64 t.i, I64 t.j, I64 t.k, v], e, ro, full⟩)
    (hb' : h.get m = some ⟨[I64 u.p, I64 u.i, I64 u.j, I64 u.k, w], e', ro', full'⟩) (hv : Ints h v t.ns) (hw : Ints h w u.ns) (f : TF t) (fu : TF u) (ep : t.p = u.p)
    (h9 : t.i + u.i ≤ 9 ∧ t.j + u.j ≤ 9 ∧ t.k + u.k ≤ 9)
    (hi : 0 ≤ i ∧ i < t.i + u.i) (hj : 0 ≤ j ∧ j < t.j + u.j) (hk : 0 ≤ k ∧ k < t.k + u.k) (hQ : ∀ h', h <+: h' → Q (I64 (dsN t u i j k)) h') :
    WF S 188 [I64 i, I64 j, I64 k, .pointer (some ⟨n, 0, none⟩), .pointer (some ⟨m, 0, none⟩)] h Q := by
  refine WF_fn (fn := c188) rfl rfl ?_
  unfold c188
  have fi := f.i
  have fj := f.j
  have fk := f.k
  have zero : ¬ (i < t.i ∧ j < t.j ∧ k < t.k) → ¬ (t.i ≤ i ∧ t.j ≤ j ∧ t.k ≤ k) → Q (I64 0) h := fun a1 a2 => by
    have := hQ h (List.prefix_refl _)
    unfold dsN at this
    rw [if_neg a1, if_neg a2] at this
    exact this
  try simp (maxSteps := 3000000) (disch := first | omega | (simp only [len_new, len_put, len_kill]; omega)) only [↓xpre, xpost, ↓reduceIte, Nat.reduceEqDiff, Nat.reduceAdd, Nat.reduceSub, Nat.reduceLeDiff, Nat.zero_add, Nat.sub_zero, rd1_of hb]
  by_cases x1 : i < t.i
  · have y1 : ¬ t.i ≤ i := by omega
    by_cases x2 : j < t.j
    · by_cases x3 : k < t.k
      · try simp (maxSteps := 3000000) (disch := first | omega | (simp only [len_new, len_put, len_kill]; omega)) only [↓xpre, xpost, ↓reduceIte, Nat.reduceEqDiff, Nat.reduceAdd, Nat.reduceSub, Nat.reduceLeDiff, Nat.zero_add, Nat.sub_zero, rd1_of hb, rdn_of hb, x1, x2, x3]
        refine i_at (t := t) hv f (by omega) (by omega) (by omega) fun h1 p1 => ?_
        try simp (maxSteps := 3000000) (disch := first | omega | (simp only [len_new, len_put, len_kill]; omega)) only [↓xpre, xpost, ↓reduceIte, Nat.reduceEqDiff, Nat.reduceAdd, Nat.reduceSub, Nat.reduceLeDiff, Nat.zero_add, Nat.sub_zero]
        have := hQ h1 p1
        unfold dsN at this
        rw [if_pos ⟨x1, x2, x3⟩] at this
        exact this
      · try simp (maxSteps := 3000000) (disch := first | omega | (simp only [len_new, len_put, len_kill]; omega)) only [↓xpre, xpost, ↓reduceIte, Nat.reduceEqDiff, Nat.reduceAdd, Nat.reduceSub, Nat.reduceLeDiff, Nat.zero_add, Nat.sub_zero, rd1_of hb, x1, x2, x3, y1]
        exact zero (by omega) (by omega)
    · try simp (maxSteps := 3000000) (disch := first | omega | (simp only [len_new, len_put, len_kill]; omega)) only [↓xpre, xpost, ↓reduceIte, Nat.reduceEqDiff, Nat.reduceAdd, Nat.reduceSub, Nat.reduceLeDiff, Nat.zero_add, Nat.sub_zero, rd1_of hb, x1, x2, y1]
      exact zero (by omega) (by omega)
  · have y1 : t.i ≤ i := by omega
    by_cases y2 : t.j ≤ j
    · by_cases y3 : t.k ≤ k
      · try simp (maxSteps := 3000000) (disch := first | omega | (simp only [len_new, len_put, len_kill]; omega)) only [↓xpre, xpost, ↓reduceIte, Nat.reduceEqDiff, Nat.reduceAdd, Nat.reduceSub, Nat.reduceLeDiff, Nat.zero_add, Nat.sub_zero, rd1_of hb, rdn_of hb', x1, y1, y2, y3, wrap64_in]
        refine i_at (t := u) hw fu (by omega) (by omega) (by omega) fun h1 p1 => ?_
        try simp (maxSteps := 3000000) (disch := first | omega | (simp only [len_new, len_put, len_kill]; omega)) only [↓xpre, xpost, ↓reduceIte, Nat.reduceEqDiff, Nat.reduceAdd, Nat.reduceSub, Nat.reduceLeDiff, Nat.zero_add, Nat.sub_zero]
        have := hQ h1 p1
        unfold dsN at this
        rw [if_neg (by omega), if_pos ⟨y1, y2, y3⟩] at this
        exact this
      · try simp (maxSteps := 3000000) (disch := first | omega | (simp only [len_new, len_put, len_kill]; omega)) only [↓xpre, xpost, ↓reduceIte, Nat.reduceEqDiff, Nat.reduceAdd, Nat.reduceSub, Nat.reduceLeDiff, Nat.zero_add, Nat.sub_zero, rd1_of hb, x1, y1, y2, y3]
        exact zero (by omega) (by omega)
    · try simp (maxSteps := 3000000) (disch := first | omega | (simp only [len_new, len_put, len_kill]; omega)) only [↓xpre, xpost, ↓reduceIte, Nat.reduceEqDiff, Nat.reduceAdd, Nat.reduceSub, Nat.reduceLeDiff, Nat.zero_add, Nat.sub_zero, rd1_of hb, x1, y1, y2]
      exact zero (by omega) (by omega)

theorem i_DirectSum {v w : Value} {t u : Ten} {h : AH} {Q : Value → AH → Prop} (hv : Ints h v t.ns) (hl : (t.ns.length : Int) ≤ 1048576) (hw : Ints h w u.ns) (hl' : (u.ns.length : Int) ≤ 1048576)
    (hQ : ∀ v' h', h <+: h' → OwnR h h' v' (dsR t u).1.ns → Q (.tuple #[tenV (dsR t u).1 v', I64 (dsR t u).2]) h') : WF S 32 [tenV t v, tenV u w] h Q := by
  refine WF_fn (fn := c32) rfl rfl ?_
  unfold c32
  try simp (maxSteps := 3000000) (disch := first | omega | (simp only [len_new, len_put, len_kill]; omega)) only [↓xpre, xpost, ↓reduceIte, Nat.reduceEqDiff, Nat.reduceAdd, Nat.reduceSub, Nat.reduceLeDiff, Nat.zero_add, Nat.sub_zero, tenV, hv.one, hw.one, fillL, zrep]
  generalize hH1 : AH.new h _ = H1
  obtain ⟨hb1, p1, n1⟩ := new_facts hH1
  generalize hH2 : AH.new H1 _ = H2
  obtain ⟨hb2, p2, n2⟩ := new_facts hH2
  generalize hH3 : AH.new H2 _ = H3
  obtain ⟨hb3, p3, n3⟩ := new_facts hH3
  generalize hH4 : AH.new H3 _ = H4
  obtain ⟨hb4, p4, n4⟩ := new_facts hH4
  have hb1 := pre_get ((p2.trans p3).trans p4) hb1
  have hb2 := pre_get (p3.trans p4) hb2
  have hb3 := pre_get p4 hb3
  have ph := ((p1.trans p2).trans p3).trans p4
  refine i_twoTensors (hv.pre ph) hl (hw.pre ph) hl' (ints_lit hb4) (by simp) fun H5 p5 => ?_
  have hb1 := pre_get p5 hb1
  have hb2 := pre_get p5 hb2
  have hb3 := pre_get p5 hb3
  have ph := ph.trans p5
  have l5 := get_lt hb3
  unfold dsR at hQ
  unfold twoS
  by_cases hd : isT t = true ∧ isT u = true
  case neg =>
    rw [if_neg hd] at hQ ⊢
    try simp (maxSteps := 3000000) (disch := first | omega | (simp only [len_new, len_put, len_kill]; omega)) only [↓xpre, xpost, ↓reduceIte, Nat.reduceEqDiff, Nat.reduceAdd, Nat.reduceSub, Nat.reduceLeDiff, Nat.zero_add, Nat.sub_zero, decide_eq_true (show (1 : Int) ≠ 0 by decide), fillL, wr_of hb3]
    exact hQ (.slice none 0 0) _ (pre_put ph (by omega)) (.inl ⟨rfl, rfl⟩)
  rw [if_pos hd] at hQ ⊢
  by_cases e1 : t.p = u.p
  case neg =>
    rw [if_neg e1] at hQ ⊢
    try simp (maxSteps := 3000000) (disch := first | omega | (simp only [len_new, len_put, len_kill]; omega)) only [↓xpre, xpost, ↓reduceIte, Nat.reduceEqDiff, Nat.reduceAdd, Nat.reduceSub, Nat.reduceLeDiff, Nat.zero_add, Nat.sub_zero, decide_eq_true (show (2 : Int) ≠ 0 by decide), fillL, wr_of hb3]
    exact hQ (.slice none 0 0) _ (pre_put ph (by omega)) (.inl ⟨rfl, rfl⟩)
  rw [if_pos e1] at hQ ⊢
  have f := isT_facts hd.1
  have fu := isT_facts hd.2
  have mi := f.i
  have mj := f.j
  have mk := f.k
  have ni := fu.i
  have nj := fu.j
  have nk := fu.k
  have hs : ([IntKind.i64.wrap (t.i + u.i), IntKind.i64.wrap (t.j + u.j), IntKind.i64.wrap (t.k + u.k)].all side = true) ↔ (t.i + u.i ≤ 9 ∧ t.j + u.j ≤ 9 ∧ t.k + u.k ≤ 9) := by
    rw [wrap64_in (by omega) (by omega), wrap64_in (by omega) (by omega), wrap64_in (by omega) (by omega)]
    simp only [List.all_cons, List.all_nil, Bool.and_true, Bool.and_eq_true, side_iff]
    omega
  by_cases e2 : t.i + u.i ≤ 9 ∧ t.j + u.j ≤ 9 ∧ t.k + u.k ≤ 9
  case neg =>
    rw [if_neg e2] at hQ
    rw [if_neg (fun h => e2 (hs.1 h))]
    try simp (maxSteps := 3000000) (disch := first | omega | (simp only [len_new, len_put, len_kill]; omega)) only [↓xpre, xpost, ↓reduceIte, Nat.reduceEqDiff, Nat.reduceAdd, Nat.reduceSub, Nat.reduceLeDiff, Nat.zero_add, Nat.sub_zero, decide_eq_true (show (3 : Int) ≠ 0 by decide), fillL, wr_of hb3]
    exact hQ (.slice none 0 0) _ (pre_put ph (by omega)) (.inl ⟨rfl, rfl⟩)
  rw [if_pos e2] at hQ
  rw [if_pos (hs.2 e2)]
  try simp (maxSteps := 3000000) (disch := first | omega | (simp only [len_new, len_put, len_kill]; omega)) only [↓xpre, xpost, ↓reduceIte, Nat.reduceEqDiff, Nat.reduceAdd, Nat.reduceSub, Nat.reduceLeDiff, Nat.zero_add, Nat.sub_zero, decide_eq_false (show ¬ ((0 : Int) ≠ 0) by decide), rd1_of hb1, rd1_of hb2, wrap64_in]
  have hf : Tells S H5 (.func (.func 188) #[] #[.pointer (some ⟨h.length, 0, none⟩), .pointer (some ⟨H1.length, 0, none⟩)]) (t.i + u.i) (t.j + u.j) (t.k + u.k) (dsN t u) := by
    intro i j k hi hj hk h1 hp Q hQ
    rw [WK_func]
    exact i_ds1 (pre_get hp hb1) (pre_get hp hb2) (hv.pre (ph.trans hp)) (hw.pre (ph.trans hp)) f fu e1 e2 hi hj hk hQ
  have fp := f.p
  refine i_tensor (num := dsN t u) (by omega) (by omega) (by omega) (by omega) hf fun v' H9 p9 o => ?_
  have hb3 := pre_get p9 hb3
  have l9 := get_lt hb3
  try simp (maxSteps := 3000000) (disch := first | omega | (simp only [len_new, len_put, len_kill]; omega)) only [↓xpre, xpost, ↓reduceIte, Nat.reduceEqDiff, Nat.reduceAdd, Nat.reduceSub, Nat.reduceLeDiff, Nat.zero_add, Nat.sub_zero, tenV, o.ints.one, wr_of hb3]
  exact hQ v' _ (pre_put (ph.trans p9) (by omega)) ((o.put_ne (by omega)).lo (by have := pre_len ph; omega))
end Go.Proofs.Ytapafdpnmakekaa.X

/- Ranks of the sides of sums, direct sums and products of tensors. -/
set_option linter.unusedVariables false
set_option linter.unusedSimpArgs false
set_option maxRecDepth 20000
set_option maxHeartbeats 4000000
namespace Go.Proofs.Ytapafdpnmakekaa.X
open Go Go.RowKit

/-- The numbers of a tensor, by natural places. -/
def Tf (t : Ten) (i j k : Nat) : Int := tat t i j k
/-- The places of a turned tensor. -/
def Pz (s : Nat) (f : Nat → Nat → Nat → Int) (i j k : Nat) : Int := match s with
  | 0 => f i j k
  | 1 => f k i j
  | _ => f j k i
def pI (s i j k : Nat) : Nat := match s with
  | 0 => i
  | 1 => j
  | _ => k
def pJ (s i j k : Nat) : Nat := match s with
  | 0 => j
  | 1 => k
  | _ => i
def pK (s i j k : Nat) : Nat := match s with
  | 0 => k
  | 1 => i
  | _ => j
theorem rk_flat {u : Ten} (f : TF u) (hP : isP u.p = true) : Rk3 u.p (Tf u) u.i.toNat u.j.toNat u.k.toNat (rankN u.p (flatU u)) := by
  have g := flatU_good f
  have fi := f.i
  have fj := f.j
  have fk := f.k
  have h := rankN_rk hP g.1 (by rw [g.2.1]; omega)
  rw [g.2.1] at h
  have e : (u.j * u.k).toNat = u.j.toNat * u.k.toNat := by
    have : u.j * u.k = ((u.j.toNat * u.k.toNat : Nat) : Int) := by
      rw [Int.natCast_mul, Int.toNat_of_nonneg (by omega), Int.toNat_of_nonneg (by omega)]
    omega
  rw [e] at h
  refine h.three fun i j k hi hj hk => ?_
  have := (flat_tb f (a := i) (b := j) (c := k) (by omega) (by omega) (by omega)).2.2
  rw [Int.toNat_natCast] at this
  unfold Tf
  rw [← this]
  congr 1
  have e2 : (j : Int) * u.k + k = ((j * u.k.toNat + k : Nat) : Int) := by
    rw [Int.natCast_add, Int.natCast_mul, Int.toNat_of_nonneg (by omega)]
  omega
theorem rk_side {t : Ten} (f : TF t) (hP : isP t.p = true) {s : Nat} (hs : s < 3) :
    Rk3 t.p (Pz s (Tf t)) (pI s t.i.toNat t.j.toNat t.k.toNat) (pJ s t.i.toNat t.j.toNat t.k.toNat) (pK s t.i.toNat t.j.toNat t.k.toNat) (rankN t.p (flatU (turnN s t))) := by
  have conv : ∀ {A B : Nat → Nat → Nat → Int} {I J K R : Nat}, Rk3 t.p A I J K R → (∀ i j k, i < I → j < J → k < K → B i j k = A i j k) → Rk3 t.p B I J K R := by
    intro A B I J K R h e
    obtain ⟨⟨X, Y, hu⟩, ⟨P, Q, hl⟩⟩ := h
    refine ⟨⟨X, Y, fun i j k hi hj hk => by rw [e i j k hi hj hk]; exact hu i j k hi hj hk⟩, ⟨P, Q, fun a b ha hb => ?_⟩⟩
    refine Cg.trans (.of ?_) (hl a b ha hb)
    exact sm_ext fun i hi => sm_ext fun j hj => sm_ext fun k hk => by rw [e i j k hi hj hk]
  have f1 := f.turned
  have f2 := f1.turned
  rcases (by omega : s = 0 ∨ s = 1 ∨ s = 2) with rfl | rfl | rfl
  · exact rk_flat f hP
  · refine conv (rk_flat f1 hP) fun i j k hi hj hk => ?_
    have hi' : i < t.j.toNat := hi
    have hj' : j < t.k.toNat := hj
    have hk' : k < t.i.toNat := hk
    show tat t k i j = tat (turnT t) i j k
    exact (tat_turn f (by omega) (by omega) (by omega)).symm
  · refine conv (rk_flat f2 hP) fun i j k hi hj hk => ?_
    have hi' : i < t.k.toNat := hi
    have hj' : j < t.i.toNat := hj
    have hk' : k < t.j.toNat := hk
    show tat t j k i = tat (turnT (turnT t)) i j k
    rw [tat_turn f1 (a := k) (b := i) (c := j) (show 0 ≤ (k : Int) ∧ (k : Int) < t.j by omega) (show 0 ≤ (i : Int) ∧ (i : Int) < t.k by omega) (show 0 ≤ (j : Int) ∧ (j : Int) < t.i by omega)]
    exact (tat_turn f (by omega) (by omega) (by omega)).symm

theorem tat_ten {p i j k : Int} {num : Int → Int → Int → Int} {a b c : Int} (ha : 0 ≤ a ∧ a < i) (hb : 0 ≤ b ∧ b < j) (hc : 0 ≤ c ∧ c < k) : tat (tenT p i j k num) a b c = (num a b c).tmod p := by
  have b1 := lin_in ha hb
  have b2 := lin_in b1.2 hc
  show nth (gen (i * j * k).toNat (tenG p j k num)) ((a * j + b) * k + c) = _
  unfold nth
  rw [gen_get (by omega)]
  unfold tenG
  rw [Int.toNat_of_nonneg b2.2.1]
  have e1 : ((a * j + b) * k + c) / k = a * j + b := by
    rw [Int.add_comm, Int.add_mul_ediv_right _ _ (by omega), Int.ediv_eq_zero_of_lt hc.1 hc.2, Int.zero_add]
  have e2 : ((a * j + b) * k + c) % k = c := by
    rw [Int.add_comm, Int.add_mul_emod_self_right, Int.emod_eq_of_lt hc.1 hc.2]
  have e3 : (a * j + b) / j = a := by
    rw [Int.add_comm, Int.add_mul_ediv_right _ _ (by omega), Int.ediv_eq_zero_of_lt hb.1 hb.2, Int.zero_add]
  have e4 : (a * j + b) % j = b := by
    rw [Int.add_comm, Int.add_mul_emod_self_right, Int.emod_eq_of_lt hb.1 hb.2]
  rw [e1, e2, e3, e4]
theorem tmod_cg (x p : Int) : Cg p (x.tmod p) x := (show Cg p x (x.tmod p) from tmod_dvd x p).symm

/-- A tensor made by numbers modulo p has all that a tensor has. -/
theorem TF.ten {p i j k : Int} {num : Int → Int → Int → Int} (hp : 2 ≤ p ∧ p ≤ 5) (hi : 1 ≤ i ∧ i ≤ 9) (hj : 1 ≤ j ∧ j ≤ 9) (hk : 1 ≤ k ∧ k ≤ 9)
    (hn : ∀ a b c, (0 ≤ a ∧ a < i) → (0 ≤ b ∧ b < j) → (0 ≤ c ∧ c < k) → 0 ≤ num a b c) : TF (tenT p i j k num) := by
  have ij := mul_in1 (A := 9) (B := 9) hi hj
  have ijk := mul_in1 (A := 81) (B := 9) ij hk
  have hl : (((tenT p i j k num).ns.length : Nat) : Int) = i * j * k := by
    show ((gen _ _).length : Int) = _
    rw [gen_len]
    omega
  refine ⟨hp, hi, hj, hk, hl, fun x h0 hx => ?_, ij, ijk⟩
  rw [hl] at hx
  have h1 : nth (tenT p i j k num).ns x = tenG p j k num x.toNat := by
    show (gen _ _).getD _ 0 = _
    exact gen_get (by omega)
  have h := places (n := x) (i := i) (j := j) (k := k) (by omega) hj.1 hk.1
  rw [h1]
  unfold tenG
  rw [show ((x.toNat : Nat) : Int) = x by omega]
  have := hn _ _ _ h.1 h.2.1 h.2.2
  exact ⟨Int.tmod_nonneg _ this, Int.tmod_lt_of_pos _ (by omega)⟩

section
variable {t u : Ten}
theorem dsN_nn (f : TF t) (fu : TF u) {a b c : Int} (ha : 0 ≤ a ∧ a < t.i + u.i) (hb : 0 ≤ b ∧ b < t.j + u.j) (hc : 0 ≤ c ∧ c < t.k + u.k) : 0 ≤ dsN t u a b c := by
  unfold dsN
  split
  · rename_i h
    exact (tat_in f ⟨ha.1, h.1⟩ ⟨hb.1, h.2.1⟩ ⟨hc.1, h.2.2⟩).1
  · split
    · rename_i h
      exact (tat_in fu (by omega) (by omega) (by omega)).1
    · exact Int.le_refl _
theorem krN_nn (f : TF t) (fu : TF u) {a b c : Int} (ha : 0 ≤ a ∧ a < t.i * u.i) (hb : 0 ≤ b ∧ b < t.j * u.j) (hc : 0 ≤ c ∧ c < t.k * u.k) : 0 ≤ krN t u a b c := by
  have fi := fu.i
  have fj := fu.j
  have fk := fu.k
  unfold krN
  have q : ∀ {x n m : Int}, 0 ≤ x ∧ x < n * m → 1 ≤ m → (0 ≤ x.tdiv m ∧ x.tdiv m < n) ∧ (0 ≤ x.tmod m ∧ x.tmod m < m) := fun {x n m} h hm => by
    rw [Int.tdiv_eq_ediv_of_nonneg h.1, Int.tmod_eq_emod_of_nonneg h.1]
    exact ⟨⟨Int.ediv_nonneg h.1 (by omega), Int.ediv_lt_of_lt_mul (by omega) h.2⟩, ⟨Int.emod_nonneg _ (by omega), Int.emod_lt_of_pos _ (by omega)⟩⟩
  have qa := q ha fi.1
  have qb := q hb fj.1
  have qc := q hc fk.1
  exact Int.mul_nonneg (tat_in f qa.1 qb.1 qc.1).1 (tat_in fu qa.2 qb.2 qc.2).1
theorem add_tf (f : TF t) (fu : TF u) {c : Int} (hc : 0 ≤ c) (he : t.i = u.i ∧ t.j = u.j ∧ t.k = u.k) : TF (addT t u c) := by
  rw [← add_eq he]
  refine TF.ten f.p f.i f.j f.k fun a b d ha hb hd => ?_
  have := tat_in f ha hb hd
  have := tat_in fu (i := a) (j := b) (k := d) (by omega) (by omega) (by omega)
  have := Int.mul_nonneg hc this.1
  omega
theorem ds_tf (f : TF t) (fu : TF u) (h9 : t.i + u.i ≤ 9 ∧ t.j + u.j ≤ 9 ∧ t.k + u.k ≤ 9) : TF (dsT t u) := by
  have := f.i; have := f.j; have := f.k; have := fu.i; have := fu.j; have := fu.k
  exact TF.ten f.p (by omega) (by omega) (by omega) fun a b c ha hb hc => dsN_nn f fu ha hb hc
theorem kr_tf (f : TF t) (fu : TF u) (h9 : t.i * u.i ≤ 9 ∧ t.j * u.j ≤ 9 ∧ t.k * u.k ≤ 9) : TF (krT t u) := by
  have i1 := mul_in1 (A := 9) (B := 9) f.i fu.i
  have j1 := mul_in1 (A := 9) (B := 9) f.j fu.j
  have k1 := mul_in1 (A := 9) (B := 9) f.k fu.k
  exact TF.ten f.p (by omega) (by omega) (by omega) fun a b c ha hb hc => krN_nn f fu ha hb hc

theorem fl_add (f : TF t) (fu : TF u) (hP : isP t.p = true) (hp : t.p = u.p) {c : Int} (hc : 0 ≤ c) (he : t.i = u.i ∧ t.j = u.j ∧ t.k = u.k) {s : Nat} (hs : s < 3) :
    flG (addT t u c) s ≤ flG t s + flG u s := by
  have fa := add_tf f fu hc he
  have ha := rk_side fa (show isP (addT t u c).p = true from hP) hs
  have ht := rk_side f hP hs
  have hu := rk_side fu (by rw [← hp]; exact hP) hs
  rw [← he.1, ← he.2.1, ← he.2.2, ← hp] at hu
  have base : ∀ i j k, i < t.i.toNat → j < t.j.toNat → k < t.k.toNat → Cg t.p (Tf (addT t u c) i j k) (Tf t i j k + c * Tf u i j k) := fun i j k hi hj hk => by
    unfold Tf
    rw [← add_eq he, tat_ten (by omega) (by omega) (by omega)]
    exact tmod_cg _ _
  have key := Rk3.add (c := c) (fld_of hP) ha ht hu (by
    rcases (by omega : s = 0 ∨ s = 1 ∨ s = 2) with rfl | rfl | rfl
    · exact base
    · exact fun i j k hi hj hk => base k i j hk hi hj
    · exact fun i j k hi hj hk => base j k i hj hk hi)
  unfold flG
  rw [← hp]
  have : rankN (addT t u c).p (flatU (turnN s (addT t u c))) ≤ rankN t.p (flatU (turnN s t)) + rankN t.p (flatU (turnN s u)) := key
  omega
theorem fl_ds (f : TF t) (fu : TF u) (hP : isP t.p = true) (hp : t.p = u.p) (h9 : t.i + u.i ≤ 9 ∧ t.j + u.j ≤ 9 ∧ t.k + u.k ≤ 9) {s : Nat} (hs : s < 3) :
    flG (dsT t u) s = flG t s + flG u s := by
  have fi := f.i; have fj := f.j; have fk := f.k; have gi := fu.i; have gj := fu.j; have gk := fu.k
  have fd := ds_tf f fu h9
  have hd := rk_side fd (show isP (dsT t u).p = true from hP) hs
  have ht := rk_side f hP hs
  have hu := rk_side fu (by rw [← hp]; exact hP) hs
  rw [← hp] at hu
  have ei : (dsT t u).i.toNat = t.i.toNat + u.i.toNat := by show (t.i + u.i).toNat = _; omega
  have ej : (dsT t u).j.toNat = t.j.toNat + u.j.toNat := by show (t.j + u.j).toNat = _; omega
  have ek : (dsT t u).k.toNat = t.k.toNat + u.k.toNat := by show (t.k + u.k).toNat = _; omega
  have at0 : ∀ i j k : Nat, i < t.i.toNat + u.i.toNat → j < t.j.toNat + u.j.toNat → k < t.k.toNat + u.k.toNat → Tf (dsT t u) i j k = (dsN t u i j k).tmod t.p := fun i j k hi hj hk => by
    unfold Tf dsT
    rw [tat_ten (by omega) (by omega) (by omega)]
  have b1 : ∀ i j k, i < t.i.toNat → j < t.j.toNat → k < t.k.toNat → Tf (dsT t u) i j k = Tf t i j k := fun i j k hi hj hk => by
    rw [at0 i j k (by omega) (by omega) (by omega)]
    unfold dsN
    rw [if_pos ⟨by omega, by omega, by omega⟩]
    have b := tat_in f (i := i) (j := j) (k := k) (by omega) (by omega) (by omega)
    exact Int.tmod_eq_of_lt b.1 b.2
  have b2 : ∀ i j k, i < u.i.toNat → j < u.j.toNat → k < u.k.toNat → Tf (dsT t u) (t.i.toNat + i) (t.j.toNat + j) (t.k.toNat + k) = Tf u i j k := fun i j k hi hj hk => by
    rw [at0 _ _ _ (by omega) (by omega) (by omega)]
    unfold dsN
    rw [if_neg (by omega), if_pos ⟨by omega, by omega, by omega⟩]
    have b := tat_in fu (i := i) (j := j) (k := k) (by omega) (by omega) (by omega)
    rw [show ((t.i.toNat + i : Nat) : Int) - t.i = i by omega, show ((t.j.toNat + j : Nat) : Int) - t.j = j by omega, show ((t.k.toNat + k : Nat) : Int) - t.k = k by omega, hp]
    exact Int.tmod_eq_of_lt b.1 b.2
  have b0 : ∀ i j k, i < t.i.toNat + u.i.toNat → j < t.j.toNat + u.j.toNat → k < t.k.toNat + u.k.toNat → ¬ (i < t.i.toNat ∧ j < t.j.toNat ∧ k < t.k.toNat) → ¬ (t.i.toNat ≤ i ∧ t.j.toNat ≤ j ∧ t.k.toNat ≤ k) → Tf (dsT t u) i j k = 0 := fun i j k hi hj hk h1 h2 => by
    rw [at0 _ _ _ hi hj hk]
    unfold dsN
    rw [if_neg (by omega), if_neg (by omega)]
    exact Int.zero_tmod _
  -- outside of the sides all is 0
  have conv : ∀ {A B : Nat → Nat → Nat → Int} {I J K R : Nat}, Rk3 t.p A I J K R → (∀ i j k, i < I → j < J → k < K → B i j k = A i j k) → Rk3 t.p B I J K R := by
    intro A B I J K R h e
    obtain ⟨⟨X, Y, hu⟩, ⟨P, Q, hl⟩⟩ := h
    refine ⟨⟨X, Y, fun i j k hi hj hk => by rw [e i j k hi hj hk]; exact hu i j k hi hj hk⟩, ⟨P, Q, fun a b ha hb => ?_⟩⟩
    refine Cg.trans (.of ?_) (hl a b ha hb)
    exact sm_ext fun i hi => sm_ext fun j hj => sm_ext fun k hk => by rw [e i j k hi hj hk]
  let D : Nat → Nat → Nat → Int := fun i j k => if i < t.i.toNat + u.i.toNat ∧ j < t.j.toNat + u.j.toNat ∧ k < t.k.toNat + u.k.toNat then Tf (dsT t u) i j k else 0
  have d1 : ∀ i j k, i < t.i.toNat → j < t.j.toNat → k < t.k.toNat → D i j k = Tf t i j k := fun i j k hi hj hk => by
    show (if _ then _ else _) = _
    rw [if_pos ⟨by omega, by omega, by omega⟩, b1 i j k hi hj hk]
  have d2 : ∀ i j k, i < u.i.toNat → j < u.j.toNat → k < u.k.toNat → D (t.i.toNat + i) (t.j.toNat + j) (t.k.toNat + k) = Tf u i j k := fun i j k hi hj hk => by
    show (if _ then _ else _) = _
    rw [if_pos ⟨by omega, by omega, by omega⟩, b2 i j k hi hj hk]
  have d0 : ∀ i j k, ¬ (i < t.i.toNat ∧ j < t.j.toNat ∧ k < t.k.toNat) → ¬ (t.i.toNat ≤ i ∧ t.j.toNat ≤ j ∧ t.k.toNat ≤ k) → D i j k = 0 := fun i j k h1 h2 => by
    show (if _ then _ else _) = _
    split
    · rename_i h
      exact b0 i j k h.1 h.2.1 h.2.2 h1 h2
    · rfl
  have dD : ∀ i j k, i < t.i.toNat + u.i.toNat → j < t.j.toNat + u.j.toNat → k < t.k.toNat + u.k.toNat → D i j k = Tf (dsT t u) i j k := fun i j k hi hj hk => if_pos ⟨hi, hj, hk⟩
  rw [ei, ej, ek] at hd
  have key : rankN t.p (flatU (turnN s (dsT t u))) = rankN t.p (flatU (turnN s t)) + rankN t.p (flatU (turnN s u)) := by
    rcases (by omega : s = 0 ∨ s = 1 ∨ s = 2) with rfl | rfl | rfl
    · exact (conv (B := Pz 0 D) hd fun i j k hi hj hk => dD i j k hi hj hk).eq (fld_of hP) (Rk3.dsum ht hu d1 d2 d0)
    · exact (conv (B := Pz 1 D) hd fun i j k hi hj hk => dD k i j hk hi hj).eq (fld_of hP) (Rk3.dsum ht hu (fun i j k hi hj hk => d1 k i j hk hi hj) (fun i j k hi hj hk => d2 k i j hk hi hj) fun i j k h1 h2 => d0 k i j (fun h => h1 ⟨h.2.1, h.2.2, h.1⟩) (fun h => h2 ⟨h.2.1, h.2.2, h.1⟩))
    · exact (conv (B := Pz 2 D) hd fun i j k hi hj hk => dD j k i hj hk hi).eq (fld_of hP) (Rk3.dsum ht hu (fun i j k hi hj hk => d1 j k i hj hk hi) (fun i j k hi hj hk => d2 j k i hj hk hi) fun i j k h1 h2 => d0 j k i (fun h => h1 ⟨h.2.2, h.1, h.2.1⟩) (fun h => h2 ⟨h.2.2, h.1, h.2.1⟩))
  unfold flG
  rw [← hp]
  have : rankN (dsT t u).p (flatU (turnN s (dsT t u))) = rankN t.p (flatU (turnN s t)) + rankN t.p (flatU (turnN s u)) := key
  omega
theorem fl_kr (f : TF t) (fu : TF u) (hP : isP t.p = true) (hp : t.p = u.p) (h9 : t.i * u.i ≤ 9 ∧ t.j * u.j ≤ 9 ∧ t.k * u.k ≤ 9) {s : Nat} (hs : s < 3) :
    flG (krT t u) s = flG t s * flG u s := by
  have fi := f.i; have fj := f.j; have fk := f.k; have gi := fu.i; have gj := fu.j; have gk := fu.k
  have fd := kr_tf f fu h9
  have hd := rk_side fd (show isP (krT t u).p = true from hP) hs
  have ht := rk_side f hP hs
  have hu := rk_side fu (by rw [← hp]; exact hP) hs
  rw [← hp] at hu
  have em : ∀ {a b : Int}, 1 ≤ a → 1 ≤ b → (a * b).toNat = a.toNat * b.toNat := fun {a b} ha hb => by
    have : a * b = ((a.toNat * b.toNat : Nat) : Int) := by
      rw [Int.natCast_mul, Int.toNat_of_nonneg (by omega), Int.toNat_of_nonneg (by omega)]
    omega
  have ei : (krT t u).i.toNat = t.i.toNat * u.i.toNat := em fi.1 gi.1
  have ej : (krT t u).j.toNat = t.j.toNat * u.j.toNat := em fj.1 gj.1
  have ek : (krT t u).k.toNat = t.k.toNat * u.k.toNat := em fk.1 gk.1
  have q : ∀ {a b : Nat} {n m : Int}, a < n.toNat → b < m.toNat → (0 ≤ ((a * m.toNat + b : Nat) : Int) ∧ ((a * m.toNat + b : Nat) : Int) < n * m) ∧ ((a * m.toNat + b : Nat) : Int).tdiv m = a ∧ ((a * m.toNat + b : Nat) : Int).tmod m = b := fun {a b n m} ha hb => by
    have e : ((a * m.toNat + b : Nat) : Int) = b + a * m := by
      rw [Int.natCast_add, Int.natCast_mul, Int.toNat_of_nonneg (by omega)]
      omega
    have l := lin_in (i := (a : Int)) (j := (b : Int)) (I := n) (J := m) (by omega) (by omega)
    have nn : (0 : Int) ≤ ((a * m.toNat + b : Nat) : Int) := Int.natCast_nonneg _
    refine ⟨⟨nn, by omega⟩, ?_, ?_⟩
    · rw [Int.tdiv_eq_ediv_of_nonneg nn, e, Int.add_mul_ediv_right _ _ (by omega), Int.ediv_eq_zero_of_lt (by omega) (by omega), Int.zero_add]
    · rw [Int.tmod_eq_emod_of_nonneg nn, e, Int.add_mul_emod_self_right, Int.emod_eq_of_lt (by omega) (by omega)]
  have base : ∀ i i' j j' k k', i < t.i.toNat → i' < u.i.toNat → j < t.j.toNat → j' < u.j.toNat → k < t.k.toNat → k' < u.k.toNat →
      Cg t.p (Tf (krT t u) (i * u.i.toNat + i') (j * u.j.toNat + j') (k * u.k.toNat + k')) (Tf t i j k * Tf u i' j' k') := fun i i' j j' k k' hi hi' hj hj' hk hk' => by
    have qi := q hi hi'
    have qj := q hj hj'
    have qk := q hk hk'
    unfold Tf krT
    rw [tat_ten qi.1 qj.1 qk.1]
    unfold krN
    rw [qi.2.1, qi.2.2, qj.2.1, qj.2.2, qk.2.1, qk.2.2]
    exact tmod_cg _ _
  rw [ei, ej, ek] at hd
  have key : rankN t.p (flatU (turnN s (krT t u))) = rankN t.p (flatU (turnN s t)) * rankN t.p (flatU (turnN s u)) := by
    rcases (by omega : s = 0 ∨ s = 1 ∨ s = 2) with rfl | rfl | rfl
    · exact hd.eq (fld_of hP) (Rk3.kron ht hu base)
    · exact hd.eq (fld_of hP) (Rk3.kron ht hu fun i i' j j' k k' hi hi' hj hj' hk hk' => base k k' i i' j j' hk hk' hi hi' hj hj')
    · exact hd.eq (fld_of hP) (Rk3.kron ht hu fun i i' j j' k k' hi hi' hj hj' hk hk' => base j j' k k' i i' hj hj' hk hk' hi hi')
  unfold flG
  rw [← hp]
  have : rankN (krT t u).p (flatU (turnN s (krT t u))) = rankN t.p (flatU (turnN s t)) * rankN t.p (flatU (turnN s u)) := key
  rw [this, Int.natCast_mul]
/-- Three turns lead back. -/
theorem turn3 (f : TF t) : turnT (turnT (turnT t)) = t := by
  have f1 := f.turned
  have f2 := f1.turned
  have f3 := f2.turned
  have hl : (turnT (turnT (turnT t))).ns.length = t.ns.length := by
    have a := f3.len
    have b := f.len
    have : (turnT (turnT (turnT t))).i * (turnT (turnT (turnT t))).j * (turnT (turnT (turnT t))).k = t.i * t.j * t.k := rfl
    omega
  have hns : (turnT (turnT (turnT t))).ns = t.ns := by
    refine List.ext_getElem? fun n => ?_
    by_cases hn : n < t.ns.length
    · have h := places (n := n) (i := t.i) (j := t.j) (k := t.k) (by have := f.len; omega) f.j.1 f.k.1
      have e := tat_turn f2 (a := (n : Int) % t.k) (b := (n : Int) / t.k / t.j) (c := (n : Int) / t.k % t.j) h.2.2 h.1 h.2.1
      rw [tat_turn f1 (a := (n : Int) / t.k % t.j) (b := (n : Int) % t.k) (c := (n : Int) / t.k / t.j) h.2.1 h.2.2 h.1, tat_turn f h.1 h.2.1 h.2.2] at e
      have e1 : tat (turnT (turnT (turnT t))) ((n : Int) / t.k / t.j) ((n : Int) / t.k % t.j) ((n : Int) % t.k) = nth (turnT (turnT (turnT t))).ns n := tat_nth (t := turnT (turnT (turnT t))) (n := n)
      rw [e1, tat_nth] at e
      unfold nth at e
      rw [Int.toNat_natCast, List.getD_eq_getElem?_getD, List.getD_eq_getElem?_getD, List.getElem?_eq_getElem hn, List.getElem?_eq_getElem (show n < (turnT (turnT (turnT t))).ns.length by omega)] at e
      rw [List.getElem?_eq_getElem hn, List.getElem?_eq_getElem (show n < (turnT (turnT (turnT t))).ns.length by omega)]
      simpa using e
    · rw [List.getElem?_eq_none (by omega), List.getElem?_eq_none (by omega)]
  show Ten.mk t.p t.i t.j t.k (turnT (turnT (turnT t))).ns = t
  rw [hns]
end
end Go.Proofs.Ytapafdpnmakekaa.X
