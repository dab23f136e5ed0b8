/- Numbers modulo a prime: lists, remainders, inverses; matrices. -/
import Derived.Test.YtnjhhgfpclngcaaXF17
set_option linter.unusedVariables false
set_option linter.unusedSimpArgs false
set_option maxRecDepth 20000
set_option maxHeartbeats 4000000
namespace Go.Proofs.Ytnjhhgfpclngcaa.X
open Go Go.RowKit

theorem s_l05Numbers {v : Value} {ns : List Int} {p n : Int} {h : AH} {Q : Value → AH → Prop} (hv : Ints h v ns) (hl : (ns.length : Int) ≤ 1048576) (hp : 2 ≤ p ∧ p ≤ 5)
    (hQ : Q (.bool (allIn p ns && decide ((ns.length : Int) = n))) h) : WF S 84 [I64 p, v, I64 n] h Q := by
  refine WF_fn (fn := c84) rfl rfl ?_
  unfold c84
  try simp (maxSteps := 3000000) (disch := first | omega | (simp only [len_new, len_put, len_kill]; omega)) only [↓xpre, xpost, ↓reduceIte, Nat.reduceEqDiff, Nat.reduceAdd, Nat.reduceSub, Nat.reduceLeDiff, Nat.zero_add, Nat.sub_zero]
  refine WC_loop_inv (fun m f h1 => ∃ i : Nat, m = ns.length - i ∧ i ≤ ns.length ∧ f 0 = I64 p ∧ f 1 = v ∧ f 2 = I64 n ∧ f 7 = I64 i ∧ h1 = h ∧ ∀ j, j < i → 0 ≤ ns.getD j 0 ∧ ns.getD j 0 < p) ?_ ns.length _ _ ⟨0, rfl, Nat.zero_le _, rfl, rfl, rfl, rfl, rfl, by omega⟩
  rintro m f h1 ⟨i, rfl, hi, f0, f1, f2, f7, rfl, hj⟩
  try simp (maxSteps := 3000000) (disch := first | omega | (simp only [len_new, len_put, len_kill]; omega)) only [↓xpre, xpost, ↓reduceIte, Nat.reduceEqDiff, Nat.reduceAdd, Nat.reduceSub, Nat.reduceLeDiff, Nat.zero_add, Nat.sub_zero, f0, f1, f2, f7, hv.len, IfW_dec]
  refine ⟨fun hlt => ?_, fun hge => ?_⟩
  · try simp (maxSteps := 3000000) (disch := first | omega | (simp only [len_new, len_put, len_kill]; omega)) only [↓xpre, xpost, ↓reduceIte, Nat.reduceEqDiff, Nat.reduceAdd, Nat.reduceSub, Nat.reduceLeDiff, Nat.zero_add, Nat.sub_zero, f0, f1, f2, f7, hv.ix, hv.rd, wrap64_in]
    refine s_l01In ?_
    simp only [nth, Int.toNat_natCast]
    by_cases h5 : 0 ≤ ns.getD i 0 ∧ ns.getD i 0 ≤ p - 1
    · try simp (maxSteps := 3000000) (disch := first | omega | (simp only [len_new, len_put, len_kill]; omega)) only [↓xpre, xpost, ↓reduceIte, Nat.reduceEqDiff, Nat.reduceAdd, Nat.reduceSub, Nat.reduceLeDiff, Nat.zero_add, Nat.sub_zero, h5, f0, f1, f2, f7, wrap64_in]
      refine InvQ_go (ns.length - (i + 1)) (by omega) ⟨i + 1, rfl, by omega, f0, f1, f2, rfl, rfl, fun j hj' => ?_⟩
      rcases Nat.lt_succ_iff_lt_or_eq.1 hj' with hj' | rfl
      · exact hj j hj'
      · omega
    · try simp (maxSteps := 3000000) (disch := first | omega | (simp only [len_new, len_put, len_kill]; omega)) only [↓xpre, xpost, ↓reduceIte, Nat.reduceEqDiff, Nat.reduceAdd, Nat.reduceSub, Nat.reduceLeDiff, Nat.zero_add, Nat.sub_zero, h5, f0, f1, f2, f7]
      have : allIn p ns = false := by
        cases ha : allIn p ns with
        | false => rfl
        | true =>
          have := allIn_iff.1 ha i (by omega)
          omega
      rw [this] at hQ
      exact hQ
  · try simp (maxSteps := 3000000) (disch := first | omega | (simp only [len_new, len_put, len_kill]; omega)) only [↓xpre, xpost, ↓reduceIte, Nat.reduceEqDiff, Nat.reduceAdd, Nat.reduceSub, Nat.reduceLeDiff, Nat.zero_add, Nat.sub_zero, f0, f1, f2, f7, hv.len]
    have : allIn p ns = true := allIn_iff.2 fun j hj' => hj j (by omega)
    rw [this, Bool.true_and] at hQ
    exact hQ

def md (p x : Int) : Int := (x.tmod p + p).tmod p
theorem tmod_bound {x p : Int} (hp : 2 ≤ p) : -p < x.tmod p ∧ x.tmod p < p := by
  have h1 := Int.tmod_lt_of_pos x (show 0 < p by omega)
  have h2 := Int.tmod_lt_of_pos (-x) (show 0 < p by omega)
  rw [Int.neg_tmod] at h2
  omega
theorem tmod_nn {a J : Int} (ha : 0 ≤ a) (hJ : 1 ≤ J) : 0 ≤ a.tmod J ∧ a.tmod J < J := by
  rw [Int.tmod_eq_emod_of_nonneg ha]
  exact ⟨Int.emod_nonneg _ (by omega), Int.emod_lt_of_pos _ (by omega)⟩
theorem md_in {x p : Int} (hp : 2 ≤ p) : 0 ≤ md p x ∧ md p x < p := by
  have := tmod_bound (x := x) hp
  exact tmod_nn (by omega) (by omega)
theorem md_small {x p : Int} (hx : 0 ≤ x ∧ x < p) : md p x = x := by
  unfold md
  rw [Int.tmod_eq_of_lt hx.1 hx.2, Int.tmod_eq_emod_of_nonneg (by omega), Int.add_emod_right, Int.emod_eq_of_lt hx.1 hx.2]
theorem s_l01Mod {p x : Int} {h : AH} {Q : Value → AH → Prop} (hp : 2 ≤ p ∧ p ≤ 5) (hQ : Q (I64 (md p x)) h) : WF S 101 [I64 p, I64 x] h Q := by
  refine WF_fn (fn := c101) rfl rfl ?_
  unfold c101
  have := tmod_bound (x := x) hp.1
  try simp (maxSteps := 3000000) (disch := first | omega | (simp only [len_new, len_put, len_kill]; omega)) only [↓xpre, xpost, ↓reduceIte, Nat.reduceEqDiff, Nat.reduceAdd, Nat.reduceSub, Nat.reduceLeDiff, Nat.zero_add, Nat.sub_zero, bin_rem, wrap64_in]
  exact hQ

/-- w is the least inverse. -/
def IsInv (p n w : Int) : Prop := 1 ≤ w ∧ w < p ∧ (w * n).tmod p = 1 ∧ ∀ k, 1 ≤ k → k < w → (k * n).tmod p ≠ 1
theorem inv_is {p n : Int} (hp : isP p = true) (hn : 1 ≤ n ∧ n < p) : ∃ w, IsInv p n w := by
  have hpp : p = 2 ∨ p = 3 ∨ p = 5 := by simpa [isP] using hp
  have one : IsInv p 1 1 → n = 1 → ∃ w, IsInv p n w := fun h e => ⟨1, by rw [e]; exact h⟩
  have hcase : (n = 1) ∨ (p = 3 ∧ n = 2) ∨ (p = 5 ∧ n = 2) ∨ (p = 5 ∧ n = 3) ∨ (p = 5 ∧ n = 4) := by omega
  rcases hcase with rfl | ⟨rfl, rfl⟩ | ⟨rfl, rfl⟩ | ⟨rfl, rfl⟩ | ⟨rfl, rfl⟩
  · refine ⟨1, by omega, by omega, ?_, fun k h1 h2 => by omega⟩
    exact Int.tmod_eq_of_lt (by omega) (by omega)
  · refine ⟨2, by omega, by omega, by decide, fun k h1 h2 => ?_⟩
    have : k = 1 := by omega
    subst this
    decide
  · refine ⟨3, by omega, by omega, by decide, fun k h1 h2 => ?_⟩
    have : k = 1 ∨ k = 2 := by omega
    rcases this with rfl | rfl <;> decide
  · refine ⟨2, by omega, by omega, by decide, fun k h1 h2 => ?_⟩
    have : k = 1 := by omega
    subst this
    decide
  · refine ⟨4, by omega, by omega, by decide, fun k h1 h2 => ?_⟩
    have : k = 1 ∨ k = 2 ∨ k = 3 := by omega
    rcases this with rfl | rfl | rfl <;> decide

theorem s_l01Inverse {p n w : Int} {h : AH} {Q : Value → AH → Prop} (hp : 2 ≤ p ∧ p ≤ 5) (hn : 1 ≤ n ∧ n < p) (hw : IsInv p n w) (hQ : Q (I64 w) h) : WF S 100 [I64 p, I64 n] h Q := by
  refine WF_fn (fn := c100) rfl rfl ?_
  unfold c100
  try simp (maxSteps := 3000000) (disch := first | omega | (simp only [len_new, len_put, len_kill]; omega)) only [↓xpre, xpost, ↓reduceIte, Nat.reduceEqDiff, Nat.reduceAdd, Nat.reduceSub, Nat.reduceLeDiff, Nat.zero_add, Nat.sub_zero]
  obtain ⟨w1, w2, w3, w4⟩ := hw
  refine WC_loop_inv (fun m f h1 => ∃ k : Int, m = (w - k).toNat ∧ (1 ≤ k ∧ k ≤ w) ∧ f 0 = I64 p ∧ f 1 = I64 n ∧ f 5 = I64 k ∧ h1 = h) ?_ (w - 1).toNat _ _ ⟨1, rfl, by omega, rfl, rfl, rfl, rfl⟩
  rintro m f h1 ⟨k, rfl, hk, f0, f1, f5, rfl⟩
  try simp (maxSteps := 3000000) (disch := first | omega | (simp only [len_new, len_put, len_kill]; omega)) only [↓xpre, xpost, ↓reduceIte, Nat.reduceEqDiff, Nat.reduceAdd, Nat.reduceSub, Nat.reduceLeDiff, Nat.zero_add, Nat.sub_zero, f0, f1, f5, IfW_dec]
  refine ⟨fun hlt => ?_, fun hge => by omega⟩
  refine s_l01Mod hp ?_
  rw [md_small (by omega)]
  have b := mul_in (a := k) (b := n) (A := 5) (B := 5) (by omega) (by omega)
  try simp (maxSteps := 3000000) (disch := first | omega | (simp only [len_new, len_put, len_kill]; omega)) only [↓xpre, xpost, ↓reduceIte, Nat.reduceEqDiff, Nat.reduceAdd, Nat.reduceSub, Nat.reduceLeDiff, Nat.zero_add, Nat.sub_zero, f0, f1, f5, wrap64_in, bin_rem, IfW_dec]
  refine ⟨fun he => ?_, fun he => ?_⟩
  · have : k = w := Decidable.byContradiction fun hne => w4 k hk.1 (by omega) he
    subst this
    exact hQ
  · have : k ≠ w := fun e => he (by rw [e]; exact w3)
    try simp (maxSteps := 3000000) (disch := first | omega | (simp only [len_new, len_put, len_kill]; omega)) only [↓xpre, xpost, ↓reduceIte, Nat.reduceEqDiff, Nat.reduceAdd, Nat.reduceSub, Nat.reduceLeDiff, Nat.zero_add, Nat.sub_zero, f0, f1, f5, wrap64_in]
    exact InvQ_go (w - (k + 1)).toNat (by omega) ⟨k + 1, rfl, by omega, f0, f1, rfl, rfl⟩

theorem i_inverse {p n w : Int} {h : AH} {Q : Value → AH → Prop} (hp : 2 ≤ p ∧ p ≤ 5) (hn : 1 ≤ n ∧ n < p) (hw : IsInv p n w) (hQ : Q (I64 w) h) : WF S 105 [I64 p, I64 n] h Q := by
  refine WF_fn (fn := c105) rfl rfl ?_
  unfold c105
  try simp (maxSteps := 3000000) (disch := first | omega | (simp only [len_new, len_put, len_kill]; omega)) only [↓xpre, xpost, ↓reduceIte, Nat.reduceEqDiff, Nat.reduceAdd, Nat.reduceSub, Nat.reduceLeDiff, Nat.zero_add, Nat.sub_zero]
  obtain ⟨w1, w2, w3, w4⟩ := hw
  refine WC_loop_inv (fun m f h1 => ∃ k : Int, m = (w - k).toNat ∧ (1 ≤ k ∧ k ≤ w) ∧ f 0 = I64 p ∧ f 1 = I64 n ∧ f 5 = I64 k ∧ h1 = h) ?_ (w - 1).toNat _ _ ⟨1, rfl, by omega, rfl, rfl, rfl, rfl⟩
  rintro m f h1 ⟨k, rfl, hk, f0, f1, f5, rfl⟩
  have b := mul_in (a := k) (b := n) (A := 5) (B := 5) (by omega) (by omega)
  try simp (maxSteps := 3000000) (disch := first | omega | (simp only [len_new, len_put, len_kill]; omega)) only [↓xpre, xpost, ↓reduceIte, Nat.reduceEqDiff, Nat.reduceAdd, Nat.reduceSub, Nat.reduceLeDiff, Nat.zero_add, Nat.sub_zero, f0, f1, f5, wrap64_in, bin_rem, IfW_dec]
  refine ⟨fun he => ?_, fun he => ?_⟩
  · have : k = w := Decidable.byContradiction fun hne => w4 k hk.1 (by omega) he
    subst this
    exact hQ
  · have : k ≠ w := fun e => he (by rw [e]; exact w3)
    try simp (maxSteps := 3000000) (disch := first | omega | (simp only [len_new, len_put, len_kill]; omega)) only [↓xpre, xpost, ↓reduceIte, Nat.reduceEqDiff, Nat.reduceAdd, Nat.reduceSub, Nat.reduceLeDiff, Nat.zero_add, Nat.sub_zero, f0, f1, f5, wrap64_in]
    exact InvQ_go (w - (k + 1)).toNat (by omega) ⟨k + 1, rfl, by omega, f0, f1, rfl, rfl⟩
end Go.Proofs.Ytnjhhgfpclngcaa.X
