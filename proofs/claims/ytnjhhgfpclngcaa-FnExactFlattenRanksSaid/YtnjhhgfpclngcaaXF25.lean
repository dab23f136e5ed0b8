/- slices.IndexFunc over rows. -/
import Derived.Test.YtnjhhgfpclngcaaXF24
set_option linter.unusedVariables false
set_option linter.unusedSimpArgs false
set_option maxRecDepth 20000
set_option maxHeartbeats 4000000
namespace Go.Proofs.Ytnjhhgfpclngcaa.X
open Go Go.RowKit

/-- The first place from i on, among m, that a test likes; else -1. -/
def firstAt (q : Nat → Bool) : Nat → Nat → Int
  | 0, i => -1
  | m + 1, i => if q i = true then i else firstAt q m (i + 1)
theorem i_IndexRows {v fv : Value} {cs : List Value} {q : Nat → Bool} {h : AH} {Q : Value → AH → Prop} (hv : Vals h v cs) (hl : (cs.length : Int) ≤ 1048576)
    (hf : ∀ i, i < cs.length → ∀ Q : Value → AH → Prop, Q (.bool (q i)) h → WK S fv [cs.getD i undef] h Q)
    (hQ : Q (I64 (firstAt q cs.length 0)) h) : WF S 103 [v, fv] h Q := by
  refine WF_fn (fn := c103) rfl rfl ?_
  unfold c103
  try simp (maxSteps := 3000000) (disch := first | omega | (simp only [len_new, len_put, len_kill]; omega)) only [↓xpre, xpost, ↓reduceIte, Nat.reduceEqDiff, Nat.reduceAdd, Nat.reduceSub, Nat.reduceLeDiff, Nat.zero_add, Nat.sub_zero, hv.len]
  refine WC_loop_inv (fun m f h1 => ∃ i : Nat, m = cs.length - i ∧ i ≤ cs.length ∧ f 0 = v ∧ f 1 = fv ∧ f 7 = I64 cs.length ∧ f 8 = I64 i ∧ h1 = h ∧ firstAt q (cs.length - i) i = firstAt q cs.length 0) ?_ cs.length _ _ ⟨0, rfl, Nat.zero_le _, rfl, rfl, rfl, rfl, rfl, rfl⟩
  rintro m f h1 ⟨i, rfl, hi, f0, f1, f7, f8, rfl, hj⟩
  try simp (maxSteps := 3000000) (disch := first | omega | (simp only [len_new, len_put, len_kill]; omega)) only [↓xpre, xpost, ↓reduceIte, Nat.reduceEqDiff, Nat.reduceAdd, Nat.reduceSub, Nat.reduceLeDiff, Nat.zero_add, Nat.sub_zero, f0, f1, f7, f8, IfW_dec]
  refine ⟨fun hlt => ?_, fun hge => ?_⟩
  · have hi' : i < cs.length := by omega
    have hix := hv.ix (k := .i64) (j := i) (by omega) (by omega)
    have hrd := hv.rd (j := i) (by omega) (by omega)
    have hstep : firstAt q (cs.length - i) i = if q i = true then (i : Int) else firstAt q (cs.length - (i + 1)) (i + 1) := by
      rw [show cs.length - i = (cs.length - (i + 1)) + 1 by omega]
      rfl
    try simp (maxSteps := 3000000) (disch := first | omega | (simp only [len_new, len_put, len_kill]; omega)) only [↓xpre, xpost, ↓reduceIte, Nat.reduceEqDiff, Nat.reduceAdd, Nat.reduceSub, Nat.reduceLeDiff, Nat.zero_add, Nat.sub_zero, f0, f1, f7, f8, hix, hrd, Int.toNat_natCast]
    refine hf i hi' _ ?_
    cases hq : q i with
    | true =>
      try simp (maxSteps := 3000000) (disch := first | omega | (simp only [len_new, len_put, len_kill]; omega)) only [↓xpre, xpost, ↓reduceIte, Nat.reduceEqDiff, Nat.reduceAdd, Nat.reduceSub, Nat.reduceLeDiff, Nat.zero_add, Nat.sub_zero, f0, f1, f7, f8]
      rw [← hj, hstep, if_pos hq] at hQ
      exact hQ
    | false =>
      try simp (maxSteps := 3000000) (disch := first | omega | (simp only [len_new, len_put, len_kill]; omega)) only [↓xpre, xpost, ↓reduceIte, Nat.reduceEqDiff, Nat.reduceAdd, Nat.reduceSub, Nat.reduceLeDiff, Nat.zero_add, Nat.sub_zero, f0, f1, f7, f8, wrap64_in]
      refine InvQ_go (cs.length - (i + 1)) (by omega) ⟨i + 1, rfl, by omega, f0, f1, f7, rfl, rfl, ?_⟩
      rw [← hj, hstep, if_neg (by rw [hq]; simp)]
  · have e : i = cs.length := by omega
    subst e
    try simp (maxSteps := 3000000) (disch := first | omega | (simp only [len_new, len_put, len_kill]; omega)) only [↓xpre, xpost, ↓reduceIte, Nat.reduceEqDiff, Nat.reduceAdd, Nat.reduceSub, Nat.reduceLeDiff, Nat.zero_add, Nat.sub_zero, f0, f1, f7, f8]
    rw [← hj, Nat.sub_self] at hQ
    exact hQ
theorem i_rank1 {v : Value} {ns : List Int} {c : Nat} {n : Nat} {e : TypeId} {ro full : Bool} {h : AH} {Q : Value → AH → Prop} (hv : Ints h v ns) (hc : c < ns.length) (hb : h.get n = some ⟨[I64 c], e, ro, full⟩)
    (hQ : Q (.bool (decide (ns.getD c 0 ≠ 0))) h) : WF S 104 [v, .pointer (some ⟨n, 0, none⟩)] h Q := by
  refine WF_fn (fn := c104) rfl rfl ?_
  unfold c104
  have hix := hv.ix (k := .i64) (j := c) (by omega) (by omega)
  have hrd := hv.rd (j := c) (by omega) (by omega)
  simp only [nth, Int.toNat_natCast] at hrd
  try simp (maxSteps := 3000000) (disch := first | omega | (simp only [len_new, len_put, len_kill]; omega)) only [↓xpre, xpost, ↓reduceIte, Nat.reduceEqDiff, Nat.reduceAdd, Nat.reduceSub, Nat.reduceLeDiff, Nat.zero_add, Nat.sub_zero, rd1_of hb, hix, hrd]
  exact hQ
end Go.Proofs.Ytnjhhgfpclngcaa.X
