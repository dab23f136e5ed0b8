/- The turn; marks and holds of tensors. -/
import Derived.Test.YtnjhhgfpclngcaaXF8
set_option linter.unusedVariables false
set_option linter.unusedSimpArgs false
namespace Go.Proofs.Ytnjhhgfpclngcaa.X
open Go Go.RowKit

theorem tat_in {t : Ten} {i j k : Int} (f : TF t) (hi : 0 ≤ i ∧ i < t.i) (hj : 0 ≤ j ∧ j < t.j) (hk : 0 ≤ k ∧ k < t.k) : 0 ≤ tat t i j k ∧ tat t i j k < t.p := by
  have b1 := lin_in hi hj
  have b2 := lin_in b1.2 hk
  exact f.num _ (by omega) (by rw [f.len]; omega)
/-- Places out of a number. -/
theorem places {n i j k : Int} (hn : 0 ≤ n ∧ n < i * j * k) (hj : 1 ≤ j) (hk : 1 ≤ k) : (0 ≤ n / k / j ∧ n / k / j < i) ∧ (0 ≤ n / k % j ∧ n / k % j < j) ∧ (0 ≤ n % k ∧ n % k < k) := by
  have h1 : n / k < i * j := Int.ediv_lt_of_lt_mul (by omega) hn.2
  have h2 : n / k / j < i := Int.ediv_lt_of_lt_mul (by omega) h1
  have h3 : 0 ≤ n / k := Int.ediv_nonneg (by omega) (by omega)
  exact ⟨⟨Int.ediv_nonneg h3 (by omega), h2⟩, ⟨Int.emod_nonneg _ (by omega), Int.emod_lt_of_pos _ (by omega)⟩, ⟨Int.emod_nonneg _ (by omega), Int.emod_lt_of_pos _ (by omega)⟩⟩

theorem i_turn1 {v : Value} {t : Ten} {i j k : Int} {h : AH} {n : Nat} {e : TypeId} {ro full : Bool} {Q : Value → AH → Prop} (hb : h.get n = some ⟨[I64 t.p, I64 t.i, I64 t.j, I64 t.k, v], e, ro, full⟩) (hv : Ints h v t.ns) (f : TF t)
    (hi : 0 ≤ i ∧ i < t.i) (hj : 0 ≤ j ∧ j < t.j) (hk : 0 ≤ k ∧ k < t.k) (hQ : ∀ h', h <+: h' → Q (I64 (tat t i j k)) h') : WF S 99 [I64 j, I64 k, I64 i, .pointer (some ⟨n, 0, none⟩)] h Q := by
  refine WF_fn (fn := c99) rfl rfl ?_
  unfold c99
  try simp (maxSteps := 3000000) (disch := first | omega | (simp only [len_new, len_put, len_kill]; omega)) only [↓xpre, xpost, ↓reduceIte, Nat.reduceEqDiff, Nat.reduceAdd, Nat.reduceSub, Nat.reduceLeDiff, Nat.zero_add, Nat.sub_zero, rdn_of hb]
  refine i_at (t := t) hv f hi hj hk fun h' hp => ?_
  try simp (maxSteps := 3000000) (disch := first | omega | (simp only [len_new, len_put, len_kill]; omega)) only [↓xpre, xpost, ↓reduceIte, Nat.reduceEqDiff, Nat.reduceAdd, Nat.reduceSub, Nat.reduceLeDiff, Nat.zero_add, Nat.sub_zero]
  exact hQ _ hp

theorem turn_eq {t : Ten} (f : TF t) : tenT t.p t.j t.k t.i (fun j k i => tat t i j k) = turnT t := by
  unfold tenT turnT
  congr 1
  refine gen_congr fun n hn => ?_
  unfold tenG turnG
  have h := places (n := n) (i := t.j) (j := t.k) (k := t.i) (by omega) f.k.1 f.i.1
  have b := tat_in f h.2.2 h.1 h.2.1
  exact Int.tmod_eq_of_lt b.1 b.2

theorem OwnR.put_ne {h0 h : AH} {v : Value} {ns : List Int} {n : Nat} {b : Blk} (o : OwnR h0 h v ns) (hn : n < h0.length) : OwnR h0 (h.put n b) v ns := by
  rcases o with ⟨rfl, rfl⟩ | ⟨m, e, full, h1, rfl, h2⟩
  · exact .inl ⟨rfl, rfl⟩
  · exact .inr ⟨m, e, full, h1, rfl, by rw [get_put_ne (by omega)]; exact h2⟩
theorem i_turn {v : Value} {t : Ten} {h : AH} {Q : Value → AH → Prop} (hv : Ints h v t.ns) (f : TF t)
    (hQ : ∀ v' h', h <+: h' → OwnR h h' v' (turnT t).ns → Q (tenV (turnT t) v') h') : WF S 72 [tenV t v] h Q := by
  refine WF_fn (fn := c72) rfl rfl ?_
  unfold c72
  try simp (maxSteps := 3000000) (disch := first | omega | (simp only [len_new, len_put, len_kill]; omega)) only [↓xpre, xpost, ↓reduceIte, Nat.reduceEqDiff, Nat.reduceAdd, Nat.reduceSub, Nat.reduceLeDiff, Nat.zero_add, Nat.sub_zero, tenV, hv.one]
  generalize hH1 : AH.new h _ = H1
  obtain ⟨hb1, p1, n1⟩ := new_facts hH1
  generalize hH2 : AH.new H1 _ = H2
  obtain ⟨hb2, p2, n2⟩ := new_facts hH2
  have hb1 := pre_get p2 hb1
  have hf : Tells S H2 (.func (.func 99) #[] #[.pointer (some ⟨h.length, 0, none⟩)]) t.j t.k t.i (fun j k i => tat t i j k) := by
    intro a b c ha hb hc h1 hp Q hQ
    rw [WK_func]
    exact i_turn1 (t := t) (pre_get hp hb1) (hv.pre ((p1.trans p2).trans hp)) f hc ha hb hQ
  refine i_tensor (num := fun j k i => tat t i j k) (by have := f.p; omega) f.j f.k f.i hf fun v' H3 p3 o => ?_
  rw [turn_eq f] at o ⊢
  have hb2 := pre_get p3 hb2
  have l3 := get_lt hb2
  try simp (maxSteps := 3000000) (disch := first | omega | (simp only [len_new, len_put, len_kill]; omega)) only [↓xpre, xpost, ↓reduceIte, Nat.reduceEqDiff, Nat.reduceAdd, Nat.reduceSub, Nat.reduceLeDiff, Nat.zero_add, Nat.sub_zero, tenV, o.ints.one, wr_of hb2]
  exact hQ v' _ (pre_put ((p1.trans p2).trans p3) (by omega)) ((o.put_ne (by omega)).lo (by omega))

def noT : Ten := ⟨0, 0, 0, 0, []⟩
def turnR (t : Ten) : Ten × Int := if isT t = true then (turnT t, 0) else (noT, 1)

theorem s_TurnTensor {v : Value} {t : Ten} {h : AH} {Q : Value → AH → Prop} (hv : Ints h v t.ns) (hl : (t.ns.length : Int) ≤ 1048576)
    (hQ : ∀ v' h', h <+: h' → OwnR h h' v' (turnR t).1.ns → Q (.tuple #[tenV (turnR t).1 v', I64 (turnR t).2]) h') : WF S 29 [tenV t v] h Q := by
  refine WF_fn (fn := c29) rfl rfl ?_
  unfold c29
  try simp (maxSteps := 3000000) (disch := first | omega | (simp only [len_new, len_put, len_kill]; omega)) only [↓xpre, xpost, ↓reduceIte, Nat.reduceEqDiff, Nat.reduceAdd, Nat.reduceSub, Nat.reduceLeDiff, Nat.zero_add, Nat.sub_zero, tenV, hv.one]
  generalize hH1 : AH.new h _ = H1
  obtain ⟨hb1, p1, n1⟩ := new_facts hH1
  generalize hH2 : AH.new H1 _ = H2
  obtain ⟨hb2, p2, n2⟩ := new_facts hH2
  have hb1 := pre_get p2 hb1
  refine s_l05Is (hv.pre (p1.trans p2)) hl fun H3 p3 => ?_
  have hb1 := pre_get p3 hb1
  have hb2 := pre_get p3 hb2
  have l3 := get_lt hb2
  cases ht : isT t with
  | false =>
    try simp (maxSteps := 3000000) (disch := first | omega | (simp only [len_new, len_put, len_kill]; omega)) only [↓xpre, xpost, ↓reduceIte, Nat.reduceEqDiff, Nat.reduceAdd, Nat.reduceSub, Nat.reduceLeDiff, Nat.zero_add, Nat.sub_zero, fillL, wr_of hb2]
    simp only [turnR, ht, Bool.false_eq_true, if_false] at hQ
    exact hQ (.slice none 0 0) _ (pre_put ((p1.trans p2).trans p3) (by omega)) (.inl ⟨rfl, rfl⟩)
  | true =>
    try simp (maxSteps := 3000000) (disch := first | omega | (simp only [len_new, len_put, len_kill]; omega)) only [↓xpre, xpost, ↓reduceIte, Nat.reduceEqDiff, Nat.reduceAdd, Nat.reduceSub, Nat.reduceLeDiff, Nat.zero_add, Nat.sub_zero, rdn_of hb1]
    refine s_l05Turn (hv.pre ((p1.trans p2).trans p3)) (isT_facts ht) fun v' H4 p4 o => ?_
    have hb2 := pre_get p4 hb2
    have l4 := get_lt hb2
    try simp (maxSteps := 3000000) (disch := first | omega | (simp only [len_new, len_put, len_kill]; omega)) only [↓xpre, xpost, ↓reduceIte, Nat.reduceEqDiff, Nat.reduceAdd, Nat.reduceSub, Nat.reduceLeDiff, Nat.zero_add, Nat.sub_zero, tenV, o.ints.one, wr_of hb2]
    simp only [turnR, ht, if_true] at hQ
    exact hQ v' _ (pre_put (((p1.trans p2).trans p3).trans p4) (by omega)) ((o.ownR.put_ne (by have := pre_len p3; omega)).lo (by have := pre_len p3; omega))

theorem i_TurnTensor {v : Value} {t : Ten} {h : AH} {Q : Value → AH → Prop} (hv : Ints h v t.ns) (hl : (t.ns.length : Int) ≤ 1048576)
    (hQ : ∀ v' h', h <+: h' → OwnR h h' v' (turnR t).1.ns → Q (.tuple #[tenV (turnR t).1 v', I64 (turnR t).2]) h') : WF S 30 [tenV t v] h Q := by
  refine WF_fn (fn := c30) rfl rfl ?_
  unfold c30
  try simp (maxSteps := 3000000) (disch := first | omega | (simp only [len_new, len_put, len_kill]; omega)) only [↓xpre, xpost, ↓reduceIte, Nat.reduceEqDiff, Nat.reduceAdd, Nat.reduceSub, Nat.reduceLeDiff, Nat.zero_add, Nat.sub_zero, tenV, hv.one]
  generalize hH1 : AH.new h _ = H1
  obtain ⟨hb1, p1, n1⟩ := new_facts hH1
  generalize hH2 : AH.new H1 _ = H2
  obtain ⟨hb2, p2, n2⟩ := new_facts hH2
  have hb1 := pre_get p2 hb1
  refine i_IsTensor (hv.pre (p1.trans p2)) hl fun H3 p3 => ?_
  have hb1 := pre_get p3 hb1
  have hb2 := pre_get p3 hb2
  have l3 := get_lt hb2
  cases ht : isT t with
  | false =>
    try simp (maxSteps := 3000000) (disch := first | omega | (simp only [len_new, len_put, len_kill]; omega)) only [↓xpre, xpost, ↓reduceIte, Nat.reduceEqDiff, Nat.reduceAdd, Nat.reduceSub, Nat.reduceLeDiff, Nat.zero_add, Nat.sub_zero, fillL, wr_of hb2]
    simp only [turnR, ht, Bool.false_eq_true, if_false] at hQ
    exact hQ (.slice none 0 0) _ (pre_put ((p1.trans p2).trans p3) (by omega)) (.inl ⟨rfl, rfl⟩)
  | true =>
    try simp (maxSteps := 3000000) (disch := first | omega | (simp only [len_new, len_put, len_kill]; omega)) only [↓xpre, xpost, ↓reduceIte, Nat.reduceEqDiff, Nat.reduceAdd, Nat.reduceSub, Nat.reduceLeDiff, Nat.zero_add, Nat.sub_zero, rdn_of hb1]
    refine i_turn (hv.pre ((p1.trans p2).trans p3)) (isT_facts ht) fun v' H4 p4 o => ?_
    have hb2 := pre_get p4 hb2
    have l4 := get_lt hb2
    try simp (maxSteps := 3000000) (disch := first | omega | (simp only [len_new, len_put, len_kill]; omega)) only [↓xpre, xpost, ↓reduceIte, Nat.reduceEqDiff, Nat.reduceAdd, Nat.reduceSub, Nat.reduceLeDiff, Nat.zero_add, Nat.sub_zero, tenV, o.ints.one, wr_of hb2]
    simp only [turnR, ht, if_true] at hQ
    exact hQ v' _ (pre_put (((p1.trans p2).trans p3).trans p4) (by omega)) ((o.put_ne (by have := pre_len p3; omega)).lo (by have := pre_len p3; omega))

theorem only_get {o : Option Nat} {h h' : AH} {n : Nat} {b : Blk} (w : Only o h h') (hb : h.get n = some b) (hn : ∀ m, o = some m → m ≠ n) : h'.get n = some b := by
  rw [w.get n (fun e => hn n e rfl)]
  exact hb
theorem turnR_len (t : Ten) : (((turnR t).1.ns.length : Nat) : Int) ≤ 1048576 := by
  unfold turnR
  split
  · rename_i h
    have f := isT_facts h
    have jk := mul_in1 (A := 9) (B := 9) f.j f.k
    have jki := mul_in1 (A := 81) (B := 9) jk f.i
    simp only [turnT, gen_len]
    omega
  · simp [noT]
theorem l_markTensor {v : Value} {t : Ten} {k : Int} {h0 h : AH} {Q : Value → AH → Prop} (o : OwnR h0 h v t.ns) (hl : (t.ns.length : Int) ≤ 1048576) (hk : 0 ≤ k ∧ k ≤ 1099511627776)
    (hQ : ∀ h1 h', h <+: h1 → Only (blkOf v) h1 h' → OwnR h0 h' v (marks k t.ns.length) → Q (I64 (k + t.ns.length)) h') : WF S 31 [tenV t v, I64 k] h Q := by
  refine WF_fn (fn := c31) rfl rfl ?_
  unfold c31
  try simp (maxSteps := 3000000) (disch := first | omega | (simp only [len_new, len_put, len_kill]; omega)) only [↓xpre, xpost, ↓reduceIte, Nat.reduceEqDiff, Nat.reduceAdd, Nat.reduceSub, Nat.reduceLeDiff, Nat.zero_add, Nat.sub_zero, tenV, o.ints.one]
  have p1 := pre_new (b := ⟨[I64 t.p, I64 t.i, I64 t.j, I64 t.k, v], 30, false, true⟩) (List.prefix_refl h)
  refine l_markInt64S (o.pre p1) hl hk fun h' w o' => ?_
  try simp (maxSteps := 3000000) (disch := first | omega | (simp only [len_new, len_put, len_kill]; omega)) only [↓xpre, xpost, ↓reduceIte, Nat.reduceEqDiff, Nat.reduceAdd, Nat.reduceSub, Nat.reduceLeDiff, Nat.zero_add, Nat.sub_zero]
  exact hQ _ _ p1 w o'

theorem l_heldTensor {v : Value} {t : Ten} {k : Int} {n : Nat} {h : AH} {Q : Value → AH → Prop} (hv : Ints h v (marks k n)) (hl : (n : Int) ≤ 1048576) (hk : 0 ≤ k ∧ k ≤ 1099511627776)
    (hQ : ∀ h', h <+: h' → Q (I64 (k + n)) h') : WF S 32 [tenV t v, I64 k] h Q := by
  refine WF_fn (fn := c32) rfl rfl ?_
  unfold c32
  try simp (maxSteps := 3000000) (disch := first | omega | (simp only [len_new, len_put, len_kill]; omega)) only [↓xpre, xpost, ↓reduceIte, Nat.reduceEqDiff, Nat.reduceAdd, Nat.reduceSub, Nat.reduceLeDiff, Nat.zero_add, Nat.sub_zero, tenV, hv.one]
  have p1 := pre_new (b := ⟨[I64 t.p, I64 t.i, I64 t.j, I64 t.k, v], 30, false, true⟩) (List.prefix_refl h)
  refine l_heldInt64S (hv.pre p1) hl hk ?_
  try simp (maxSteps := 3000000) (disch := first | omega | (simp only [len_new, len_put, len_kill]; omega)) only [↓xpre, xpost, ↓reduceIte, Nat.reduceEqDiff, Nat.reduceAdd, Nat.reduceSub, Nat.reduceLeDiff, Nat.zero_add, Nat.sub_zero, IfW_dec]
  exact ⟨fun hlt => by omega, fun _ => hQ _ p1⟩
end Go.Proofs.Ytnjhhgfpclngcaa.X
