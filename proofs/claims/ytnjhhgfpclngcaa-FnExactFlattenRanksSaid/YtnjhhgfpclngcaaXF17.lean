/- Copies of lists of lists. -/
import Derived.Test.YtnjhhgfpclngcaaXF16
set_option linter.unusedVariables false
set_option linter.unusedSimpArgs false
set_option maxRecDepth 20000
set_option maxHeartbeats 4000000
namespace Go.Proofs.Ytnjhhgfpclngcaa.X
open Go Go.RowKit

theorem set_getD' {α : Type} {l : List α} {i j : Nat} {x d : α} (hi : i < l.length) : (l.set i x).getD j d = if j = i then x else l.getD j d := by
  rw [List.getD_eq_getElem?_getD, List.getD_eq_getElem?_getD, List.getElem?_set]
  by_cases h : i = j
  · subst h
    simp [hi]
  · rw [if_neg h, if_neg (fun e => h e.symm)]
theorem splice_set {l : List Value} {j : Nat} {x : Value} (hj : j < l.length) : splice l j [x] = l.set j x := by
  unfold splice
  rw [List.set_eq_take_append_cons_drop, if_pos hj]
  simp
theorem zrep_len {z : Value} : ∀ n, (zrep n [z]).length = n
  | 0 => rfl
  | n + 1 => by simp [zrep, zrep_len n]

/-- A list of lists of one's own, or nil: each row has a block for itself. -/
def OwnRows (h0 h : AH) (v : Value) (rows : List (List Int)) : Prop :=
  (v = .slice none 0 0 ∧ rows = []) ∨
  ∃ n e full cs, h0.length ≤ n ∧ v = .slice (some ⟨n, 0, none⟩) cs.length 1 ∧ h.get n = some ⟨cs, e, false, full⟩ ∧ cs.length = rows.length ∧
    (∀ i, i < rows.length → OwnR h0 h (cs.getD i undef) (rows.getD i []) ∧ blkOf (cs.getD i undef) ≠ some n) ∧
    ∀ i j, i < j → j < rows.length → ∀ b, blkOf (cs.getD i undef) = some b → blkOf (cs.getD j undef) ≠ some b
theorem OwnRows.rows {h0 h : AH} {v : Value} {rows : List (List Int)} (o : OwnRows h0 h v rows) : Rows h v rows := by
  rcases o with ⟨rfl, rfl⟩ | ⟨n, e, full, cs, h1, rfl, h2, h3, h4, h5⟩
  · exact ⟨[], .inl ⟨rfl, 0, by omega, rfl⟩, rfl, fun i hi => by simp at hi⟩
  · refine ⟨cs, .inr ⟨n, 0, _, rfl, h2, by simp, fun i hi => ?_⟩, h3, fun i hi => (h4 i hi).1.ints⟩
    rw [Nat.zero_add, List.getD_eq_getElem?_getD, List.getElem?_eq_getElem hi]
    rfl
theorem OwnRows.pre {h0 h h' : AH} {v : Value} {rows : List (List Int)} (o : OwnRows h0 h v rows) (p : h <+: h') : OwnRows h0 h' v rows := by
  rcases o with ⟨rfl, rfl⟩ | ⟨n, e, full, cs, h1, rfl, h2, h3, h4, h5⟩
  · exact .inl ⟨rfl, rfl⟩
  · exact .inr ⟨n, e, full, cs, h1, rfl, pre_get p h2, h3, fun i hi => ⟨(h4 i hi).1.pre p, (h4 i hi).2⟩, h5⟩

theorem l_toInt64SS {v : Value} {rows : List (List Int)} {h : AH} {Q : Value → AH → Prop} (hv : Rows h v rows) (hl : (rows.length : Int) ≤ 1048576) (hl' : ∀ i, i < rows.length → ((rows.getD i []).length : Int) ≤ 1048576)
    (hQ : ∀ v' h', h <+: h' → OwnRows h h' v' rows → Q v' h') : WF S 41 [v] h Q := by
  refine WF_fn (fn := c41) rfl rfl ?_
  unfold c41
  obtain ⟨cs, hv, hcl, hr⟩ := hv
  try simp (maxSteps := 3000000) (disch := first | omega | (simp only [len_new, len_put, len_kill]; omega)) only [↓xpre, xpost, ↓reduceIte, Nat.reduceEqDiff, Nat.reduceAdd, Nat.reduceSub, Nat.reduceLeDiff, Nat.zero_add, Nat.sub_zero, hv.len, hcl]
  refine ⟨by omega, ?_⟩
  generalize hH : AH.new h _ = H
  obtain ⟨hb, hp, hlen⟩ := new_facts hH
  rw [Int.toNat_natCast] at hb
  have hz := zrep_len (z := .slice none 0 0) rows.length
  refine WC_loop_inv (fun m f h1 => ∃ (i : Nat) (ds : List Value), m = rows.length - i ∧ i ≤ rows.length ∧ f 0 = v ∧ f 3 = .slice (some ⟨h.length, 0, none⟩) rows.length 1 ∧ f 4 = I64 i ∧ OwnB h1 h.length ds true ∧ h <+: h1 ∧ ds.length = rows.length ∧
    (∀ j, j < i → OwnR H h1 (ds.getD j undef) (rows.getD j [])) ∧ ∀ j k, j < k → k < i → ∀ b, blkOf (ds.getD j undef) = some b → blkOf (ds.getD k undef) ≠ some b) ?_ rows.length _ _
    ⟨0, _, rfl, Nat.zero_le _, rfl, by simp [upd_apply], rfl, ⟨_, hb⟩, hp, hz, by omega, by omega⟩
  rintro m f h1 ⟨i, ds, rfl, hi, f0, f3, f4, ⟨e, hg⟩, ph, hdl, hown, hdis⟩
  have hv1 := hv.pre ph
  have lH := get_lt hg
  try simp (maxSteps := 3000000) (disch := first | omega | (simp only [len_new, len_put, len_kill]; omega)) only [↓xpre, xpost, ↓reduceIte, Nat.reduceEqDiff, Nat.reduceAdd, Nat.reduceSub, Nat.reduceLeDiff, Nat.zero_add, Nat.sub_zero, f0, f3, f4, hv1.len, hcl, IfW_dec]
  refine ⟨fun hlt => ?_, fun hge => ?_⟩
  · have hi' : i < rows.length := by omega
    have hix := hv1.ix (k := .i64) (j := i) (by omega) (by omega)
    have hrd := hv1.rd (j := i) (by omega) (by omega)
    try simp (maxSteps := 3000000) (disch := first | omega | (simp only [len_new, len_put, len_kill]; omega)) only [↓xpre, xpost, ↓reduceIte, Nat.reduceEqDiff, Nat.reduceAdd, Nat.reduceSub, Nat.reduceLeDiff, Nat.zero_add, Nat.sub_zero, f0, f3, f4, hix, hrd, Int.toNat_natCast]
    refine l_toInt64S ((hr i hi').pre ph) (hl' i hi') fun v' h2 p2 o => ?_
    have hg2 := pre_get p2 hg
    have ob := o.ownR.blk
    try simp (maxSteps := 3000000) (disch := first | omega | (simp only [len_new, len_put, len_kill]; omega)) only [↓xpre, xpost, ↓reduceIte, Nat.reduceEqDiff, Nat.reduceAdd, Nat.reduceSub, Nat.reduceLeDiff, Nat.zero_add, Nat.sub_zero, f0, f3, f4, ixsV_some, o.ints.one, o.ints.cells, wr_of hg2, wrap64_in]
    refine ⟨⟨by omega, hlt⟩, by have := Int.toNat_natCast i; omega, ?_⟩
    have en : ∀ j k : Nat, j < k → k < i + 1 → (k < i ∨ (k = i ∧ j < i)) := fun j k _ _ => by omega
    have blks : ∀ j, j < i → ∀ b, blkOf (ds.getD j undef) = some b → H.length ≤ b ∧ b < h1.length := fun j hj b hb => (hown j hj).blk b hb
    refine InvQ_go (rows.length - (i + 1)) (by omega) ⟨i + 1, ds.set i v', rfl, by omega, f0, f3, rfl, ⟨e, ?_⟩, pre_put (ph.trans p2) (Nat.le_refl _), by rw [List.length_set]; exact hdl, fun j hj => ?_, fun j k hjk hk b hb => ?_⟩
    · rw [get_put_same (get_lt hg2)]
      have e1 : ((i : Int).toNat * 1) = i := by omega
      simp only [e1, Nat.zero_add]
      rw [splice_set (by omega)]
    · rw [set_getD' (by omega)]
      split
      · rename_i ej
        subst ej
        exact (o.ownR.put_ne (by omega)).lo (by omega)
      · exact ((hown j (by omega)).pre p2).put_ne (by omega)
    · rw [set_getD' (by omega)] at hb ⊢
      rw [if_neg (by omega)] at hb
      split
      · intro e2
        have q1 := blks j (by omega) b hb
        have q2 := ob b e2
        omega
      · exact hdis j k hjk (by omega) b hb
  · have ei : i = rows.length := by omega
    subst ei
    try simp (maxSteps := 3000000) (disch := first | omega | (simp only [len_new, len_put, len_kill]; omega)) only [↓xpre, xpost, ↓reduceIte, Nat.reduceEqDiff, Nat.reduceAdd, Nat.reduceSub, Nat.reduceLeDiff, Nat.zero_add, Nat.sub_zero, f0, f3, f4]
    refine hQ _ _ ph (.inr ⟨h.length, e, true, ds, Nat.le_refl _, by rw [hdl], hg, hdl, fun j hj => ⟨(hown j hj).lo (by omega), fun eb => ?_⟩, hdis⟩)
    have := (hown j hj).blk _ eb
    omega
end Go.Proofs.Ytnjhhgfpclngcaa.X
