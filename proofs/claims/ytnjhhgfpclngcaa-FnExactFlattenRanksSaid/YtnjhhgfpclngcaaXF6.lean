/- Lists of one's own: marks and holds. -/
import Derived.Test.YtnjhhgfpclngcaaXF5
set_option linter.unusedVariables false
set_option linter.unusedSimpArgs false
namespace Go.Proofs.Ytnjhhgfpclngcaa.X
open Go Go.RowKit

/-- The heap's block of a slice. -/
def blkOf (v : Value) : Option Nat := match v with
  | .slice (some a) _ _ => some a.block
  | _ => none
/-- A list of one's own, or nil. -/
def OwnR (h0 h : AH) (v : Value) (ns : List Int) : Prop :=
  (v = .slice none 0 0 ∧ ns = []) ∨ ∃ n e full, h0.length ≤ n ∧ v = .slice (some ⟨n, 0, none⟩) ns.length 1 ∧ h.get n = some ⟨ns.map (Value.int .i64), e, false, full⟩
theorem OwnI.ownR {h0 h : AH} {v : Value} {ns : List Int} (o : OwnI h0 h v ns) : OwnR h0 h v ns := by
  obtain ⟨n, e, h1, rfl, h2⟩ := o
  exact .inr ⟨n, e, true, h1, rfl, h2⟩
theorem OwnR.ints {h0 h : AH} {v : Value} {ns : List Int} (o : OwnR h0 h v ns) : Ints h v ns := by
  rcases o with ⟨rfl, rfl⟩ | ⟨n, e, full, h1, rfl, h2⟩
  · exact .inl ⟨rfl, 0, by omega, rfl⟩
  · exact Ints.own h2 rfl
theorem OwnR.pre {h0 h h' : AH} {v : Value} {ns : List Int} (o : OwnR h0 h v ns) (p : h <+: h') : OwnR h0 h' v ns := by
  rcases o with ⟨rfl, rfl⟩ | ⟨n, e, full, h1, rfl, h2⟩
  · exact .inl ⟨rfl, rfl⟩
  · exact .inr ⟨n, e, full, h1, rfl, pre_get p h2⟩
theorem OwnR.lo {h0 h1 h : AH} {v : Value} {ns : List Int} (o : OwnR h0 h v ns) (p : h1.length ≤ h0.length) : OwnR h1 h v ns := by
  rcases o with ⟨rfl, rfl⟩ | ⟨n, e, full, q1, rfl, h2⟩
  · exact .inl ⟨rfl, rfl⟩
  · exact .inr ⟨n, e, full, by omega, rfl, h2⟩
/-- One block alone changes. -/
structure Only (o : Option Nat) (h h' : AH) : Prop where
  len : h'.length = h.length
  same : ∀ n, o ≠ some n → h'[n]? = h[n]?
theorem Only.get {o : Option Nat} {h h' : AH} (w : Only o h h') (n : Nat) (hn : o ≠ some n) : h'.get n = h.get n := by
  unfold AH.get
  rw [w.same n hn]
theorem Only.refl (o : Option Nat) (h : AH) : Only o h h := ⟨rfl, fun _ _ => rfl⟩
theorem OwnR.only {h0 h h' : AH} {v : Value} {ns : List Int} {o : Option Nat} (q : OwnR h0 h v ns) (w : Only o h h') (hn : ∀ n, o = some n → n < h0.length) : OwnR h0 h' v ns := by
  rcases q with ⟨rfl, rfl⟩ | ⟨n, e, full, h1, rfl, h2⟩
  · exact .inl ⟨rfl, rfl⟩
  · exact .inr ⟨n, e, full, h1, rfl, by rw [w.get n (fun e => by have := hn n e; omega)]; exact h2⟩
theorem OwnR.blk {h0 h : AH} {v : Value} {ns : List Int} (o : OwnR h0 h v ns) : ∀ n, blkOf v = some n → h0.length ≤ n ∧ n < h.length := by
  rcases o with ⟨rfl, rfl⟩ | ⟨n, e, full, h1, rfl, h2⟩
  · intro n hn; cases hn
  · intro m hm
    cases hm
    exact ⟨h1, get_lt h2⟩
theorem OwnR.only' {h0 h h' : AH} {v : Value} {ns : List Int} {o : Option Nat} (q : OwnR h0 h v ns) (w : Only o h h') (hn : ∀ n, o = some n → h.length ≤ n ∨ blkOf v ≠ some n) : OwnR h0 h' v ns := by
  rcases q with ⟨rfl, rfl⟩ | ⟨n, e, full, h1, rfl, h2⟩
  · exact .inl ⟨rfl, rfl⟩
  · refine .inr ⟨n, e, full, h1, rfl, ?_⟩
    rw [w.get n (fun e => ?_)]
    · exact h2
    · rcases hn n e with q | q
      · have := get_lt h2; omega
      · exact q rfl
theorem Only.pre {h0 h h' : AH} {o : Option Nat} (w : Only o h h') (p : h0 <+: h) (hn : ∀ n, o = some n → h0.length ≤ n) : h0 <+: h' := by
  rw [List.prefix_iff_getElem?] at p ⊢
  intro i hi
  rw [w.same i (fun e => by have := hn i e; omega)]
  exact p i hi

def marks (k : Int) (n : Nat) : List Int := (List.range n).map fun i => k + (i : Nat)
def markN (ns : List Int) (k : Int) (i : Nat) : List Int := marks k i ++ ns.drop i
theorem marks_len {k : Int} {n : Nat} : (marks k n).length = n := by simp [marks]
theorem markN_len {ns : List Int} {k : Int} {i : Nat} (hi : i ≤ ns.length) : (markN ns k i).length = ns.length := by simp [markN, marks_len]; omega
theorem markN_all {ns : List Int} {k : Int} : markN ns k ns.length = marks k ns.length := by simp [markN]
theorem markN_zero {ns : List Int} {k : Int} : markN ns k 0 = ns := by simp [markN, marks]
theorem markN_set {ns : List Int} {k : Int} {i : Nat} (hi : i < ns.length) : (markN ns k i).set i (k + (i : Nat)) = markN ns k (i + 1) := by
  unfold markN
  rw [List.set_append_right _ _ (by rw [marks_len]; omega), marks_len, Nat.sub_self, List.drop_eq_getElem_cons hi, List.set_cons_zero]
  simp [marks, List.range_succ]
theorem marks_get {k : Int} {n i : Nat} (hi : i < n) : (marks k n).getD i 0 = k + (i : Nat) := by
  simp [marks, List.getD_eq_getElem?_getD, List.getElem?_map, List.getElem?_range hi]

theorem l_markInt64S {v : Value} {ns : List Int} {k : Int} {h0 h : AH} {Q : Value → AH → Prop} (o : OwnR h0 h v ns) (hl : (ns.length : Int) ≤ 1048576) (hk : 0 ≤ k ∧ k ≤ 1099511627776)
    (hQ : ∀ h', Only (blkOf v) h h' → OwnR h0 h' v (marks k ns.length) → Q (I64 (k + ns.length)) h') : WF S 52 [v, I64 k] h Q := by
  refine WF_fn (fn := c52) rfl rfl ?_
  unfold c52
  try simp (maxSteps := 3000000) (disch := first | omega | (simp only [len_new, len_put, len_kill]; omega)) only [↓xpre, xpost, ↓reduceIte, Nat.reduceEqDiff, Nat.reduceAdd, Nat.reduceSub, Nat.reduceLeDiff, Nat.zero_add, Nat.sub_zero]
  rcases o with ⟨rfl, rfl⟩ | ⟨b, e, full, hb0, rfl, hb⟩
  · refine WC_loop ?_
    try simp (maxSteps := 3000000) (disch := first | omega | (simp only [len_new, len_put, len_kill]; omega)) only [↓xpre, xpost, ↓reduceIte, Nat.reduceEqDiff, Nat.reduceAdd, Nat.reduceSub, Nat.reduceLeDiff, Nat.zero_add, Nat.sub_zero, IfW_dec]
    refine ⟨fun hlt => by simp at hlt, fun _ => ?_⟩
    have := hQ _ (Only.refl _ _) (.inl ⟨rfl, rfl⟩)
    simpa using this
  · refine WC_loop_inv (fun n f h1 => ∃ i : Nat, n = ns.length - i ∧ i ≤ ns.length ∧ f 0 = .slice (some ⟨b, 0, none⟩) ns.length 1 ∧ f 1 = I64 (k + (i : Nat)) ∧ f 5 = I64 i ∧
      h1.get b = some ⟨(markN ns k i).map (Value.int .i64), e, false, full⟩ ∧ Only (some b) h h1) ?_ ns.length _ _ ⟨0, rfl, Nat.zero_le _, rfl, by simp [upd_apply], rfl, by rw [markN_zero]; exact hb, Only.refl _ _⟩
    rintro n f h1 ⟨i, rfl, hi, f0, f1, f5, hg, ho⟩
    try simp (maxSteps := 3000000) (disch := first | omega | (simp only [len_new, len_put, len_kill]; omega)) only [↓xpre, xpost, ↓reduceIte, Nat.reduceEqDiff, Nat.reduceAdd, Nat.reduceSub, Nat.reduceLeDiff, Nat.zero_add, Nat.sub_zero, f0, f1, f5, IfW_dec]
    refine ⟨fun hlt => ?_, fun hge => ?_⟩
    · try simp (maxSteps := 3000000) (disch := first | omega | (simp only [len_new, len_put, len_kill]; omega)) only [↓xpre, xpost, ↓reduceIte, Nat.reduceEqDiff, Nat.reduceAdd, Nat.reduceSub, Nat.reduceLeDiff, Nat.zero_add, Nat.sub_zero, f0, f1, f5, ixsV_some]
      refine ⟨⟨by omega, hlt⟩, ?_⟩
      try simp (maxSteps := 3000000) (disch := first | omega | (simp only [len_new, len_put, len_kill]; omega)) only [↓xpre, xpost, ↓reduceIte, Nat.reduceEqDiff, Nat.reduceAdd, Nat.reduceSub, Nat.reduceLeDiff, Nat.zero_add, Nat.sub_zero, wr_of hg]
      have hlm := markN_len (k := k) hi
      refine ⟨by simp [hlm]; omega, ?_⟩
      try simp (maxSteps := 3000000) (disch := first | omega | (simp only [len_new, len_put, len_kill]; omega)) only [↓xpre, xpost, ↓reduceIte, Nat.reduceEqDiff, Nat.reduceAdd, Nat.reduceSub, Nat.reduceLeDiff, Nat.zero_add, Nat.sub_zero, f0, f1, f5, wrap64_in]
      refine InvQ_go (ns.length - (i + 1)) (by omega) ⟨i + 1, rfl, by omega, f0, ?_, rfl, ?_, ?_⟩
      · show I64 (k + (i : Int) + 1) = I64 (k + ((i + 1 : Nat) : Int))
        congr 1
        omega
      · rw [get_put_same (get_lt hg)]
        have e1 : ((i : Int).toNat * 1) = i := by omega
        simp only [e1, Nat.zero_add]
        rw [splice_map (by rw [hlm]; omega), markN_set (by omega)]
      · refine ⟨by rw [len_put]; exact ho.len, fun n hn => ?_⟩
        unfold AH.put
        rw [List.getElem?_set_ne (fun e => hn (by rw [e]))]
        exact ho.same n hn
    · have e : i = ns.length := by omega
      subst e
      try simp (maxSteps := 3000000) (disch := first | omega | (simp only [len_new, len_put, len_kill]; omega)) only [↓xpre, xpost, ↓reduceIte, Nat.reduceEqDiff, Nat.reduceAdd, Nat.reduceSub, Nat.reduceLeDiff, Nat.zero_add, Nat.sub_zero, f0, f1, f5]
      refine hQ _ ho (.inr ⟨b, e, full, hb0, by rw [marks_len], ?_⟩)
      rw [hg, markN_all]

theorem l_heldInt64S {v : Value} {k : Int} {n : Nat} {h : AH} {Q : Value → AH → Prop} (hv : Ints h v (marks k n)) (hl : (n : Int) ≤ 1048576) (hk : 0 ≤ k ∧ k ≤ 1099511627776)
    (hQ : Q (I64 (k + n)) h) : WF S 55 [v, I64 k] h Q := by
  refine WF_fn (fn := c55) rfl rfl ?_
  unfold c55
  try simp (maxSteps := 3000000) (disch := first | omega | (simp only [len_new, len_put, len_kill]; omega)) only [↓xpre, xpost, ↓reduceIte, Nat.reduceEqDiff, Nat.reduceAdd, Nat.reduceSub, Nat.reduceLeDiff, Nat.zero_add, Nat.sub_zero]
  have hn : (marks k n).length = n := marks_len
  refine WC_loop_inv (fun m f h1 => ∃ i : Nat, m = n - i ∧ i ≤ n ∧ f 0 = v ∧ f 1 = I64 (k + (i : Nat)) ∧ f 5 = I64 i ∧ h1 = h) ?_ n _ _ ⟨0, rfl, Nat.zero_le _, rfl, by simp [upd_apply], rfl, rfl⟩
  rintro m f h1 ⟨i, rfl, hi, f0, f1, f5, rfl⟩
  have hlen := hv.len
  rw [hn] at hlen
  try simp (maxSteps := 3000000) (disch := first | omega | (simp only [len_new, len_put, len_kill]; omega)) only [↓xpre, xpost, ↓reduceIte, Nat.reduceEqDiff, Nat.reduceAdd, Nat.reduceSub, Nat.reduceLeDiff, Nat.zero_add, Nat.sub_zero, f0, f1, f5, hlen, IfW_dec]
  refine ⟨fun hlt => ?_, fun hge => ?_⟩
  · have e := marks_get (k := k) (n := n) (i := i) (by omega)
    have hix := hv.ix (k := .i64) (j := i) (by omega) (by omega)
    have hrd := hv.rd (j := i) (by omega) (by omega)
    simp only [nth, Int.toNat_natCast, e] at hrd
    try simp (maxSteps := 3000000) (disch := first | omega | (simp only [len_new, len_put, len_kill]; omega)) only [↓xpre, xpost, ↓reduceIte, Nat.reduceEqDiff, Nat.reduceAdd, Nat.reduceSub, Nat.reduceLeDiff, Nat.zero_add, Nat.sub_zero, f0, f1, f5, hix, hrd, ne_eq, not_true_eq_false, wrap64_in]
    refine InvQ_go (n - (i + 1)) (by omega) ⟨i + 1, rfl, by omega, f0, ?_, rfl, rfl⟩
    show I64 (k + (i : Int) + 1) = I64 (k + ((i + 1 : Nat) : Int))
    congr 1
    omega
  · have e : i = n := by omega
    subst e
    try simp (maxSteps := 3000000) (disch := first | omega | (simp only [len_new, len_put, len_kill]; omega)) only [↓xpre, xpost, ↓reduceIte, Nat.reduceEqDiff, Nat.reduceAdd, Nat.reduceSub, Nat.reduceLeDiff, Nat.zero_add, Nat.sub_zero, f0, f1, f5]
    exact hQ
end Go.Proofs.Ytnjhhgfpclngcaa.X
