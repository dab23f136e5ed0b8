/- Data of one's own within a range of blocks; what the laws do with them: sizes, copies, comparisons, marks and holds, one form for each kind. -/
import Derived.Test.YtnjhhgfpclngcaaXF30
set_option linter.unusedVariables false
set_option linter.unusedSimpArgs false
set_option maxRecDepth 20000
set_option maxHeartbeats 4000000
namespace Go.Proofs.Ytnjhhgfpclngcaa.X
open Go Go.RowKit

/-- Only blocks within a range change. -/
structure OnlyR (a b : Nat) (h h' : AH) : Prop where
  len : h'.length = h.length
  same : ∀ n, ¬ (a ≤ n ∧ n < b) → h'[n]? = h[n]?
theorem OnlyR.refl (a b : Nat) (h : AH) : OnlyR a b h h := ⟨rfl, fun _ _ => rfl⟩
theorem OnlyR.trans {a b : Nat} {h h' h'' : AH} (w : OnlyR a b h h') (w' : OnlyR a b h' h'') : OnlyR a b h h'' := ⟨w'.len.trans w.len, fun n hn => (w'.same n hn).trans (w.same n hn)⟩
theorem OnlyR.get {a b n : Nat} {h h' : AH} (w : OnlyR a b h h') (hn : ¬ (a ≤ n ∧ n < b)) : h'.get n = h.get n := by
  unfold AH.get
  rw [w.same n hn]
theorem OnlyR.get' {a b n : Nat} {h h' : AH} {c : Blk} (w : OnlyR a b h h') (hb : h.get n = some c) (hn : n < a ∨ b ≤ n) : h'.get n = some c := by
  rw [w.get (by omega)]
  exact hb
theorem OnlyR.pre {a b : Nat} {h0 h h' : AH} (w : OnlyR a b h h') (p : h0 <+: h) (hn : h0.length ≤ a) : h0 <+: h' := by
  rw [List.prefix_iff_getElem?] at p ⊢
  intro i hi
  rw [w.same i (by omega)]
  exact p i hi
theorem Only.range {o : Option Nat} {a b : Nat} {h h' : AH} (w : Only o h h') (hn : ∀ n, o = some n → a ≤ n ∧ n < b) : OnlyR a b h h' := ⟨w.len, fun n q => w.same n (fun e => q (hn n e))⟩

/-! ### Lists of numbers -/
def InS (a b : Nat) (h : AH) (v : Value) (ns : List Int) : Prop :=
  (v = .slice none 0 0 ∧ ns = []) ∨ ∃ n e full, (a ≤ n ∧ n < b) ∧ v = .slice (some ⟨n, 0, none⟩) ns.length 1 ∧ h.get n = some ⟨ns.map (Value.int .i64), e, false, full⟩
section
variable {a b c d : Nat} {h h' h0 : AH} {v : Value} {ns : List Int}
theorem InS.rd (o : InS a b h v ns) : Ints h v ns := by
  rcases o with ⟨rfl, rfl⟩ | ⟨n, e, full, h1, rfl, h2⟩
  · exact .inl ⟨rfl, 0, by omega, rfl⟩
  · exact Ints.own h2 rfl
theorem InS.pre (o : InS a b h v ns) (p : h <+: h') : InS a b h' v ns := by
  rcases o with ⟨rfl, rfl⟩ | ⟨n, e, full, h1, rfl, h2⟩
  · exact .inl ⟨rfl, rfl⟩
  · exact .inr ⟨n, e, full, h1, rfl, pre_get p h2⟩
theorem InS.only (o : InS a b h v ns) (w : OnlyR c d h h') (hd : b ≤ c ∨ d ≤ a) : InS a b h' v ns := by
  rcases o with ⟨rfl, rfl⟩ | ⟨n, e, full, h1, rfl, h2⟩
  · exact .inl ⟨rfl, rfl⟩
  · exact .inr ⟨n, e, full, h1, rfl, w.get' h2 (by omega)⟩
theorem InS.wide (o : InS a b h v ns) (h1 : c ≤ a) (h2 : b ≤ d) : InS c d h v ns := by
  rcases o with ⟨rfl, rfl⟩ | ⟨n, e, full, h1, rfl, h2⟩
  · exact .inl ⟨rfl, rfl⟩
  · exact .inr ⟨n, e, full, by omega, rfl, h2⟩
theorem OwnR.inS (o : OwnR h0 h v ns) : InS h0.length h.length h v ns := by
  rcases o with ⟨rfl, rfl⟩ | ⟨n, e, full, h1, rfl, h2⟩
  · exact .inl ⟨rfl, rfl⟩
  · exact .inr ⟨n, e, full, ⟨h1, get_lt h2⟩, rfl, h2⟩
theorem InS.ownR (o : InS a b h v ns) : OwnR (List.replicate a none) h v ns := by
  rcases o with ⟨rfl, rfl⟩ | ⟨n, e, full, h1, rfl, h2⟩
  · exact .inl ⟨rfl, rfl⟩
  · exact .inr ⟨n, e, full, by simpa using h1.1, rfl, h2⟩
theorem InS.blk (o : InS a b h v ns) : ∀ n, blkOf v = some n → a ≤ n ∧ n < b := by
  rcases o with ⟨rfl, rfl⟩ | ⟨n, e, full, h1, rfl, h2⟩
  · intro n hn; cases hn
  · intro m hm
    cases hm
    exact h1
theorem OwnR.back {k : List (Option Blk)} (o : OwnR k h v ns) (hb : ∀ n, blkOf v = some n → a ≤ n ∧ n < b) : InS a b h v ns := by
  rcases o with ⟨rfl, rfl⟩ | ⟨n, e, full, h1, rfl, h2⟩
  · exact .inl ⟨rfl, rfl⟩
  · exact .inr ⟨n, e, full, hb n rfl, rfl, h2⟩
end
def SmallS (ns : List Int) : Prop := (ns.length : Int) ≤ 1048576
def cntS (ns : List Int) : Int := ns.length
theorem gsz_S {v : Value} {ns : List Int} {n : Int} {h : AH} {Q : Value → AH → Prop} (hv : Ints h v ns) (h0 : 0 ≤ n ∧ n ≤ 1048576) (hl : (ns.length : Int) ≤ 9223372036854775807)
    (hQ : ∀ (m : Int) h', h <+: h' → m ≤ n → (0 ≤ m → SmallS ns) → Q (I64 m) h') : WF S 57 [v, I64 n] h Q :=
  l_szInt64S hv h0 hl fun m h1 h2 => hQ m h (List.prefix_refl _) h1 fun h3 => by have := (h2 h3).1; unfold SmallS; omega
theorem gto_S {v : Value} {ns : List Int} {h : AH} {Q : Value → AH → Prop} (hv : Ints h v ns) (hl : SmallS ns)
    (hQ : ∀ v' h', h <+: h' → InS h.length h'.length h' v' ns → Q v' h') : WF S 49 [v] h Q :=
  l_toInt64S hv hl fun v' h' p o => hQ v' h' p o.ownR.inS
theorem geq_S {v v' : Value} {ns : List Int} {h : AH} {Q : Value → AH → Prop} (hv : Ints h v ns) (hv' : Ints h v' ns) (hl : SmallS ns)
    (hQ : ∀ h', h <+: h' → Q (.bool true) h') : WF S 51 [v, v'] h Q :=
  l_eqInt64S hv hv' hl (by rw [decide_eq_true rfl]; exact hQ h (List.prefix_refl _))
theorem gmark_S {v : Value} {ns : List Int} {k : Int} {a b : Nat} {h : AH} {Q : Value → AH → Prop} (o : InS a b h v ns) (hl : SmallS ns) (hk : 0 ≤ k ∧ k ≤ 1099511627776)
    (hQ : ∀ J h', h <+: J → OnlyR a b J h' → InS a b h' v (marks k ns.length) → Q (I64 (k + cntS ns)) h') : WF S 52 [v, I64 k] h Q :=
  l_markInt64S o.ownR hl hk fun h' w o' => hQ h h' (List.prefix_refl _) (w.range o.blk) (o'.back o.blk)
theorem gheld_S {v : Value} {ns : List Int} {k : Int} {h : AH} {Q : Value → AH → Prop} (hv : Ints h v (marks k ns.length)) (hl : SmallS ns) (hk : 0 ≤ k ∧ k ≤ 1099511627776)
    (hQ : ∀ h', h <+: h' → Q (I64 (k + cntS ns)) h') : WF S 55 [v, I64 k] h Q :=
  l_heldInt64S hv hl hk (hQ h (List.prefix_refl _))

theorem cntS_le {ns : List Int} (h : SmallS ns) : 0 ≤ cntS ns ∧ cntS ns ≤ 1048576 := ⟨Int.natCast_nonneg _, h⟩

/-! ### Tensors -/
theorem gsz_T {v : Value} {t : Ten} {n : Int} {h : AH} {Q : Value → AH → Prop} (hv : Ints h v t.ns) (h0 : 0 ≤ n ∧ n ≤ 1048576) (hl : (t.ns.length : Int) ≤ 9223372036854775807)
    (hQ : ∀ (m : Int) h', h <+: h' → m ≤ n → (0 ≤ m → SmallS t.ns) → Q (I64 m) h') : WF S 17 [tenV t v, I64 n] h Q :=
  l_szTensor hv h0 hl fun m h' p h1 h2 => hQ m h' p h1 fun h3 => by have := (h2 h3).1; unfold SmallS; omega
theorem gto_T {v : Value} {t : Ten} {h : AH} {Q : Value → AH → Prop} (hv : Ints h v t.ns) (hl : SmallS t.ns)
    (hQ : ∀ v' h', h <+: h' → InS h.length h'.length h' v' t.ns → Q (tenV t v') h') : WF S 19 [tenV t v] h Q :=
  l_toTensor hv hl fun v' h' p o => hQ v' h' p o.ownR.inS
theorem geq_T {v v' : Value} {t : Ten} {h : AH} {Q : Value → AH → Prop} (hv : Ints h v t.ns) (hv' : Ints h v' t.ns) (hl : SmallS t.ns)
    (hQ : ∀ h', h <+: h' → Q (.bool true) h') : WF S 21 [tenV t v, tenV t v'] h Q :=
  l_eqTensor hv hv' hl fun h' p => by rw [decide_eq_true rfl]; exact hQ h' p
theorem gmark_T {v : Value} {t : Ten} {k : Int} {a b : Nat} {h : AH} {Q : Value → AH → Prop} (o : InS a b h v t.ns) (hl : SmallS t.ns) (hk : 0 ≤ k ∧ k ≤ 1099511627776)
    (hQ : ∀ J h', h <+: J → OnlyR a b J h' → InS a b h' v (marks k t.ns.length) → Q (I64 (k + cntS t.ns)) h') : WF S 31 [tenV t v, I64 k] h Q :=
  l_markTensor o.ownR hl hk fun J h' p w o' => hQ J h' p (w.range o.blk) (o'.back o.blk)
theorem gheld_T {v : Value} {t : Ten} {k : Int} {h : AH} {Q : Value → AH → Prop} (hv : Ints h v (marks k t.ns.length)) (hl : SmallS t.ns) (hk : 0 ≤ k ∧ k ≤ 1099511627776)
    (hQ : ∀ h', h <+: h' → Q (I64 (k + cntS t.ns)) h') : WF S 32 [tenV t v, I64 k] h Q :=
  l_heldTensor hv hl hk hQ

/-! ### Lists of lists -/
def InM (a b : Nat) (h : AH) (v : Value) (rows : List (List Int)) : Prop :=
  (v = .slice none 0 0 ∧ rows = []) ∨ ∃ n e full cs, (a ≤ n ∧ n < b) ∧ v = .slice (some ⟨n, 0, none⟩) cs.length 1 ∧ h.get n = some ⟨cs, e, false, full⟩ ∧ cs.length = rows.length ∧
    (∀ i, i < rows.length → InS a b h (cs.getD i undef) (rows.getD i []) ∧ blkOf (cs.getD i undef) ≠ some n) ∧
    ∀ i j, i < j → j < rows.length → ∀ q, blkOf (cs.getD i undef) = some q → blkOf (cs.getD j undef) ≠ some q
section
variable {a b c d : Nat} {h h' h0 : AH} {v : Value} {rows : List (List Int)}
theorem InM.rd (o : InM a b h v rows) : Rows h v rows := by
  rcases o with ⟨rfl, rfl⟩ | ⟨n, e, full, cs, h1, rfl, h2, h3, h4, h5⟩
  · exact ⟨[], .inl ⟨rfl, 0, by omega, rfl⟩, rfl, fun i hi => by simp at hi⟩
  · refine ⟨cs, .inr ⟨n, 0, _, rfl, h2, by simp, fun i hi => ?_⟩, h3, fun i hi => (h4 i hi).1.rd⟩
    rw [Nat.zero_add, List.getD_eq_getElem?_getD, List.getElem?_eq_getElem hi]
    rfl
theorem InM.pre (o : InM a b h v rows) (p : h <+: h') : InM a b h' v rows := by
  rcases o with ⟨rfl, rfl⟩ | ⟨n, e, full, cs, h1, rfl, h2, h3, h4, h5⟩
  · exact .inl ⟨rfl, rfl⟩
  · exact .inr ⟨n, e, full, cs, h1, rfl, pre_get p h2, h3, fun i hi => ⟨(h4 i hi).1.pre p, (h4 i hi).2⟩, h5⟩
theorem InM.only (o : InM a b h v rows) (w : OnlyR c d h h') (hd : b ≤ c ∨ d ≤ a) : InM a b h' v rows := by
  rcases o with ⟨rfl, rfl⟩ | ⟨n, e, full, cs, h1, rfl, h2, h3, h4, h5⟩
  · exact .inl ⟨rfl, rfl⟩
  · exact .inr ⟨n, e, full, cs, h1, rfl, w.get' h2 (by omega), h3, fun i hi => ⟨(h4 i hi).1.only w hd, (h4 i hi).2⟩, h5⟩
theorem OwnRows.inM (o : OwnRows h0 h v rows) : InM h0.length h.length h v rows := by
  rcases o with ⟨rfl, rfl⟩ | ⟨n, e, full, cs, h1, rfl, h2, h3, h4, h5⟩
  · exact .inl ⟨rfl, rfl⟩
  · exact .inr ⟨n, e, full, cs, ⟨h1, get_lt h2⟩, rfl, h2, h3, fun i hi => ⟨(h4 i hi).1.inS, (h4 i hi).2⟩, h5⟩
end
def SmallM (rows : List (List Int)) : Prop := (rows.length : Int) ≤ 1048576 ∧ (∀ i, i < rows.length → ((rows.getD i []).length : Int) ≤ 1048576) ∧ tot rows rows.length ≤ 1048576
def cntM (rows : List (List Int)) : Int := tot rows rows.length
@[simp] theorem tot_zero {rows : List (List Int)} : tot rows 0 = 0 := by simp [tot]
theorem tot_nn {rows : List (List Int)} : ∀ {i : Nat}, 0 ≤ tot rows i
  | 0 => by simp [tot]
  | i + 1 => by
    by_cases h : i < rows.length
    · rw [tot_succ h]
      have := tot_nn (rows := rows) (i := i)
      omega
    · have := tot_nn (rows := rows) (i := i)
      unfold tot at *
      rw [List.take_of_length_le (by omega)] at *
      exact this
theorem tot_le {rows : List (List Int)} {i : Nat} : ∀ {m : Nat}, tot rows i ≤ tot rows (i + m)
  | 0 => Int.le_refl _
  | m + 1 => by
    have q := tot_le (rows := rows) (i := i) (m := m)
    by_cases h : i + m < rows.length
    · have := tot_succ h
      rw [show i + (m + 1) = i + m + 1 by omega]
      omega
    · unfold tot at *
      rw [List.take_of_length_le (show rows.length ≤ i + (m + 1) by omega)]
      rw [List.take_of_length_le (show rows.length ≤ i + m by omega)] at q
      exact q
theorem gsz_M {v : Value} {rows : List (List Int)} {n : Int} {h : AH} {Q : Value → AH → Prop} (hv : Rows h v rows) (h0 : 0 ≤ n ∧ n ≤ 1048576) (hl : (rows.length : Int) ≤ 9223372036854775807)
    (hl' : ∀ i, i < rows.length → ((rows.getD i []).length : Int) ≤ 9223372036854775807)
    (hQ : ∀ (m : Int) h', h <+: h' → m ≤ n → (0 ≤ m → SmallM rows) → Q (I64 m) h') : WF S 39 [v, I64 n] h Q :=
  l_szInt64SS hv h0 hl hl' fun m h1 h2 => hQ m h (List.prefix_refl _) h1 fun h3 => by
    obtain ⟨e1, e2⟩ := h2 h3
    have := tot_nn (rows := rows) (i := rows.length)
    exact ⟨by omega, fun i hi => by have := e2 i hi; omega, by omega⟩
theorem gto_M {v : Value} {rows : List (List Int)} {h : AH} {Q : Value → AH → Prop} (hv : Rows h v rows) (hl : SmallM rows)
    (hQ : ∀ v' h', h <+: h' → InM h.length h'.length h' v' rows → Q v' h') : WF S 41 [v] h Q :=
  l_toInt64SS hv hl.1 hl.2.1 fun v' h' p o => hQ v' h' p o.inM
theorem geq_M {v v' : Value} {rows : List (List Int)} {h : AH} {Q : Value → AH → Prop} (hv : Rows h v rows) (hv' : Rows h v' rows) (hl : SmallM rows)
    (hQ : ∀ h', h <+: h' → Q (.bool true) h') : WF S 43 [v, v'] h Q :=
  l_eqInt64SS hv hv' hl.1 hl.2.1 (by rw [decide_eq_true rfl]; exact hQ h (List.prefix_refl _))
theorem cntM_le {rows : List (List Int)} (h : SmallM rows) : 0 ≤ cntM rows ∧ cntM rows ≤ 1048576 := ⟨tot_nn, h.2.2⟩
def markM (k : Int) (rows : List (List Int)) (i : Nat) : List (List Int) := (List.range rows.length).map fun j => if j < i then marks (k + tot rows j) (rows.getD j []).length else rows.getD j []
theorem markM_len {k : Int} {rows : List (List Int)} {i : Nat} : (markM k rows i).length = rows.length := by simp [markM]
theorem markM_get {k : Int} {rows : List (List Int)} {i j : Nat} (hj : j < rows.length) : (markM k rows i).getD j [] = if j < i then marks (k + tot rows j) (rows.getD j []).length else rows.getD j [] := by
  simp [markM, List.getD_eq_getElem?_getD, List.getElem?_map, List.getElem?_range hj]
theorem gmark_M {v : Value} {rows : List (List Int)} {k : Int} {a b : Nat} {h : AH} {Q : Value → AH → Prop} (o : InM a b h v rows) (hl : SmallM rows) (hk : 0 ≤ k ∧ k ≤ 549755813888)
    (hQ : ∀ J h', h <+: J → OnlyR a b J h' → InM a b h' v (markM k rows rows.length) → Q (I64 (k + cntM rows)) h') : WF S 46 [v, I64 k] h Q := by
  refine WF_fn (fn := c46) rfl rfl ?_
  unfold c46
  try simp (maxSteps := 3000000) (disch := first | omega | (simp only [len_new, len_put, len_kill]; omega)) only [↓xpre, xpost, ↓reduceIte, Nat.reduceEqDiff, Nat.reduceAdd, Nat.reduceSub, Nat.reduceLeDiff, Nat.zero_add, Nat.sub_zero]
  rcases o with ⟨rfl, rfl⟩ | ⟨n, e, full, cs, hab, rfl, hg, hcl, hr, hd⟩
  · refine WC_loop ?_
    try simp (maxSteps := 3000000) (disch := first | omega | (simp only [len_new, len_put, len_kill]; omega)) only [↓xpre, xpost, ↓reduceIte, Nat.reduceEqDiff, Nat.reduceAdd, Nat.reduceSub, Nat.reduceLeDiff, Nat.zero_add, Nat.sub_zero, IfW_dec]
    refine ⟨fun hlt => by simp at hlt, fun _ => ?_⟩
    have := hQ h _ (List.prefix_refl _) (OnlyR.refl _ _ _) (.inl ⟨rfl, by simp [markM]⟩)
    simpa [cntM, tot] using this
  · obtain ⟨l1, l2, l3⟩ := hl
    rw [hcl]
    refine WC_loop_inv (fun m f K1 => ∃ (i : Nat), m = rows.length - i ∧ i ≤ rows.length ∧ f 0 = .slice (some ⟨n, 0, none⟩) rows.length 1 ∧ f 1 = I64 (k + tot rows i) ∧ f 5 = I64 i ∧ (K1.get n = some ⟨cs, e, false, full⟩) ∧ (OnlyR a b h K1) ∧ (∀ j, j < rows.length → InS a b K1 (cs.getD j undef) ((markM k rows i).getD j []))) ?_ (rows.length - 0) _ _ ⟨0, rfl, by omega, (by first | rfl | (simp [upd_apply]; done)), (by first | rfl | (simp [upd_apply]; done)), (by first | rfl | (simp [upd_apply]; done)), hg, OnlyR.refl _ _ _, fun j hj => by rw [markM_get hj, if_neg (by omega)]; exact (hr j hj).1⟩
    rintro m f K1 ⟨i, rfl, hi, f0, f1, f5, hg1, w1, hin⟩
    have tn := tot_nn (rows := rows) (i := i)
    have tl := tot_le (rows := rows) (i := i) (m := rows.length - i)
    rw [show i + (rows.length - i) = rows.length by omega] at tl
    try simp (maxSteps := 3000000) (disch := first | omega | (simp only [len_new, len_put, len_kill]; omega)) only [↓xpre, xpost, ↓reduceIte, Nat.reduceEqDiff, Nat.reduceAdd, Nat.reduceSub, Nat.reduceLeDiff, Nat.zero_add, Nat.sub_zero, f0, f1, f5, IfW_dec, hcl]
    refine ⟨fun hlt => ?_, fun hge => ?_⟩
    · have hi' : i < rows.length := by omega
      have hix : ixsV 1 (.slice (some ⟨n, 0, none⟩) rows.length 1) (I64 i) = some (.pointer (some ⟨n, i, none⟩)) := by
        rw [ixsV_some, if_pos (by omega)]
        simp
      have hrd : K1.rd1 n i = some (cs.getD i undef) := by
        rw [rd1_of hg1, List.getD_eq_getElem?_getD]
        simp only
        rw [List.getElem?_eq_getElem (show i < cs.length by omega)]
        rfl
      have oi := hin i hi'
      rw [markM_get hi', if_neg (by omega)] at oi
      have ts := tot_succ hi'
      try simp (maxSteps := 3000000) (disch := first | omega | (simp only [len_new, len_put, len_kill]; omega)) only [↓xpre, xpost, ↓reduceIte, Nat.reduceEqDiff, Nat.reduceAdd, Nat.reduceSub, Nat.reduceLeDiff, Nat.zero_add, Nat.sub_zero, f0, f1, f5, hix, hrd, hcl]
      refine l_markInt64S oi.ownR (l2 i hi') (by omega) fun h' w o' => ?_
      try simp (maxSteps := 3000000) (disch := first | omega | (simp only [len_new, len_put, len_kill]; omega)) only [↓xpre, xpost, ↓reduceIte, Nat.reduceEqDiff, Nat.reduceAdd, Nat.reduceSub, Nat.reduceLeDiff, Nat.zero_add, Nat.sub_zero, f0, f1, f5, wrap64_in]
      have bi := oi.blk
      have ni := (hr i hi').2
      refine InvQ_go (rows.length - (i + 1)) (by omega) ⟨(i + 1), rfl, by omega, (by first | rfl | exact f0 | (simp only [upd_apply]; rfl) | (show I64 _ = _; congr 1; omega)), (by show I64 _ = I64 _; rw [ts, Int.add_assoc]), (by first | rfl | exact f5 | (simp only [upd_apply]; rfl) | (show I64 _ = _; congr 1; omega)), (by rw [w.get n ni]; exact hg1), (w1.trans (w.range bi)), (fun j hj => ?_)⟩
      rw [markM_get hj]
      by_cases hji : j = i
      · subst hji
        rw [if_pos (by omega)]
        exact o'.back bi
      · have oj := hin j hj
        rw [markM_get hj] at oj
        have e1 : (if j < i + 1 then marks (k + tot rows j) (rows.getD j []).length else rows.getD j []) = if j < i then marks (k + tot rows j) (rows.getD j []).length else rows.getD j [] := by
          by_cases h1 : j < i
          · rw [if_pos h1, if_pos (by omega)]
          · rw [if_neg h1, if_neg (by omega)]
        rw [e1]
        refine (oj.ownR.only' w fun m hm => .inr fun em => ?_).back oj.blk
        rcases Nat.lt_or_gt_of_ne hji with q | q
        · exact hd j i q hi' m em hm
        · exact hd i j q hj m hm em
    · have ei : i = rows.length := by omega
      subst ei
      try simp (maxSteps := 3000000) (disch := first | omega | (simp only [len_new, len_put, len_kill]; omega)) only [↓xpre, xpost, ↓reduceIte, Nat.reduceEqDiff, Nat.reduceAdd, Nat.reduceSub, Nat.reduceLeDiff, Nat.zero_add, Nat.sub_zero, f0, f1, f5]
      refine hQ h _ (List.prefix_refl _) w1 (.inr ⟨n, e, full, cs, hab, rfl, hg1, by rw [markM_len]; exact hcl, fun j hj => ?_, fun x y hxy hy => hd x y hxy (by rw [markM_len] at hy; exact hy)⟩)
      rw [markM_len] at hj
      exact ⟨hin j hj, (hr j hj).2⟩
theorem gheld_M {v : Value} {rows : List (List Int)} {k : Int} {h : AH} {Q : Value → AH → Prop} (hv : Rows h v (markM k rows rows.length)) (hl : SmallM rows) (hk : 0 ≤ k ∧ k ≤ 549755813888)
    (hQ : ∀ h', h <+: h' → Q (I64 (k + cntM rows)) h') : WF S 47 [v, I64 k] h Q := by
  refine WF_fn (fn := c47) rfl rfl ?_
  unfold c47
  try simp (maxSteps := 3000000) (disch := first | omega | (simp only [len_new, len_put, len_kill]; omega)) only [↓xpre, xpost, ↓reduceIte, Nat.reduceEqDiff, Nat.reduceAdd, Nat.reduceSub, Nat.reduceLeDiff, Nat.zero_add, Nat.sub_zero]
  obtain ⟨cs, hvv, hcl, hr⟩ := hv
  rw [markM_len] at hcl hr
  obtain ⟨l1, l2, l3⟩ := hl
  refine WC_loop_inv (fun m f K1 => ∃ (i : Nat), m = rows.length - i ∧ i ≤ rows.length ∧ f 0 = v ∧ f 1 = I64 (k + tot rows i) ∧ f 5 = I64 i ∧ K1 = h) ?_ (rows.length - 0) _ _ ⟨0, rfl, by omega, (by first | rfl | (simp [upd_apply]; done)), (by first | rfl | (simp [upd_apply]; done)), (by first | rfl | (simp [upd_apply]; done)), rfl⟩
  rintro m f K1 ⟨i, rfl, hi, f0, f1, f5, rfl⟩
  have tn := tot_nn (rows := rows) (i := i)
  have tl := tot_le (rows := rows) (i := i) (m := rows.length - i)
  rw [show i + (rows.length - i) = rows.length by omega] at tl
  try simp (maxSteps := 3000000) (disch := first | omega | (simp only [len_new, len_put, len_kill]; omega)) only [↓xpre, xpost, ↓reduceIte, Nat.reduceEqDiff, Nat.reduceAdd, Nat.reduceSub, Nat.reduceLeDiff, Nat.zero_add, Nat.sub_zero, f0, f1, f5, hvv.len, hcl, IfW_dec]
  refine ⟨fun hlt => ?_, fun hge => ?_⟩
  · have hi' : i < rows.length := by omega
    have hix := hvv.ix (k := .i64) (j := i) (by omega) (by omega)
    have hrd := hvv.rd (j := i) (by omega) (by omega)
    have ri := hr i hi'
    rw [markM_get hi', if_pos hi'] at ri
    have ts := tot_succ hi'
    try simp (maxSteps := 3000000) (disch := first | omega | (simp only [len_new, len_put, len_kill]; omega)) only [↓xpre, xpost, ↓reduceIte, Nat.reduceEqDiff, Nat.reduceAdd, Nat.reduceSub, Nat.reduceLeDiff, Nat.zero_add, Nat.sub_zero, f0, f1, f5, hix, hrd, Int.toNat_natCast]
    refine l_heldInt64S ri (l2 i hi') (by omega) ?_
    try simp (maxSteps := 3000000) (disch := first | omega | (simp only [len_new, len_put, len_kill]; omega)) only [↓xpre, xpost, ↓reduceIte, Nat.reduceEqDiff, Nat.reduceAdd, Nat.reduceSub, Nat.reduceLeDiff, Nat.zero_add, Nat.sub_zero, f0, f1, f5, IfW_dec]
    refine ⟨fun hlt => by omega, fun _ => ?_⟩
    try simp (maxSteps := 3000000) (disch := first | omega | (simp only [len_new, len_put, len_kill]; omega)) only [↓xpre, xpost, ↓reduceIte, Nat.reduceEqDiff, Nat.reduceAdd, Nat.reduceSub, Nat.reduceLeDiff, Nat.zero_add, Nat.sub_zero, f0, f1, f5, wrap64_in]
    refine InvQ_go (rows.length - (i + 1)) (by omega) ⟨(i + 1), rfl, by omega, (by first | rfl | exact f0 | (simp only [upd_apply]; rfl) | (show I64 _ = _; congr 1; omega)), (by show I64 _ = I64 _; rw [ts, Int.add_assoc]), (by first | rfl | exact f5 | (simp only [upd_apply]; rfl) | (show I64 _ = _; congr 1; omega)), rfl⟩
  · have ei : i = rows.length := by omega
    subst ei
    try simp (maxSteps := 3000000) (disch := first | omega | (simp only [len_new, len_put, len_kill]; omega)) only [↓xpre, xpost, ↓reduceIte, Nat.reduceEqDiff, Nat.reduceAdd, Nat.reduceSub, Nat.reduceLeDiff, Nat.zero_add, Nat.sub_zero, f0, f1, f5]
    exact hQ _ (List.prefix_refl _)
end Go.Proofs.Ytnjhhgfpclngcaa.X
