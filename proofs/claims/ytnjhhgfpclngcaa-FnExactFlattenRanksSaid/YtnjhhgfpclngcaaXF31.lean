/- Indices of arrays; parts of lists; slices of tensors. -/
import Derived.Test.YtnjhhgfpclngcaaXF30
set_option linter.unusedVariables false
set_option linter.unusedSimpArgs false
set_option maxRecDepth 20000
set_option maxHeartbeats 4000000
namespace Go.Proofs.Ytnjhhgfpclngcaa.X
open Go Go.RowKit

def ixaV (len sz : Nat) (x i : Value) : Option Value := match x, i with
  | .pointer (some ⟨n, off, _⟩), .int _ j => if 0 ≤ j ∧ j < len then some (.pointer (some ⟨n, off + j.toNat * sz, none⟩)) else none
  | _, _ => none
def idx1V (len : Nat) (x i : Value) : Option Value := match x, i with
  | .agg cs, .int _ j => if 0 ≤ j ∧ j < len then cs.toList[j.toNat]? else none
  | _, _ => none
def idxnV (len sz : Nat) (x i : Value) : Option Value := match x, i with
  | .agg cs, .int _ j => if 0 ≤ j ∧ j < len ∧ j.toNat * sz + sz ≤ cs.toList.length then some (.agg ((cs.toList.drop (j.toNat * sz)).take sz).toArray) else none
  | _, _ => none
theorem WX_of {S : XS} {o : XOp} {f : Fr} {h : AH} {Q : Value → AH → Prop} {r : Option Value} (ho : ∀ C, xrun C o f h = xop o f h) (e : xop o f h = r.map (·, h)) : WX S o f h Q = WV r fun v => Q v h := by
  rw [WX_op ho, e]
  cases r <;> simp [OQ_some, WV_some, OQ_none, WV_none]
theorem WX_ixa {S : XS} {f : Fr} {h : AH} {Q : Value → AH → Prop} {n sz : Nat} {x y : Operand} : WX S (.ixa n sz x y) f h Q = WV (ixaV n sz (ev f x) (ev f y)) fun v => Q v h := by
  refine WX_of (fun _ => rfl) ?_
  simp only [xop, ixaV]
  generalize ev f x = a
  generalize ev f y = b
  split
  · dsimp only
    split <;> rfl
  · rename_i q
    split
    · exact absurd rfl (q _ _ _ _ _ rfl)
    · rfl
theorem ixaV_ptr {len sz n off : Nat} {k : IntKind} {j : Int} (h : 0 ≤ j ∧ j < len) : ixaV len sz (.pointer (some ⟨n, off, none⟩)) (.int k j) = some (.pointer (some ⟨n, off + j.toNat * sz, none⟩)) := by
  simp [ixaV, h]
theorem WX_idx1 {S : XS} {f : Fr} {h : AH} {Q : Value → AH → Prop} {n : Nat} {x y : Operand} : WX S (.idx1 n x y) f h Q = WV (idx1V n (ev f x) (ev f y)) fun v => Q v h := by
  refine WX_of (fun _ => rfl) ?_
  simp only [xop, idx1V]
  generalize ev f x = a
  generalize ev f y = b
  split
  · dsimp only
    split
    · rename_i cs _ j _
      cases cs.toList[j.toNat]? <;> rfl
    · rfl
  · rename_i q
    split
    · exact absurd rfl (q _ _ _ rfl)
    · rfl
theorem WX_idxn {S : XS} {f : Fr} {h : AH} {Q : Value → AH → Prop} {n sz : Nat} {x y : Operand} : WX S (.idxn n sz x y) f h Q = WV (idxnV n sz (ev f x) (ev f y)) fun v => Q v h := by
  refine WX_of (fun _ => rfl) ?_
  simp only [xop, idxnV]
  generalize ev f x = a
  generalize ev f y = b
  split
  · dsimp only
    split <;> rfl
  · rename_i q
    split
    · exact absurd rfl (q _ _ _ rfl)
    · rfl

/-! ### Parts -/
def parts (ns : List Int) (w n : Nat) : List (List Int) := (List.range n).map fun i => (ns.drop (i * w)).take w
theorem parts_len {ns : List Int} {w n : Nat} : (parts ns w n).length = n := by simp [parts]
theorem parts_get {ns : List Int} {w n i : Nat} (hi : i < n) : (parts ns w n).getD i [] = (ns.drop (i * w)).take w := by
  simp [parts, List.getD_eq_getElem?_getD, List.getElem?_map, List.getElem?_range hi]
theorem take_next {α : Type} {d : α} {l : List α} {i : Nat} (hi : i < l.length) : l.take (i + 1) = l.take i ++ [l.getD i d] := by
  rw [List.take_succ_eq_append_getElem hi]
  simp [List.getD_eq_getElem?_getD, hi]
theorem OwnRows.lo {h0 h1 h : AH} {v : Value} {rows : List (List Int)} (o : OwnRows h0 h v rows) (p : h1.length ≤ h0.length) : OwnRows h1 h v rows := by
  rcases o with ⟨rfl, rfl⟩ | ⟨n, e, full, cs, h1, rfl, h2, h3, h4, h5⟩
  · exact .inl ⟨rfl, rfl⟩
  · exact .inr ⟨n, e, full, cs, by omega, rfl, h2, h3, fun i hi => ⟨(h4 i hi).1.lo p, (h4 i hi).2⟩, h5⟩
theorem mul_row {i n w : Nat} (hi : i < n) : i * w + w ≤ n * w := by
  have := Nat.mul_le_mul_right w (show i + 1 ≤ n by omega)
  rw [Nat.succ_mul] at this
  exact this

theorem i_parted {v : Value} {ns : List Int} {w n : Nat} {h : AH} {Q : Value → AH → Prop} (hv : Ints h v ns) (hl : (ns.length : Int) ≤ 1048576) (hw : 1 ≤ w) (hn : ns.length = n * w)
    (hQ : ∀ v' h', h <+: h' → OwnRows h h' v' (parts ns w n) → Q v' h') : WF S 92 [v, I64 w] h Q := by
  refine WF_fn (fn := c92) rfl rfl ?_
  unfold c92
  try simp (maxSteps := 3000000) (disch := first | omega | (simp only [len_new, len_put, len_kill]; omega)) only [↓xpre, xpost, ↓reduceIte, Nat.reduceEqDiff, Nat.reduceAdd, Nat.reduceSub, Nat.reduceLeDiff, Nat.zero_add, Nat.sub_zero, fillL, zrep]
  generalize hH1 : AH.new h _ = H1
  obtain ⟨hb1, p1, n1⟩ := new_facts hH1
  have st0 : TabS h H1 h.length true [] := ⟨p1, Nat.le_refl _, hb1, by simp, by simp⟩
  have hnw : n ≤ n * w := Nat.le_mul_of_pos_right _ (by omega)
  refine WC_loop_inv (fun m f K1 => ∃ (i : Nat) (nb : Nat) (full : Bool) (L : List (Nat × List Int)), m = n - i ∧ i ≤ n ∧ f 0 = v ∧ f 1 = I64 w ∧ f 5 = .slice (some ⟨nb, 0, none⟩) L.length 1 ∧ f 6 = I64 ((i * w : Nat) : Int) ∧ (TabS h K1 nb full L) ∧ (L.map Prod.snd = (parts ns w n).take i)) ?_ (n - 0) _ _ ⟨0, h.length, true, [], rfl, by omega, (by first | rfl | (simp [upd_apply]; done)), (by first | rfl | (simp [upd_apply]; done)), (by first | rfl | (simp [upd_apply]; done)), (by first | rfl | (simp [upd_apply]; done)), st0, (by simp)⟩
  rintro m f K1 ⟨i, nb, full, L, rfl, hi, f0, f1, f5, f6, st, hL⟩
  have hLl : L.length = i := by
    have := congrArg List.length hL
    rw [List.length_map, List.length_take, parts_len] at this
    omega
  have hvK := hv.pre st.hp
  try simp (maxSteps := 3000000) (disch := first | omega | (simp only [len_new, len_put, len_kill]; omega)) only [↓xpre, xpost, ↓reduceIte, Nat.reduceEqDiff, Nat.reduceAdd, Nat.reduceSub, Nat.reduceLeDiff, Nat.zero_add, Nat.sub_zero, f0, f1, f5, f6, hvK.len, IfW_dec]
  refine ⟨fun hlt => ?_, fun hge => ?_⟩
  · have hi' : i < n := by
      apply Decidable.byContradiction
      intro hc
      have : i = n := by omega
      subst this
      omega
    have hrow := mul_row (w := w) hi'
    obtain ⟨v', e1, e2⟩ := hvK.slcV (k1 := .i64) (k2 := .i64) (l := ((i * w : Nat) : Int)) (u := ((i * w : Nat) : Int) + (w : Int)) (by omega)
    rw [Int.toNat_natCast, show (((i * w : Nat) : Int) + (w : Int) - ((i * w : Nat) : Int)).toNat = w by omega] at e2
    have rl : ((ns.drop (i * w)).take w).length = w := by rw [List.length_take, List.length_drop]; omega
    try simp (maxSteps := 3000000) (disch := first | omega | (simp only [len_new, len_put, len_kill]; omega)) only [↓xpre, xpost, ↓reduceIte, Nat.reduceEqDiff, Nat.reduceAdd, Nat.reduceSub, Nat.reduceLeDiff, Nat.zero_add, Nat.sub_zero, f0, f1, f5, f6, wrap64_in, ↓WX_slc, omapF_some, omapF_none, e1]
    refine i_CloneB e2 (by omega) (by omega) fun n' h2 hn' p2 ob => ?_
    try simp (maxSteps := 3000000) (disch := first | omega | (simp only [len_new, len_put, len_kill]; omega)) only [↓xpre, xpost, ↓reduceIte, Nat.reduceEqDiff, Nat.reduceAdd, Nat.reduceSub, Nat.reduceLeDiff, Nat.zero_add, Nat.sub_zero, f0, f1, f5, f6, fillL, zrep]
    have lt := st.lt
    refine (st.pre p2).app ⟨by have := pre_len st.hp; omega, by omega, fun p hp => by have := lt.2 p hp; omega⟩ ob (by omega) fun nb' H' st' => ?_
    try simp (maxSteps := 3000000) (disch := first | omega | (simp only [len_new, len_put, len_kill]; omega)) only [↓xpre, xpost, ↓reduceIte, Nat.reduceEqDiff, Nat.reduceAdd, Nat.reduceSub, Nat.reduceLeDiff, Nat.zero_add, Nat.sub_zero, f0, f1, f5, f6, wrap64_in]
    refine InvQ_go (n - (i + 1)) (by omega) ⟨(i + 1), nb', false, (L ++ [(n', (ns.drop (i * w)).take w)]), rfl, by omega, (by first | rfl | exact f0 | (simp only [upd_apply]; rfl) | (show I64 _ = _; congr 1; omega)), (by first | rfl | exact f1 | (simp only [upd_apply]; rfl) | (show I64 _ = _; congr 1; omega)), (by first | rfl | exact f5 | (simp only [upd_apply]; rfl) | (show I64 _ = _; congr 1; omega)), (by show I64 _ = _; rw [Nat.succ_mul]; rfl), st', ?_⟩
    rw [List.map_append, hL, take_next (d := []) (by rw [parts_len]; exact hi'), parts_get hi']
    rfl
  · have e : i = n := by
      apply Decidable.byContradiction
      intro hc
      have := mul_row (w := w) (show i < n by omega)
      omega
    subst e
    rw [List.take_of_length_le (by rw [parts_len]; exact Nat.le_refl _)] at hL
    try simp (maxSteps := 3000000) (disch := first | omega | (simp only [len_new, len_put, len_kill]; omega)) only [↓xpre, xpost, ↓reduceIte, Nat.reduceEqDiff, Nat.reduceAdd, Nat.reduceSub, Nat.reduceLeDiff, Nat.zero_add, Nat.sub_zero, f0, f1, f5, f6]
    have o := st.own
    rw [hL] at o
    exact hQ _ _ st.hp o
end Go.Proofs.Ytnjhhgfpclngcaa.X
