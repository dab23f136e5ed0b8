/- Texts of one claim, put together by merge.py: XF30, XF31, XE1, XS1, XG1, XS2, XE2, XY, XP1, XP2, XF32, XP3, XS3, XF10, XF33, XS4, XD1, XD2, XS5, XT1, XP8, XP4, XP6, XP12, XP13. -/
import Derived.Test.YtapafdpnmakekaaTS7
/- Tables under way: rows in blocks of their own, appended one by one. Tensors turned some times. -/
set_option linter.unusedVariables false
set_option linter.unusedSimpArgs false
set_option maxRecDepth 20000
set_option maxHeartbeats 4000000
namespace Go.Proofs.Ytapafdpnmakekaa.X
open Go Go.RowKit

structure TabS (h0 h : AH) (nb : Nat) (full : Bool) (L : List (Nat × List Int)) : Prop where
  hp : h0 <+: h
  lo : h0.length ≤ nb
  g : h.get nb = some ⟨L.map rowV, 27, false, full⟩
  rows : ∀ p, p ∈ L → (h0.length ≤ p.1 ∧ p.1 ≠ nb) ∧ ∃ fu, OwnB h p.1 (p.2.map (Value.int .i64)) fu
  dist : L.Pairwise (fun p q => p.1 ≠ q.1)
theorem TabS.lt {h0 h : AH} {nb : Nat} {full : Bool} {L : List (Nat × List Int)} (s : TabS h0 h nb full L) : nb < h.length ∧ ∀ p, p ∈ L → p.1 < h.length :=
  ⟨get_lt s.g, fun p hp => (s.rows p hp).2.choose_spec.lt⟩
theorem TabS.pre {h0 h h' : AH} {nb : Nat} {full : Bool} {L : List (Nat × List Int)} (s : TabS h0 h nb full L) (p : h <+: h') : TabS h0 h' nb full L :=
  ⟨s.hp.trans p, s.lo, pre_get p s.g, fun q hq => ⟨(s.rows q hq).1, by obtain ⟨fu, o⟩ := (s.rows q hq).2; exact ⟨fu, o.pre p⟩⟩, s.dist⟩
theorem TabS.keeps {h0 h h' : AH} {nb lo : Nat} {full : Bool} {L : List (Nat × List Int)} (s : TabS h0 h nb full L) (k : Keeps lo h h') (hh : h0 <+: h') (h1 : nb < lo) (h2 : ∀ p, p ∈ L → p.1 < lo) : TabS h0 h' nb full L :=
  ⟨hh, s.lo, k.2 _ _ h1 s.g, fun q hq => ⟨(s.rows q hq).1, by obtain ⟨fu, e, o⟩ := (s.rows q hq).2; exact ⟨fu, e, k.2 _ _ (h2 q hq) o⟩⟩, s.dist⟩
theorem TabS.app {h0 h2 : AH} {nb n : Nat} {full fu fw : Bool} {L : List (Nat × List Int)} {r : List Int} {e : TypeId} (s : TabS h0 h2 nb full L) (hn : h0.length ≤ n ∧ n ≠ nb ∧ ∀ p, p ∈ L → p.1 ≠ n) (ob : OwnB h2 n (r.map (Value.int .i64)) fw)
    (hl : (L.length : Int) ≤ 1048576) {Q : Value → AH → Prop}
    (hQ : ∀ nb' H', TabS h0 H' nb' false (L ++ [(n, r)]) → Q (.slice (some ⟨nb', 0, none⟩) (L ++ [(n, r)]).length 1) H') :
    OQ (appV 27 1 24 (.slice (some ⟨nb, 0, none⟩) L.length 1) (.slice (some ⟨h2.length, 0, none⟩) 1 1) (h2.new ⟨[.slice (some ⟨n, 0, none⟩) r.length 1], e, false, fu⟩)) Q := by
  have hrd : (h2.new ⟨[.slice (some ⟨n, 0, none⟩) r.length 1], e, false, fu⟩).rdn h2.length 0 1 = some [.slice (some ⟨n, 0, none⟩) r.length 1] := by rw [rdn_new_same]; rfl
  have hk : (h2.new ⟨[.slice (some ⟨n, 0, none⟩) r.length 1], e, false, fu⟩).get nb = some ⟨L.map rowV, 27, false, full⟩ := get_new_any s.g
  have l1 := get_lt s.g
  have l3 := ob.lt
  have l0 := pre_len s.hp
  rw [app_own hk (by simp) hrd (by omega), OQ_some]
  have key : TabS h0 (((h2.new ⟨[.slice (some ⟨n, 0, none⟩) r.length 1], e, false, fu⟩).kill nb).new ⟨L.map rowV ++ [.slice (some ⟨n, 0, none⟩) r.length 1], 27, false, false⟩) (h2.new ⟨[.slice (some ⟨n, 0, none⟩) r.length 1], e, false, fu⟩).length false (L ++ [(n, r)]) := by
    refine ⟨pre_new (pre_kill (pre_new s.hp) s.lo), by rw [len_new]; omega, ?_, fun q hq => ?_, ?_⟩
    · rw [get_new_eq (by rw [len_kill])]
      simp [rowV]
    · rw [len_new]
      rcases List.mem_append.1 hq with hq | hq
      · have a := s.rows q hq
        obtain ⟨fa, oa⟩ := a.2
        have := oa.lt
        exact ⟨⟨a.1.1, by omega⟩, fa, (oa.new.kill_ne (fun e => a.1.2 e.symm)).new⟩
      · rw [List.mem_singleton] at hq
        subst hq
        exact ⟨⟨hn.1, show n ≠ h2.length + 1 by omega⟩, fw, (ob.new.kill_ne (fun e => hn.2.1 e.symm)).new⟩
    · rw [List.pairwise_append]
      refine ⟨s.dist, by simp, fun a ha b hb => ?_⟩
      rw [List.mem_singleton] at hb
      subst hb
      exact hn.2.2 a ha
  have := hQ _ _ key
  rw [List.length_append, List.length_singleton] at this
  exact this
theorem TabS.own {h0 h : AH} {nb : Nat} {full : Bool} {L : List (Nat × List Int)} (s : TabS h0 h nb full L) : OwnRows h0 h (.slice (some ⟨nb, 0, none⟩) L.length 1) (L.map Prod.snd) := by
  have ei : ∀ i, (hi : i < L.length) → (L.map rowV).getD i undef = rowV (L[i]) ∧ (L.map Prod.snd).getD i [] = (L[i]).2 := fun i hi => ⟨by simp [List.getD_eq_getElem?_getD, hi], by simp [List.getD_eq_getElem?_getD, hi]⟩
  refine .inr ⟨nb, _, full, L.map rowV, s.lo, by rw [List.length_map], s.g, by simp, fun i hi => ?_, fun i j hij hj b hb => ?_⟩
  · have hi' : i < L.length := by simpa using hi
    obtain ⟨e1, e2⟩ := ei i hi'
    have a := s.rows _ (List.getElem_mem hi')
    obtain ⟨fu, e, o⟩ := a.2
    rw [e1, e2]
    refine ⟨.inr ⟨_, e, fu, a.1.1, rfl, o⟩, fun q => a.1.2 ?_⟩
    simpa [rowV, blkOf] using q
  · have hj' : j < L.length := by simpa using hj
    rw [(ei i (by omega)).1] at hb
    rw [(ei j hj').1]
    have := List.pairwise_iff_getElem.1 s.dist i j (by omega) hj' hij
    simp only [rowV, blkOf, Option.some.injEq] at hb ⊢
    exact fun e => this (hb.trans (Option.some.inj e).symm)

/-! ### Turned tensors -/
theorem TF.turned {t : Ten} (f : TF t) : TF (turnT t) := by
  have jk := mul_in1 (A := 9) (B := 9) f.j f.k
  have jki := mul_in1 (A := 81) (B := 9) jk f.i
  have hl : (((turnT t).ns.length : Nat) : Int) = t.j * t.k * t.i := by
    show ((gen _ _).length : Int) = _
    rw [gen_len]
    omega
  refine ⟨f.p, f.j, f.k, f.i, hl, fun x h0 hx => ?_, jk, jki⟩
  rw [hl] at hx
  have h1 : nth (turnT t).ns x = turnG t x.toNat := by
    show (gen _ _).getD _ 0 = _
    exact gen_get (by omega)
  have h := places (n := x) (i := t.j) (j := t.k) (k := t.i) (by omega) f.k.1 f.i.1
  rw [h1]
  unfold turnG
  rw [show ((x.toNat : Nat) : Int) = x by omega]
  exact tat_in f h.2.2 h.1 h.2.1
def turnN : Nat → Ten → Ten
  | 0, t => t
  | n + 1, t => turnN n (turnT t)
theorem TF.turnN : ∀ {n : Nat} {t : Ten}, TF t → TF (turnN n t)
  | 0, _, f => f
  | n + 1, _, f => TF.turnN (n := n) f.turned
theorem turnN_p : ∀ {n : Nat} {t : Ten}, (turnN n t).p = t.p
  | 0, _ => rfl
  | n + 1, t => turnN_p (n := n) (t := turnT t)
theorem TF.le {t : Ten} (f : TF t) : (t.ns.length : Int) ≤ 1048576 := by
  have := f.len
  have := f.ijk
  omega
theorem i_turned {v : Value} {t : Ten} {k : Nat} {h : AH} {Q : Value → AH → Prop} (hv : Ints h v t.ns) (f : TF t) (hk : k ≤ 2)
    (hQ : ∀ v' h', h <+: h' → Ints h' v' (turnN k t).ns → Q (tenV (turnN k t) v') h') : WF S 245 [tenV t v, I64 k] h Q := by
  refine WF_fn (fn := c245) rfl rfl ?_
  unfold c245
  try simp (maxSteps := 3000000) (disch := first | omega | (simp only [len_new, len_put, len_kill]; omega)) only [↓xpre, xpost, ↓reduceIte, Nat.reduceEqDiff, Nat.reduceAdd, Nat.reduceSub, Nat.reduceLeDiff, Nat.zero_add, Nat.sub_zero, tenV, hv.one]
  generalize hH1 : AH.new h _ = H1
  obtain ⟨hb1, p1, n1⟩ := new_facts hH1
  generalize hH2 : AH.new H1 _ = H2
  obtain ⟨hb2, p2, n2⟩ := new_facts hH2
  rw [n1] at hb2
  rw [n1]
  have hlt := hv.lt
  refine WC_loop_inv (fun m f K1 => ∃ (j : Nat) (u : Ten) (w : Value), m = k - j ∧ j ≤ k ∧ f 5 = I64 k ∧ f 6 = I64 j ∧ f 2 = .pointer (some ⟨h.length, 0, none⟩) ∧ f 4 = .pointer (some ⟨h.length + 1, 0, none⟩) ∧ (h <+: K1) ∧ (OwnB K1 h.length [I64 u.p, I64 u.i, I64 u.j, I64 u.k, w] true) ∧ (OwnB K1 (h.length + 1) [I64 0, I64 0, I64 0, I64 0, .slice none 0 0] true) ∧ (Ints K1 w u.ns) ∧ (blkOf w ≠ some h.length ∧ blkOf w ≠ some (h.length + 1)) ∧ (TF u) ∧ (turnN (k - j) u = turnN k t)) ?_ (k - 0) _ _ ⟨0, t, v, rfl, by omega, (by first | rfl | (simp [upd_apply]; done)), (by first | rfl | (simp [upd_apply]; done)), (by first | rfl | (simp [upd_apply]; done)), (by first | rfl | (simp [upd_apply]; done)), p1.trans p2, ⟨_, pre_get p2 hb1⟩, ⟨_, hb2⟩, hv.pre (p1.trans p2), ⟨fun e => by have := hlt _ e; omega, fun e => by have := hlt _ e; omega⟩, f, rfl⟩
  rintro m f K1 ⟨j, u, w, rfl, hj, f5, f6, f2, f4, ph, hb, hb4, hw, hne, fu, hn⟩
  obtain ⟨e, hb⟩ := hb
  obtain ⟨e4, hb4⟩ := hb4
  have hlt1 := get_lt hb
  have hlt4 := get_lt hb4
  try simp (maxSteps := 3000000) (disch := first | omega | (simp only [len_new, len_put, len_kill]; omega)) only [↓xpre, xpost, ↓reduceIte, Nat.reduceEqDiff, Nat.reduceAdd, Nat.reduceSub, Nat.reduceLeDiff, Nat.zero_add, Nat.sub_zero, f5, f6, f2, f4, IfW_dec]
  refine ⟨fun hlt => ?_, fun hge => ?_⟩
  · try simp (maxSteps := 3000000) (disch := first | omega | (simp only [len_new, len_put, len_kill]; omega)) only [↓xpre, xpost, ↓reduceIte, Nat.reduceEqDiff, Nat.reduceAdd, Nat.reduceSub, Nat.reduceLeDiff, Nat.zero_add, Nat.sub_zero, f5, f6, f2, f4, rdn_of hb]
    refine i_turn hw fu fun w' H p o => ?_
    have hb' := pre_get p hb
    have pl := pre_len p
    try simp (maxSteps := 3000000) (disch := first | omega | (simp only [len_new, len_put, len_kill]; omega)) only [↓xpre, xpost, ↓reduceIte, Nat.reduceEqDiff, Nat.reduceAdd, Nat.reduceSub, Nat.reduceLeDiff, Nat.zero_add, Nat.sub_zero, f5, f6, f2, f4, tenV, o.ints.one, wr_of hb', wrap64_in]
    have bk := o.blk
    refine InvQ_go (k - (j + 1)) (by omega) ⟨(j + 1), (turnT u), w', rfl, by omega, (by first | rfl | exact f5 | (simp only [upd_apply]; rfl) | (show I64 _ = _; congr 1; omega)), (by first | rfl | exact f6 | (simp only [upd_apply]; rfl) | (show I64 _ = _; congr 1; omega)), (by first | rfl | exact f2 | (simp only [upd_apply]; rfl) | (show I64 _ = _; congr 1; omega)), (by first | rfl | exact f4 | (simp only [upd_apply]; rfl) | (show I64 _ = _; congr 1; omega)), (pre_put (ph.trans p) (Nat.le_refl _)), ⟨_, get_put_same (get_lt hb')⟩, ⟨_, by rw [get_put_ne (by omega)]; exact pre_get p hb4⟩, (o.put_ne (by omega)).ints, ⟨fun e => by have := bk _ e; omega, fun e => by have := bk _ e; omega⟩, fu.turned, ?_⟩
    rw [← hn, show k - j = (k - (j + 1)) + 1 by omega]
    rfl
  · have ej : k - j = 0 := by omega
    rw [ej] at hn
    have hn' : u = turnN k t := hn
    subst hn'
    try simp (maxSteps := 3000000) (disch := first | omega | (simp only [len_new, len_put, len_kill]; omega)) only [↓xpre, xpost, ↓reduceIte, Nat.reduceEqDiff, Nat.reduceAdd, Nat.reduceSub, Nat.reduceLeDiff, Nat.zero_add, Nat.sub_zero, f5, f6, f2, f4, rdn_of hb, tenV, hw.one, wr_of hb4]
    exact hQ w _ (pre_put ph (by omega)) (hw.put_ne hne.2)
end Go.Proofs.Ytapafdpnmakekaa.X

/- Indices of arrays; parts of lists; slices of tensors. -/
set_option linter.unusedVariables false
set_option linter.unusedSimpArgs false
set_option maxRecDepth 20000
set_option maxHeartbeats 4000000
namespace Go.Proofs.Ytapafdpnmakekaa.X
open Go Go.RowKit

def ixaV (len sz : Nat) (x i : Value) : Option Value := match x, i with
  | .pointer (some ⟨n, off, _⟩), .int _ j => if 0 ≤ j ∧ j < len then some (.pointer (some ⟨n, off + j.toNat * sz, none⟩)) else none
  | _, _ => none
def idx1V (len : Nat) (x i : Value) : Option Value := match x, i with
  | .agg cs, .int _ j => if 0 ≤ j ∧ j < len then cs.toList[j.toNat]? else none
  | _, _ => none
def idxnV (len sz : Nat) (x i : Value) : Option Value := match x, i with
  | .agg cs, .int _ j => if 0 ≤ j ∧ j < len ∧ j.toNat * sz + sz ≤ cs.toList.length then some (.agg ((cs.toList.drop (j.toNat * sz)).take sz).toArray) else none
  | _, _ => none
theorem WX_of {S : XS} {o : XOp} {f : Fr} {h : AH} {Q : Value → AH → Prop} {r : Option Value} (ho : ∀ C, xrun C o f h = xop o f h) (e : xop o f h = r.map (·, h)) : WX S o f h Q = WV r fun v => Q v h := by
  rw [WX_op ho, e]
  cases r <;> simp [OQ_some, WV_some, OQ_none, WV_none]
theorem WX_ixa {S : XS} {f : Fr} {h : AH} {Q : Value → AH → Prop} {n sz : Nat} {x y : Operand} : WX S (.ixa n sz x y) f h Q = WV (ixaV n sz (ev f x) (ev f y)) fun v => Q v h := by
  refine WX_of (fun _ => rfl) ?_
  simp only [xop, ixaV]
  generalize ev f x = a
  generalize ev f y = b
  split
  · dsimp only
    split <;> rfl
  · rename_i q
    split
    · exact absurd rfl (q _ _ _ _ _ rfl)
    · rfl
theorem ixaV_ptr {len sz n off : Nat} {k : IntKind} {j : Int} (h : 0 ≤ j ∧ j < len) : ixaV len sz (.pointer (some ⟨n, off, none⟩)) (.int k j) = some (.pointer (some ⟨n, off + j.toNat * sz, none⟩)) := by
  simp [ixaV, h]
theorem WX_idx1 {S : XS} {f : Fr} {h : AH} {Q : Value → AH → Prop} {n : Nat} {x y : Operand} : WX S (.idx1 n x y) f h Q = WV (idx1V n (ev f x) (ev f y)) fun v => Q v h := by
  refine WX_of (fun _ => rfl) ?_
  simp only [xop, idx1V]
  generalize ev f x = a
  generalize ev f y = b
  split
  · dsimp only
    split
    · rename_i cs _ j _
      cases cs.toList[j.toNat]? <;> rfl
    · rfl
  · rename_i q
    split
    · exact absurd rfl (q _ _ _ rfl)
    · rfl
theorem WX_idxn {S : XS} {f : Fr} {h : AH} {Q : Value → AH → Prop} {n sz : Nat} {x y : Operand} : WX S (.idxn n sz x y) f h Q = WV (idxnV n sz (ev f x) (ev f y)) fun v => Q v h := by
  refine WX_of (fun _ => rfl) ?_
  simp only [xop, idxnV]
  generalize ev f x = a
  generalize ev f y = b
  split
  · dsimp only
    split <;> rfl
  · rename_i q
    split
    · exact absurd rfl (q _ _ _ rfl)
    · rfl

/-! ### Parts -/
def parts (ns : List Int) (w n : Nat) : List (List Int) := (List.range n).map fun i => (ns.drop (i * w)).take w
theorem parts_len {ns : List Int} {w n : Nat} : (parts ns w n).length = n := by simp [parts]
theorem parts_get {ns : List Int} {w n i : Nat} (hi : i < n) : (parts ns w n).getD i [] = (ns.drop (i * w)).take w := by
  simp [parts, List.getD_eq_getElem?_getD, List.getElem?_map, List.getElem?_range hi]
theorem take_next {α : Type} {d : α} {l : List α} {i : Nat} (hi : i < l.length) : l.take (i + 1) = l.take i ++ [l.getD i d] := by
  rw [List.take_succ_eq_append_getElem hi]
  simp [List.getD_eq_getElem?_getD, hi]
theorem OwnRows.lo {h0 h1 h : AH} {v : Value} {rows : List (List Int)} (o : OwnRows h0 h v rows) (p : h1.length ≤ h0.length) : OwnRows h1 h v rows := by
  rcases o with ⟨rfl, rfl⟩ | ⟨n, e, full, cs, h1, rfl, h2, h3, h4, h5⟩
  · exact .inl ⟨rfl, rfl⟩
  · exact .inr ⟨n, e, full, cs, by omega, rfl, h2, h3, fun i hi => ⟨(h4 i hi).1.lo p, (h4 i hi).2⟩, h5⟩
theorem mul_row {i n w : Nat} (hi : i < n) : i * w + w ≤ n * w := by
  have := Nat.mul_le_mul_right w (show i + 1 ≤ n by omega)
  rw [Nat.succ_mul] at this
  exact this

theorem i_parted {v : Value} {ns : List Int} {w n : Nat} {h : AH} {Q : Value → AH → Prop} (hv : Ints h v ns) (hl : (ns.length : Int) ≤ 1048576) (hw : 1 ≤ w) (hn : ns.length = n * w)
    (hQ : ∀ v' h', h <+: h' → OwnRows h h' v' (parts ns w n) → Q v' h') : WF S 163 [v, I64 w] h Q := by
  refine WF_fn (fn := c163) rfl rfl ?_
  unfold c163
  try simp (maxSteps := 3000000) (disch := first | omega | (simp only [len_new, len_put, len_kill]; omega)) only [↓xpre, xpost, ↓reduceIte, Nat.reduceEqDiff, Nat.reduceAdd, Nat.reduceSub, Nat.reduceLeDiff, Nat.zero_add, Nat.sub_zero, fillL, zrep]
  generalize hH1 : AH.new h _ = H1
  obtain ⟨hb1, p1, n1⟩ := new_facts hH1
  have st0 : TabS h H1 h.length true [] := ⟨p1, Nat.le_refl _, hb1, by simp, by simp⟩
  have hnw : n ≤ n * w := Nat.le_mul_of_pos_right _ (by omega)
  refine WC_loop_inv (fun m f K1 => ∃ (i : Nat) (nb : Nat) (full : Bool) (L : List (Nat × List Int)), m = n - i ∧ i ≤ n ∧ f 0 = v ∧ f 1 = I64 w ∧ f 5 = .slice (some ⟨nb, 0, none⟩) L.length 1 ∧ f 6 = I64 ((i * w : Nat) : Int) ∧ (TabS h K1 nb full L) ∧ (L.map Prod.snd = (parts ns w n).take i)) ?_ (n - 0) _ _ ⟨0, h.length, true, [], rfl, by omega, (by first | rfl | (simp [upd_apply]; done)), (by first | rfl | (simp [upd_apply]; done)), (by first | rfl | (simp [upd_apply]; done)), (by first | rfl | (simp [upd_apply]; done)), st0, (by simp)⟩
  rintro m f K1 ⟨i, nb, full, L, rfl, hi, f0, f1, f5, f6, st, hL⟩
  have hLl : L.length = i := by
    have := congrArg List.length hL
    rw [List.length_map, List.length_take, parts_len] at this
    omega
  have hvK := hv.pre st.hp
  try simp (maxSteps := 3000000) (disch := first | omega | (simp only [len_new, len_put, len_kill]; omega)) only [↓xpre, xpost, ↓reduceIte, Nat.reduceEqDiff, Nat.reduceAdd, Nat.reduceSub, Nat.reduceLeDiff, Nat.zero_add, Nat.sub_zero, f0, f1, f5, f6, hvK.len, IfW_dec]
  refine ⟨fun hlt => ?_, fun hge => ?_⟩
  · have hi' : i < n := by
      apply Decidable.byContradiction
      intro hc
      have : i = n := by omega
      subst this
      omega
    have hrow := mul_row (w := w) hi'
    obtain ⟨v', e1, e2⟩ := hvK.slcV (k1 := .i64) (k2 := .i64) (l := ((i * w : Nat) : Int)) (u := ((i * w : Nat) : Int) + (w : Int)) (by omega)
    rw [Int.toNat_natCast, show (((i * w : Nat) : Int) + (w : Int) - ((i * w : Nat) : Int)).toNat = w by omega] at e2
    have rl : ((ns.drop (i * w)).take w).length = w := by rw [List.length_take, List.length_drop]; omega
    try simp (maxSteps := 3000000) (disch := first | omega | (simp only [len_new, len_put, len_kill]; omega)) only [↓xpre, xpost, ↓reduceIte, Nat.reduceEqDiff, Nat.reduceAdd, Nat.reduceSub, Nat.reduceLeDiff, Nat.zero_add, Nat.sub_zero, f0, f1, f5, f6, wrap64_in, ↓WX_slc, omapF_some, omapF_none, e1]
    refine i_CloneB e2 (by omega) (by omega) fun n' h2 hn' p2 ob => ?_
    try simp (maxSteps := 3000000) (disch := first | omega | (simp only [len_new, len_put, len_kill]; omega)) only [↓xpre, xpost, ↓reduceIte, Nat.reduceEqDiff, Nat.reduceAdd, Nat.reduceSub, Nat.reduceLeDiff, Nat.zero_add, Nat.sub_zero, f0, f1, f5, f6, fillL, zrep]
    have lt := st.lt
    refine (st.pre p2).app ⟨by have := pre_len st.hp; omega, by omega, fun p hp => by have := lt.2 p hp; omega⟩ ob (by omega) fun nb' H' st' => ?_
    try simp (maxSteps := 3000000) (disch := first | omega | (simp only [len_new, len_put, len_kill]; omega)) only [↓xpre, xpost, ↓reduceIte, Nat.reduceEqDiff, Nat.reduceAdd, Nat.reduceSub, Nat.reduceLeDiff, Nat.zero_add, Nat.sub_zero, f0, f1, f5, f6, wrap64_in]
    refine InvQ_go (n - (i + 1)) (by omega) ⟨(i + 1), nb', false, (L ++ [(n', (ns.drop (i * w)).take w)]), rfl, by omega, (by first | rfl | exact f0 | (simp only [upd_apply]; rfl) | (show I64 _ = _; congr 1; omega)), (by first | rfl | exact f1 | (simp only [upd_apply]; rfl) | (show I64 _ = _; congr 1; omega)), (by first | rfl | exact f5 | (simp only [upd_apply]; rfl) | (show I64 _ = _; congr 1; omega)), (by show I64 _ = _; rw [Nat.succ_mul]; rfl), st', ?_⟩
    rw [List.map_append, hL, take_next (d := []) (by rw [parts_len]; exact hi'), parts_get hi']
    rfl
  · have e : i = n := by
      apply Decidable.byContradiction
      intro hc
      have := mul_row (w := w) (show i < n by omega)
      omega
    subst e
    rw [List.take_of_length_le (by rw [parts_len]; exact Nat.le_refl _)] at hL
    try simp (maxSteps := 3000000) (disch := first | omega | (simp only [len_new, len_put, len_kill]; omega)) only [↓xpre, xpost, ↓reduceIte, Nat.reduceEqDiff, Nat.reduceAdd, Nat.reduceSub, Nat.reduceLeDiff, Nat.zero_add, Nat.sub_zero, f0, f1, f5, f6]
    have o := st.own
    rw [hL] at o
    exact hQ _ _ st.hp o
end Go.Proofs.Ytapafdpnmakekaa.X

/- Slices of elements of some whole numbers each (products of schemes, steps of programs). -/
set_option linter.unusedVariables false
set_option linter.unusedSimpArgs false
set_option maxRecDepth 20000
set_option maxHeartbeats 4000000
namespace Go.Proofs.Ytapafdpnmakekaa.X
open Go Go.RowKit

/-- Cells of whole numbers. -/
def cel (k : IntKind) (q : List Int) : List Value := q.map (Value.int k)
theorem cel_len {k : IntKind} {q : List Int} : (cel k q).length = q.length := List.length_map _
theorem cel_all {k : IntKind} {q : List Int} : (cel k q).all isOne = true := by
  unfold cel
  induction q with
  | nil => rfl
  | cons a l ih => simp only [List.map_cons, List.all_cons, ih, Bool.and_true]; rfl
theorem cel_get {k : IntKind} {q : List Int} {j : Nat} (hj : j < q.length) : (cel k q)[j]? = some (.int k (q.getD j 0)) := by
  simp [cel, List.getD_eq_getElem?_getD, hj]
theorem cel_take {k : IntKind} {q : List Int} {n : Nat} : (cel k q).take n = cel k (q.take n) := by simp [cel, List.map_take]
theorem cel_drop {k : IntKind} {q : List Int} {n : Nat} : (cel k q).drop n = cel k (q.drop n) := by simp [cel, List.map_drop]
theorem cel_app {k : IntKind} {q r : List Int} : cel k q ++ cel k r = cel k (q ++ r) := by simp [cel]
theorem cel_set {k : IntKind} {q : List Int} {j : Nat} {x : Int} (hj : j < q.length) : splice (cel k q) j [.int k x] = cel k (q.set j x) := by
  rw [splice_set (by rw [cel_len]; exact hj)]
  simp [cel, List.map_set]
theorem cel_splice {k : IntKind} {q r : List Int} {j : Nat} : splice (cel k q) j (cel k r) = cel k (q.take j ++ r ++ q.drop (j + r.length)) := by
  rw [splice_eq]
  simp [cel, List.map_take, List.map_drop]
/-- A slice of elements of w numbers each. -/
def Els (k : IntKind) (w : Nat) (h : AH) (v : Value) (L : List (List Int)) : Prop :=
  (L = [] ∧ ∃ t, t ≤ 2 ∧ v = .slice none 0 t) ∨
  ∃ b off blk, v = .slice (some ⟨b, off, none⟩) L.length w ∧ h.get b = some blk ∧ ∀ i, i < L.length → off + i * w + w ≤ blk.c.length ∧ (blk.c.drop (off + i * w)).take w = cel k (L.getD i [])
section
variable {k : IntKind} {w : Nat} {h h' : AH} {v : Value} {L : List (List Int)}
theorem Els.pre (e : Els k w h v L) (p : h <+: h') : Els k w h' v L := by
  rcases e with e | ⟨b, off, blk, h1, h2, h3⟩
  · exact .inl e
  · exact .inr ⟨b, off, blk, h1, pre_get p h2, h3⟩
theorem Els.len (e : Els k w h v L) : lenV v = some (.int .i64 L.length) := by
  rcases e with ⟨rfl, t, _, rfl⟩ | ⟨b, off, blk, rfl, h2, h3⟩ <;> rfl
theorem Els.one (e : Els k w h v L) : isOne v = true := by
  rcases e with ⟨rfl, t, _, rfl⟩ | ⟨b, off, blk, rfl, h2, h3⟩ <;> rfl
theorem Els.cells (e : Els k w h v L) : cellsL v = [v] := by
  rcases e with ⟨rfl, t, _, rfl⟩ | ⟨b, off, blk, rfl, h2, h3⟩ <;> rfl
theorem Els.wid (e : Els k w h v L) {i : Nat} (hi : i < L.length) : (L.getD i []).length = w := by
  rcases e with ⟨rfl, t, _, rfl⟩ | ⟨b, off, blk, rfl, h2, h3⟩
  · simp at hi
  · obtain ⟨h4, h5⟩ := h3 i hi
    have := congrArg List.length h5
    rw [cel_len, List.length_take, List.length_drop] at this
    omega
/-- The element's address, and what is read there. -/
theorem Els.at (e : Els k w h v L) {i : Nat} (hi : i < L.length) : ∃ n off, (∀ kk : IntKind, ixsV w v (.int kk i) = some (.pointer (some ⟨n, off, none⟩))) ∧
    (∀ o m, o + m ≤ w → h.rdn n (off + o) m = some (cel k (((L.getD i []).drop o).take m))) ∧ ∀ o, o < w → h.rd1 n (off + o) = some (.int k ((L.getD i []).getD o 0)) := by
  have hw := e.wid hi
  rcases e with ⟨rfl, t, _, rfl⟩ | ⟨b, off, blk, rfl, h2, h3⟩
  · simp at hi
  · obtain ⟨h4, h5⟩ := h3 i hi
    refine ⟨b, off + i * w, fun kk => ?_, fun o m hom => ?_, fun o ho => ?_⟩
    · rw [ixsV_some, if_pos (by omega), Int.toNat_natCast]
    · rw [rdn_of h2, if_pos (by omega)]
      congr 1
      rw [← cel_take, ← cel_drop, ← h5, List.drop_take, List.drop_drop, List.take_take, Nat.min_eq_left (by omega)]
    · rw [rd1_of h2]
      have := cel_get (k := k) (q := L.getD i []) (j := o) (by omega)
      rw [← h5, List.getElem?_take, if_pos ho, List.getElem?_drop] at this
      exact this
end
end Go.Proofs.Ytapafdpnmakekaa.X

/- Forms and products: copies and comparisons. -/
set_option linter.unusedVariables false
set_option linter.unusedSimpArgs false
set_option maxRecDepth 20000
set_option maxHeartbeats 4000000
namespace Go.Proofs.Ytapafdpnmakekaa.X
open Go Go.RowKit

/-- The value of so many whole numbers side by side. -/
def aggV (k : IntKind) (q : List Int) : Value := .agg (cel k q).toArray
theorem wr_all {h : AH} {z vs : List Value} {e : TypeId} {full : Bool} (hl : vs.length = z.length) : (h.new ⟨z, e, false, full⟩).wr h.length 0 vs = some (h.new ⟨vs, e, false, full⟩) := by
  rw [wr_new_same, if_pos ⟨rfl, by simp only; omega⟩, splice_eq, hl]
  simp
theorem wr_full {h : AH} {z vs : List Value} {e : TypeId} {full : Bool} {n : Nat} (hg : h.get n = some ⟨z, e, false, full⟩) (hl : vs.length = z.length) : h.wr n 0 vs = some (h.put n ⟨vs, e, false, full⟩) := by
  rw [wr_of hg, if_pos ⟨rfl, by simp only; omega⟩, splice_eq]
  simp [hl]
theorem zeros9 : ([.int .u8 0, .int .u8 0, .int .u8 0, .int .u8 0, .int .u8 0, .int .u8 0, .int .u8 0, .int .u8 0, .int .u8 0] : List Value) = cel .u8 (List.replicate 9 0) := rfl
theorem zeros27 : ([.int .u8 0, .int .u8 0, .int .u8 0, .int .u8 0, .int .u8 0, .int .u8 0, .int .u8 0, .int .u8 0, .int .u8 0, .int .u8 0, .int .u8 0, .int .u8 0, .int .u8 0, .int .u8 0, .int .u8 0, .int .u8 0, .int .u8 0, .int .u8 0, .int .u8 0, .int .u8 0, .int .u8 0, .int .u8 0, .int .u8 0, .int .u8 0, .int .u8 0, .int .u8 0, .int .u8 0] : List Value) = cel .u8 (List.replicate 27 0) := rfl

end Go.Proofs.Ytapafdpnmakekaa.X

/- Data of one's own within a range of blocks; what the laws do with them: sizes, copies, comparisons, marks and holds, one form for each kind. -/
set_option linter.unusedVariables false
set_option linter.unusedSimpArgs false
set_option maxRecDepth 20000
set_option maxHeartbeats 4000000
namespace Go.Proofs.Ytapafdpnmakekaa.X
open Go Go.RowKit

/-- Only blocks within a range change. -/
structure OnlyR (a b : Nat) (h h' : AH) : Prop where
  len : h'.length = h.length
  same : ∀ n, ¬ (a ≤ n ∧ n < b) → h'[n]? = h[n]?
theorem OnlyR.refl (a b : Nat) (h : AH) : OnlyR a b h h := ⟨rfl, fun _ _ => rfl⟩
theorem OnlyR.trans {a b : Nat} {h h' h'' : AH} (w : OnlyR a b h h') (w' : OnlyR a b h' h'') : OnlyR a b h h'' := ⟨w'.len.trans w.len, fun n hn => (w'.same n hn).trans (w.same n hn)⟩
theorem OnlyR.get {a b n : Nat} {h h' : AH} (w : OnlyR a b h h') (hn : ¬ (a ≤ n ∧ n < b)) : h'.get n = h.get n := by
  unfold AH.get
  rw [w.same n hn]
theorem OnlyR.get' {a b n : Nat} {h h' : AH} {c : Blk} (w : OnlyR a b h h') (hb : h.get n = some c) (hn : n < a ∨ b ≤ n) : h'.get n = some c := by
  rw [w.get (by omega)]
  exact hb
theorem OnlyR.pre {a b : Nat} {h0 h h' : AH} (w : OnlyR a b h h') (p : h0 <+: h) (hn : h0.length ≤ a) : h0 <+: h' := by
  rw [List.prefix_iff_getElem?] at p ⊢
  intro i hi
  rw [w.same i (by omega)]
  exact p i hi
theorem Only.range {o : Option Nat} {a b : Nat} {h h' : AH} (w : Only o h h') (hn : ∀ n, o = some n → a ≤ n ∧ n < b) : OnlyR a b h h' := ⟨w.len, fun n q => w.same n (fun e => q (hn n e))⟩

/-! ### Lists of numbers -/
def InS (a b : Nat) (h : AH) (v : Value) (ns : List Int) : Prop :=
  (v = .slice none 0 0 ∧ ns = []) ∨ ∃ n e full, (a ≤ n ∧ n < b) ∧ v = .slice (some ⟨n, 0, none⟩) ns.length 1 ∧ h.get n = some ⟨ns.map (Value.int .i64), e, false, full⟩
section
variable {a b c d : Nat} {h h' h0 : AH} {v : Value} {ns : List Int}
theorem InS.rd (o : InS a b h v ns) : Ints h v ns := by
  rcases o with ⟨rfl, rfl⟩ | ⟨n, e, full, h1, rfl, h2⟩
  · exact .inl ⟨rfl, 0, by omega, rfl⟩
  · exact Ints.own h2 rfl
theorem InS.pre (o : InS a b h v ns) (p : h <+: h') : InS a b h' v ns := by
  rcases o with ⟨rfl, rfl⟩ | ⟨n, e, full, h1, rfl, h2⟩
  · exact .inl ⟨rfl, rfl⟩
  · exact .inr ⟨n, e, full, h1, rfl, pre_get p h2⟩
theorem InS.only (o : InS a b h v ns) (w : OnlyR c d h h') (hd : b ≤ c ∨ d ≤ a) : InS a b h' v ns := by
  rcases o with ⟨rfl, rfl⟩ | ⟨n, e, full, h1, rfl, h2⟩
  · exact .inl ⟨rfl, rfl⟩
  · exact .inr ⟨n, e, full, h1, rfl, w.get' h2 (by omega)⟩
theorem InS.ownR (o : InS a b h v ns) : OwnR (List.replicate a none) h v ns := by
  rcases o with ⟨rfl, rfl⟩ | ⟨n, e, full, h1, rfl, h2⟩
  · exact .inl ⟨rfl, rfl⟩
  · exact .inr ⟨n, e, full, by simpa using h1.1, rfl, h2⟩
theorem InS.blk (o : InS a b h v ns) : ∀ n, blkOf v = some n → a ≤ n ∧ n < b := by
  rcases o with ⟨rfl, rfl⟩ | ⟨n, e, full, h1, rfl, h2⟩
  · intro n hn; cases hn
  · intro m hm
    cases hm
    exact h1
theorem OwnR.back {k : List (Option Blk)} (o : OwnR k h v ns) (hb : ∀ n, blkOf v = some n → a ≤ n ∧ n < b) : InS a b h v ns := by
  rcases o with ⟨rfl, rfl⟩ | ⟨n, e, full, h1, rfl, h2⟩
  · exact .inl ⟨rfl, rfl⟩
  · exact .inr ⟨n, e, full, hb n rfl, rfl, h2⟩
end
/-! ### Tensors -/
/-! ### Lists of lists -/
def InM (a b : Nat) (h : AH) (v : Value) (rows : List (List Int)) : Prop :=
  (v = .slice none 0 0 ∧ rows = []) ∨ ∃ n e full cs, (a ≤ n ∧ n < b) ∧ v = .slice (some ⟨n, 0, none⟩) cs.length 1 ∧ h.get n = some ⟨cs, e, false, full⟩ ∧ cs.length = rows.length ∧
    (∀ i, i < rows.length → InS a b h (cs.getD i undef) (rows.getD i []) ∧ blkOf (cs.getD i undef) ≠ some n) ∧
    ∀ i j, i < j → j < rows.length → ∀ q, blkOf (cs.getD i undef) = some q → blkOf (cs.getD j undef) ≠ some q
section
variable {a b c d : Nat} {h h' h0 : AH} {v : Value} {rows : List (List Int)}
theorem InM.rd (o : InM a b h v rows) : Rows h v rows := by
  rcases o with ⟨rfl, rfl⟩ | ⟨n, e, full, cs, h1, rfl, h2, h3, h4, h5⟩
  · exact ⟨[], .inl ⟨rfl, 0, by omega, rfl⟩, rfl, fun i hi => by simp at hi⟩
  · refine ⟨cs, .inr ⟨n, 0, _, rfl, h2, by simp, fun i hi => ?_⟩, h3, fun i hi => (h4 i hi).1.rd⟩
    rw [Nat.zero_add, List.getD_eq_getElem?_getD, List.getElem?_eq_getElem hi]
    rfl
theorem InM.pre (o : InM a b h v rows) (p : h <+: h') : InM a b h' v rows := by
  rcases o with ⟨rfl, rfl⟩ | ⟨n, e, full, cs, h1, rfl, h2, h3, h4, h5⟩
  · exact .inl ⟨rfl, rfl⟩
  · exact .inr ⟨n, e, full, cs, h1, rfl, pre_get p h2, h3, fun i hi => ⟨(h4 i hi).1.pre p, (h4 i hi).2⟩, h5⟩
theorem InM.only (o : InM a b h v rows) (w : OnlyR c d h h') (hd : b ≤ c ∨ d ≤ a) : InM a b h' v rows := by
  rcases o with ⟨rfl, rfl⟩ | ⟨n, e, full, cs, h1, rfl, h2, h3, h4, h5⟩
  · exact .inl ⟨rfl, rfl⟩
  · exact .inr ⟨n, e, full, cs, h1, rfl, w.get' h2 (by omega), h3, fun i hi => ⟨(h4 i hi).1.only w hd, (h4 i hi).2⟩, h5⟩
end
@[simp] theorem tot_zero {rows : List (List Int)} : tot rows 0 = 0 := by simp [tot]
end Go.Proofs.Ytapafdpnmakekaa.X

/- Slices of products, schemes: sizes, copies, comparisons, marks. -/
set_option linter.unusedVariables false
set_option linter.unusedSimpArgs false
set_option maxRecDepth 20000
set_option maxHeartbeats 4000000
namespace Go.Proofs.Ytapafdpnmakekaa.X
open Go Go.RowKit

def Wid (w : Nat) (L : List (List Int)) : Prop := ∀ q, q ∈ L → q.length = w
theorem flat_len {w : Nat} : ∀ {L : List (List Int)}, Wid w L → L.flatten.length = L.length * w
  | [], _ => by simp
  | q :: L, h => by
    rw [List.flatten_cons, List.length_append, flat_len (fun r hr => h r (List.mem_cons_of_mem _ hr)), h q List.mem_cons_self, List.length_cons, Nat.succ_mul]
    omega
theorem flat_get {w : Nat} : ∀ {L : List (List Int)} {i : Nat}, Wid w L → i < L.length → (L.flatten.drop (i * w)).take w = L.getD i []
  | [], i, _, hi => by simp at hi
  | q :: L, 0, h, _ => by
    have hq := h q List.mem_cons_self
    rw [Nat.zero_mul, List.drop_zero, List.flatten_cons, List.take_append_of_le_length (by omega), List.take_of_length_le (by omega)]
    rfl
  | q :: L, i + 1, h, hi => by
    have hq := h q List.mem_cons_self
    have e : (q ++ L.flatten).drop w = L.flatten := by rw [← hq]; exact List.drop_left
    rw [List.flatten_cons, Nat.succ_mul, Nat.add_comm, ← List.drop_drop, e, flat_get (fun r hr => h r (List.mem_cons_of_mem _ hr)) (by simpa using hi)]
    rfl
theorem flat_set {w : Nat} {r : List Int} : ∀ {L : List (List Int)} {i : Nat}, Wid w L → i < L.length → L.flatten.take (i * w) ++ r ++ L.flatten.drop (i * w + w) = (L.set i r).flatten
  | [], i, _, hi => by simp at hi
  | q :: L, 0, h, _ => by
    have hq := h q List.mem_cons_self
    rw [Nat.zero_mul, List.take_zero, List.nil_append, Nat.zero_add, List.flatten_cons, List.drop_append_of_le_length (by omega), List.drop_of_length_le (by omega), List.nil_append]
    rfl
  | q :: L, i + 1, h, hi => by
    have hq := h q List.mem_cons_self
    have ih := flat_set (r := r) (fun r hr => h r (List.mem_cons_of_mem _ hr)) (show i < L.length by simpa using hi)
    rw [List.set_cons_succ, List.flatten_cons, List.flatten_cons, ← ih, show (i + 1) * w = q.length + i * w by rw [Nat.succ_mul, hq]; omega, List.take_append, List.drop_append]
    rw [List.take_of_length_le (l := q) (by omega), List.drop_of_length_le (l := q) (by omega), show q.length + i * w - q.length = i * w by omega, show q.length + i * w + w - q.length = i * w + w by omega]
    simp
section
variable {z : List Int} {L : List (List Int)} {i w : Nat}
end
/-- Elements of one's own, in one block within a range. -/
def InE (k : IntKind) (w a b : Nat) (h : AH) (v : Value) (L : List (List Int)) : Prop :=
  (v = .slice none 0 0 ∧ L = []) ∨ ∃ n e full, (a ≤ n ∧ n < b) ∧ v = .slice (some ⟨n, 0, none⟩) L.length w ∧ h.get n = some ⟨cel k L.flatten, e, false, full⟩ ∧ Wid w L
section
variable {k : IntKind} {w a b c d : Nat} {h h' : AH} {v : Value} {L : List (List Int)}
theorem InE.rd (o : InE k w a b h v L) : Els k w h v L := by
  rcases o with ⟨rfl, rfl⟩ | ⟨n, e, full, h1, rfl, h2, h3⟩
  · exact .inl ⟨rfl, 0, by omega, rfl⟩
  · refine .inr ⟨n, 0, _, rfl, h2, fun i hi => ?_⟩
    have := mul_row (w := w) hi
    simp only [cel_len, flat_len h3, Nat.zero_add, cel_drop, cel_take, flat_get h3 hi]
    exact ⟨by omega, trivial⟩
theorem InE.pre (o : InE k w a b h v L) (p : h <+: h') : InE k w a b h' v L := by
  rcases o with ⟨rfl, rfl⟩ | ⟨n, e, full, h1, rfl, h2, h3⟩
  · exact .inl ⟨rfl, rfl⟩
  · exact .inr ⟨n, e, full, h1, rfl, pre_get p h2, h3⟩
theorem InE.only (o : InE k w a b h v L) (u : OnlyR c d h h') (hd : b ≤ c ∨ d ≤ a) : InE k w a b h' v L := by
  rcases o with ⟨rfl, rfl⟩ | ⟨n, e, full, h1, rfl, h2, h3⟩
  · exact .inl ⟨rfl, rfl⟩
  · exact .inr ⟨n, e, full, h1, rfl, u.get' h2 (by omega), h3⟩
end
/-- Bytes. -/
def Byt (w : Nat) (L : List (List Int)) : Prop := ∀ i, i < L.length → ∀ j, j < w → 0 ≤ (L.getD i []).getD j 0 ∧ (L.getD i []).getD j 0 ≤ 255
structure Sch where
  p : Int
  n : Int
  m : Int
  k : Int
  ps : List (List Int)
def schV (x : Sch) (v : Value) : Value := .agg #[I64 x.p, I64 x.n, I64 x.m, I64 x.k, v]
def Prods (h : AH) (v : Value) (L : List (List Int)) : Prop := Els .u8 27 h v L ∧ Byt 27 L
def InX (a b : Nat) (h : AH) (v : Value) (L : List (List Int)) : Prop := InE .u8 27 a b h v L ∧ Byt 27 L
section
variable {a b c d : Nat} {h h' : AH} {v : Value} {L : List (List Int)}
theorem Prods.pre (o : Prods h v L) (p : h <+: h') : Prods h' v L := ⟨o.1.pre p, o.2⟩
theorem Prods.one (o : Prods h v L) : isOne v = true := o.1.one
theorem InX.rd (o : InX a b h v L) : Prods h v L := ⟨o.1.rd, o.2⟩
theorem InX.pre (o : InX a b h v L) (p : h <+: h') : InX a b h' v L := ⟨o.1.pre p, o.2⟩
theorem InX.only (o : InX a b h v L) (u : OnlyR c d h h') (hd : b ≤ c ∨ d ≤ a) : InX a b h' v L := ⟨o.1.only u hd, o.2⟩
end
end Go.Proofs.Ytapafdpnmakekaa.X

/- Slices of elements of some whole numbers each: appends. -/
set_option linter.unusedVariables false
set_option linter.unusedSimpArgs false
set_option maxRecDepth 20000
set_option maxHeartbeats 4000000
namespace Go.Proofs.Ytapafdpnmakekaa.X
open Go Go.RowKit

theorem getD_app_l {α : Type} {l r : List α} {i : Nat} {d : α} (hi : i < l.length) : (l ++ r).getD i d = l.getD i d := by
  rw [List.getD_eq_getElem?_getD, List.getD_eq_getElem?_getD, List.getElem?_append_left hi]
theorem getD_app_r {α : Type} {l r : List α} {i : Nat} {d : α} (hi : l.length ≤ i) : (l ++ r).getD i d = r.getD (i - l.length) d := by
  rw [List.getD_eq_getElem?_getD, List.getD_eq_getElem?_getD, List.getElem?_append_right hi]
theorem app_ownW {e : TypeId} {w bytes : Nat} {h : AH} {k n n' : Nat} {c vs : List Value} {full : Bool} (hk : h.get k = some ⟨c, e, false, full⟩) (hc : c.length = n * w) (hn : h.rdn n' 0 w = some vs)
    (hs : (n + 1 : Int) * bytes ≤ 140737488355328 ∧ (n + 1 : Int) ≤ 9223372036854775807) :
    appV e w bytes (.slice (some ⟨k, 0, none⟩) n w) (.slice (some ⟨n', 0, none⟩) 1 w) h = some (.slice (some ⟨h.length, 0, none⟩) (n + 1) w, (h.kill k).new ⟨c ++ vs, e, false, false⟩) := by
  simp only [appV, xop, ev, if_true, Nat.one_mul, hn, hk]
  rw [if_pos (by simpa using hs)]
  simp [hc]
theorem app_nilW {e : TypeId} {w bytes : Nat} {h : AH} {n' t : Nat} {vs : List Value} (ht : t = 0 ∨ t = 2) (hn : h.rdn n' 0 w = some vs) (hs : (1 : Int) * bytes ≤ 140737488355328) :
    appV e w bytes (.slice none 0 t) (.slice (some ⟨n', 0, none⟩) 1 w) h = some (.slice (some ⟨h.length, 0, none⟩) 1 w, h.new ⟨vs, e, false, false⟩) := by
  simp only [appV, xop, ev, if_true, Nat.one_mul, hn]
  rw [if_pos (by simpa using hs)]
  simp [ht]
/-- Elements under way: nil, or a block of one's own behind a place, other than the box that holds the slice. -/
def WayE (e : TypeId) (k : IntKind) (w : Nat) (h : AH) (lo bx : Nat) (sv : Value) (L : List (List Int)) : Prop :=
  Wid w L ∧ ((sv = .slice none 0 0 ∧ L = []) ∨ ∃ kb full, sv = .slice (some ⟨kb, 0, none⟩) L.length w ∧ lo ≤ kb ∧ kb ≠ bx ∧ h.get kb = some ⟨cel k L.flatten, e, false, full⟩)
section
variable {e : TypeId} {k : IntKind} {w : Nat} {h h' : AH} {lo bx : Nat} {sv : Value} {L : List (List Int)}
theorem WayE.pre (o : WayE e k w h lo bx sv L) (p : h <+: h') : WayE e k w h' lo bx sv L := by
  obtain ⟨hw, o | ⟨kb, full, h1, h2, h3, h4⟩⟩ := o
  · exact ⟨hw, .inl o⟩
  · exact ⟨hw, .inr ⟨kb, full, h1, h2, h3, pre_get p h4⟩⟩
theorem WayE.one (o : WayE e k w h lo bx sv L) : isOne sv = true := by
  obtain ⟨hw, ⟨rfl, _⟩ | ⟨kb, full, rfl, h2, h3, h4⟩⟩ := o <;> rfl
theorem WayE.cells (o : WayE e k w h lo bx sv L) : cellsL sv = [sv] := by
  obtain ⟨hw, ⟨rfl, _⟩ | ⟨kb, full, rfl, h2, h3, h4⟩⟩ := o <;> rfl
theorem WayE.put {b : Blk} (o : WayE e k w h lo bx sv L) : WayE e k w (h.put bx b) lo bx sv L := by
  obtain ⟨hw, o | ⟨kb, full, h1, h2, h3, h4⟩⟩ := o
  · exact ⟨hw, .inl o⟩
  · exact ⟨hw, .inr ⟨kb, full, h1, h2, h3, by rw [get_put_ne (fun x => h3 x.symm)]; exact h4⟩⟩
theorem WayE.putb {b : Blk} {n : Nat} (o : WayE e k w h lo bx sv L) (hn : n < lo) : WayE e k w (h.put n b) lo bx sv L := by
  obtain ⟨hw, o | ⟨kb, full, h1, h2, h3, h4⟩⟩ := o
  · exact ⟨hw, .inl o⟩
  · exact ⟨hw, .inr ⟨kb, full, h1, h2, h3, by rw [get_put_ne (by omega)]; exact h4⟩⟩
theorem WayE.inE (o : WayE e k w h lo bx sv L) : InE k w lo h.length h sv L := by
  obtain ⟨hw, o | ⟨kb, full, h1, h2, h3, h4⟩⟩ := o
  · exact .inl o
  · exact .inr ⟨kb, e, full, ⟨h2, get_lt h4⟩, h1, h4, hw⟩
/-- One element more. -/
theorem WayE.app {H : AH} {q : List Int} {e' : TypeId} {ro full : Bool} {bytes : Nat} (o : WayE e k w H lo bx sv L) (hq : q.length = w) (hl : ((L.length : Int) + 1) * bytes ≤ 140737488355328) (hn : (L.length : Int) < 1048576) (hlo : lo ≤ H.length) (hbx : bx < H.length)
    {Q : Value → AH → Prop} (hQ : ∀ sv' H', H'.length = H.length + 2 → (∀ h0 : AH, h0.length ≤ lo → h0 <+: H → h0 <+: H') → (∀ n c f, n < lo → OwnB H n c f → OwnB H' n c f) → (∀ c f, OwnB H bx c f → OwnB H' bx c f) → WayE e k w H' lo bx sv' (L ++ [q]) → Q sv' H') :
    OQ (appV e w bytes sv (.slice (some ⟨H.length, 0, none⟩) 1 w) (H.new ⟨cel k q, e', ro, full⟩)) Q := by
  have hr : (H.new ⟨cel k q, e', ro, full⟩).rdn H.length 0 w = some (cel k q) := by
    rw [rdn_of get_new_same]
    simp only
    rw [if_pos (by rw [cel_len, hq]; omega), List.drop_zero, List.take_of_length_le (by rw [cel_len, hq]; omega)]
  obtain ⟨hw, ⟨rfl, rfl⟩ | ⟨kb, fu, rfl, h2, h3, h4⟩⟩ := o
  · rw [app_nilW (.inl rfl) hr (by simp only [List.length_nil] at hl; omega), OQ_some]
    refine hQ _ _ (by rw [len_new, len_new]) (fun h0 _ p => pre_new (pre_new p)) (fun n c f hn o => (o.pre (pre_new (List.prefix_refl _))).pre (pre_new (List.prefix_refl _))) (fun c f o => (o.pre (pre_new (List.prefix_refl _))).pre (pre_new (List.prefix_refl _))) ⟨?_, .inr ⟨_, false, rfl, by rw [len_new]; omega, by rw [len_new]; omega, ?_⟩⟩
    · intro r hr
      rw [List.nil_append, List.mem_singleton] at hr
      rw [hr, hq]
    · rw [get_new_same]
      simp
  · have hk : (H.new ⟨cel k q, e', ro, full⟩).get kb = some ⟨cel k L.flatten, e, false, fu⟩ := get_new_any h4
    have hkb := get_lt h4
    rw [app_ownW hk (by rw [cel_len, flat_len hw]) hr ⟨hl, by omega⟩, OQ_some]
    refine hQ _ _ (by rw [len_new, len_kill, len_new]) (fun h0 q p => pre_new (pre_kill (pre_new p) (by omega))) (fun n c f hn o => ?_) (fun c f o => ?_) ⟨?_, .inr ⟨(H.new ⟨cel k q, e', ro, full⟩).length, false, by simp, by rw [len_new]; omega, by rw [len_new]; omega, ?_⟩⟩
    · obtain ⟨e', o⟩ := o
      exact ⟨e', get_new_any (by rw [get_kill_ne (by omega)]; exact get_new_any o)⟩
    · obtain ⟨e', o⟩ := o
      exact ⟨e', get_new_any (by rw [get_kill_ne h3]; exact get_new_any o)⟩
    · intro r hr
      rcases List.mem_append.1 hr with hr | hr
      · exact hw r hr
      · rw [List.mem_singleton.1 hr, hq]
    · rw [get_new_eq (by rw [len_kill])]
      simp [cel_app]
end
theorem InE.putb {k : IntKind} {w a b : Nat} {h : AH} {v : Value} {L : List (List Int)} {n : Nat} {bl : Blk} (o : InE k w a b h v L) (hn : n < a) : InE k w a b (h.put n bl) v L := by
  rcases o with o | ⟨m, e, full, h1, rfl, h2, h3⟩
  · exact .inl o
  · exact .inr ⟨m, e, full, h1, rfl, by rw [get_put_ne (by omega)]; exact h2, h3⟩
theorem InE.mono {k : IntKind} {w a b a' b' : Nat} {h : AH} {v : Value} {L : List (List Int)} (o : InE k w a b h v L) (ha : a' ≤ a) (hb : b ≤ b') : InE k w a' b' h v L := by
  rcases o with o | ⟨m, e, full, h1, rfl, h2, h3⟩
  · exact .inl o
  · exact .inr ⟨m, e, full, ⟨by omega, by omega⟩, rfl, h2, h3⟩
end Go.Proofs.Ytapafdpnmakekaa.X

/- The rules once more, with continuations that the rewriting leaves alone until their turn: printed by wip/tools/mkY.py. -/
set_option linter.unusedVariables false
set_option linter.unusedSimpArgs false
set_option linter.defProp false
namespace Go.Proofs.Ytapafdpnmakekaa.X
open Go Go.RowKit

/-- A dummy that depends on what is to be left alone. -/
inductive Dum {α : Type} (a : α) : Type
 | mk

def yQV (v : Value) (Q : Value → Prop) (_ : Dum Q) : Prop := QV v Q
@[congr] theorem yQV_congr {v : Value} {Q : Value → Prop} {w : Value} {d0 : Dum Q} (e : v = w) : yQV v Q d0 = yQV w Q d0 := by rw [e]
theorem yQV_forth {v : Value} {Q : Value → Prop} : QV v Q = yQV v Q .mk := rfl
theorem yQV_back {v : Value} {Q : Value → Prop} {d0 : Dum Q} : yQV v Q d0 = QV v Q := rfl
def yWV (r : Option Value) (Q : Value → Prop) (_ : Dum Q) : Prop := WV r Q
@[congr] theorem yWV_congr {r : Option Value} {Q : Value → Prop} {w : Option Value} {d0 : Dum Q} (e : r = w) : yWV r Q d0 = yWV w Q d0 := by rw [e]
theorem yWV_forth {r : Option Value} {Q : Value → Prop} : WV r Q = yWV r Q .mk := rfl
theorem yWV_back {r : Option Value} {Q : Value → Prop} {d0 : Dum Q} : yWV r Q d0 = WV r Q := rfl
def yHQ (r : Option AH) (Q : AH → Prop) (_ : Dum Q) : Prop := HQ r Q
@[congr] theorem yHQ_congr {r : Option AH} {Q : AH → Prop} {w : Option AH} {d0 : Dum Q} (e : r = w) : yHQ r Q d0 = yHQ w Q d0 := by rw [e]
theorem yHQ_forth {r : Option AH} {Q : AH → Prop} : HQ r Q = yHQ r Q .mk := rfl
theorem yHQ_back {r : Option AH} {Q : AH → Prop} {d0 : Dum Q} : yHQ r Q d0 = HQ r Q := rfl
def yPQ (v : Value) (Q : Nat → Nat → Prop) (_ : Dum Q) : Prop := PQ v Q
@[congr] theorem yPQ_congr {v : Value} {Q : Nat → Nat → Prop} {w : Value} {d0 : Dum Q} (e : v = w) : yPQ v Q d0 = yPQ w Q d0 := by rw [e]
theorem yPQ_forth {v : Value} {Q : Nat → Nat → Prop} : PQ v Q = yPQ v Q .mk := rfl
theorem yPQ_back {v : Value} {Q : Nat → Nat → Prop} {d0 : Dum Q} : yPQ v Q d0 = PQ v Q := rfl
def yLQ (v : List Value) (Q : List Value → Prop) (_ : Dum Q) : Prop := LQ v Q
@[congr] theorem yLQ_congr {v : List Value} {Q : List Value → Prop} {w : List Value} {d0 : Dum Q} (e : v = w) : yLQ v Q d0 = yLQ w Q d0 := by rw [e]
theorem yLQ_forth {v : List Value} {Q : List Value → Prop} : LQ v Q = yLQ v Q .mk := rfl
theorem yLQ_back {v : List Value} {Q : List Value → Prop} {d0 : Dum Q} : yLQ v Q d0 = LQ v Q := rfl
def yVQ (r : Option (List Value)) (Q : List Value → Prop) (_ : Dum Q) : Prop := VQ r Q
@[congr] theorem yVQ_congr {r : Option (List Value)} {Q : List Value → Prop} {w : Option (List Value)} {d0 : Dum Q} (e : r = w) : yVQ r Q d0 = yVQ w Q d0 := by rw [e]
theorem yVQ_forth {r : Option (List Value)} {Q : List Value → Prop} : VQ r Q = yVQ r Q .mk := rfl
theorem yVQ_back {r : Option (List Value)} {Q : List Value → Prop} {d0 : Dum Q} : yVQ r Q d0 = VQ r Q := rfl
def yOQ (r : Option (Value × AH)) (Q : Value → AH → Prop) (_ : Dum Q) : Prop := OQ r Q
@[congr] theorem yOQ_congr {r : Option (Value × AH)} {Q : Value → AH → Prop} {w : Option (Value × AH)} {d0 : Dum Q} (e : r = w) : yOQ r Q d0 = yOQ w Q d0 := by rw [e]
theorem yOQ_forth {r : Option (Value × AH)} {Q : Value → AH → Prop} : OQ r Q = yOQ r Q .mk := rfl
theorem yOQ_back {r : Option (Value × AH)} {Q : Value → AH → Prop} {d0 : Dum Q} : yOQ r Q d0 = OQ r Q := rfl
def yIfW (v : Value) (A : Prop) (B : Prop) (_ : Dum A) (_ : Dum B) : Prop := IfW v A B
@[congr] theorem yIfW_congr {v : Value} {A : Prop} {B : Prop} {w : Value} {d0 : Dum A} {d1 : Dum B} (e : v = w) : yIfW v A B d0 d1 = yIfW w A B d0 d1 := by rw [e]
theorem yIfW_forth {v : Value} {A : Prop} {B : Prop} : IfW v A B = yIfW v A B .mk .mk := rfl
theorem yIfW_back {v : Value} {A : Prop} {B : Prop} {d0 : Dum A} {d1 : Dum B} : yIfW v A B d0 d1 = IfW v A B := rfl
def yWF (S : XS) (g : FuncId) (args : List Value) (h : AH) (Q : Value → AH → Prop) (_ : Dum h) (_ : Dum Q) : Prop := WF S g args h Q
@[congr] theorem yWF_congr {S : XS} {g : FuncId} {args args1 : List Value} {h : AH} {Q : Value → AH → Prop} {d0 : Dum h} {d1 : Dum Q} (e : args = args1) : yWF S g args h Q d0 d1 = yWF S g args1 h Q d0 d1 := by rw [e]
theorem yWF_back {S : XS} {g : FuncId} {args : List Value} {h : AH} {Q : Value → AH → Prop} {d0 : Dum h} {d1 : Dum Q} : yWF S g args h Q d0 d1 = WF S g args h Q := rfl
def yWK (S : XS) (v : Value) (args : List Value) (h : AH) (Q : Value → AH → Prop) (_ : Dum h) (_ : Dum Q) : Prop := WK S v args h Q
@[congr] theorem yWK_congr {S : XS} {v v1 : Value} {args args1 : List Value} {h : AH} {Q : Value → AH → Prop} {d0 : Dum h} {d1 : Dum Q} (e : v = v1) (e1 : args = args1) : yWK S v args h Q d0 d1 = yWK S v1 args1 h Q d0 d1 := by rw [e, e1]
theorem yWK_back {S : XS} {v : Value} {args : List Value} {h : AH} {Q : Value → AH → Prop} {d0 : Dum h} {d1 : Dum Q} : yWK S v args h Q d0 d1 = WK S v args h Q := rfl
theorem yWK_func {S : XS} {g : FuncId} {cap : Array Value} {args : List Value} {h : AH} {Q : Value → AH → Prop} {d0 : Dum h} {d1 : Dum Q} : yWK S (.func (.func g) #[] cap) args h Q d0 d1 = yWF S g (args ++ cap.toList) h Q .mk .mk := rfl
def yWG (S : XS) (v : Value) (b : Bool) (i : XI) (rest : List XI) (f : Fr) (h : AH) (Q : Fr → AH → Prop) (_ : Dum i) (_ : Dum rest) (_ : Dum f) (_ : Dum h) (_ : Dum Q) : Prop := WG S v b i rest f h Q
@[congr] theorem yWG_congr {v v1 : Value} {b : Bool} {S : XS} {i : XI} {rest : List XI} {f : Fr} {h : AH} {Q : Fr → AH → Prop} {d0 : Dum i} {d1 : Dum rest} {d2 : Dum f} {d3 : Dum h} {d4 : Dum Q} (e : v = v1) : yWG S v b i rest f h Q d0 d1 d2 d3 d4 = yWG S v1 b i rest f h Q d0 d1 d2 d3 d4 := by rw [e]
theorem yWG_back {v : Value} {b : Bool} {S : XS} {i : XI} {rest : List XI} {f : Fr} {h : AH} {Q : Fr → AH → Prop} {d0 : Dum i} {d1 : Dum rest} {d2 : Dum f} {d3 : Dum h} {d4 : Dum Q} : yWG S v b i rest f h Q d0 d1 d2 d3 d4 = WG S v b i rest f h Q := rfl
theorem yWG_tt {S : XS} {i : XI} {rest : List XI} {f : Fr} {h : AH} {Q : Fr → AH → Prop} {d0 : Dum i} {d1 : Dum rest} {d2 : Dum f} {d3 : Dum h} {d4 : Dum Q} : yWG S (.bool true) true i rest f h Q d0 d1 d2 d3 d4 = WO S (⟨i.d, i.o, none, i.q⟩ :: rest) f h Q := rfl
theorem yWG_ff {S : XS} {i : XI} {rest : List XI} {f : Fr} {h : AH} {Q : Fr → AH → Prop} {d0 : Dum i} {d1 : Dum rest} {d2 : Dum f} {d3 : Dum h} {d4 : Dum Q} : yWG S (.bool false) false i rest f h Q d0 d1 d2 d3 d4 = WO S (⟨i.d, i.o, none, i.q⟩ :: rest) f h Q := rfl
theorem yWG_tf {S : XS} {i : XI} {rest : List XI} {f : Fr} {h : AH} {Q : Fr → AH → Prop} {d0 : Dum i} {d1 : Dum rest} {d2 : Dum f} {d3 : Dum h} {d4 : Dum Q} : yWG S (.bool true) false i rest f h Q d0 d1 d2 d3 d4 = WO S rest (updo f i.d undef) h Q := rfl
theorem yWG_ft {S : XS} {i : XI} {rest : List XI} {f : Fr} {h : AH} {Q : Fr → AH → Prop} {d0 : Dum i} {d1 : Dum rest} {d2 : Dum f} {d3 : Dum h} {d4 : Dum Q} : yWG S (.bool false) true i rest f h Q d0 d1 d2 d3 d4 = WO S rest (updo f i.d undef) h Q := rfl
theorem yWG_un {b : Bool} {S : XS} {i : XI} {rest : List XI} {f : Fr} {h : AH} {Q : Fr → AH → Prop} {d0 : Dum i} {d1 : Dum rest} {d2 : Dum f} {d3 : Dum h} {d4 : Dum Q} : yWG S undef b i rest f h Q d0 d1 d2 d3 d4 = WO S rest (updo f i.d undef) h Q := rfl
theorem yQV_eq {v : Value} {Q : Value → Prop} {d : Dum Q} : yQV v Q d = Q v := rfl
theorem yWV_some {v : Value} {Q : Value → Prop} {d : Dum Q} : yWV (some v) Q d = Q v := WV_some
theorem yWV_ite {c : Prop} [Decidable c] {v : Value} {Q : Value → Prop} {d : Dum Q} : yWV (if c then some v else none) Q d = (c ∧ Q v) := WV_ite
theorem yHQ_some {v : AH} {Q : AH → Prop} {d : Dum Q} : yHQ (some v) Q d = Q v := HQ_some
theorem yHQ_ite {c : Prop} [Decidable c] {v : AH} {Q : AH → Prop} {d : Dum Q} : yHQ (if c then some v else none) Q d = (c ∧ Q v) := HQ_ite
theorem yPQ_ptr {p : Addr} {Q : Nat → Nat → Prop} {d : Dum Q} : yPQ (.pointer (some p)) Q d = Q p.block p.off := rfl
theorem yLQ_eq {v : List Value} {Q : List Value → Prop} {d : Dum Q} : yLQ v Q d = Q v := rfl
theorem yVQ_some {v : List Value} {Q : List Value → Prop} {d : Dum Q} : yVQ (some v) Q d = Q v := VQ_some
theorem yOQ_some {v : Value} {h : AH} {Q : Value → AH → Prop} {d : Dum Q} : yOQ (some (v, h)) Q d = Q v h := OQ_some
theorem yOQ_ite {c : Prop} [Decidable c] {v : Value} {h : AH} {Q : Value → AH → Prop} {d : Dum Q} : yOQ (if c then some (v, h) else none) Q d = (c ∧ Q v h) := OQ_ite
theorem yIfW_t {A B : Prop} {d : Dum A} {e : Dum B} : yIfW (.bool true) A B d e = A := rfl
theorem yIfW_f {A B : Prop} {d : Dum A} {e : Dum B} : yIfW (.bool false) A B d e = B := rfl

theorem yWX_clr {S : XS} {f : Fr} {h : AH} {Q : Value → AH → Prop} {sz : Nat} {z : List Value} {x : Operand} : WX S (.clr sz z x) f h Q = yOQ (clrV sz z (ev f x) h) Q .mk := WX_clr
theorem yWX_idxt {S : XS} {f : Fr} {h : AH} {Q : Value → AH → Prop} {x i : Operand} : WX S (.idxt x i) f h Q = yOQ (idxtV (ev f x) (ev f i) h) Q .mk := WX_idxt
theorem yWX_nchk {S : XS} {f : Fr} {h : AH} {Q : Value → AH → Prop} {x : Operand} : WX S (.nchk x) f h Q = yWV (nchkV (ev f x)) (fun v => Q v h) .mk := WX_nchk
theorem yWX_mkz {S : XS} {f : Fr} {h : AH} {Q : Value → AH → Prop}  : WX S .mkz f h Q = yQV (.slice none 0 2) (fun v => Q v h) .mk := WX_mkz
theorem yWX_mv {S : XS} {f : Fr} {h : AH} {Q : Value → AH → Prop} {x : Operand} : WX S (.mv x) f h Q = yQV (ev f x) (fun v => Q v h) .mk := WX_mv
theorem yWX_pick {S : XS} {f : Fr} {h : AH} {Q : Value → AH → Prop} {a b c : Operand} : WX S (.pick c a b) f h Q = yWV (pickV (ev f c) (ev f a) (ev f b)) (fun v => Q v h) .mk := WX_pick
theorem yWX_box {S : XS} {f : Fr} {h : AH} {Q : Value → AH → Prop} {x : Operand} {e : TypeId} : WX S (.box e x) f h Q = yLQ (cellsL (ev f x)) (fun c => c.all isOne = true ∧ Q (.pointer (some ⟨h.length, 0, none⟩)) (h.new ⟨c, e, false, true⟩)) .mk := WX_box
theorem yWX_boxn {S : XS} {f : Fr} {h : AH} {Q : Value → AH → Prop} {x : Operand} {e : TypeId} {n : Nat} : WX S (.boxn e n x) f h Q = yLQ (cellsL (ev f x)) (fun c => (c.length = n ∧ c.all isOne = true) ∧ Q (.pointer (some ⟨h.length, 0, none⟩)) (h.new ⟨c, e, false, true⟩)) .mk := WX_boxn
theorem yWX_load1 {S : XS} {f : Fr} {h : AH} {Q : Value → AH → Prop} {a : Operand} : WX S (.load1 a) f h Q = yPQ (ev f a) (fun n off => yWV (h.rd1 n off) (fun v => Q v h) .mk) .mk := WX_load1
theorem yWX_loadn {S : XS} {f : Fr} {h : AH} {Q : Value → AH → Prop} {a : Operand} {n : Nat} : WX S (.loadn n a) f h Q = yPQ (ev f a) (fun m off => yWV ((h.rdn m off n).map fun c => .agg c.toArray) (fun v => Q v h) .mk) .mk := WX_loadn
theorem yWX_store {S : XS} {f : Fr} {h : AH} {Q : Value → AH → Prop} {a x : Operand} {n : Nat} : WX S (.store n a x) f h Q = yPQ (ev f a) (fun m off => yLQ (cellsL (ev f x)) (fun c => (c.length = n ∧ c.all isOne = true) ∧ yHQ (h.wr m off c) (fun h1 => Q undef h1) .mk) .mk) .mk := WX_store
theorem yWX_bin {S : XS} {f : Fr} {h : AH} {Q : Value → AH → Prop} {x y : Operand} {op : BinOp} : WX S (.bin op x y) f h Q = yWV (xbin op (ev f x) (ev f y)) (fun v => Q v h) .mk := WX_bin
theorem yWX_un {S : XS} {f : Fr} {h : AH} {Q : Value → AH → Prop} {x : Operand} {op : UnOp} : WX S (.un op x) f h Q = yWV (xun op (ev f x)) (fun v => Q v h) .mk := WX_un
theorem yWX_conv {S : XS} {f : Fr} {h : AH} {Q : Value → AH → Prop} {x : Operand} {k : IntKind} : WX S (.conv k x) f h Q = yWV (convV k (ev f x)) (fun v => Q v h) .mk := WX_conv
theorem yWX_fadr {S : XS} {f : Fr} {h : AH} {Q : Value → AH → Prop} {x : Operand} {off : Nat} : WX S (.fadr off x) f h Q = yPQ (ev f x) (fun n o => Q (.pointer (some ⟨n, o + off, none⟩)) h) .mk := WX_fadr
theorem yWX_fld1 {S : XS} {f : Fr} {h : AH} {Q : Value → AH → Prop} {x : Operand} {off : Nat} : WX S (.fld1 off x) f h Q = yWV (fstV (ev f x) off) (fun v => Q v h) .mk := WX_fld1
theorem yWX_ext {S : XS} {f : Fr} {h : AH} {Q : Value → AH → Prop} {x : Operand} {i : Nat} : WX S (.ext x i) f h Q = yWV (extV (ev f x) i) (fun v => Q v h) .mk := WX_ext
theorem yWX_len {S : XS} {f : Fr} {h : AH} {Q : Value → AH → Prop} {x : Operand} : WX S (.len x) f h Q = yWV (lenV (ev f x)) (fun v => Q v h) .mk := WX_len
theorem yWX_ixs {S : XS} {f : Fr} {h : AH} {Q : Value → AH → Prop} {x y : Operand} {sz : Nat} : WX S (.ixs sz x y) f h Q = yWV (ixsV sz (ev f x) (ev f y)) (fun v => Q v h) .mk := WX_ixs
theorem yWX_ixa {S : XS} {f : Fr} {h : AH} {Q : Value → AH → Prop} {x y : Operand} {n sz : Nat} : WX S (.ixa n sz x y) f h Q = yWV (ixaV n sz (ev f x) (ev f y)) (fun v => Q v h) .mk := WX_ixa
theorem yWX_idx1 {S : XS} {f : Fr} {h : AH} {Q : Value → AH → Prop} {x y : Operand} {n : Nat} : WX S (.idx1 n x y) f h Q = yWV (idx1V n (ev f x) (ev f y)) (fun v => Q v h) .mk := WX_idx1
theorem yWX_idxn {S : XS} {f : Fr} {h : AH} {Q : Value → AH → Prop} {x y : Operand} {n sz : Nat} : WX S (.idxn n sz x y) f h Q = yWV (idxnV n sz (ev f x) (ev f y)) (fun v => Q v h) .mk := WX_idxn
theorem yWX_slc {S : XS} {f : Fr} {h : AH} {Q : Value → AH → Prop} {x : Operand} {sz : Nat} {lo hi : Option Operand} : WX S (.slc sz x lo hi) f h Q = yWV (slcV sz (ev f x) (omapF f lo) (omapF f hi)) (fun v => Q v h) .mk := WX_slc
theorem yWX_cap {S : XS} {f : Fr} {h : AH} {Q : Value → AH → Prop} {x : Operand} : WX S (.cap x) f h Q = yWV (capV (ev f x)) (fun v => Q v h) .mk := WX_cap
theorem yWX_isnil {S : XS} {f : Fr} {h : AH} {Q : Value → AH → Prop} {x : Operand} {neg : Bool} : WX S (.isnil neg x) f h Q = yWV (isnilV neg (ev f x)) (fun v => Q v h) .mk := WX_isnil
theorem yWX_eqb {S : XS} {f : Fr} {h : AH} {Q : Value → AH → Prop} {x y : Operand} {neg : Bool} : WX S (.eqb neg x y) f h Q = yWV (eqbV neg (ev f x) (ev f y)) (fun v => Q v h) .mk := WX_eqb
theorem yWX_eqa {S : XS} {f : Fr} {h : AH} {Q : Value → AH → Prop} {x y : Operand} {neg : Bool} {n : Nat} : WX S (.eqa neg n x y) f h Q = yWV (eqaV neg n (ev f x) (ev f y)) (fun v => Q v h) .mk := WX_eqa
theorem yWX_mks {S : XS} {f : Fr} {h : AH} {Q : Value → AH → Prop} {x : Operand} {e : TypeId} {sz bytes : Nat} {z : List Value} : WX S (.mks e sz bytes z x) f h Q = yOQ (mksV e sz bytes z (ev f x) h) Q .mk := WX_mks
theorem yWX_app {S : XS} {f : Fr} {h : AH} {Q : Value → AH → Prop} {x y : Operand} {e : TypeId} {sz bytes : Nat} : WX S (.app e sz bytes x y) f h Q = yOQ (appV e sz bytes (ev f x) (ev f y) h) Q .mk := WX_app
theorem yWX_appz {S : XS} {f : Fr} {h : AH} {Q : Value → AH → Prop} {x y : Operand} {e : TypeId} {sz bytes : Nat} : WX S (.appz e sz bytes x y) f h Q = yOQ (appzV e sz bytes (ev f x) (ev f y) h) Q .mk := WX_appz
theorem yWX_mkf {S : XS} {f : Fr} {h : AH} {Q : Value → AH → Prop} {g : FuncId} {l : List Operand} : WX S (.mkf g l) f h Q = yLQ (l.map (ev f)) (fun c => Q (.func (.func g) #[] c.toArray) h) .mk := WX_mkf
theorem yWX_build {S : XS} {f : Fr} {h : AH} {Q : Value → AH → Prop} {z : List Value} {l : List (Nat × Nat × Operand)} : WX S (.build z l) f h Q = yVQ (fillL z (l.map fun p => (p.1, p.2.1, ev f p.2.2))) (fun c => c.all isOne = true ∧ Q (.agg c.toArray) h) .mk := WX_build
theorem yWX_bslice {S : XS} {f : Fr} {h : AH} {Q : Value → AH → Prop} {e : TypeId} {sz n : Nat} {z : List Value} {l : List (Nat × Nat × Operand)} : WX S (.bslice e sz n z l) f h Q = yVQ (fillL (zrep n z) (l.map fun p => (p.1, p.2.1, ev f p.2.2))) (fun c => c.all isOne = true ∧ Q (.slice (some ⟨h.length, 0, none⟩) n sz) (h.new ⟨c, e, false, true⟩)) .mk := WX_bslice
theorem yWX_callf {S : XS} {f : Fr} {h : AH} {Q : Value → AH → Prop} {g : FuncId} {args : List Operand} : WX S (.call (.func g) args) f h Q = yWF S g (args.map (ev f)) h Q .mk .mk := WX_callf
theorem yWX_calls {S : XS} {f : Fr} {h : AH} {Q : Value → AH → Prop} {fo : Operand} {args : List Operand} : WX S (.call fo args) f h Q = yWK S (ev f fo) (args.map (ev f)) h Q .mk .mk := WX_calls
theorem yWO_guard {S : XS} {d : Option Nat} {o : XOp} {s : Nat} {b : Bool} {q : XQ} {rest : List XI} {f : Fr} {h : AH} {Q : Fr → AH → Prop} : WO S (⟨d, o, some (s, b), q⟩ :: rest) f h Q = yWG S (f s) b ⟨d, o, none, q⟩ rest f h Q .mk .mk .mk .mk .mk := WO_guard
theorem yWC_cond {S : XS} {c : Operand} {a b : IR} {f : Fr} {h : AH} {Q : XE → Fr → AH → Prop} : WC S (.cond c a b) f h Q = yIfW (ev f c) (WC S a f h Q) (WC S b f h Q) .mk .mk := WC_cond
theorem yRetQ_n {rs : List XRes} {f : Fr} {h : AH} {R : Value → AH → Prop} : RetQ rs R .normal f h = yOQ ((xres f h rs).map (·, h)) R .mk := rfl
theorem yRetQ_r {rs : List XRes} {f : Fr} {h : AH} {R : Value → AH → Prop} : RetQ rs R .ret f h = yOQ ((xres f h rs).map (·, h)) R .mk := rfl
theorem yfill_nil {z : List Value} : fillL z [] = some z := rfl
theorem yfill_cons {z : List Value} {off n : Nat} {x : Value} {rest : List (Nat × Nat × Value)} : fillL z ((off, n, x) :: rest) = if (cellsL x).length = n ∧ off + n ≤ z.length then fillL (splice z off (cellsL x)) rest else none := rfl
theorem yzrep_0 {z : List Value} : zrep 0 z = [] := by simp [zrep]
theorem yzrep_1 {z : List Value} : zrep 1 z = z := by simp [zrep]
theorem yzrep_2 {z : List Value} : zrep 2 z = z ++ z := by simp [zrep]
theorem yzrep_3 {z : List Value} : zrep 3 z = z ++ z ++ z := by simp [zrep]
theorem yzrep_4 {z : List Value} : zrep 4 z = z ++ z ++ z ++ z := by simp [zrep]
theorem yzrep_5 {z : List Value} : zrep 5 z = z ++ z ++ z ++ z ++ z := by simp [zrep]
theorem yzrep_6 {z : List Value} : zrep 6 z = z ++ z ++ z ++ z ++ z ++ z := by simp [zrep]
theorem yzrep_7 {z : List Value} : zrep 7 z = z ++ z ++ z ++ z ++ z ++ z ++ z := by simp [zrep]
theorem yzrep_8 {z : List Value} : zrep 8 z = z ++ z ++ z ++ z ++ z ++ z ++ z ++ z := by simp [zrep]
theorem yzrep_9 {z : List Value} : zrep 9 z = z ++ z ++ z ++ z ++ z ++ z ++ z ++ z ++ z := by simp [zrep]
theorem yWF_forth {S : XS} {g : FuncId} {args : List Value} {h : AH} {Q : Value → AH → Prop} : WF S g args h Q = yWF S g args h Q .mk .mk := rfl
theorem yWK_forth {S : XS} {v : Value} {args : List Value} {h : AH} {Q : Value → AH → Prop} : WK S v args h Q = yWK S v args h Q .mk .mk := rfl
theorem yWG_forth {S : XS} {v : Value} {b : Bool} {i : XI} {rest : List XI} {f : Fr} {h : AH} {Q : Fr → AH → Prop} : WG S v b i rest f h Q = yWG S v b i rest f h Q .mk .mk .mk .mk .mk := rfl
def ypre := And.intro @WC_skip (And.intro @WC_exit (And.intro @WC_ret (And.intro @WC_reg (And.intro @WC_seq (And.intro @yWC_cond (And.intro @WC_blk (And.intro @WO_free (And.intro @WO_calm (And.intro @WO_sload1 (And.intro @WO_sloadn (And.intro @WO_sstore (And.intro @WO_scall (And.intro @yWO_guard (And.intro @yWX_mv (And.intro @yWX_pick (And.intro @WX_alloc (And.intro @yWX_box (And.intro @yWX_boxn (And.intro @yWX_load1 (And.intro @yWX_loadn (And.intro @yWX_store (And.intro @yWX_bin (And.intro @yWX_un (And.intro @yWX_conv (And.intro @yWX_fadr (And.intro @yWX_fld1 (And.intro @yWX_ext (And.intro @yWX_len (And.intro @yWX_cap (And.intro @yWX_ixa (And.intro @yWX_idx1 (And.intro @yWX_idxn (And.intro @yWX_slc (And.intro @yWX_cap (And.intro @yWX_isnil (And.intro @yWX_ixs (And.intro @yWX_eqb (And.intro @yWX_eqa (And.intro @yWX_mks (And.intro @yWX_app (And.intro @yWX_appz (And.intro @yWX_mkz (And.intro @yWX_nchk (And.intro @yWX_clr (And.intro @yWX_idxt (And.intro @yWX_mkf (And.intro @yWX_build (And.intro @yWX_bslice (And.intro @yWX_callf (And.intro @yWX_calls (And.intro @ev_tmp (And.intro @ev_const (And.intro @ev_func (And.intro @updo_some (And.intro @updo_none (And.intro @upd_apply (And.intro @SeqQ_n (And.intro @SeqQ_e (And.intro @SeqQ_r (And.intro @BlkQ_n (And.intro @BlkQ_e (And.intro @BlkQ_r (And.intro @RegQ_eq (And.intro @yRetQ_n (And.intro @yRetQ_r (And.intro @InvQ_e (And.intro @InvQ_r (And.intro @LoopQ_e (And.intro @LoopQ_r (And.intro @yQV_forth (And.intro @yWV_forth (And.intro @yHQ_forth (And.intro @yPQ_forth (And.intro @yLQ_forth (And.intro @yVQ_forth (And.intro @yOQ_forth (And.intro @yIfW_forth (And.intro @yWF_forth (And.intro @yWK_forth (@yWG_forth))))))))))))))))))))))))))))))))))))))))))))))))))))))))))))))))))))))))))))))))
def ypost := And.intro @AP_nil (And.intro @AP_cons (And.intro @KpV_ptr (And.intro @nchkV_p (And.intro @capV_nil (And.intro @WO_nil (And.intro @yWG_tt (And.intro @yWG_ff (And.intro @yWG_tf (And.intro @yWG_un (And.intro @yWG_ft (And.intro @yQV_eq (And.intro @yWV_some (And.intro @yOQ_some (And.intro @yWK_func (And.intro @yHQ_some (And.intro @yPQ_ptr (And.intro @yLQ_eq (And.intro @yVQ_some (And.intro @yIfW_t (And.intro @yIfW_f (And.intro @pickV_t (And.intro @pickV_f (And.intro @bin_add (And.intro @bin_sub (And.intro @bin_mul (And.intro @bin_eql (And.intro @bin_neq (And.intro @bin_lss (And.intro @bin_leq (And.intro @bin_gtr (And.intro @bin_geq (And.intro @un_not (And.intro @un_minus (And.intro @lenV_slice (And.intro @convV_int (And.intro @fstV_agg (And.intro @extV_tuple (And.intro @eqa3 (And.intro @eqbV_b (And.intro @cellsL_agg (And.intro @cellsL_int (And.intro @cellsL_bool (And.intro @cellsL_slice (And.intro @cellsL_ptr (And.intro @cellsL_func (And.intro @mksV_int (And.intro @yOQ_ite (And.intro @yWV_ite (And.intro @rd1_new_same (And.intro @rd1_new_lt (And.intro @rdn_new_lt (And.intro @get_new_lt (And.intro @wr_new_lt (And.intro @yHQ_ite (And.intro @map_ite_v (And.intro @rd1_put_same (And.intro @rdn_put_same (And.intro @rd1_put_ne (And.intro @rdn_put_ne (And.intro @wr_put_same (And.intro @wr_put_ne (And.intro @xres_tmp (And.intro @xres_tmp2 (And.intro @xres_cell (And.intro @xres_cells (And.intro @xres_2 (And.intro @tup2_some (And.intro @rd1V_ptr (And.intro @rdnV_ptr (And.intro @xres1_tmp (And.intro @xres1_cell (And.intro @xres1_cells (And.intro @args_nil (And.intro @args_cons (And.intro @map_some_v (And.intro @bind_some_v (And.intro @map_cons_v (And.intro @map_nil_v (And.intro @lit_nil (And.intro @lit_cons (And.intro @toL (And.intro @all_cons_v (And.intro @all_nil_v (And.intro @one_int (And.intro @one_bool (And.intro @one_slice (And.intro @one_func (And.intro @one_ptr (And.intro @len_cons_v (And.intro @len_nil_v (And.intro @drop_zero_v (And.intro @drop_cons_v (And.intro @take_zero_v (And.intro @take_nil_v (And.intro @take_cons_v (And.intro @app_nil_v (And.intro @app_cons_v (And.intro @get_new_same (And.intro @Bool.and_true (And.intro @Bool.true_and (And.intro @Bool.not_true (And.intro @Bool.not_false (And.intro @true_and (And.intro @and_true (And.intro @and_self (And.intro @decide_true (And.intro @decide_false (And.intro @yfill_nil (And.intro @yfill_cons (And.intro @yzrep_0 (And.intro @yzrep_1 (And.intro @yzrep_2 (And.intro @yzrep_3 (And.intro @yzrep_4 (And.intro @yzrep_5 (And.intro @yzrep_6 (And.intro @yzrep_7 (And.intro @yzrep_8 (@yzrep_9)))))))))))))))))))))))))))))))))))))))))))))))))))))))))))))))))))))))))))))))))))))))))))))))))))))))))))))))))))))))
def yback := And.intro @yQV_back (And.intro @yWV_back (And.intro @yHQ_back (And.intro @yPQ_back (And.intro @yLQ_back (And.intro @yVQ_back (And.intro @yOQ_back (And.intro @yIfW_back (And.intro @yWF_back (And.intro @yWK_back (@yWG_back))))))))))
def ynew := And.intro @wr_new_same (And.intro @rdn_new_same (@splice_cons))
end Go.Proofs.Ytapafdpnmakekaa.X

/- Programs of additions: sizes, copies, comparisons, marks (printed by wip/tools/mkP.py). -/
set_option linter.unusedVariables false
set_option linter.unusedSimpArgs false
set_option maxRecDepth 20000
set_option maxHeartbeats 4000000
namespace Go.Proofs.Ytapafdpnmakekaa.X
open Go Go.RowKit

/-- A program. -/
structure Prg where
  p : Int
  n : Int
  st : List (List Int)
  out : List (List Int)
def PrgR (h : AH) (v w : Value) (x : Prg) : Prop := Els .i64 3 h v x.st ∧ Els .i64 2 h w x.out
def InP (a b : Nat) (h : AH) (v w : Value) (x : Prg) : Prop := ∃ c, a ≤ c ∧ c ≤ b ∧ InE .i64 3 a c h v x.st ∧ InE .i64 2 c b h w x.out
section
variable {a b c d : Nat} {h h' : AH} {v w : Value} {x : Prg}
theorem PrgR.pre (o : PrgR h v w x) (p : h <+: h') : PrgR h' v w x := ⟨o.1.pre p, o.2.pre p⟩
theorem InP.rd (o : InP a b h v w x) : PrgR h v w x := by
  obtain ⟨c, h1, h2, h3, h4⟩ := o
  exact ⟨h3.rd, h4.rd⟩
theorem InP.pre (o : InP a b h v w x) (p : h <+: h') : InP a b h' v w x := by
  obtain ⟨c, h1, h2, h3, h4⟩ := o
  exact ⟨c, h1, h2, h3.pre p, h4.pre p⟩
theorem InP.only (o : InP a b h v w x) (u : OnlyR c d h h') (hd : b ≤ c ∨ d ≤ a) : InP a b h' v w x := by
  obtain ⟨e, h1, h2, h3, h4⟩ := o
  exact ⟨e, h1, h2, h3.only u (by omega), h4.only u (by omega)⟩
theorem InP.putb {n : Nat} {bl : Blk} (o : InP a b h v w x) (hn : n < a) : InP a b (h.put n bl) v w x := by
  obtain ⟨e, h1, h2, h3, h4⟩ := o
  exact ⟨e, h1, h2, h3.putb (by omega), h4.putb (by omega)⟩
theorem InP.mono {a' b' : Nat} (o : InP a b h v w x) (ha : a' ≤ a) (hb : b ≤ b') : InP a' b' h v w x := by
  obtain ⟨e, h1, h2, h3, h4⟩ := o
  exact ⟨e, by omega, by omega, h3.mono ha (Nat.le_refl _), h4.mono (Nat.le_refl _) hb⟩
end
end Go.Proofs.Ytapafdpnmakekaa.X

/- What programs are, both sides (printed by wip/tools/mkP2.py). -/
set_option linter.unusedVariables false
set_option linter.unusedSimpArgs false
set_option maxRecDepth 20000
set_option maxHeartbeats 4000000
namespace Go.Proofs.Ytapafdpnmakekaa.X
open Go Go.RowKit

def okStep (p n : Int) (q : List Int) : Bool := decide (0 ≤ q.getD 0 0 ∧ q.getD 0 0 < n ∧ 0 ≤ q.getD 1 0 ∧ q.getD 1 0 < n ∧ q.getD 0 0 ≠ q.getD 1 0 ∧ 1 ≤ q.getD 2 0 ∧ q.getD 2 0 < p)
def okOut (p n : Int) (q : List Int) : Bool := decide (0 ≤ q.getD 0 0 ∧ q.getD 0 0 < n ∧ 0 ≤ q.getD 1 0 ∧ q.getD 1 0 < p ∧ ¬ (q.getD 1 0 = 0 ∧ q.getD 0 0 ≠ 0))
theorem okStep_3 {p n a b c : Int} : okStep p n [a, b, c] = decide (0 ≤ a ∧ a < n ∧ 0 ≤ b ∧ b < n ∧ a ≠ b ∧ 1 ≤ c ∧ c < p) := rfl
end Go.Proofs.Ytapafdpnmakekaa.X

/- Slices and flattenings of tensors. -/
set_option linter.unusedVariables false
set_option linter.unusedSimpArgs false
set_option maxRecDepth 20000
set_option maxHeartbeats 4000000
namespace Go.Proofs.Ytapafdpnmakekaa.X
open Go Go.RowKit

theorem Keeps.trans {lo : Nat} {h h' h'' : AH} (k : Keeps lo h h') (k' : Keeps lo h' h'') : Keeps lo h h'' := ⟨Nat.le_trans k.1 k'.1, fun n b hn hb => k'.2 n b hn (k.2 n b hn hb)⟩
theorem WayF.pre {h h' : AH} {lo : Nat} {sv : Value} {l : List Int} (w : WayF h lo sv l) (p : h <+: h') : WayF h' lo sv l := by
  obtain ⟨kb, full, e, h1, h2⟩ := w
  exact ⟨kb, full, e, h1, pre_get p h2⟩
end Go.Proofs.Ytapafdpnmakekaa.X

/- Lists under way in known blocks; what programs make: RunProgram of both sides. -/
set_option linter.unusedVariables false
set_option linter.unusedSimpArgs false
set_option maxRecDepth 20000
set_option maxHeartbeats 4000000
namespace Go.Proofs.Ytapafdpnmakekaa.X
open Go Go.RowKit

theorem map_get {l : List Int} {j : Nat} (hj : j < l.length) : (l.map (Value.int .i64))[j]? = some (I64 (l.getD j 0)) := by
  simp [List.getD_eq_getElem?_getD, hj]
theorem map_set {l : List Int} {j : Nat} {x : Int} (hj : j < l.length) : splice (l.map (Value.int .i64)) j [I64 x] = (l.set j x).map (Value.int .i64) := by
  rw [splice_set (by simpa using hj)]
  simp [List.map_set]
/-- A list in a block of one's own that is known. -/
def Lst (h : AH) (n : Nat) (l : List Int) (full : Bool) : Prop := h.get n = some ⟨l.map (Value.int .i64), 2, false, full⟩
def sl (n len : Nat) : Value := .slice (some ⟨n, 0, none⟩) len 1
section
variable {h h' : AH} {n : Nat} {l : List Int} {full : Bool}
theorem Lst.pre (o : Lst h n l full) (p : h <+: h') : Lst h' n l full := pre_get p o
theorem Lst.lt (o : Lst h n l full) : n < h.length := get_lt o
theorem Lst.own (o : Lst h n l full) : OwnB h n (l.map (Value.int .i64)) full := ⟨_, o⟩
theorem Lst.put_ne {m : Nat} {b : Blk} (o : Lst h n l full) (e : m ≠ n) : Lst (h.put m b) n l full := by
  unfold Lst
  rw [get_put_ne e]
  exact o
theorem Lst.ix {j : Int} {len : Nat} (h0 : 0 ≤ j ∧ j < len) : ixsV 1 (sl n len) (I64 j) = some (.pointer (some ⟨n, j.toNat, none⟩)) := by
  unfold sl
  rw [ixsV_some, if_pos ⟨h0.1, h0.2, rfl⟩]
  simp
theorem Lst.rd {j : Nat} (o : Lst h n l full) (hj : j < l.length) : h.rd1 n j = some (I64 (l.getD j 0)) := by
  rw [rd1_of o]
  exact map_get hj
theorem Lst.wr {j : Nat} {x : Int} (o : Lst h n l full) (hj : j < l.length) : ∃ h', h.wr n j [I64 x] = some h' ∧ h' = h.put n ⟨(l.set j x).map (Value.int .i64), 2, false, full⟩ ∧ Lst h' n (l.set j x) full := by
  refine ⟨_, ?_, rfl, get_put_same o.lt⟩
  rw [wr_of o, if_pos ⟨rfl, by simp only [List.length_map, List.length_singleton]; omega⟩, map_set hj]
theorem Lst.ints (o : Lst h n l full) : Ints h (sl n l.length) l := Ints.own o rfl
theorem Lst.ownR {h0 : AH} (o : Lst h n l full) (hn : h0.length ≤ n) : OwnR h0 h (sl n l.length) l := OwnR.of hn rfl o
theorem Lst.app {H : AH} {x : Int} {e' : TypeId} {ro fu : Bool} (o : Lst H n l full) (hl : (l.length : Int) ≤ 1048576) {Q : Value → AH → Prop}
    (hQ : ∀ H', H'.length = H.length + 2 → (∀ h0 : AH, h0.length ≤ n → h0 <+: H → h0 <+: H') → (∀ m c f, m ≠ n → OwnB H m c f → OwnB H' m c f) → (∀ m c f, m ≠ n → Lst H m c f → Lst H' m c f) → Lst H' (H.length + 1) (l ++ [x]) false → Q (sl (H.length + 1) (l ++ [x]).length) H') :
    OQ (appV 2 1 8 (sl n l.length) (.slice (some ⟨H.length, 0, none⟩) 1 1) (H.new ⟨[I64 x], e', ro, fu⟩)) Q := by
  have hn : (H.new ⟨[I64 x], e', ro, fu⟩).rdn H.length 0 1 = some [I64 x] := by rw [rdn_new_same]; rfl
  have hk : (H.new ⟨[I64 x], e', ro, fu⟩).get n = some ⟨l.map (Value.int .i64), 2, false, full⟩ := get_new_any o
  have hkb := o.lt
  unfold sl
  rw [app_own hk (by simp) hn (by omega), OQ_some]
  have := hQ (((H.new ⟨[I64 x], e', ro, fu⟩).kill n).new ⟨l.map (Value.int .i64) ++ [I64 x], 2, false, false⟩) (by rw [len_new, len_kill, len_new]) (fun h0 q p => pre_new (pre_kill (pre_new p) q))
    (fun m c f hm o => (o.new.kill_ne (fun e => hm e.symm)).new) (fun m c f hm o => get_new_any (by rw [get_kill_ne (fun e => hm e.symm)]; exact get_new_any o)) (by unfold Lst; rw [get_new_eq (by rw [len_kill, len_new])]; simp)
  unfold sl at this
  rw [len_new]
  rw [List.length_append, List.length_singleton] at this
  exact this
end
theorem s_OwnT {v : Value} {ns : List Int} {h : AH} {Q : Value → AH → Prop} (hv : Ints h v ns) (h0 : 0 < ns.length) (hl : (ns.length : Int) ≤ 1048576)
    (hQ : ∀ n h', h.length ≤ n → h <+: h' → Lst h' n ns false → Q (sl n ns.length) h') : WF S 264 [v] h Q := by
  refine WF_fn (fn := c264) rfl rfl ?_
  unfold c264
  obtain ⟨n, off, rfl, hr⟩ := hv.vals.rdn (by simpa using h0)
  try simp (maxSteps := 3000000) (disch := first | omega | (simp only [len_new, len_put, len_kill]; omega)) only [↓xpre, xpost, ↓reduceIte, Nat.reduceEqDiff, Nat.reduceAdd, Nat.reduceSub, Nat.reduceLeDiff, Nat.zero_add, Nat.sub_zero, fillL, zrep]
  rw [List.length_map] at hr ⊢
  rw [app_zero get_new_same (show AH.rdn (AH.new h _) n off ns.length = _ by rw [rdn_eq] at hr ⊢; obtain ⟨b, hb, hc⟩ := Option.bind_eq_some_iff.1 hr; rw [get_new_any hb]; exact hc) h0 (by omega)]
  try simp (maxSteps := 3000000) (disch := first | omega | (simp only [len_new, len_put, len_kill]; omega)) only [↓xpre, xpost, ↓reduceIte, Nat.reduceEqDiff, Nat.reduceAdd, Nat.reduceSub, Nat.reduceLeDiff, Nat.zero_add, Nat.sub_zero]
  exact hQ _ _ (by rw [len_new]; omega) (pre_new (pre_kill (pre_new (List.prefix_refl _)) (Nat.le_refl _))) (get_new_eq (by rw [len_kill]))
/-! ### What programs make -/
/-- The facts of a program. -/
structure PrgF (x : Prg) : Prop where
  p : 2 ≤ x.p ∧ x.p ≤ 5
  n : 1 ≤ x.n ∧ x.n ≤ 30
  st : x.st.length ≤ 900
  out : 1 ≤ x.out.length ∧ x.out.length ≤ 30
  step : ∀ i, i < x.st.length → okStep x.p (x.n + (i : Nat)) (x.st.getD i []) = true
  outs : ∀ i, i < x.out.length → okOut x.p (x.n + x.st.length) (x.out.getD i []) = true
theorem PrgF.st3 {x : Prg} (f : PrgF x) {i : Nat} {a b d : Int} (hi : i < x.st.length) (hq : x.st.getD i [] = [a, b, d]) : 0 ≤ a ∧ a < x.n + i ∧ 0 ≤ b ∧ b < x.n + i ∧ a ≠ b ∧ 1 ≤ d ∧ d < x.p := by
  have := f.step i hi
  rw [hq, okStep_3, decide_eq_true_eq] at this
  exact this
end Go.Proofs.Ytapafdpnmakekaa.X

/- Schemes: sizes, copies, comparisons, marks. -/
set_option linter.unusedVariables false
set_option linter.unusedSimpArgs false
set_option maxRecDepth 20000
set_option maxHeartbeats 4000000
namespace Go.Proofs.Ytapafdpnmakekaa.X
open Go Go.RowKit

theorem InX.put_ne {a b n : Nat} {h : AH} {v : Value} {L : List (List Int)} {c : Blk} (o : InX a b h v L) (hn : n < a) : InX a b (h.put n c) v L :=
  ⟨o.1.only (c := n) (d := n + 1) ⟨len_put, fun m hm => by unfold AH.put; rw [List.getElem?_set_ne (by omega)]⟩ (by omega), o.2⟩
end Go.Proofs.Ytapafdpnmakekaa.X

/- Two tensors; their sum. -/
set_option linter.unusedVariables false
set_option linter.unusedSimpArgs false
set_option maxRecDepth 20000
set_option maxHeartbeats 4000000
namespace Go.Proofs.Ytapafdpnmakekaa.X
open Go Go.RowKit

theorem i_areTensors {v u : Value} {t s : Ten} {h : AH} {n : Nat} {e : TypeId} {ro full : Bool} {Q : Value → AH → Prop} (hv : Ints h v t.ns) (hu : Ints h u s.ns) (hl : (t.ns.length : Int) ≤ 1048576) (hl' : (s.ns.length : Int) ≤ 1048576)
    (hb : h.get n = some ⟨[I64 t.p, I64 t.i, I64 t.j, I64 t.k, v, I64 s.p, I64 s.i, I64 s.j, I64 s.k, u], e, ro, full⟩)
    (hQ : ∀ h', h <+: h' → Q (.bool (isT t && isT s)) h') : WF S 176 [.slice (some ⟨n, 0, none⟩) 2 5] h Q := by
  refine WF_fn (fn := c176) rfl rfl ?_
  unfold c176
  try simp (maxSteps := 3000000) (disch := first | omega | (simp only [len_new, len_put, len_kill]; omega)) only [↓xpre, xpost, ↓reduceIte, Nat.reduceEqDiff, Nat.reduceAdd, Nat.reduceSub, Nat.reduceLeDiff, Nat.zero_add, Nat.sub_zero]
  refine WC_loop ?_
  try simp (maxSteps := 3000000) (disch := first | omega | (simp only [len_new, len_put, len_kill]; omega)) only [↓xpre, xpost, ↓reduceIte, Nat.reduceEqDiff, Nat.reduceAdd, Nat.reduceSub, Nat.reduceLeDiff, Nat.zero_add, Nat.sub_zero, IfW_dec]
  refine ⟨fun _ => ?_, fun h => absurd h (by decide)⟩
  try simp (maxSteps := 3000000) (disch := first | omega | (simp only [len_new, len_put, len_kill]; omega)) only [↓xpre, xpost, ↓reduceIte, Nat.reduceEqDiff, Nat.reduceAdd, Nat.reduceSub, Nat.reduceLeDiff, Nat.zero_add, Nat.sub_zero, ixsV_some]
  refine ⟨by decide, ?_⟩
  try simp (maxSteps := 3000000) (disch := first | omega | (simp only [len_new, len_put, len_kill]; omega)) only [↓xpre, xpost, ↓reduceIte, Nat.reduceEqDiff, Nat.reduceAdd, Nat.reduceSub, Nat.reduceLeDiff, Nat.zero_add, Nat.sub_zero, rdn_of hb, Int.toNat_zero, Nat.zero_mul, hv.one]
  generalize hH1 : AH.new h _ = H1
  obtain ⟨hb1, p1, n1⟩ := new_facts hH1
  refine i_IsTensor (t := t) (hv.pre p1) hl fun H2 p2 => ?_
  cases h1 : isT t with
  | false =>
    try simp (maxSteps := 3000000) (disch := first | omega | (simp only [len_new, len_put, len_kill]; omega)) only [↓xpre, xpost, ↓reduceIte, Nat.reduceEqDiff, Nat.reduceAdd, Nat.reduceSub, Nat.reduceLeDiff, Nat.zero_add, Nat.sub_zero]
    have := hQ _ (p1.trans p2)
    rw [h1] at this
    exact this
  | true =>
    try simp (maxSteps := 3000000) (disch := first | omega | (simp only [len_new, len_put, len_kill]; omega)) only [↓xpre, xpost, ↓reduceIte, Nat.reduceEqDiff, Nat.reduceAdd, Nat.reduceSub, Nat.reduceLeDiff, Nat.zero_add, Nat.sub_zero, wrap64_in]
    rw [LoopQ_n]
    refine WC_loop ?_
    try simp (maxSteps := 3000000) (disch := first | omega | (simp only [len_new, len_put, len_kill]; omega)) only [↓xpre, xpost, ↓reduceIte, Nat.reduceEqDiff, Nat.reduceAdd, Nat.reduceSub, Nat.reduceLeDiff, Nat.zero_add, Nat.sub_zero, IfW_dec]
    refine ⟨fun _ => ?_, fun h => absurd h (by decide)⟩
    try simp (maxSteps := 3000000) (disch := first | omega | (simp only [len_new, len_put, len_kill]; omega)) only [↓xpre, xpost, ↓reduceIte, Nat.reduceEqDiff, Nat.reduceAdd, Nat.reduceSub, Nat.reduceLeDiff, Nat.zero_add, Nat.sub_zero, ixsV_some]
    refine ⟨by decide, ?_⟩
    have hb := pre_get (p1.trans p2) hb
    have e1 : ((0 + 1 : Int).toNat * 5) = 5 := by decide
    try simp (maxSteps := 3000000) (disch := first | omega | (simp only [len_new, len_put, len_kill]; omega)) only [↓xpre, xpost, ↓reduceIte, Nat.reduceEqDiff, Nat.reduceAdd, Nat.reduceSub, Nat.reduceLeDiff, Nat.zero_add, Nat.sub_zero, e1, rdn_of hb, hu.one]
    generalize hH3 : AH.new H2 _ = H3
    obtain ⟨hb3, p3, n3⟩ := new_facts hH3
    refine i_IsTensor (t := s) (hu.pre ((p1.trans p2).trans p3)) hl' fun H4 p4 => ?_
    cases h2 : isT s with
    | false =>
      try simp (maxSteps := 3000000) (disch := first | omega | (simp only [len_new, len_put, len_kill]; omega)) only [↓xpre, xpost, ↓reduceIte, Nat.reduceEqDiff, Nat.reduceAdd, Nat.reduceSub, Nat.reduceLeDiff, Nat.zero_add, Nat.sub_zero]
      have := hQ _ (((p1.trans p2).trans p3).trans p4)
      rw [h1, h2] at this
      exact this
    | true =>
      try simp (maxSteps := 3000000) (disch := first | omega | (simp only [len_new, len_put, len_kill]; omega)) only [↓xpre, xpost, ↓reduceIte, Nat.reduceEqDiff, Nat.reduceAdd, Nat.reduceSub, Nat.reduceLeDiff, Nat.zero_add, Nat.sub_zero, wrap64_in]
      rw [LoopQ_n]
      refine WC_loop ?_
      try simp (maxSteps := 3000000) (disch := first | omega | (simp only [len_new, len_put, len_kill]; omega)) only [↓xpre, xpost, ↓reduceIte, Nat.reduceEqDiff, Nat.reduceAdd, Nat.reduceSub, Nat.reduceLeDiff, Nat.zero_add, Nat.sub_zero, IfW_dec]
      refine ⟨fun h => absurd h (by decide), fun _ => ?_⟩
      try simp (maxSteps := 3000000) (disch := first | omega | (simp only [len_new, len_put, len_kill]; omega)) only [↓xpre, xpost, ↓reduceIte, Nat.reduceEqDiff, Nat.reduceAdd, Nat.reduceSub, Nat.reduceLeDiff, Nat.zero_add, Nat.sub_zero]
      have := hQ _ (((p1.trans p2).trans p3).trans p4)
      rw [h1, h2] at this
      exact this

theorem i_sides {v : Value} {t : Ten} {h : AH} {Q : Value → AH → Prop} (hv : isOne v = true) (hQ : ∀ h', h <+: h' → Q (.agg #[I64 t.i, I64 t.j, I64 t.k]) h') : WF S 177 [tenV t v] h Q := by
  refine WF_fn (fn := c177) rfl rfl ?_
  unfold c177
  try simp (maxSteps := 3000000) (disch := first | omega | (simp only [len_new, len_put, len_kill]; omega)) only [↓xpre, xpost, ↓reduceIte, Nat.reduceEqDiff, Nat.reduceAdd, Nat.reduceSub, Nat.reduceLeDiff, Nat.zero_add, Nat.sub_zero, tenV, hv, fillL]
  exact hQ _ (pre_new (pre_new (List.prefix_refl _)))

def addG (t u : Ten) (c : Int) (n : Nat) : Int := (nth t.ns n + c * nth u.ns n).tmod t.p
def addT (t u : Ten) (c : Int) : Ten := ⟨t.p, t.i, t.j, t.k, gen (t.i * t.j * t.k).toNat (addG t u c)⟩
def addR (t u : Ten) (c : Int) : Ten × Int :=
  if isT t = true ∧ isT u = true then (if t.p = u.p ∧ t.i = u.i ∧ t.j = u.j ∧ t.k = u.k ∧ 0 ≤ c ∧ c < t.p then (addT t u c, 0) else (noT, 2)) else (noT, 1)
theorem tenT_len {t : Ten} {g : Nat → Int} (f : TF t) : (((gen (t.i * t.j * t.k).toNat g).length : Nat) : Int) ≤ 1048576 := by
  have := f.ijk
  rw [gen_len]
  omega
theorem addR_len (t u : Ten) (c : Int) : (((addR t u c).1.ns.length : Nat) : Int) ≤ 1048576 := by
  unfold addR
  split
  · rename_i h
    split
    · exact tenT_len (isT_facts h.1)
    · simp [noT]
  · simp [noT]
theorem add_in {t u : Ten} {c : Int} (f : TF t) (fu : TF u) (e : t.p = u.p) (hc : 0 ≤ c ∧ c < t.p) {n m : Int} (hn : 0 ≤ n ∧ n < t.ns.length) (hm : 0 ≤ m ∧ m < u.ns.length) :
    (0 ≤ nth t.ns n ∧ nth t.ns n ≤ 5) ∧ (0 ≤ c * nth u.ns m ∧ c * nth u.ns m ≤ 25) := by
  have h1 := f.num n hn.1 hn.2
  have h2 := fu.num m hm.1 hm.2
  have h3 := f.p
  have h4 := mul_in (a := c) (b := nth u.ns m) (A := 5) (B := 5) (by omega) (by omega)
  omega

/-- The state of the reference's sum. -/
structure AddS (t u : Ten) (v w : Value) (h0 h : AH) (b8 nb : Nat) (l : List Int) : Prop where
  hp : h0 <+: h
  lo : h0.length + 3 ≤ nb ∧ nb < b8
  g1 : OwnB h h0.length [I64 t.p, I64 t.i, I64 t.j, I64 t.k, v] true
  g2 : OwnB h (h0.length + 1) [I64 u.p, I64 u.i, I64 u.j, I64 u.k, w] true
  g3 : ∃ c, c.length = 5 ∧ OwnB h (h0.length + 2) c true
  g8 : OwnB h b8 [I64 t.p, I64 t.i, I64 t.j, I64 t.k, .slice (some ⟨nb, 0, none⟩) (t.i * t.j * t.k).toNat 1] true
  gn : OwnB h nb (l.map (Value.int .i64)) true

theorem s_AddTensors {v w : Value} {t u : Ten} {c : Int} {h : AH} {Q : Value → AH → Prop} (hv : Ints h v t.ns) (hl : (t.ns.length : Int) ≤ 1048576) (hw : Ints h w u.ns) (hl' : (u.ns.length : Int) ≤ 1048576)
    (hQ : ∀ v' h', h <+: h' → OwnR h h' v' (addR t u c).1.ns → Q (.tuple #[tenV (addR t u c).1 v', I64 (addR t u c).2]) h') : WF S 26 [tenV t v, tenV u w, I64 c] h Q := by
  refine WF_fn (fn := c26) rfl rfl ?_
  unfold c26
  try simp (maxSteps := 3000000) (disch := first | omega | (simp only [len_new, len_put, len_kill]; omega)) only [↓xpre, xpost, ↓reduceIte, Nat.reduceEqDiff, Nat.reduceAdd, Nat.reduceSub, Nat.reduceLeDiff, Nat.zero_add, Nat.sub_zero, tenV, hv.one, hw.one]
  generalize hH1 : AH.new h _ = H1
  obtain ⟨hb1, p1, n1⟩ := new_facts hH1
  generalize hH2 : AH.new H1 _ = H2
  obtain ⟨hb2, p2, n2⟩ := new_facts hH2
  generalize hH3 : AH.new H2 _ = H3
  obtain ⟨hb3, p3, n3⟩ := new_facts hH3
  have hb1 := pre_get (p2.trans p3) hb1
  have hb2 := pre_get p3 hb2
  have ph := (p1.trans p2).trans p3
  refine s_l05Is (hv.pre ph) hl fun H4 p4 => ?_
  have hb1 := pre_get p4 hb1
  have hb2 := pre_get p4 hb2
  have hb3 := pre_get p4 hb3
  have ph := ph.trans p4
  have l4 := get_lt hb3
  have bad1 : ∀ H5, H4 <+: H5 → ¬ (isT t = true ∧ isT u = true) → ∀ b, Q (.tuple #[.agg #[I64 0, I64 0, I64 0, I64 0, .slice none 0 0], I64 1]) (AH.put H5 H2.length b) := fun H5 p5 hn b => by
    rw [show addR t u c = (noT, 1) by unfold addR; rw [if_neg hn]] at hQ
    exact hQ (.slice none 0 0) _ (pre_put (ph.trans p5) (by omega)) (.inl ⟨rfl, rfl⟩)
  cases ht : isT t with
  | false =>
    try simp (maxSteps := 3000000) (disch := first | omega | (simp only [len_new, len_put, len_kill]; omega)) only [↓xpre, xpost, ↓reduceIte, Nat.reduceEqDiff, Nat.reduceAdd, Nat.reduceSub, Nat.reduceLeDiff, Nat.zero_add, Nat.sub_zero, fillL, wr_of hb3]
    exact bad1 _ (List.prefix_refl _) (by simp [ht]) _
  | true =>
    try simp (maxSteps := 3000000) (disch := first | omega | (simp only [len_new, len_put, len_kill]; omega)) only [↓xpre, xpost, ↓reduceIte, Nat.reduceEqDiff, Nat.reduceAdd, Nat.reduceSub, Nat.reduceLeDiff, Nat.zero_add, Nat.sub_zero, rdn_of hb2]
    refine s_l05Is (hw.pre ph) hl' fun H5 p5 => ?_
    have hb1 := pre_get p5 hb1
    have hb2 := pre_get p5 hb2
    have hb3 := pre_get p5 hb3
    have ph := ph.trans p5
    have l5 := get_lt hb3
    cases hu : isT u with
    | false =>
      try simp (maxSteps := 3000000) (disch := first | omega | (simp only [len_new, len_put, len_kill]; omega)) only [↓xpre, xpost, ↓reduceIte, Nat.reduceEqDiff, Nat.reduceAdd, Nat.reduceSub, Nat.reduceLeDiff, Nat.zero_add, Nat.sub_zero, fillL, wr_of hb3]
      exact bad1 _ p5 (by simp [hu]) _
    | true =>
      have f := isT_facts ht
      have fu := isT_facts hu
      have fp := f.p
      have bad2 : ¬ (t.p = u.p ∧ t.i = u.i ∧ t.j = u.j ∧ t.k = u.k ∧ 0 ≤ c ∧ c < t.p) → ∀ b, Q (.tuple #[.agg #[I64 0, I64 0, I64 0, I64 0, .slice none 0 0], I64 2]) (AH.put H5 H2.length b) := fun hn b => by
        rw [show addR t u c = (noT, 2) by unfold addR; rw [if_pos ⟨ht, hu⟩, if_neg hn]] at hQ
        exact hQ (.slice none 0 0) _ (pre_put ph (by omega)) (.inl ⟨rfl, rfl⟩)
      try simp (maxSteps := 3000000) (disch := first | omega | (simp only [len_new, len_put, len_kill]; omega)) only [↓xpre, xpost, ↓reduceIte, Nat.reduceEqDiff, Nat.reduceAdd, Nat.reduceSub, Nat.reduceLeDiff, Nat.zero_add, Nat.sub_zero, rd1_of hb1, rd1_of hb2]
      by_cases e1 : t.p = u.p
      case neg =>
        try simp (maxSteps := 3000000) (disch := first | omega | (simp only [len_new, len_put, len_kill]; omega)) only [↓xpre, xpost, ↓reduceIte, Nat.reduceEqDiff, Nat.reduceAdd, Nat.reduceSub, Nat.reduceLeDiff, Nat.zero_add, Nat.sub_zero, e1, ne_eq, not_false_eq_true, fillL, wr_of hb3]
        exact bad2 (fun h => e1 h.1) _
      try simp (maxSteps := 3000000) (disch := first | omega | (simp only [len_new, len_put, len_kill]; omega)) only [↓xpre, xpost, ↓reduceIte, Nat.reduceEqDiff, Nat.reduceAdd, Nat.reduceSub, Nat.reduceLeDiff, Nat.zero_add, Nat.sub_zero, e1, ne_eq, not_true_eq_false, rd1_of hb1, rd1_of hb2]
      by_cases e2 : t.i = u.i
      case neg =>
        try simp (maxSteps := 3000000) (disch := first | omega | (simp only [len_new, len_put, len_kill]; omega)) only [↓xpre, xpost, ↓reduceIte, Nat.reduceEqDiff, Nat.reduceAdd, Nat.reduceSub, Nat.reduceLeDiff, Nat.zero_add, Nat.sub_zero, e2, ne_eq, not_false_eq_true, fillL, wr_of hb3]
        exact bad2 (fun h => e2 h.2.1) _
      try simp (maxSteps := 3000000) (disch := first | omega | (simp only [len_new, len_put, len_kill]; omega)) only [↓xpre, xpost, ↓reduceIte, Nat.reduceEqDiff, Nat.reduceAdd, Nat.reduceSub, Nat.reduceLeDiff, Nat.zero_add, Nat.sub_zero, e2, ne_eq, not_true_eq_false, rd1_of hb1, rd1_of hb2]
      by_cases e3 : t.j = u.j
      case neg =>
        try simp (maxSteps := 3000000) (disch := first | omega | (simp only [len_new, len_put, len_kill]; omega)) only [↓xpre, xpost, ↓reduceIte, Nat.reduceEqDiff, Nat.reduceAdd, Nat.reduceSub, Nat.reduceLeDiff, Nat.zero_add, Nat.sub_zero, e3, ne_eq, not_false_eq_true, fillL, wr_of hb3]
        exact bad2 (fun h => e3 h.2.2.1) _
      try simp (maxSteps := 3000000) (disch := first | omega | (simp only [len_new, len_put, len_kill]; omega)) only [↓xpre, xpost, ↓reduceIte, Nat.reduceEqDiff, Nat.reduceAdd, Nat.reduceSub, Nat.reduceLeDiff, Nat.zero_add, Nat.sub_zero, e3, ne_eq, not_true_eq_false, rd1_of hb1, rd1_of hb2]
      by_cases e4 : t.k = u.k
      case neg =>
        try simp (maxSteps := 3000000) (disch := first | omega | (simp only [len_new, len_put, len_kill]; omega)) only [↓xpre, xpost, ↓reduceIte, Nat.reduceEqDiff, Nat.reduceAdd, Nat.reduceSub, Nat.reduceLeDiff, Nat.zero_add, Nat.sub_zero, e4, ne_eq, not_false_eq_true, fillL, wr_of hb3]
        exact bad2 (fun h => e4 h.2.2.2.1) _
      try simp (maxSteps := 3000000) (disch := first | omega | (simp only [len_new, len_put, len_kill]; omega)) only [↓xpre, xpost, ↓reduceIte, Nat.reduceEqDiff, Nat.reduceAdd, Nat.reduceSub, Nat.reduceLeDiff, Nat.zero_add, Nat.sub_zero, e4, ne_eq, not_true_eq_false, rd1_of hb1, rd1_of hb2, wrap64_in]
      refine s_l01In ?_
      by_cases e5 : 0 ≤ c ∧ c ≤ t.p - 1
      case neg =>
        try simp (maxSteps := 3000000) (disch := first | omega | (simp only [len_new, len_put, len_kill]; omega)) only [↓xpre, xpost, ↓reduceIte, Nat.reduceEqDiff, Nat.reduceAdd, Nat.reduceSub, Nat.reduceLeDiff, Nat.zero_add, Nat.sub_zero, e5, fillL, wr_of hb3]
        exact bad2 (fun h => e5 (by omega)) _
      have hcc : 0 ≤ c ∧ c < t.p := by omega
      rw [show addR t u c = (addT t u c, 0) by unfold addR; rw [if_pos ⟨ht, hu⟩, if_pos ⟨e1, e2, e3, e4, hcc.1, hcc.2⟩]] at hQ
      have fij := f.ij
      have fijk := f.ijk
      have flen := f.len
      have fulen := fu.len
      rw [← e2, ← e3, ← e4] at fulen
      try simp (maxSteps := 3000000) (disch := first | omega | (simp only [len_new, len_put, len_kill]; omega)) only [↓xpre, xpost, ↓reduceIte, Nat.reduceEqDiff, Nat.reduceAdd, Nat.reduceSub, Nat.reduceLeDiff, Nat.zero_add, Nat.sub_zero, e5, rd1_of hb1]
      refine s_l05Empty (by omega) (by omega) fun v' H6 p6 o => ?_
      try simp (maxSteps := 3000000) (disch := first | omega | (simp only [len_new, len_put, len_kill]; omega)) only [↓xpre, xpost, ↓reduceIte, Nat.reduceEqDiff, Nat.reduceAdd, Nat.reduceSub, Nat.reduceLeDiff, Nat.zero_add, Nat.sub_zero, tenV, o.ints.one]
      obtain ⟨nb, e, q1, rfl, q2⟩ := o
      generalize hH7 : AH.new H6 _ = H7
      obtain ⟨hb7, p7, n7⟩ := new_facts hH7
      have q3 := get_lt q2
      rw [List.length_replicate] at hb7
      have l5' := pre_len p5
      have l6' := pre_len p6
      have up := p6.trans p7
      refine WC_loop_inv (fun n f h1 => ∃ (i : Nat) (l : List Int), n = t.ns.length - i ∧ i ≤ t.ns.length ∧ f 2 = I64 c ∧ f 3 = .pointer (some ⟨h.length, 0, none⟩) ∧ f 4 = .pointer (some ⟨H1.length, 0, none⟩) ∧
        f 6 = .pointer (some ⟨H2.length, 0, none⟩) ∧ f 8 = .pointer (some ⟨H6.length, 0, none⟩) ∧ f 9 = I64 i ∧ AddS t u v w h h1 H6.length nb l ∧ l.length = t.ns.length ∧ ∀ m, m < i → l.getD m 0 = addG t u c m) ?_ t.ns.length _ _
        ⟨0, List.replicate (t.i * t.j * t.k).toNat 0, rfl, Nat.zero_le _, rfl, rfl, rfl, rfl, rfl, rfl,
          ⟨ph.trans up, by omega, ⟨_, pre_get up hb1⟩, by rw [← n1]; exact ⟨_, pre_get up hb2⟩, ⟨_, rfl, by rw [show h.length + 2 = H2.length by omega]; exact ⟨_, pre_get up hb3⟩⟩, ⟨_, hb7⟩, ⟨_, pre_get p7 q2⟩⟩, by rw [List.length_replicate]; omega, fun m hm => by omega⟩
      rintro n fr h1 ⟨i, l, rfl, hi, f2, f3, f4, f6, f8, f9, st, hll, hdone⟩
      obtain ⟨t1, g1⟩ := st.g1
      obtain ⟨t2, g2⟩ := st.g2
      obtain ⟨t8, g8⟩ := st.g8
      obtain ⟨tn, gn⟩ := st.gn
      rw [← n1] at g2
      have hv1 := hv.pre st.hp
      have hw1 := hw.pre st.hp
      try simp (maxSteps := 3000000) (disch := first | omega | (simp only [len_new, len_put, len_kill]; omega)) only [↓xpre, xpost, ↓reduceIte, Nat.reduceEqDiff, Nat.reduceAdd, Nat.reduceSub, Nat.reduceLeDiff, Nat.zero_add, Nat.sub_zero, f2, f3, f4, f6, f8, f9, rd1_of g1, hv1.len, IfW_dec]
      refine ⟨fun hlt => ?_, fun hge => ?_⟩
      · have bd := add_in f fu e1 hcc (n := i) (m := i) (by omega) (by omega)
        try simp (maxSteps := 3000000) (disch := first | omega | (simp only [len_new, len_put, len_kill]; omega)) only [↓xpre, xpost, ↓reduceIte, Nat.reduceEqDiff, Nat.reduceAdd, Nat.reduceSub, Nat.reduceLeDiff, Nat.zero_add, Nat.sub_zero, f2, f3, f4, f6, f8, f9, rd1_of g1, rd1_of g2, rd1_of g8, hv1.ix, hv1.rd, hw1.ix, hw1.rd, wrap64_in, bin_rem, ixsV_some, wr_of gn]
        refine ⟨⟨by omega, by omega⟩, by simp [hll]; omega, ?_⟩
        refine InvQ_go (t.ns.length - (i + 1)) (by omega) ⟨i + 1, l.set i (addG t u c i), rfl, by omega, f2, f3, f4, f6, f8, rfl, ?_, by rw [List.length_set]; exact hll, fun m hm => ?_⟩
        · have lo := st.lo
          obtain ⟨c2, c3, c4⟩ := st.g3
          refine ⟨pre_put st.hp (by omega), lo, st.g1.put_ne (by omega), st.g2.put_ne (by omega), ⟨c2, c3, c4.put_ne (by omega)⟩, st.g8.put_ne (by omega), ⟨tn, ?_⟩⟩
          rw [get_put_same (get_lt gn)]
          simp only [Nat.zero_add, Nat.mul_one, Int.toNat_natCast]
          rw [splice_map (by omega)]
          rfl
        · rw [set_getD (by omega)]
          split
          · rename_i e
            rw [e]
          · exact hdone m (by omega)
      · have e : i = t.ns.length := by omega
        subst e
        have lo := st.lo
        obtain ⟨c, c3, t3, g3⟩ := st.g3
        obtain ⟨c0, c1, c2, c4, c5, rfl⟩ : ∃ a b d e g, c = [a, b, d, e, g] := by
          match c, c3 with
          | [a, b, d, e, g], _ => exact ⟨_, _, _, _, _, rfl⟩
        rw [show h.length + 2 = H2.length by omega] at g3
        have l2 := get_lt g3
        try simp (maxSteps := 3000000) (disch := first | omega | (simp only [len_new, len_put, len_kill]; omega)) only [↓xpre, xpost, ↓reduceIte, Nat.reduceEqDiff, Nat.reduceAdd, Nat.reduceSub, Nat.reduceLeDiff, Nat.zero_add, Nat.sub_zero, f2, f3, f4, f6, f8, f9, rdn_of g8, wr_of g3]
        refine hQ _ _ (pre_put st.hp (by omega)) (.inr ⟨nb, tn, true, by omega, ?_, ?_⟩)
        · simp only [addT, gen_len]
        · rw [get_put_ne (by omega), gn]
          have : l = (addT t u _).ns := gen_ext (by omega) (fun m hm => hdone m (by omega))
          rw [this]

theorem i_add1 {v w : Value} {t u : Ten} {i j k c : Int} {h : AH} {n m x : Nat} {e e' e2 : TypeId} {ro full ro' full' ro2 full2 : Bool} {Q : Value → AH → Prop} (hb : h.get n = some ⟨[I64 t.p, I64 t.i, I64 t.j, I64 t.k, v], e, ro, full⟩)
    (hb' : h.get m = some ⟨[I64 u.p, I64 u.i, I64 u.j, I64 u.k, w], e', ro', full'⟩) (hx : h.get x = some ⟨[I64 c], e2, ro2, full2⟩) (hv : Ints h v t.ns) (hw : Ints h w u.ns) (f : TF t) (fu : TF u)
    (e1 : t.p = u.p) (hc : 0 ≤ c ∧ c < t.p) (he : t.i = u.i ∧ t.j = u.j ∧ t.k = u.k)
    (hi : 0 ≤ i ∧ i < t.i) (hj : 0 ≤ j ∧ j < t.j) (hk : 0 ≤ k ∧ k < t.k) (hQ : ∀ h', h <+: h' → Q (I64 (tat t i j k + c * tat u i j k)) h') :
    WF S 179 [I64 i, I64 j, I64 k, .pointer (some ⟨n, 0, none⟩), .pointer (some ⟨x, 0, none⟩), .pointer (some ⟨m, 0, none⟩)] h Q := by
  refine WF_fn (fn := c179) rfl rfl ?_
  unfold c179
  try simp (maxSteps := 3000000) (disch := first | omega | (simp only [len_new, len_put, len_kill]; omega)) only [↓xpre, xpost, ↓reduceIte, Nat.reduceEqDiff, Nat.reduceAdd, Nat.reduceSub, Nat.reduceLeDiff, Nat.zero_add, Nat.sub_zero, rdn_of hb]
  refine i_at (t := t) hv f hi hj hk fun h1 p1 => ?_
  have hb' := pre_get p1 hb'
  have hx := pre_get p1 hx
  try simp (maxSteps := 3000000) (disch := first | omega | (simp only [len_new, len_put, len_kill]; omega)) only [↓xpre, xpost, ↓reduceIte, Nat.reduceEqDiff, Nat.reduceAdd, Nat.reduceSub, Nat.reduceLeDiff, Nat.zero_add, Nat.sub_zero, rdn_of hb', rd1_of hx]
  refine ⟨p1, ?_⟩
  refine i_at (t := u) (hw.pre p1) fu (by omega) (by omega) (by omega) fun h2 p2 => ?_
  have a1 := tat_in f hi hj hk
  have a2 := tat_in fu (i := i) (j := j) (k := k) (by omega) (by omega) (by omega)
  have a3 := f.p
  have a4 := mul_in (a := c) (b := tat u i j k) (A := 5) (B := 5) (by omega) (by omega)
  try simp (maxSteps := 3000000) (disch := first | omega | (simp only [len_new, len_put, len_kill]; omega)) only [↓xpre, xpost, ↓reduceIte, Nat.reduceEqDiff, Nat.reduceAdd, Nat.reduceSub, Nat.reduceLeDiff, Nat.zero_add, Nat.sub_zero, wrap64_in]
  exact ⟨p2, hQ _ (p1.trans p2)⟩

theorem tat_nth {t : Ten} {n : Int} : tat t (n / t.k / t.j) (n / t.k % t.j) (n % t.k) = nth t.ns n := by
  unfold tat
  rw [enc (n / t.k) t.j, enc n t.k]
theorem add_eq {t u : Ten} {c : Int} (he : t.i = u.i ∧ t.j = u.j ∧ t.k = u.k) : tenT t.p t.i t.j t.k (fun i j k => tat t i j k + c * tat u i j k) = addT t u c := by
  unfold tenT addT
  congr 1
  refine gen_congr fun n hn => ?_
  unfold tenG addG
  show (tat t _ _ _ + c * tat u _ _ _).tmod t.p = _
  rw [tat_nth]
  rw [he.2.1, he.2.2, tat_nth]

end Go.Proofs.Ytapafdpnmakekaa.X

/- SliceOf, both sides. -/
set_option linter.unusedVariables false
set_option linter.unusedSimpArgs false
set_option maxRecDepth 20000
set_option maxHeartbeats 4000000
namespace Go.Proofs.Ytapafdpnmakekaa.X
open Go Go.RowKit

theorem cut_get {α : Type} {d : α} {l : List α} {a n k : Nat} (h : k < n) : ((l.drop a).take n).getD k d = l.getD (a + k) d := by
  simp [List.getD_eq_getElem?_getD, List.getElem?_take, List.getElem?_drop, h]
def sideN (t : Ten) (s : Nat) : Int := if s = 0 then t.i else if s = 1 then t.j else t.k
def slOK (t : Ten) (s a : Int) : Prop := (0 ≤ s ∧ s ≤ 2) ∧ 0 ≤ a ∧ a < sideN t s.toNat
instance {t : Ten} {s a : Int} : Decidable (slOK t s a) := by unfold slOK; infer_instance
end Go.Proofs.Ytapafdpnmakekaa.X

/- What schemes are: forms, products. -/
set_option linter.unusedVariables false
set_option linter.unusedSimpArgs false
set_option maxRecDepth 20000
set_option maxHeartbeats 4000000
namespace Go.Proofs.Ytapafdpnmakekaa.X
open Go Go.RowKit

theorem WG_un {S : XS} {b : Bool} {i : XI} {rest : List XI} {f : Fr} {h : AH} {Q : Fr → AH → Prop} : WG S undef b i rest f h Q = WO S rest (updo f i.d undef) h Q := rfl
def By (w : Nat) (q : List Int) : Prop := q.length = w ∧ ∀ j, j < w → 0 ≤ q.getD j 0 ∧ q.getD j 0 ≤ 255
def okAt (p n : Int) (q : List Int) (j : Nat) : Bool := decide (q.getD j 0 < p ∧ (n ≤ (j : Int) → q.getD j 0 = 0))
def okForm (p n : Int) (q : List Int) : Bool := (List.range 9).all (okAt p n q)
theorem okForm_t {p n : Int} {q : List Int} (h : ∀ j, j < 9 → okAt p n q j = true) : okForm p n q = true := by
  unfold okForm
  rw [List.all_eq_true]
  exact fun j hj => h j (List.mem_range.1 hj)
def z9 : List Int := [0, 0, 0, 0, 0, 0, 0, 0, 0]
theorem zeros9' : ([.int .u8 0, .int .u8 0, .int .u8 0, .int .u8 0, .int .u8 0, .int .u8 0, .int .u8 0, .int .u8 0, .int .u8 0] : List Value) = cel .u8 z9 := rfl
def isZ (q : List Int) : Bool := q == z9
theorem intsOf_cel {k : IntKind} : ∀ {q : List Int}, q ≠ [] → intsOf (cel k q) = some (k, q)
  | [], h => absurd rfl h
  | [a], _ => rfl
  | a :: b :: l, _ => by
    have ih := intsOf_cel (k := k) (q := b :: l) (by simp)
    have e : cel k (a :: b :: l) = .int k a :: cel k (b :: l) := rfl
    have e2 : cel k (b :: l) = .int k b :: cel k l := rfl
    rw [e2] at ih
    rw [e, e2]
    simp only [intsOf, ih, if_true]
theorem eqaV_cel {n : Nat} {k : IntKind} {q r : List Int} (hq : q.length = n) (hr : r.length = n) (h0 : 0 < n) : eqaV false n (.agg (cel k q).toArray) (.agg (cel k r).toArray) = some (.bool (q == r)) := by
  have e1 := intsOf_cel (k := k) (q := q) (by intro e; rw [e] at hq; simp at hq; omega)
  have e2 := intsOf_cel (k := k) (q := r) (by intro e; rw [e] at hr; simp at hr; omega)
  simp only [eqaV, e1, e2]
  rw [if_pos ⟨trivial, hq, hr⟩]
  simp
theorem s_l01Zero {q : List Int} {h : AH} {Q : Value → AH → Prop} (hq : q.length = 9) (hQ : ∀ h', h <+: h' → Q (.bool (isZ q)) h') : WF S 278 [aggV .u8 q] h Q := by
  refine WF_fn (fn := c278) rfl rfl ?_
  unfold c278
  have tk : q.take 9 = q := List.take_of_length_le (by rw [hq]; exact Nat.le_refl _)
  have e := eqaV_cel (k := .u8) hq (show z9.length = 9 from rfl) (by omega)
  try simp (maxSteps := 3000000) (disch := first | omega | (simp only [len_new, len_put, len_kill]; omega)) only [↓xpre, xpost, ↓reduceIte, Nat.reduceEqDiff, Nat.reduceAdd, Nat.reduceSub, Nat.reduceLeDiff, Nat.zero_add, Nat.sub_zero, aggV, cel_all, cel_len, hq, cel_take, tk, fillL, zeros9', e]
  have := hQ _ (pre_new (b := ⟨cel .u8 q, 136, false, true⟩) (List.prefix_refl h))
  unfold isZ at this
  simpa using this
def seg (q : List Int) (i : Nat) : List Int := (q.drop (i * 9)).take 9
theorem By.seg {q : List Int} (hq : By 27 q) {i : Nat} (hi : i < 3) : By 9 (seg q i) := by
  have h1 := hq.1
  refine ⟨by unfold X.seg; simp; omega, fun j hj => ?_⟩
  unfold X.seg
  rw [cut_get hj]
  exact hq.2 _ (by omega)
def hasZ (q : List Int) : Bool := isZ (seg q 0) || isZ (seg q 1) || isZ (seg q 2)
end Go.Proofs.Ytapafdpnmakekaa.X

/- Sources of draws: where they lie, what they hand out. -/
set_option linter.unusedVariables false
set_option linter.unusedSimpArgs false
set_option maxRecDepth 20000
set_option maxHeartbeats 4000000
namespace Go.Proofs.Ytapafdpnmakekaa.X
open Go Go.RowKit

theorem WO_cut {S : XS} {ops : List XI} {f : Fr} {h : AH} {Q : Fr → AH → Prop} (I : Fr → Prop) (hI : I f) (step : ∀ f, I f → WO S ops f h Q) : WO S ops f h Q := step f hI
/-- Branches that meet again. -/
def JnQ (I : Fr → AH → Prop) : XE → Fr → AH → Prop
  | .normal, f, h => I f h
  | _, _, _ => False
theorem JnQ_n {I : Fr → AH → Prop} {f : Fr} {h : AH} : JnQ I .normal f h = I f h := rfl
theorem WO.mono {S : XS} {ops : List XI} {f : Fr} {h : AH} {Q Q' : Fr → AH → Prop} (w : WO S ops f h Q) (hq : ∀ f h, Q f h → Q' f h) : WO S ops f h Q' := by
  obtain ⟨k, f', h', h1, h2⟩ := w
  exact ⟨k, f', h', h1, hq _ _ h2⟩
theorem WO_join {S : XS} {ops : List XI} {a b : IR} {f : Fr} {h : AH} {Q : XE → Fr → AH → Prop} (I : Fr → AH → Prop) (w : WO S ops f h (RegQ (SeqQ S a (JnQ I)))) (hb : ∀ f h, I f h → WC S b f h Q) : WO S ops f h (RegQ (SeqQ S a (SeqQ S b Q))) := by
  refine w.mono fun f1 h1 q => ?_
  refine WC.mono q fun e f2 h2 q2 => ?_
  cases e with
  | normal => exact hb f2 h2 q2
  | exit id => exact q2.elim
  | ret => exact q2.elim
section
variable {n m : Nat} {h0 h h' h'' : AH} {b : Blk}
theorem Kp.refl : Kp n h h := ⟨Nat.le_refl _, fun _ _ _ => rfl⟩
theorem Kp.trans (a : Kp n h h') (c : Kp n h' h'') : Kp n h h'' := ⟨Nat.le_trans a.1 c.1, fun m hm hn => (c.2 m (Nat.lt_of_lt_of_le hm a.1) hn).trans (a.2 m hm hn)⟩
theorem Kp.of (p : h <+: h') : Kp n h h' := prefix_kp p
theorem Kp.get (k : Kp n h h') (hm : m ≠ n) (hg : h.get m = some b) : h'.get m = some b := by rw [k.2 m (get_lt hg) hm]; exact hg
theorem Kp.put (k : Kp n h h') : Kp n h (h'.put n b) := ⟨by rw [len_put]; exact k.1, fun m hm hn => by rw [get_put_ne (Ne.symm hn)]; exact k.2 m hm hn⟩
theorem Kp.putb (k : Kp n h h') (hm : h.length ≤ m) : Kp n h (h'.put m b) := ⟨by rw [len_put]; exact k.1, fun j hj hn => by rw [get_put_ne (by omega)]; exact k.2 j hj hn⟩
theorem Kp.new (k : Kp n h h') : Kp n h (h'.new b) := k.trans (Kp.of (pre_new (List.prefix_refl _)))
theorem get_none {m : Nat} (hm : m < h.length) (hn : h.get m = none) : h[m]? = some none := by
  unfold AH.get at hn
  rw [List.getElem?_eq_getElem hm] at hn ⊢
  cases e : h[m] with
  | none => rfl
  | some b => rw [e] at hn; cases hn
theorem get_some' {m : Nat} (hg : h.get m = some b) : h[m]? = some (some b) := by
  have hl := get_lt hg
  unfold AH.get at hg
  rw [List.getElem?_eq_getElem hl] at hg ⊢
  cases e : h[m] with
  | none => rw [e] at hg; cases hg
  | some c => rw [e] at hg; cases hg; rfl
theorem Kp.pre (k : Kp n h h') (p : h0 <+: h) (hl : h0.length ≤ n) : h0 <+: h' := by
  have l0 := pre_len p
  rw [List.prefix_iff_getElem?] at p ⊢
  intro i hi
  have e := k.2 i (by omega) (by omega)
  rw [← p i hi]
  cases hg : h.get i with
  | none =>
    rw [hg] at e
    rw [get_none (by omega) hg, get_none (Nat.lt_of_lt_of_le (by omega) k.1) e]
  | some b =>
    rw [hg] at e
    rw [get_some' hg, get_some' e]
end
theorem put_facts {h H : AH} {m : Nat} {b : Blk} (hH : h.put m b = H) : (∀ k c, k ≠ m → h.get k = some c → H.get k = some c) ∧ H.length = h.length ∧ (m < h.length → H.get m = some b) ∧ ∀ n h0, Kp n h0 h → h0.length ≤ m → Kp n h0 H := by
  subst hH
  exact ⟨fun k c hk g => by rw [get_put_ne (Ne.symm hk)]; exact g, len_put, fun hm => get_put_same hm, fun n h0 k hm => k.putb hm⟩
/-- What hangs on blocks other than n alone. -/
def KP (n : Nat) (h : AH) (p : AH → Prop) : Prop := ∀ h', Kp n h h' → p h'
theorem KP.now {n : Nat} {h : AH} {p : AH → Prop} (k : KP n h p) : p h := k h Kp.refl
theorem KP.kp {n : Nat} {h h' : AH} {p : AH → Prop} (k : KP n h p) (d : Kp n h h') : KP n h' p := fun h2 d2 => k h2 (d.trans d2)
theorem KP.pre {n : Nat} {h h' : AH} {p : AH → Prop} (k : KP n h p) (d : h <+: h') : KP n h' p := k.kp (Kp.of d)

/-- What hangs on blocks from lo on alone. -/
def KN (lo : Nat) (h : AH) (p : AH → Prop) : Prop := ∀ h' : AH, h.length ≤ h'.length → (∀ m, lo ≤ m → m < h.length → h'.get m = h.get m) → p h'
section
variable {lo lo' n m : Nat} {h h' : AH} {p : AH → Prop} {b : Blk}
theorem KN.now (k : KN lo h p) : p h := k h (Nat.le_refl _) fun _ _ _ => rfl
theorem KN.kp (k : KN lo h p) (d : Kp n h h') (hn : n < lo) : KN lo h' p := fun h2 l2 g2 => k h2 (Nat.le_trans d.1 l2) fun m h1 h3 => (g2 m h1 (Nat.lt_of_lt_of_le h3 d.1)).trans (d.2 m h3 (by omega))
theorem KN.pre (k : KN lo h p) (d : h <+: h') : KN lo h' p := fun h2 l2 g2 => k h2 (Nat.le_trans (pre_len d) l2) fun m h1 h3 => (g2 m h1 (Nat.lt_of_lt_of_le h3 (pre_len d))).trans (prefix_get d h3)
theorem KN.put (k : KN lo h p) (hm : m < lo) : KN lo (h.put m b) p := fun h2 l2 g2 => k h2 (by rw [len_put] at l2; exact l2) fun j h1 h3 => (g2 j h1 (by rw [len_put]; exact h3)).trans (get_put_ne (by omega))
theorem KN.mono (k : KN lo h p) (hl : lo' ≤ lo) : KN lo' h p := fun h2 l2 g2 => k h2 l2 fun m h1 h3 => g2 m (by omega) h3
end

abbrev U64 (n : Int) : Value := .int .u64 n
abbrev srcP (n : Nat) : Value := .pointer (some ⟨n, 0, none⟩)
/-- A source: a code, a place in it, a number. -/
structure Src (h0 h : AH) (n : Nat) : Prop where
  p : h0 <+: h
  lo : h0.length ≤ n
  ex : ∃ (cv : Value) (code : List (List Int)) (a : Nat) (k : Int) (e : TypeId) (full : Bool), Els .u8 1 h0 cv code ∧ Byt 1 code ∧ code.length ≤ 1000000 ∧ a ≤ code.length ∧ h.get n = some ⟨[cv, I64 a, U64 k], e, false, full⟩
theorem Src.kp {h0 h h' : AH} {n : Nat} (s : Src h0 h n) (p : h <+: h') : Src h0 h' n := by
  obtain ⟨cv, code, a, k, e, full, h1, h2, h3, h4, h5⟩ := s.ex
  exact ⟨s.p.trans p, s.lo, cv, code, a, k, e, full, h1, h2, h3, h4, pre_get p h5⟩
theorem Src.keep {h0 h h' : AH} {n : Nat} (s : Src h0 h n) (p : h0 <+: h') (g : ∀ b, h.get n = some b → h'.get n = some b) : Src h0 h' n := by
  obtain ⟨cv, code, a, k, e, full, h1, h2, h3, h4, h5⟩ := s.ex
  exact ⟨p, s.lo, cv, code, a, k, e, full, h1, h2, h3, h4, g _ h5⟩
theorem Src.lt {h0 h : AH} {n : Nat} (s : Src h0 h n) : n < h.length := by
  obtain ⟨cv, code, a, k, e, full, h1, h2, h3, h4, h5⟩ := s.ex
  exact get_lt h5
theorem Src.putb {h0 h : AH} {n m : Nat} {b : Blk} (s : Src h0 h n) (hm : m ≠ n) (hl : h0.length ≤ m) : Src h0 (h.put m b) n := s.keep (pre_put s.p hl) fun c g => by rw [get_put_ne hm]; exact g

theorem Src.put {h0 h H : AH} {n m : Nat} {b : Blk} (s : Src h0 h n) (hH : h.put m b = H) (hm : m ≠ n) (hl : h0.length ≤ m) : Src h0 H n := by
  subst hH
  exact s.putb hm hl
theorem and24 (x : Int) : xbin .and (U64 x) (U64 16777215) = some (U64 ((BitVec.ofInt 64 x &&& BitVec.ofInt 64 16777215).toNat : Nat)) ∧ (BitVec.ofInt 64 x &&& BitVec.ofInt 64 16777215).toNat ≤ 16777215 := by
  have hb : (BitVec.ofInt 64 x &&& BitVec.ofInt 64 16777215).toNat ≤ 16777215 := by
    rw [BitVec.toNat_and]
    exact Nat.le_trans Nat.and_le_right (by decide)
  refine ⟨?_, hb⟩
  simp only [xbin, if_true]
  congr 2
  show IntKind.wrap .u64 ((BitVec.ofInt 64 x &&& BitVec.ofInt 64 16777215).toNat : Nat) = _
  generalize (BitVec.ofInt 64 x &&& BitVec.ofInt 64 16777215).toNat = y at hb
  simp only [IntKind.wrap]
  have : IntKind.u64.bits = 64 := rfl
  rw [this, show IntKind.u64.signed = false from rfl, Bool.false_and, if_neg (by decide)]
  omega
theorem bin_shr {k k' : IntKind} {x : Int} {b : Int} (hb : 0 ≤ b) : xbin .shr (.int k x) (.int k' b) = some (.int k (x.fdiv (2 ^ (min b.toNat k.bits)))) := by simp [xbin, hb]

theorem s_l01Next {h0 h : AH} {n : Nat} {k : Int} {Q : Value → AH → Prop} (s : Src h0 h n) (hQ : ∀ r h', Kp n h h' → h'.length = h.length → Src h0 h' n → (1 ≤ k → 0 ≤ r ∧ r < k) → (k < 1 → r = 0) → Q (I64 r) h') : WF S 148 [srcP n, I64 k] h Q := by
  refine WF_fn (fn := c148) rfl rfl ?_
  unfold c148
  obtain ⟨cv, code, a, hs, e, full, h1, h2, h3, h4, h5⟩ := s.ex
  unfold srcP
  by_cases hk : k < 1
  · ((try simp (maxSteps := 3000000) (dsimp := false) (disch := first | omega | (simp only [len_new, len_put, len_kill]; omega)) only [↓ypre, ypost, ↓reduceIte, Nat.reduceEqDiff, Nat.reduceAdd, Nat.reduceSub, Nat.reduceLeDiff, Nat.zero_add, Nat.sub_zero, ynew, decide_eq_true hk]); try simp only [yback])
    exact hQ 0 _ Kp.refl rfl s (by omega) (fun _ => rfl)
  · ((try simp (maxSteps := 3000000) (dsimp := false) (disch := first | omega | (simp only [len_new, len_put, len_kill]; omega)) only [↓ypre, ypost, ↓reduceIte, Nat.reduceEqDiff, Nat.reduceAdd, Nat.reduceSub, Nat.reduceLeDiff, Nat.zero_add, Nat.sub_zero, ynew, decide_eq_false hk, nchkV_p, rd1_of h5, wr_of h5, splice_eq]); try simp only [yback])
    generalize hx : IntKind.u64.wrap (IntKind.u64.wrap (hs * 6364136223846793005) + 1442695040888963407) = x
    generalize hH : h.put n ⟨[cv, I64 a, U64 x], e, false, full⟩ = H
    have gH : H.get n = some ⟨[cv, I64 a, U64 x], e, false, full⟩ := by rw [← hH]; exact get_put_same (get_lt h5)
    have lH : H.length = h.length := by rw [← hH, len_put]
    have kH : Kp n h H := by rw [← hH]; exact Kp.refl.put
    have pH := kH.pre s.p s.lo
    obtain ⟨a1, a2⟩ := and24 (x.fdiv (2 ^ (min (33 : Int).toNat IntKind.u64.bits)))
    generalize hN : (BitVec.ofInt 64 (x.fdiv (2 ^ (min (33 : Int).toNat IntKind.u64.bits))) &&& BitVec.ofInt 64 16777215).toNat = N at a1 a2
    have e1 := h1.pre pH
    have fin : ∀ (y : Int) (h' : AH), 0 ≤ y → Kp n h h' → h'.length = h.length → Src h0 h' n → Q (I64 (y.tmod k)) h' := fun y h' hy kp hl ss =>
      hQ _ h' kp hl ss (fun _ => ⟨Int.tmod_nonneg _ hy, Int.tmod_lt_of_pos _ (by omega)⟩) (fun hk' => absurd hk' hk)
    ((try simp (maxSteps := 3000000) (dsimp := false) (disch := first | omega | (simp only [len_new, len_put, len_kill]; omega)) only [↓ypre, ypost, ↓reduceIte, Nat.reduceEqDiff, Nat.reduceAdd, Nat.reduceSub, Nat.reduceLeDiff, Nat.zero_add, Nat.sub_zero, ynew, rd1_of gH, bin_shr, a1, e1.len, wrap64_in, Int.reduceLE]); try simp only [yback])
    by_cases hlt : (a : Int) < code.length
    · have hi' : a < code.length := by omega
      obtain ⟨n2, off, hix, hrn, hr1⟩ := e1.at hi'
      have rb := hr1 0 (by omega)
      have bb := h2 a hi' 0 (by omega)
      rw [Nat.add_zero] at rb
      generalize (code.getD a []).getD 0 0 = y at rb bb
      ((try simp (maxSteps := 3000000) (dsimp := false) (disch := first | omega | (simp only [len_new, len_put, len_kill]; omega)) only [↓ypre, ypost, ↓reduceIte, Nat.reduceEqDiff, Nat.reduceAdd, Nat.reduceSub, Nat.reduceLeDiff, Nat.zero_add, Nat.sub_zero, ynew, decide_eq_true hlt, hix, rb, rd1_of gH, wr_of gH, splice_eq, wrap64_in, bin_rem (show k ≠ 0 by omega)]); try simp only [yback])
      exact fin (N + y) _ (by omega) kH.put (by rw [len_put, lH]) ⟨pre_put pH s.lo, s.lo, cv, code, a + 1, x, e, full, h1, h2, h3, by omega, get_put_same (get_lt gH)⟩
    · ((try simp (maxSteps := 3000000) (dsimp := false) (disch := first | omega | (simp only [len_new, len_put, len_kill]; omega)) only [↓ypre, ypost, ↓reduceIte, Nat.reduceEqDiff, Nat.reduceAdd, Nat.reduceSub, Nat.reduceLeDiff, Nat.zero_add, Nat.sub_zero, ynew, decide_eq_false hlt, bin_rem (show k ≠ 0 by omega)]); try simp only [yback])
      exact fin N H (by omega) kH lH ⟨pH, s.lo, cv, code, a, x, e, full, h1, h2, h3, h4, gH⟩
end Go.Proofs.Ytapafdpnmakekaa.X

/- Sources of draws: made out of a code; one of some numbers, a number near a range; lists. -/
set_option linter.unusedVariables false
set_option linter.unusedSimpArgs false
set_option maxRecDepth 20000
set_option maxHeartbeats 4000000
namespace Go.Proofs.Ytapafdpnmakekaa.X
open Go Go.RowKit

theorem s_l01From {h : AH} {cv : Value} {code : List (List Int)} {Q : Value → AH → Prop} (hv : Els .u8 1 h cv code) (hb : Byt 1 code) (hl : code.length ≤ 1000000)
    (hQ : ∀ h', h <+: h' → h'.length = h.length + 1 → Src h h' h.length → Q (srcP h.length) h') : WF S 145 [cv] h Q := by
  refine WF_fn (fn := c145) rfl rfl ?_
  unfold c145
  ((try simp (maxSteps := 3000000) (dsimp := false) (disch := first | omega | (simp only [len_new, len_put, len_kill]; omega)) only [↓ypre, ypost, ↓reduceIte, Nat.reduceEqDiff, Nat.reduceAdd, Nat.reduceSub, Nat.reduceLeDiff, Nat.zero_add, Nat.sub_zero, ynew, hv.len, hv.one, hv.cells]); try simp only [yback])
  generalize hx : IntKind.u64.wrap (12619 + IntKind.u64.wrap (code.length : Int)) = x0
  ((try simp (maxSteps := 3000000) (dsimp := false) (disch := first | omega | (simp only [len_new, len_put, len_kill]; omega)) only [↓ypre, ypost, ↓reduceIte, Nat.reduceEqDiff, Nat.reduceAdd, Nat.reduceSub, Nat.reduceLeDiff, Nat.zero_add, Nat.sub_zero, ynew, fillL, hv.one, hv.cells]); try simp only [yback])
  generalize hH1 : AH.new h _ = H1
  obtain ⟨hb1, p1, n1⟩ := new_facts hH1
  refine WC_loop_inv (fun m f K1 => ∃ (i : Nat) (x : Int), m = code.length - i ∧ i ≤ code.length ∧ f 0 = cv ∧ f 3 = srcP h.length ∧ f 4 = I64 i ∧ (h <+: K1) ∧ (K1.length = h.length + 1) ∧ (K1.get h.length = some ⟨[cv, I64 0, U64 x], 220, false, true⟩)) ?_ (code.length - 0) _ _ ⟨0, x0, rfl, by omega, (by first | rfl | (simp [upd_apply]; done)), (by first | rfl | (simp [upd_apply]; done)), (by first | rfl | (simp [upd_apply]; done)), p1, n1, hb1⟩
  rintro m f K1 ⟨i, x, rfl, hi, f0, f3, f4, pp, hl1, hg⟩
  have e1 := hv.pre pp
  unfold srcP at f3
  by_cases hlt : (i : Int) < code.length
  · by_cases h4 : (i : Int) < 4096
    · have hi' : i < code.length := by omega
      obtain ⟨n2, off, hix, hrn, hr1⟩ := e1.at hi'
      have rb := hr1 0 (by omega)
      rw [Nat.add_zero] at rb
      ((try simp (maxSteps := 3000000) (dsimp := false) (disch := first | omega | (simp only [len_new, len_put, len_kill]; omega)) only [↓ypre, ypost, ↓reduceIte, Nat.reduceEqDiff, Nat.reduceAdd, Nat.reduceSub, Nat.reduceLeDiff, Nat.zero_add, Nat.sub_zero, ynew, f0, f3, f4, e1.len, decide_eq_true hlt, decide_eq_true h4, nchkV_p, rd1_of hg, hix, rb, wr_of hg, splice_eq, wrap64_in]); try simp only [yback])
      refine InvQ_go (code.length - (i + 1)) (by omega) ⟨(i + 1), (_), rfl, by omega, (by first | rfl | exact f0 | (simp only [upd_apply]; rfl) | (show I64 _ = _; congr 1; omega)), (by first | rfl | exact f3 | (simp only [upd_apply]; rfl) | (show I64 _ = _; congr 1; omega)), (by first | rfl | exact f4 | (simp only [upd_apply]; rfl) | (show I64 _ = _; congr 1; omega)), (pre_put pp (by omega)), (by rw [len_put]; exact hl1), (get_put_same (get_lt hg))⟩
    · ((try simp (maxSteps := 3000000) (dsimp := false) (disch := first | omega | (simp only [len_new, len_put, len_kill]; omega)) only [↓ypre, ypost, ↓reduceIte, Nat.reduceEqDiff, Nat.reduceAdd, Nat.reduceSub, Nat.reduceLeDiff, Nat.zero_add, Nat.sub_zero, ynew, f0, f3, f4, e1.len, decide_eq_true hlt, decide_eq_false h4]); try simp only [yback])
      exact hQ _ pp hl1 ⟨pp, Nat.le_refl _, cv, code, 0, x, _, _, hv, hb, hl, Nat.zero_le _, hg⟩
  · ((try simp (maxSteps := 3000000) (dsimp := false) (disch := first | omega | (simp only [len_new, len_put, len_kill]; omega)) only [↓ypre, ypost, ↓reduceIte, Nat.reduceEqDiff, Nat.reduceAdd, Nat.reduceSub, Nat.reduceLeDiff, Nat.zero_add, Nat.sub_zero, ynew, f0, f3, f4, e1.len, decide_eq_false hlt, WG_un]); try simp only [yback])
    exact hQ _ pp hl1 ⟨pp, Nat.le_refl _, cv, code, 0, x, _, _, hv, hb, hl, Nat.zero_le _, hg⟩

theorem s_l01Pick {h0 h : AH} {n : Nat} {v : Value} {ns : List Int} {Q : Value → AH → Prop} (s : Src h0 h n) (hv : KP n h fun h' => Ints h' v ns) (h1 : 1 ≤ ns.length) (h2 : ns.length ≤ 1000)
    (hQ : ∀ j h', Kp n h h' → h'.length = h.length → Src h0 h' n → j < ns.length → Q (I64 (ns.getD j 0)) h') : WF S 147 [srcP n, v] h Q := by
  refine WF_fn (fn := c147) rfl rfl ?_
  unfold c147
  ((try simp (maxSteps := 3000000) (dsimp := false) (disch := first | omega | (simp only [len_new, len_put, len_kill]; omega)) only [↓ypre, ypost, ↓reduceIte, Nat.reduceEqDiff, Nat.reduceAdd, Nat.reduceSub, Nat.reduceLeDiff, Nat.zero_add, Nat.sub_zero, ynew, hv.now.len]); try simp only [yback])
  refine s_l01Next s fun r h' kp hl ss hr _ => ?_
  obtain ⟨r0, r1⟩ := hr (by omega)
  have iv := hv h' kp
  ((try simp (maxSteps := 3000000) (dsimp := false) (disch := first | omega | (simp only [len_new, len_put, len_kill]; omega)) only [↓ypre, ypost, ↓reduceIte, Nat.reduceEqDiff, Nat.reduceAdd, Nat.reduceSub, Nat.reduceLeDiff, Nat.zero_add, Nat.sub_zero, ynew, iv.ix r0 r1, iv.rd r0 r1]); try simp only [yback])
  have := hQ r.toNat h' kp hl ss (by omega)
  exact this
/-- Numbers that are written out, as a block made for them. -/
theorem kp_new {h H : AH} {n : Nat} {ns : List Int} {e : TypeId} (hH : h.new ⟨ns.map (Value.int .i64), e, false, true⟩ = H) (hn : n < h.length) : KP n H fun h' => Ints h' (.slice (some ⟨h.length, 0, none⟩) ns.length 1) ns := by
  obtain ⟨g1, p1, n1⟩ := new_facts hH
  intro h' k
  exact Ints.own (k.get (by omega) g1) rfl

theorem s_l01Near {h0 h : AH} {n : Nat} {m : Int} {Q : Value → AH → Prop} (s : Src h0 h n) (hm : -1000000000 ≤ m ∧ m ≤ 1000000000)
    (hQ : ∀ r h', Kp n h h' → Src h0 h' n → -4611686018427387904 ≤ r ∧ r ≤ 1099511627776 → Q (I64 r) h') : WF S 175 [srcP n, I64 m] h Q := by
  refine WF_fn (fn := c175) rfl rfl ?_
  unfold c175
  have s0 := s
  ((try simp (maxSteps := 3000000) (dsimp := false) (disch := first | omega | (simp only [len_new, len_put, len_kill]; omega)) only [↓ypre, ypost, ↓reduceIte, Nat.reduceEqDiff, Nat.reduceAdd, Nat.reduceSub, Nat.reduceLeDiff, Nat.zero_add, Nat.sub_zero, ynew]); try simp only [yback])
  refine s_l01Next s fun r h1 k1 l1 s1 hr _ => ?_
  by_cases h0' : r = 0
  · ((try simp (maxSteps := 3000000) (dsimp := false) (disch := first | omega | (simp only [len_new, len_put, len_kill]; omega)) only [↓ypre, ypost, ↓reduceIte, Nat.reduceEqDiff, Nat.reduceAdd, Nat.reduceSub, Nat.reduceLeDiff, Nat.zero_add, Nat.sub_zero, ynew, decide_eq_true h0', wrap64_in, fillL, zrep]); try simp only [yback])
    generalize hH : AH.new h1 _ = H
    have lt := s1.lt
    have kv := kp_new (ns := [-1, m + 1, 1099511627776, -4611686018427387904]) hH lt
    obtain ⟨g1, p1, n1⟩ := new_facts hH
    refine s_l01Pick (s1.kp p1) kv (by simp) (by simp) fun j h2 k2 l2 s2 hj => ?_
    ((try simp (maxSteps := 3000000) (dsimp := false) (disch := first | omega | (simp only [len_new, len_put, len_kill]; omega)) only [↓ypre, ypost, ↓reduceIte, Nat.reduceEqDiff, Nat.reduceAdd, Nat.reduceSub, Nat.reduceLeDiff, Nat.zero_add, Nat.sub_zero, ynew]); try simp only [yback])
    refine hQ _ _ ((k1.trans (Kp.of p1)).trans k2) s2 ?_
    have : j = 0 ∨ j = 1 ∨ j = 2 ∨ j = 3 := by simp at hj; omega
    rcases this with rfl | rfl | rfl | rfl <;> simp <;> omega
  · ((try simp (maxSteps := 3000000) (dsimp := false) (disch := first | omega | (simp only [len_new, len_put, len_kill]; omega)) only [↓ypre, ypost, ↓reduceIte, Nat.reduceEqDiff, Nat.reduceAdd, Nat.reduceSub, Nat.reduceLeDiff, Nat.zero_add, Nat.sub_zero, ynew, decide_eq_false h0', wrap64_in]); try simp only [yback])
    refine s_l01Next s1 fun r2 h2 k2 l2 s2 hr2 hr3 => ?_
    ((try simp (maxSteps := 3000000) (dsimp := false) (disch := first | omega | (simp only [len_new, len_put, len_kill]; omega)) only [↓ypre, ypost, ↓reduceIte, Nat.reduceEqDiff, Nat.reduceAdd, Nat.reduceSub, Nat.reduceLeDiff, Nat.zero_add, Nat.sub_zero, ynew]); try simp only [yback])
    refine hQ _ _ (k1.trans k2) s2 ?_
    by_cases h : m + 1 < 1
    · have := hr3 h
      omega
    · have := hr2 (by omega)
      omega
end Go.Proofs.Ytapafdpnmakekaa.X

/- What schemes are: sizes, places, products, the whole. -/
set_option linter.unusedVariables false
set_option linter.unusedSimpArgs false
set_option maxRecDepth 20000
set_option maxHeartbeats 4000000
namespace Go.Proofs.Ytapafdpnmakekaa.X
open Go Go.RowKit

def sz (n : Int) : Bool := decide (1 ≤ n ∧ n ≤ 3)
/-- Sizes and prime as told. -/
def szX (x : Sch) : Bool := isP x.p && sz x.n && sz x.m && sz x.k
structure SZ (x : Sch) : Prop where
  p : 2 ≤ x.p ∧ x.p ≤ 5
  n : 1 ≤ x.n ∧ x.n ≤ 3
  m : 1 ≤ x.m ∧ x.m ≤ 3
  k : 1 ≤ x.k ∧ x.k ≤ 3
  nm : 1 ≤ x.n * x.m ∧ x.n * x.m ≤ 9
  mk2 : 1 ≤ x.m * x.k ∧ x.m * x.k ≤ 9
  nk : 1 ≤ x.n * x.k ∧ x.n * x.k ≤ 9
theorem szX_facts {x : Sch} (h : szX x = true) : SZ x := by
  simp only [szX, sz, Bool.and_eq_true, decide_eq_true_eq] at h
  obtain ⟨⟨⟨h1, h2⟩, h3⟩, h4⟩ := h
  exact ⟨isP_in h1, h2, h3, h4, mul_in1 (A := 3) (B := 3) h2 h3, mul_in1 (A := 3) (B := 3) h3 h4, mul_in1 (A := 3) (B := 3) h2 h4⟩
theorem xres_tmp3 {f : Fr} {h : AH} {t u w : Nat} : xres f h [.tmp t, .tmp u, .tmp w] = some (.tuple #[f t, f u, f w]) := rfl
theorem s_l01Lengths {x : Sch} {v : Value} {h : AH} {Q : Value → AH → Prop} (hv : isOne v = true) (z : SZ x) (hQ : ∀ h', h <+: h' → Q (.tuple #[I64 (x.n * x.m), I64 (x.m * x.k), I64 (x.n * x.k)]) h') : WF S 300 [schV x v] h Q := by
  refine WF_fn (fn := c300) rfl rfl ?_
  unfold c300
  have := z.nm
  have := z.mk2
  have := z.nk
  try simp (maxSteps := 3000000) (disch := first | omega | (simp only [len_new, len_put, len_kill]; omega)) only [↓xpre, xpost, ↓reduceIte, Nat.reduceEqDiff, Nat.reduceAdd, Nat.reduceSub, Nat.reduceLeDiff, Nat.zero_add, Nat.sub_zero, schV, hv, wrap64_in, xres_tmp3]
  exact hQ _ (pre_new (List.prefix_refl _))
def pl (x : Sch) (i : Nat) : Int := if i = 0 then x.n * x.m else if i = 1 then x.m * x.k else x.n * x.k
def okProd (x : Sch) (q : List Int) : Bool := okForm x.p (pl x 0) (seg q 0) && okForm x.p (pl x 1) (seg q 1) && okForm x.p (pl x 2) (seg q 2) && !hasZ q
def isX (x : Sch) : Bool := szX x && decide (x.ps.length ≤ 30) && x.ps.all (okProd x)
theorem Prods.by {h : AH} {v : Value} {L : List (List Int)} (hv : Prods h v L) {i : Nat} (hi : i < L.length) : By 27 (L.getD i []) := ⟨hv.1.wid hi, hv.2 i hi⟩
end Go.Proofs.Ytapafdpnmakekaa.X

/- Sets of rows as whole numbers of 32 bits; their counts. -/
set_option linter.unusedVariables false
set_option linter.unusedSimpArgs false
set_option maxRecDepth 20000
set_option maxHeartbeats 4000000
namespace Go.Proofs.Ytapafdpnmakekaa.X
open Go Go.RowKit

/-- The set of the rows ahead of R with a mark. -/
def bs : Nat → (Nat → Bool) → Nat
  | 0, _ => 0
  | R + 1, f => bs R f + (if f R = true then 2 ^ R else 0)
def U32 (n : Nat) : Value := .int .u32 (n : Int)
section
variable {R : Nat} {f g : Nat → Bool}
end

/-! ### Counts -/
def cntB (f : Nat → Bool) : Nat → Nat
  | 0 => 0
  | R + 1 => cntB f R + (if f R = true then 1 else 0)
theorem cntB_congr {f g : Nat → Bool} : ∀ {R : Nat}, (∀ k, k < R → f k = g k) → cntB f R = cntB g R
  | 0, _ => rfl
  | R + 1, h => by
    unfold cntB
    rw [cntB_congr (R := R) fun k hk => h k (by omega), h R (by omega)]
end Go.Proofs.Ytapafdpnmakekaa.X

/- Elements under way beside other things under way; lists of truth values. -/
set_option linter.unusedVariables false
set_option linter.unusedSimpArgs false
set_option maxRecDepth 20000
set_option maxHeartbeats 4000000
namespace Go.Proofs.Ytapafdpnmakekaa.X
open Go Go.RowKit

/-- Elements under way: nil, or a block of one's own behind a place and other than some blocks. -/
def WayX (e : TypeId) (k : IntKind) (w : Nat) (h : AH) (lo : Nat) (ex : List Nat) (sv : Value) (L : List (List Int)) : Prop :=
  Wid w L ∧ ((sv = .slice none 0 0 ∧ L = []) ∨ ∃ kb full, sv = .slice (some ⟨kb, 0, none⟩) L.length w ∧ lo ≤ kb ∧ kb ∉ ex ∧ h.get kb = some ⟨cel k L.flatten, e, false, full⟩)
section
variable {e : TypeId} {k : IntKind} {w : Nat} {h h' : AH} {lo : Nat} {ex : List Nat} {sv : Value} {L : List (List Int)}
theorem WayX.pre (o : WayX e k w h lo ex sv L) (p : h <+: h') : WayX e k w h' lo ex sv L := by
  obtain ⟨hw, o | ⟨kb, full, h1, h2, h3, h4⟩⟩ := o
  · exact ⟨hw, .inl o⟩
  · exact ⟨hw, .inr ⟨kb, full, h1, h2, h3, pre_get p h4⟩⟩
theorem WayX.one (o : WayX e k w h lo ex sv L) : isOne sv = true := by
  obtain ⟨hw, ⟨rfl, _⟩ | ⟨kb, full, rfl, h2, h3, h4⟩⟩ := o <;> rfl
theorem WayX.cells (o : WayX e k w h lo ex sv L) : cellsL sv = [sv] := by
  obtain ⟨hw, ⟨rfl, _⟩ | ⟨kb, full, rfl, h2, h3, h4⟩⟩ := o <;> rfl
theorem WayX.len (o : WayX e k w h lo ex sv L) : lenV sv = some (I64 L.length) := by
  obtain ⟨hw, ⟨rfl, rfl⟩ | ⟨kb, full, rfl, h2, h3, h4⟩⟩ := o <;> rfl
theorem WayX.put {n : Nat} {b : Blk} (o : WayX e k w h lo ex sv L) (hn : n < lo ∨ n ∈ ex) : WayX e k w (h.put n b) lo ex sv L := by
  obtain ⟨hw, o | ⟨kb, full, h1, h2, h3, h4⟩⟩ := o
  · exact ⟨hw, .inl o⟩
  · refine ⟨hw, .inr ⟨kb, full, h1, h2, h3, ?_⟩⟩
    rw [get_put_ne]
    · exact h4
    · rintro rfl
      rcases hn with hn | hn
      · omega
      · exact h3 hn
/-- What keeps all blocks but some excluded ones. -/
theorem WayX.keep (o : WayX e k w h lo ex sv L) (hk : ∀ m c f, m ∉ ex → lo ≤ m → h.get m = some ⟨c, e, false, f⟩ → h'.get m = some ⟨c, e, false, f⟩) : WayX e k w h' lo ex sv L := by
  obtain ⟨hw, o | ⟨kb, full, h1, h2, h3, h4⟩⟩ := o
  · exact ⟨hw, .inl o⟩
  · exact ⟨hw, .inr ⟨kb, full, h1, h2, h3, hk _ _ _ h3 h2 h4⟩⟩
/-- The blocks that hold it. -/
theorem WayX.hold (o : WayX e k w h lo ex sv L) : ∃ E : List Nat, (∀ m, m ∈ E → lo ≤ m ∧ m < h.length ∧ m ∉ ex) ∧ ∀ h' : AH, (∀ m b, m ∈ E → h.get m = some b → h'.get m = some b) → WayX e k w h' lo ex sv L ∧ InE k w lo h.length h' sv L := by
  obtain ⟨hw, o | ⟨kb, full, h1, h2, h3, h4⟩⟩ := o
  · exact ⟨[], fun m hm => by simp at hm, fun h' _ => ⟨⟨hw, .inl o⟩, .inl o⟩⟩
  · refine ⟨[kb], fun m hm => ?_, fun h' hk => ⟨⟨hw, .inr ⟨kb, full, h1, h2, h3, hk _ _ (by simp) h4⟩⟩, .inr ⟨kb, e, full, ⟨h2, get_lt h4⟩, h1, hk _ _ (by simp) h4, hw⟩⟩⟩
    rw [List.mem_singleton] at hm
    subst hm
    exact ⟨h2, get_lt h4, h3⟩
theorem WayX.inE (o : WayX e k w h lo ex sv L) : InE k w lo h.length h sv L := by
  obtain ⟨hw, o | ⟨kb, full, h1, h2, h3, h4⟩⟩ := o
  · exact .inl o
  · exact .inr ⟨kb, e, full, ⟨h2, get_lt h4⟩, h1, h4, hw⟩
theorem WayX.app {H : AH} {q : List Int} {e' : TypeId} {ro full : Bool} {bytes : Nat} (o : WayX e k w H lo ex sv L) (hq : q.length = w) (hl : ((L.length : Int) + 1) * bytes ≤ 140737488355328) (hn : (L.length : Int) < 1048576) (hlo : lo ≤ H.length) (hex : ∀ m, m ∈ ex → m < H.length)
    {Q : Value → AH → Prop} (hQ : ∀ (sv' : Value) (H' : AH), H'.length = H.length + 2 → (∀ h0 : AH, h0.length ≤ lo → h0 <+: H → h0 <+: H') → (∀ m b, m < lo ∨ m ∈ ex → H.get m = some b → H'.get m = some b) → WayX e k w H' H.length ex sv' (L ++ [q]) → Q sv' H') :
    OQ (appV e w bytes sv (.slice (some ⟨H.length, 0, none⟩) 1 w) (H.new ⟨cel k q, e', ro, full⟩)) Q := by
  have hr : (H.new ⟨cel k q, e', ro, full⟩).rdn H.length 0 w = some (cel k q) := by
    rw [rdn_of get_new_same]
    simp only
    rw [if_pos (by rw [cel_len, hq]; omega), List.drop_zero, List.take_of_length_le (by rw [cel_len, hq]; omega)]
  obtain ⟨hw, ⟨rfl, rfl⟩ | ⟨kb, fu, rfl, h2, h3, h4⟩⟩ := o
  · rw [app_nilW (.inl rfl) hr (by simp only [List.length_nil] at hl; omega), OQ_some]
    refine hQ _ _ (by rw [len_new, len_new]) (fun h0 _ p => pre_new (pre_new p)) (fun m b hm o => get_new_any (get_new_any o)) ⟨?_, .inr ⟨_, false, rfl, by rw [len_new]; omega, fun hm => by have := hex _ hm; rw [len_new] at this; omega, ?_⟩⟩
    · intro r hr
      rw [List.nil_append, List.mem_singleton] at hr
      rw [hr, hq]
    · rw [get_new_same]
      simp
  · have hk : (H.new ⟨cel k q, e', ro, full⟩).get kb = some ⟨cel k L.flatten, e, false, fu⟩ := get_new_any h4
    have hkb := get_lt h4
    rw [app_ownW hk (by rw [cel_len, flat_len hw]) hr ⟨hl, by omega⟩, OQ_some]
    refine hQ _ _ (by rw [len_new, len_kill, len_new]) (fun h0 q p => pre_new (pre_kill (pre_new p) (by omega))) (fun m b hm o => ?_) ⟨?_, .inr ⟨(H.new ⟨cel k q, e', ro, full⟩).length, false, by simp, by rw [len_new]; omega, fun hm => by have := hex _ hm; rw [len_new] at this; omega, ?_⟩⟩
    · refine get_new_any ?_
      rw [get_kill_ne]
      · exact get_new_any o
      · rintro rfl
        rcases hm with hm | hm
        · omega
        · exact h3 hm
    · intro r hr
      rcases List.mem_append.1 hr with hr | hr
      · exact hw r hr
      · rw [List.mem_singleton.1 hr, hq]
    · rw [get_new_eq (by rw [len_kill])]
      simp [cel_app]
end

/-! ### Lists of truth values -/
def Bls (h : AH) (n : Nat) (bs : List Bool) : Prop := h.get n = some ⟨bs.map Value.bool, 4, false, true⟩
section
variable {h h' : AH} {n : Nat} {bs : List Bool}
theorem Bls.pre (o : Bls h n bs) (p : h <+: h') : Bls h' n bs := pre_get p o
theorem Bls.lt (o : Bls h n bs) : n < h.length := get_lt o
theorem Bls.rd {j : Nat} (o : Bls h n bs) (hj : j < bs.length) : h.rd1 n j = some (.bool (bs.getD j false)) := by
  rw [rd1_of o]
  simp [List.getD_eq_getElem?_getD, hj]
theorem Bls.put_ne {m : Nat} {b : Blk} (o : Bls h n bs) (e : m ≠ n) : Bls (h.put m b) n bs := by
  unfold Bls
  rw [get_put_ne e]
  exact o
theorem Bls.wr {j : Nat} {x : Bool} (o : Bls h n bs) (hj : j < bs.length) : ∃ h', h.wr n j [.bool x] = some h' ∧ h' = h.put n ⟨(bs.set j x).map Value.bool, 4, false, true⟩ ∧ Bls h' n (bs.set j x) := by
  have e : splice (bs.map Value.bool) j [.bool x] = (bs.set j x).map Value.bool := by
    rw [splice_set (by simpa using hj)]
    simp [List.map_set]
  refine ⟨_, ?_, rfl, get_put_same o.lt⟩
  rw [wr_of o, if_pos ⟨rfl, by simp only [List.length_map, List.length_singleton]; omega⟩, e]
end
end Go.Proofs.Ytapafdpnmakekaa.X

/- RunProgram and DepthsOf, both sides. -/
set_option linter.unusedVariables false
set_option linter.unusedSimpArgs false
set_option maxRecDepth 20000
set_option maxHeartbeats 4000000
namespace Go.Proofs.Ytapafdpnmakekaa.X
open Go Go.RowKit

/-! ### RunProgram -/
def rpOK (x : Prg) (ns : List Int) : Prop := allIn x.p ns = true ∧ (ns.length : Int) = x.n
instance {x : Prg} {ns : List Int} : Decidable (rpOK x ns) := by unfold rpOK; infer_instance
/-! ### DepthsOf -/
end Go.Proofs.Ytapafdpnmakekaa.X

/- Tables under way, tables turned over: FormsOf of both sides. -/
set_option linter.unusedVariables false
set_option linter.unusedSimpArgs false
set_option maxRecDepth 20000
set_option maxHeartbeats 4000000
namespace Go.Proofs.Ytapafdpnmakekaa.X
open Go Go.RowKit

theorem Ints.cell {h : AH} {v : Value} {ns : List Int} (hv : Ints h v ns) {j : Nat} (hj : j < ns.length) : ∃ n off, (∀ kk : IntKind, ixsV 1 v (.int kk (j : Int)) = some (.pointer (some ⟨n, off, none⟩))) ∧ h.rd1 n off = some (I64 (ns.getD j 0)) := by
  rcases hv with ⟨rfl, t, _, rfl⟩ | ⟨b, off, blk, rfl, h2, h3, h4⟩
  · simp at hj
  · refine ⟨b, off + j, fun kk => ?_, ?_⟩
    · rw [ixsV_some, if_pos (by omega)]
      simp
    · rw [rd1_of h2]
      exact h4 j hj
theorem Rows.len {h : AH} {v : Value} {rows : List (List Int)} (hv : Rows h v rows) : lenV v = some (I64 rows.length) := by
  obtain ⟨cs, h1, h2, h3⟩ := hv
  rw [h1.len, h2]
theorem Rows.row {h : AH} {v : Value} {rows : List (List Int)} (hv : Rows h v rows) {i : Nat} (hi : i < rows.length) :
    ∃ n off x, (∀ kk : IntKind, ixsV 1 v (.int kk (i : Int)) = some (.pointer (some ⟨n, off, none⟩))) ∧ h.rd1 n off = some x ∧ Ints h x (rows.getD i []) := by
  obtain ⟨cs, hc, hl, hr⟩ := hv
  rcases hc with ⟨rfl, t, _, rfl⟩ | ⟨b, off, blk, rfl, h2, h3, h4⟩
  · simp at hl
    omega
  · refine ⟨b, off + i, cs.getD i undef, fun kk => ?_, ?_, hr i hi⟩
    · rw [ixsV_some, if_pos (by omega)]
      simp
    · rw [rd1_of h2]
      exact h4 i (by omega)
/-- A number put into a row. -/
theorem TabS.cell {h0 h : AH} {nb i j : Nat} {full : Bool} {L : List (Nat × List Int)} {x : Int} {n : Nat} {r : List Int} (s : TabS h0 h nb full L) (hi : i < L.length) (hL : L[i] = (n, r)) (hj : j < r.length) :
    ∃ e fu, h.get n = some ⟨r.map (Value.int .i64), e, false, fu⟩ ∧ TabS h0 (h.put n ⟨(r.set j x).map (Value.int .i64), e, false, fu⟩) nb full (L.set i (n, r.set j x)) := by
  have a := s.rows _ (List.getElem_mem hi)
  rw [hL] at a
  obtain ⟨⟨a1, a2⟩, fu, e, o⟩ := a
  refine ⟨e, fu, o, pre_put s.hp a1, s.lo, ?_, fun q hq => ?_, ?_⟩
  · rw [get_put_ne a2, s.g]
    congr 2
    rw [List.map_set]
    have : rowV (n, r.set j x) = (L.map rowV)[i]'(by simpa using hi) := by
      rw [List.getElem_map, hL]
      simp [rowV]
    rw [this, List.set_getElem_self]
  · obtain ⟨m, hm, rfl⟩ := List.mem_iff_getElem.1 hq
    have hm' : m < L.length := by simpa using hm
    by_cases hmi : m = i
    · subst hmi
      rw [List.getElem_set_self]
      exact ⟨⟨a1, a2⟩, fu, e, get_put_same (get_lt o)⟩
    · rw [List.getElem_set_ne (fun q => hmi q.symm)]
      have b := s.rows _ (List.getElem_mem hm')
      obtain ⟨b1, fq, oq⟩ := b
      refine ⟨b1, fq, oq.put_ne ?_⟩
      have hd := List.pairwise_iff_getElem.1 s.dist
      rcases Nat.lt_or_gt_of_ne hmi with hlt | hgt
      · have := hd m i hm' hi hlt
        rw [hL] at this
        exact fun q => this q.symm
      · have := hd i m hi hm' hgt
        rw [hL] at this
        exact this
  · have e1 : (L.set i (n, r.set j x)).map Prod.fst = L.map Prod.fst := by
      rw [List.map_set]
      have : (n, r.set j x).1 = (L.map Prod.fst)[i]'(by simpa using hi) := by rw [List.getElem_map, hL]
      rw [this, List.set_getElem_self]
    have h1 := List.pairwise_map (f := Prod.fst) (R := fun a b : Nat => a ≠ b) (l := L)
    have h2 := List.pairwise_map (f := Prod.fst) (R := fun a b : Nat => a ≠ b) (l := L.set i (n, r.set j x))
    rw [← h2, e1, h1]
    exact s.dist

end Go.Proofs.Ytapafdpnmakekaa.X

/- Programs of lists: a row behind a program, on both sides. -/
set_option linter.unusedVariables false
set_option linter.unusedSimpArgs false
set_option maxRecDepth 20000
set_option maxHeartbeats 4000000
namespace Go.Proofs.Ytapafdpnmakekaa.X
open Go Go.RowKit

theorem WayX.types {e e' : TypeId} {k : IntKind} {w : Nat} {h h' : AH} {lo : Nat} {sv : Value} {L : List (List Int)} (o : WayX e k w h lo [] sv L) (he : e ≠ e') (hk : ∀ m b, b.e ≠ e' → h.get m = some b → h'.get m = some b) : WayX e k w h' lo [] sv L :=
  o.keep fun m c f _ _ g => hk _ _ he g
/-- What stays while a program is made. -/
structure Stay (lo : Nat) (h h' : AH) : Prop where
  len : h.length ≤ h'.length
  pre : ∀ h0 : AH, h0.length ≤ lo → h0 <+: h → h0 <+: h'
  get : ∀ m b, h.get m = some b → b.e ≠ 181 → b.e ≠ 183 → h'.get m = some b
theorem Stay.refl {lo : Nat} {h : AH} : Stay lo h h := ⟨Nat.le_refl _, fun _ _ p => p, fun _ _ g _ _ => g⟩
theorem Stay.of {lo : Nat} {h h' : AH} (p : h <+: h') : Stay lo h h' := ⟨pre_len p, fun _ _ q => q.trans p, fun _ _ g _ _ => pre_get p g⟩
theorem Stay.trans {lo : Nat} {h h1 h2 : AH} (a : Stay lo h h1) (b : Stay lo h1 h2) : Stay lo h h2 :=
  ⟨Nat.le_trans a.len b.len, fun h0 hl p => b.pre h0 hl (a.pre h0 hl p), fun m c g h1 h2 => b.get m c (a.get m c g h1 h2) h1 h2⟩
theorem Stay.put {lo : Nat} {h h' : AH} {n : Nat} {b : Blk} (a : Stay lo h h') (hn : h.length ≤ n) (hlo : lo ≤ n) : Stay lo h (h'.put n b) :=
  ⟨by rw [len_put]; exact a.len, fun h0 hl p => pre_put (a.pre h0 hl p) (by omega), fun m c g h1 h2 => by
    have := get_lt g
    rw [get_put_ne (by omega)]
    exact a.get m c g h1 h2⟩

/-! ### Plainly -/
/-- What a program under way is. -/
structure Way2 (h : AH) (lo : Nat) (v w : Value) (x : Prg) : Prop where
  st : WayX (181) .i64 3 h lo [] v x.st
  out : WayX (183) .i64 2 h lo [] w x.out
theorem Way2.pre {h h' : AH} {lo : Nat} {v w : Value} {x : Prg} (o : Way2 h lo v w x) (p : h <+: h') : Way2 h' lo v w x := ⟨o.st.pre p, o.out.pre p⟩
theorem Way2.rd {h : AH} {lo : Nat} {v w : Value} {x : Prg} (o : Way2 h lo v w x) : PrgR h v w x := ⟨o.st.inE.rd, o.out.inE.rd⟩
/-- The one block ahead of the other. -/
def OrdB (v w : Value) : Prop := ∀ a b la lb wa wb, v = .slice (some ⟨a, 0, none⟩) la wa → w = .slice (some ⟨b, 0, none⟩) lb wb → a < b
theorem WayX.ord {e e' : TypeId} {k : IntKind} {w w' : Nat} {h h' : AH} {lo : Nat} {ex ex' : List Nat} {sv so : Value} {L L' : List (List Int)} (o : WayX e k w h lo ex sv L) (o' : WayX e' k w' h' h.length ex' so L') : OrdB sv so := by
  intro a b la lb wa wb e1 e2
  obtain ⟨hw, ⟨h1, _⟩ | ⟨kb, full, h1, h2, h3, h4⟩⟩ := o
  · rw [e1] at h1
    cases h1
  · obtain ⟨hw', ⟨h1', _⟩ | ⟨kb', full', h1', h2', h3', h4'⟩⟩ := o'
    · rw [e2] at h1'
      cases h1'
    · rw [e1] at h1
      rw [e2] at h1'
      simp only [Value.slice.injEq, Option.some.injEq, Addr.mk.injEq, and_true] at h1 h1'
      have := get_lt h4
      omega
/-- Rows that stay. -/
def RowsS (lo : Nat) (h : AH) (u : Value) (rows : List (List Int)) : Prop :=
  ∃ cs, (∀ h', Stay lo h h' → Vals h' u cs) ∧ cs.length = rows.length ∧ ∀ i, i < rows.length → ∀ h', Stay lo h h' → Ints h' (cs.getD i undef) (rows.getD i [])
theorem Rows.stays {h : AH} {u : Value} {rows : List (List Int)} (o : Rows h u rows) : RowsS h.length h u rows := by
  obtain ⟨cs, h1, h2, h3⟩ := o
  exact ⟨cs, fun h' s => h1.pre (s.pre _ (Nat.le_refl _) (List.prefix_refl _)), h2, fun i hi h' s => (h3 i hi).pre (s.pre _ (Nat.le_refl _) (List.prefix_refl _))⟩
theorem RowsS.trans {lo : Nat} {h h1 : AH} {u : Value} {rows : List (List Int)} (o : RowsS lo h u rows) (s : Stay lo h h1) : RowsS lo h1 u rows := by
  obtain ⟨cs, c1, c2, c3⟩ := o
  exact ⟨cs, fun h' t => c1 _ (s.trans t), c2, fun i hi h' t => c3 i hi _ (s.trans t)⟩

end Go.Proofs.Ytapafdpnmakekaa.X

/- PlainProgram of both sides. -/
set_option linter.unusedVariables false
set_option linter.unusedSimpArgs false
set_option maxRecDepth 20000
set_option maxHeartbeats 4000000
namespace Go.Proofs.Ytapafdpnmakekaa.X
open Go Go.RowKit

end Go.Proofs.Ytapafdpnmakekaa.X
