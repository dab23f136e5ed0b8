/- Tables under way: rows in blocks of their own, appended one by one. Tensors turned some times. -/
import Derived.Test.YtnjhhgfpclngcaaXF29
set_option linter.unusedVariables false
set_option linter.unusedSimpArgs false
set_option maxRecDepth 20000
set_option maxHeartbeats 4000000
namespace Go.Proofs.Ytnjhhgfpclngcaa.X
open Go Go.RowKit

structure TabS (h0 h : AH) (nb : Nat) (full : Bool) (L : List (Nat × List Int)) : Prop where
  hp : h0 <+: h
  lo : h0.length ≤ nb
  g : h.get nb = some ⟨L.map rowV, 25, false, full⟩
  rows : ∀ p, p ∈ L → (h0.length ≤ p.1 ∧ p.1 ≠ nb) ∧ ∃ fu, OwnB h p.1 (p.2.map (Value.int .i64)) fu
  dist : L.Pairwise (fun p q => p.1 ≠ q.1)
theorem TabS.lt {h0 h : AH} {nb : Nat} {full : Bool} {L : List (Nat × List Int)} (s : TabS h0 h nb full L) : nb < h.length ∧ ∀ p, p ∈ L → p.1 < h.length :=
  ⟨get_lt s.g, fun p hp => (s.rows p hp).2.choose_spec.lt⟩
theorem TabS.pre {h0 h h' : AH} {nb : Nat} {full : Bool} {L : List (Nat × List Int)} (s : TabS h0 h nb full L) (p : h <+: h') : TabS h0 h' nb full L :=
  ⟨s.hp.trans p, s.lo, pre_get p s.g, fun q hq => ⟨(s.rows q hq).1, by obtain ⟨fu, o⟩ := (s.rows q hq).2; exact ⟨fu, o.pre p⟩⟩, s.dist⟩
theorem TabS.keeps {h0 h h' : AH} {nb lo : Nat} {full : Bool} {L : List (Nat × List Int)} (s : TabS h0 h nb full L) (k : Keeps lo h h') (hh : h0 <+: h') (h1 : nb < lo) (h2 : ∀ p, p ∈ L → p.1 < lo) : TabS h0 h' nb full L :=
  ⟨hh, s.lo, k.2 _ _ h1 s.g, fun q hq => ⟨(s.rows q hq).1, by obtain ⟨fu, e, o⟩ := (s.rows q hq).2; exact ⟨fu, e, k.2 _ _ (h2 q hq) o⟩⟩, s.dist⟩
theorem TabS.app {h0 h2 : AH} {nb n : Nat} {full fu fw : Bool} {L : List (Nat × List Int)} {r : List Int} {e : TypeId} (s : TabS h0 h2 nb full L) (hn : h0.length ≤ n ∧ n ≠ nb ∧ ∀ p, p ∈ L → p.1 ≠ n) (ob : OwnB h2 n (r.map (Value.int .i64)) fw)
    (hl : (L.length : Int) ≤ 1048576) {Q : Value → AH → Prop}
    (hQ : ∀ nb' H', TabS h0 H' nb' false (L ++ [(n, r)]) → Q (.slice (some ⟨nb', 0, none⟩) (L ++ [(n, r)]).length 1) H') :
    OQ (appV 25 1 24 (.slice (some ⟨nb, 0, none⟩) L.length 1) (.slice (some ⟨h2.length, 0, none⟩) 1 1) (h2.new ⟨[.slice (some ⟨n, 0, none⟩) r.length 1], e, false, fu⟩)) Q := by
  have hrd : (h2.new ⟨[.slice (some ⟨n, 0, none⟩) r.length 1], e, false, fu⟩).rdn h2.length 0 1 = some [.slice (some ⟨n, 0, none⟩) r.length 1] := by rw [rdn_new_same]; rfl
  have hk : (h2.new ⟨[.slice (some ⟨n, 0, none⟩) r.length 1], e, false, fu⟩).get nb = some ⟨L.map rowV, 25, false, full⟩ := get_new_any s.g
  have l1 := get_lt s.g
  have l3 := ob.lt
  have l0 := pre_len s.hp
  rw [app_own hk (by simp) hrd (by omega), OQ_some]
  have key : TabS h0 (((h2.new ⟨[.slice (some ⟨n, 0, none⟩) r.length 1], e, false, fu⟩).kill nb).new ⟨L.map rowV ++ [.slice (some ⟨n, 0, none⟩) r.length 1], 25, false, false⟩) (h2.new ⟨[.slice (some ⟨n, 0, none⟩) r.length 1], e, false, fu⟩).length false (L ++ [(n, r)]) := by
    refine ⟨pre_new (pre_kill (pre_new s.hp) s.lo), by rw [len_new]; omega, ?_, fun q hq => ?_, ?_⟩
    · rw [get_new_eq (by rw [len_kill])]
      simp [rowV]
    · rw [len_new]
      rcases List.mem_append.1 hq with hq | hq
      · have a := s.rows q hq
        obtain ⟨fa, oa⟩ := a.2
        have := oa.lt
        exact ⟨⟨a.1.1, by omega⟩, fa, (oa.new.kill_ne (fun e => a.1.2 e.symm)).new⟩
      · rw [List.mem_singleton] at hq
        subst hq
        exact ⟨⟨hn.1, show n ≠ h2.length + 1 by omega⟩, fw, (ob.new.kill_ne (fun e => hn.2.1 e.symm)).new⟩
    · rw [List.pairwise_append]
      refine ⟨s.dist, by simp, fun a ha b hb => ?_⟩
      rw [List.mem_singleton] at hb
      subst hb
      exact hn.2.2 a ha
  have := hQ _ _ key
  rw [List.length_append, List.length_singleton] at this
  exact this
theorem TabS.own {h0 h : AH} {nb : Nat} {full : Bool} {L : List (Nat × List Int)} (s : TabS h0 h nb full L) : OwnRows h0 h (.slice (some ⟨nb, 0, none⟩) L.length 1) (L.map Prod.snd) := by
  have ei : ∀ i, (hi : i < L.length) → (L.map rowV).getD i undef = rowV (L[i]) ∧ (L.map Prod.snd).getD i [] = (L[i]).2 := fun i hi => ⟨by simp [List.getD_eq_getElem?_getD, hi], by simp [List.getD_eq_getElem?_getD, hi]⟩
  refine .inr ⟨nb, _, full, L.map rowV, s.lo, by rw [List.length_map], s.g, by simp, fun i hi => ?_, fun i j hij hj b hb => ?_⟩
  · have hi' : i < L.length := by simpa using hi
    obtain ⟨e1, e2⟩ := ei i hi'
    have a := s.rows _ (List.getElem_mem hi')
    obtain ⟨fu, e, o⟩ := a.2
    rw [e1, e2]
    refine ⟨.inr ⟨_, e, fu, a.1.1, rfl, o⟩, fun q => a.1.2 ?_⟩
    simpa [rowV, blkOf] using q
  · have hj' : j < L.length := by simpa using hj
    rw [(ei i (by omega)).1] at hb
    rw [(ei j hj').1]
    have := List.pairwise_iff_getElem.1 s.dist i j (by omega) hj' hij
    simp only [rowV, blkOf, Option.some.injEq] at hb ⊢
    exact fun e => this (hb.trans (Option.some.inj e).symm)

/-! ### Turned tensors -/
theorem TF.turned {t : Ten} (f : TF t) : TF (turnT t) := by
  have jk := mul_in1 (A := 9) (B := 9) f.j f.k
  have jki := mul_in1 (A := 81) (B := 9) jk f.i
  have hl : (((turnT t).ns.length : Nat) : Int) = t.j * t.k * t.i := by
    show ((gen _ _).length : Int) = _
    rw [gen_len]
    omega
  refine ⟨f.p, f.j, f.k, f.i, hl, fun x h0 hx => ?_, jk, jki⟩
  rw [hl] at hx
  have h1 : nth (turnT t).ns x = turnG t x.toNat := by
    show (gen _ _).getD _ 0 = _
    exact gen_get (by omega)
  have h := places (n := x) (i := t.j) (j := t.k) (k := t.i) (by omega) f.k.1 f.i.1
  rw [h1]
  unfold turnG
  rw [show ((x.toNat : Nat) : Int) = x by omega]
  exact tat_in f h.2.2 h.1 h.2.1
def turnN : Nat → Ten → Ten
  | 0, t => t
  | n + 1, t => turnN n (turnT t)
theorem TF.turnN : ∀ {n : Nat} {t : Ten}, TF t → TF (turnN n t)
  | 0, _, f => f
  | n + 1, _, f => TF.turnN (n := n) f.turned
theorem turnN_p : ∀ {n : Nat} {t : Ten}, (turnN n t).p = t.p
  | 0, _ => rfl
  | n + 1, t => turnN_p (n := n) (t := turnT t)
theorem TF.le {t : Ten} (f : TF t) : (t.ns.length : Int) ≤ 1048576 := by
  have := f.len
  have := f.ijk
  omega
theorem s_l05Turned {v : Value} {t : Ten} {k : Nat} {h : AH} {Q : Value → AH → Prop} (hv : Ints h v t.ns) (f : TF t) (hk : k ≤ 2)
    (hQ : ∀ v' h', h <+: h' → Ints h' v' (turnN k t).ns → Q (tenV (turnN k t) v') h') : WF S 90 [tenV t v, I64 k] h Q := by
  refine WF_fn (fn := c90) rfl rfl ?_
  unfold c90
  try simp (maxSteps := 3000000) (disch := first | omega | (simp only [len_new, len_put, len_kill]; omega)) only [↓xpre, xpost, ↓reduceIte, Nat.reduceEqDiff, Nat.reduceAdd, Nat.reduceSub, Nat.reduceLeDiff, Nat.zero_add, Nat.sub_zero, tenV, hv.one]
  generalize hH1 : AH.new h _ = H1
  obtain ⟨hb1, p1, n1⟩ := new_facts hH1
  generalize hH2 : AH.new H1 _ = H2
  obtain ⟨hb2, p2, n2⟩ := new_facts hH2
  rw [n1] at hb2
  rw [n1]
  have hlt := hv.lt
  refine WC_loop_inv (fun m f K1 => ∃ (j : Nat) (u : Ten) (w : Value), m = k - j ∧ j ≤ k ∧ f 1 = I64 ((k - j : Nat) : Int) ∧ f 2 = .pointer (some ⟨h.length, 0, none⟩) ∧ f 4 = .pointer (some ⟨h.length + 1, 0, none⟩) ∧ (h <+: K1) ∧ (OwnB K1 h.length [I64 u.p, I64 u.i, I64 u.j, I64 u.k, w] true) ∧ (OwnB K1 (h.length + 1) [I64 0, I64 0, I64 0, I64 0, .slice none 0 0] true) ∧ (Ints K1 w u.ns) ∧ (blkOf w ≠ some h.length ∧ blkOf w ≠ some (h.length + 1)) ∧ (TF u) ∧ (turnN (k - j) u = turnN k t)) ?_ (k - 0) _ _ ⟨0, t, v, rfl, by omega, (by first | rfl | exact f1), (by first | rfl | exact f2), (by first | rfl | exact f4), p1.trans p2, ⟨_, pre_get p2 hb1⟩, ⟨_, hb2⟩, hv.pre (p1.trans p2), ⟨fun e => by have := hlt _ e; omega, fun e => by have := hlt _ e; omega⟩, f, rfl⟩
  rintro m f K1 ⟨j, u, w, rfl, hj, f1, f2, f4, ph, hb, hb4, hw, hne, fu, hn⟩
  obtain ⟨e, hb⟩ := hb
  obtain ⟨e4, hb4⟩ := hb4
  have hlt1 := get_lt hb
  have hlt4 := get_lt hb4
  try simp (maxSteps := 3000000) (disch := first | omega | (simp only [len_new, len_put, len_kill]; omega)) only [↓xpre, xpost, ↓reduceIte, Nat.reduceEqDiff, Nat.reduceAdd, Nat.reduceSub, Nat.reduceLeDiff, Nat.zero_add, Nat.sub_zero, f1, f2, f4, IfW_dec]
  refine ⟨fun hlt => ?_, fun hge => ?_⟩
  · try simp (maxSteps := 3000000) (disch := first | omega | (simp only [len_new, len_put, len_kill]; omega)) only [↓xpre, xpost, ↓reduceIte, Nat.reduceEqDiff, Nat.reduceAdd, Nat.reduceSub, Nat.reduceLeDiff, Nat.zero_add, Nat.sub_zero, f1, f2, f4, rdn_of hb]
    refine s_l05Turn hw fu fun w' H p o => ?_
    have hb' := pre_get p hb
    have pl := pre_len p
    try simp (maxSteps := 3000000) (disch := first | omega | (simp only [len_new, len_put, len_kill]; omega)) only [↓xpre, xpost, ↓reduceIte, Nat.reduceEqDiff, Nat.reduceAdd, Nat.reduceSub, Nat.reduceLeDiff, Nat.zero_add, Nat.sub_zero, f1, f2, f4, tenV, o.ints.one, wr_of hb', wrap64_in]
    have bk := o.ownR.blk
    refine InvQ_go (k - (j + 1)) (by omega) ⟨(j + 1), (turnT u), w', rfl, by omega, (by first | rfl | exact f1 | (simp only [upd_apply]; rfl) | (show I64 _ = _; congr 1; omega)), (by first | rfl | exact f2 | (simp only [upd_apply]; rfl) | (show I64 _ = _; congr 1; omega)), (by first | rfl | exact f4 | (simp only [upd_apply]; rfl) | (show I64 _ = _; congr 1; omega)), (pre_put (ph.trans p) (Nat.le_refl _)), ⟨_, get_put_same (get_lt hb')⟩, ⟨_, by rw [get_put_ne (by omega)]; exact pre_get p hb4⟩, (o.ownR.put_ne (by omega)).ints, ⟨fun e => by have := bk _ e; omega, fun e => by have := bk _ e; omega⟩, fu.turned, ?_⟩
    rw [← hn, show k - j = (k - (j + 1)) + 1 by omega]
    rfl
  · have ej : k - j = 0 := by omega
    rw [ej] at hn
    have hn' : u = turnN k t := hn
    subst hn'
    try simp (maxSteps := 3000000) (disch := first | omega | (simp only [len_new, len_put, len_kill]; omega)) only [↓xpre, xpost, ↓reduceIte, Nat.reduceEqDiff, Nat.reduceAdd, Nat.reduceSub, Nat.reduceLeDiff, Nat.zero_add, Nat.sub_zero, f1, f2, f4, rdn_of hb, tenV, hw.one, wr_of hb4]
    exact hQ w _ (pre_put ph (by omega)) (hw.put_ne hne.2)
theorem i_turned {v : Value} {t : Ten} {k : Nat} {h : AH} {Q : Value → AH → Prop} (hv : Ints h v t.ns) (f : TF t) (hk : k ≤ 2)
    (hQ : ∀ v' h', h <+: h' → Ints h' v' (turnN k t).ns → Q (tenV (turnN k t) v') h') : WF S 91 [tenV t v, I64 k] h Q := by
  refine WF_fn (fn := c91) rfl rfl ?_
  unfold c91
  try simp (maxSteps := 3000000) (disch := first | omega | (simp only [len_new, len_put, len_kill]; omega)) only [↓xpre, xpost, ↓reduceIte, Nat.reduceEqDiff, Nat.reduceAdd, Nat.reduceSub, Nat.reduceLeDiff, Nat.zero_add, Nat.sub_zero, tenV, hv.one]
  generalize hH1 : AH.new h _ = H1
  obtain ⟨hb1, p1, n1⟩ := new_facts hH1
  generalize hH2 : AH.new H1 _ = H2
  obtain ⟨hb2, p2, n2⟩ := new_facts hH2
  rw [n1] at hb2
  rw [n1]
  have hlt := hv.lt
  refine WC_loop_inv (fun m f K1 => ∃ (j : Nat) (u : Ten) (w : Value), m = k - j ∧ j ≤ k ∧ f 5 = I64 k ∧ f 6 = I64 j ∧ f 2 = .pointer (some ⟨h.length, 0, none⟩) ∧ f 4 = .pointer (some ⟨h.length + 1, 0, none⟩) ∧ (h <+: K1) ∧ (OwnB K1 h.length [I64 u.p, I64 u.i, I64 u.j, I64 u.k, w] true) ∧ (OwnB K1 (h.length + 1) [I64 0, I64 0, I64 0, I64 0, .slice none 0 0] true) ∧ (Ints K1 w u.ns) ∧ (blkOf w ≠ some h.length ∧ blkOf w ≠ some (h.length + 1)) ∧ (TF u) ∧ (turnN (k - j) u = turnN k t)) ?_ (k - 0) _ _ ⟨0, t, v, rfl, by omega, (by first | rfl | exact f5), (by first | rfl | exact f6), (by first | rfl | exact f2), (by first | rfl | exact f4), p1.trans p2, ⟨_, pre_get p2 hb1⟩, ⟨_, hb2⟩, hv.pre (p1.trans p2), ⟨fun e => by have := hlt _ e; omega, fun e => by have := hlt _ e; omega⟩, f, rfl⟩
  rintro m f K1 ⟨j, u, w, rfl, hj, f5, f6, f2, f4, ph, hb, hb4, hw, hne, fu, hn⟩
  obtain ⟨e, hb⟩ := hb
  obtain ⟨e4, hb4⟩ := hb4
  have hlt1 := get_lt hb
  have hlt4 := get_lt hb4
  try simp (maxSteps := 3000000) (disch := first | omega | (simp only [len_new, len_put, len_kill]; omega)) only [↓xpre, xpost, ↓reduceIte, Nat.reduceEqDiff, Nat.reduceAdd, Nat.reduceSub, Nat.reduceLeDiff, Nat.zero_add, Nat.sub_zero, f5, f6, f2, f4, IfW_dec]
  refine ⟨fun hlt => ?_, fun hge => ?_⟩
  · try simp (maxSteps := 3000000) (disch := first | omega | (simp only [len_new, len_put, len_kill]; omega)) only [↓xpre, xpost, ↓reduceIte, Nat.reduceEqDiff, Nat.reduceAdd, Nat.reduceSub, Nat.reduceLeDiff, Nat.zero_add, Nat.sub_zero, f5, f6, f2, f4, rdn_of hb]
    refine i_turn hw fu fun w' H p o => ?_
    have hb' := pre_get p hb
    have pl := pre_len p
    try simp (maxSteps := 3000000) (disch := first | omega | (simp only [len_new, len_put, len_kill]; omega)) only [↓xpre, xpost, ↓reduceIte, Nat.reduceEqDiff, Nat.reduceAdd, Nat.reduceSub, Nat.reduceLeDiff, Nat.zero_add, Nat.sub_zero, f5, f6, f2, f4, tenV, o.ints.one, wr_of hb', wrap64_in]
    have bk := o.blk
    refine InvQ_go (k - (j + 1)) (by omega) ⟨(j + 1), (turnT u), w', rfl, by omega, (by first | rfl | exact f5 | (simp only [upd_apply]; rfl) | (show I64 _ = _; congr 1; omega)), (by first | rfl | exact f6 | (simp only [upd_apply]; rfl) | (show I64 _ = _; congr 1; omega)), (by first | rfl | exact f2 | (simp only [upd_apply]; rfl) | (show I64 _ = _; congr 1; omega)), (by first | rfl | exact f4 | (simp only [upd_apply]; rfl) | (show I64 _ = _; congr 1; omega)), (pre_put (ph.trans p) (Nat.le_refl _)), ⟨_, get_put_same (get_lt hb')⟩, ⟨_, by rw [get_put_ne (by omega)]; exact pre_get p hb4⟩, (o.put_ne (by omega)).ints, ⟨fun e => by have := bk _ e; omega, fun e => by have := bk _ e; omega⟩, fu.turned, ?_⟩
    rw [← hn, show k - j = (k - (j + 1)) + 1 by omega]
    rfl
  · have ej : k - j = 0 := by omega
    rw [ej] at hn
    have hn' : u = turnN k t := hn
    subst hn'
    try simp (maxSteps := 3000000) (disch := first | omega | (simp only [len_new, len_put, len_kill]; omega)) only [↓xpre, xpost, ↓reduceIte, Nat.reduceEqDiff, Nat.reduceAdd, Nat.reduceSub, Nat.reduceLeDiff, Nat.zero_add, Nat.sub_zero, f5, f6, f2, f4, rdn_of hb, tenV, hw.one, wr_of hb4]
    exact hQ w _ (pre_put ph (by omega)) (hw.put_ne hne.2)
end Go.Proofs.Ytnjhhgfpclngcaa.X
