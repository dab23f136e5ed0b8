/- Texts of one claim, put together by merge.py: XDB, XDC, XDD, XDE, XDF, XDG, XR3. -/
import Derived.Test.YtapafdpnmakekaaSI11
import Derived.Test.YtapafdpnmakekaaSI8
import Derived.Test.YtapafdpnmakekaaSI10
import Derived.Test.YtapafdpnmakekaaSI9
set_option linter.unusedVariables false
set_option linter.unusedSimpArgs false
set_option maxRecDepth 20000
set_option maxHeartbeats 4000000
namespace Go.Proofs.Ytapafdpnmakekaa.X
open Go Go.RowKit
theorem pick_in {l : List Int} {a b : Int} (hl : ∀ x ∈ l, a ≤ x ∧ x ≤ b) {j : Nat} (hj : j < l.length) : a ≤ l.getD j 0 ∧ l.getD j 0 ≤ b := by
  rw [List.getD_eq_getElem?_getD, List.getElem?_eq_getElem hj]
  exact hl _ (List.getElem_mem _)
theorem s_l05Bad {h0 h : AH} {n lo : Nat} {v : Value} {t : Ten} {Q : Value → AH → Prop} (s : Src h0 h n) (tb : TenB t) (hlo : n < lo ∧ lo ≤ h.length) (hv : TenD lo h v t) (hl : 1 ≤ t.ns.length ∧ t.ns.length ≤ 900) (h9 : -100 ≤ t.p ∧ t.p ≤ 100 ∧ -100 ≤ t.j ∧ t.j ≤ 100)
    (hQ : ∀ (t' : Ten) (v' : Value) (h' : AH), Kp n h h' → Src h0 h' n → TenD lo h' v' t' → TenB t' → Q (tenV t' v') h') : WF S 290 [srcP n, tenV t v] h Q := by
  refine WF_fn (fn := c290) rfl rfl ?_
  unfold c290
  have lt := s.lt
  have l0 := pre_len s.p
  have v1 := hv.now.one
  obtain ⟨b1, b2, b3, b4, b5⟩ := tb
  ((try simp (maxSteps := 3000000) (dsimp := false) (disch := first | omega | (simp only [len_new, len_put, len_kill]; omega)) only [↓ypre, ypost, ↓reduceIte, Nat.reduceEqDiff, Nat.reduceAdd, Nat.reduceSub, Nat.reduceLeDiff, Nat.zero_add, Nat.sub_zero, ynew, tenV, v1]); try simp only [yback])
  generalize hH1 : AH.new h _ = H1
  obtain ⟨hb1, p1, n1⟩ := new_facts hH1
  generalize hH2 : AH.new H1 _ = H2
  obtain ⟨hb2, p2, n2⟩ := new_facts hH2
  have old : ∀ (t' : Ten) (h' : AH) (B B' : Blk), t'.ns = t.ns → Kp n h h' → Src h0 h' n → TenB t' → Q (tenV t' v) ((h'.put H1.length B).put h.length B') := fun t' h' B B' e kk ss tb => by
    have kf : Kp n h ((h'.put H1.length B).put h.length B') := (kk.putb (m := H1.length) (by omega)).putb (m := h.length) (by omega)
    exact hQ t' v _ kf ((ss.putb (by omega) (by omega)).putb (by omega) (by omega)) (fun h2 k2 k3 => by rw [e]; exact hv.kp kf hlo.1 h2 k2 k3) tb
  refine s_l01Next (s.kp (p1.trans p2)) fun r H3 k3 l3 s3 hr _ => ?_
  have g1 := k3.get (by omega) (pre_get p2 hb1)
  have g2 := k3.get (by omega) hb2
  have kk3 : Kp n h H3 := (Kp.of (p1.trans p2)).trans k3
  by_cases r0 : r = 0
  · ((try simp (maxSteps := 3000000) (dsimp := false) (disch := first | omega | (simp only [len_new, len_put, len_kill]; omega)) only [↓ypre, ypost, ↓reduceIte, Nat.reduceEqDiff, Nat.reduceAdd, Nat.reduceSub, Nat.reduceLeDiff, Nat.zero_add, Nat.sub_zero, ynew, decide_eq_true r0, fillL, zrep]); try simp only [yback])
    generalize hH4 : AH.new H3 _ = H4
    obtain ⟨hb4, p4, n4⟩ := new_facts hH4
    have kv := kp_new (n := n) (ns := [0, 4, 2]) hH4 (by omega)
    refine s_l01Pick (s3.kp p4) kv (by simp) (by simp) fun j H5 k5 l5 s5 hj => ?_
    have bp := pick_in (l := [0, 4, 2]) (a := 0) (b := 4) (by simp) hj
    generalize ([0, 4, 2] : List Int).getD j 0 = p at bp
    have g1 := k5.get (by omega) (pre_get p4 g1)
    have g2 := k5.get (by omega) (pre_get p4 g2)
    have lg1 := get_lt g1
    have lg2 := get_lt g2
    ((try simp (maxSteps := 3000000) (dsimp := false) (disch := first | omega | (simp only [len_new, len_put, len_kill]; omega)) only [↓ypre, ypost, ↓reduceIte, Nat.reduceEqDiff, Nat.reduceAdd, Nat.reduceSub, Nat.reduceLeDiff, Nat.zero_add, Nat.sub_zero, ynew, wr_of g1, v1, wr_of g2, splice_eq, rdn_put_same]); try simp only [yback])
    exact old ⟨p, t.i, t.j, t.k, t.ns⟩ H5 _ _ rfl (kk3.trans ((Kp.of p4).trans k5)) s5 ⟨by show -1000 ≤ p ∧ p ≤ 1000; omega, b2, b3, b4, b5⟩
  by_cases r1 : r = 1
  · ((try simp (maxSteps := 3000000) (dsimp := false) (disch := first | omega | (simp only [len_new, len_put, len_kill]; omega)) only [↓ypre, ypost, ↓reduceIte, Nat.reduceEqDiff, Nat.reduceAdd, Nat.reduceSub, Nat.reduceLeDiff, Nat.zero_add, Nat.sub_zero, ynew, decide_eq_false r0, decide_eq_true r1, rd1_of g1, wrap64_in, fillL, zrep]); try simp only [yback])
    generalize hH4 : AH.new H3 _ = H4
    obtain ⟨hb4, p4, n4⟩ := new_facts hH4
    have kv := kp_new (n := n) (ns := [0, 10, t.j - 1]) hH4 (by omega)
    refine s_l01Pick (s3.kp p4) kv (by simp) (by simp) fun j H5 k5 l5 s5 hj => ?_
    have bp := pick_in (l := [0, 10, t.j - 1]) (a := -1000) (b := 1000) (by simp; omega) hj
    generalize ([0, 10, t.j - 1] : List Int).getD j 0 = p at bp
    have g1 := k5.get (by omega) (pre_get p4 g1)
    have g2 := k5.get (by omega) (pre_get p4 g2)
    have lg1 := get_lt g1
    have lg2 := get_lt g2
    ((try simp (maxSteps := 3000000) (dsimp := false) (disch := first | omega | (simp only [len_new, len_put, len_kill]; omega)) only [↓ypre, ypost, ↓reduceIte, Nat.reduceEqDiff, Nat.reduceAdd, Nat.reduceSub, Nat.reduceLeDiff, Nat.zero_add, Nat.sub_zero, ynew, wr_of g1, v1, wr_of g2, splice_eq, rdn_put_same]); try simp only [yback])
    exact old ⟨t.p, t.i, p, t.k, t.ns⟩ H5 _ _ rfl (kk3.trans ((Kp.of p4).trans k5)) s5 ⟨b1, b2, bp, b4, b5⟩
  by_cases r2 : r = 2
  · ((try simp (maxSteps := 3000000) (dsimp := false) (disch := first | omega | (simp only [len_new, len_put, len_kill]; omega)) only [↓ypre, ypost, ↓reduceIte, Nat.reduceEqDiff, Nat.reduceAdd, Nat.reduceSub, Nat.reduceLeDiff, Nat.zero_add, Nat.sub_zero, ynew, decide_eq_false r0, decide_eq_false r1, decide_eq_true r2, rd1_of g1]); try simp only [yback])
    refine s_OwnT (hv.kp kk3 hlo.1).now (by omega) (by omega) fun kb H4 hkb p4 lv => ?_
    have g1 := pre_get p4 g1
    have g2 := pre_get p4 g2
    ((try simp (maxSteps := 3000000) (dsimp := false) (disch := first | omega | (simp only [len_new, len_put, len_kill]; omega)) only [↓ypre, ypost, ↓reduceIte, Nat.reduceEqDiff, Nat.reduceAdd, Nat.reduceSub, Nat.reduceLeDiff, Nat.zero_add, Nat.sub_zero, ynew, fillL, zrep]); try simp only [yback])
    refine lst_app lv (by omega) fun H5 l5 k5 q5 => ?_
    have g1 := k5.get (by omega) g1
    have g2 := k5.get (by omega) g2
    have lg1 := get_lt g1
    have lg2 := get_lt g2
    have ln := s3.lt
    have l4 := pre_len p4
    have o1 : isOne (sl (H4.length + 1) (t.ns ++ [0]).length) = true := rfl
    have oc : cellsL (sl (H4.length + 1) (t.ns ++ [0]).length) = [sl (H4.length + 1) (t.ns ++ [0]).length] := rfl
    ((try simp (maxSteps := 3000000) (dsimp := false) (disch := first | omega | (simp only [len_new, len_put, len_kill]; omega)) only [↓ypre, ypost, ↓reduceIte, Nat.reduceEqDiff, Nat.reduceAdd, Nat.reduceSub, Nat.reduceLeDiff, Nat.zero_add, Nat.sub_zero, ynew, wr_of g1, o1, oc, wr_of g2, splice_eq, rdn_put_same]); try simp only [yback])
    have kk := (kk3.trans (Kp.of p4)).over k5 (by omega)
    have ss := (s3.kp p4).over k5 (by omega) (by omega)
    refine hQ ⟨t.p, t.i, t.j, t.k, t.ns ++ [0]⟩ (sl (H4.length + 1) (t.ns ++ [0]).length) _ ((kk.putb (m := H1.length) (by omega)).putb (m := h.length) (by omega)) ((ss.putb (m := H1.length) (by omega) (by omega)).putb (m := h.length) (by omega) (by omega)) ?_ ⟨b1, b2, b3, b4, by simp; omega⟩
    exact nums_kN (m := H4.length + 1) (l := t.ns ++ [0]) (by rw [get_put_ne (by omega), get_put_ne (by omega)]; exact q5) (by omega)
  by_cases r3 : r = 3
  · ((try simp (maxSteps := 3000000) (dsimp := false) (disch := first | omega | (simp only [len_new, len_put, len_kill]; omega)) only [↓ypre, ypost, ↓reduceIte, Nat.reduceEqDiff, Nat.reduceAdd, Nat.reduceSub, Nat.reduceLeDiff, Nat.zero_add, Nat.sub_zero, ynew, decide_eq_false r0, decide_eq_false r1, decide_eq_false r2, decide_eq_true r3, rd1_of g1]); try simp only [yback])
    refine s_OwnT (hv.kp kk3 hlo.1).now (by omega) (by omega) fun kb H4 hkb p4 lv => ?_
    have g1 := pre_get p4 g1
    have g2 := pre_get p4 g2
    ((try simp (maxSteps := 3000000) (dsimp := false) (disch := first | omega | (simp only [len_new, len_put, len_kill]; omega)) only [↓ypre, ypost, ↓reduceIte, Nat.reduceEqDiff, Nat.reduceAdd, Nat.reduceSub, Nat.reduceLeDiff, Nat.zero_add, Nat.sub_zero, ynew, rd1_of g1, fillL, zrep]); try simp only [yback])
    generalize hH5 : AH.new H4 _ = H5
    obtain ⟨hb5, p5, n5⟩ := new_facts hH5
    have ln := s3.lt
    have l4 := pre_len p4
    have kv := kp_new (n := n) (ns := [-1, t.p]) hH5 (by omega)
    refine s_l01Pick ((s3.kp p4).kp p5) kv (by simp) (by simp) fun j H6 k6 l6 s6 hj => ?_
    generalize ([-1, t.p] : List Int).getD j 0 = y
    have g1 := k6.get (by omega) (pre_get p5 g1)
    have g2 := k6.get (by omega) (pre_get p5 g2)
    have lv6 : Lst H6 kb t.ns false := k6.get (by omega) (pre_get p5 lv)
    have lg1 := get_lt g1
    have lg2 := get_lt g2
    have lgv := lv6.lt
    have ix := Lst.ix (n := kb) (j := 0) (len := t.ns.length) (by omega)
    have st := map_set (l := t.ns) (j := 0) (x := y) (by omega)
    have wv : H6.wr kb 0 [I64 y] = some (H6.put kb ⟨(t.ns.set 0 y).map (Value.int .i64), 2, false, false⟩) := by
      rw [wr_of lv6, if_pos ⟨rfl, by simp only [List.length_map, List.length_singleton]; omega⟩]
      simp only [st]
    have lsb : kb < H5.length := by rw [n5]; have := lv.lt; omega
    have o1 : isOne (sl kb t.ns.length) = true := rfl
    have oc : cellsL (sl kb t.ns.length) = [sl kb t.ns.length] := rfl
    ((try simp (maxSteps := 3000000) (dsimp := false) (disch := first | omega | (simp only [len_new, len_put, len_kill]; omega)) only [↓ypre, ypost, ↓reduceIte, Nat.reduceEqDiff, Nat.reduceAdd, Nat.reduceSub, Nat.reduceLeDiff, Nat.zero_add, Nat.sub_zero, ynew, ix, Int.toNat_zero, wv, wr_of g1, o1, oc, wr_of g2, splice_eq, rdn_put_same]); try simp only [yback])
    have kk := (kk3.trans (Kp.of (p4.trans p5))).trans k6
    have e1 : sl kb t.ns.length = sl kb (t.ns.set 0 y).length := by rw [List.length_set]
    rw [e1]
    refine hQ ⟨t.p, t.i, t.j, t.k, t.ns.set 0 y⟩ (sl kb (t.ns.set 0 y).length) _ (((kk.putb (m := H1.length) (by omega)).putb (m := h.length) (by omega)).putb (m := kb) (by omega)) (((s6.putb (m := H1.length) (by omega) (by omega)).putb (m := h.length) (by omega) (by omega)).putb (m := kb) (by omega) (by omega)) ?_ ⟨b1, b2, b3, b4, by simp; omega⟩
    exact nums_kN (m := kb) (l := t.ns.set 0 y) (get_put_same (by rw [len_put, len_put]; exact lgv)) (by omega)
  have lg1 := get_lt g1
  have lg2 := get_lt g2
  ((try simp (maxSteps := 3000000) (dsimp := false) (disch := first | omega | (simp only [len_new, len_put, len_kill]; omega)) only [↓ypre, ypost, ↓reduceIte, Nat.reduceEqDiff, Nat.reduceAdd, Nat.reduceSub, Nat.reduceLeDiff, Nat.zero_add, Nat.sub_zero, ynew, decide_eq_false r0, decide_eq_false r1, decide_eq_false r2, decide_eq_false r3, v1, rdn_of g1, wr_of g2, splice_eq, rdn_put_same]); try simp only [yback])
  have kf : Kp n h (H3.put H1.length ⟨[I64 t.p, I64 t.i, I64 t.j, I64 t.k, v], 36, false, true⟩) := kk3.putb (m := H1.length) (by omega)
  exact hQ t v _ kf (s3.putb (by omega) (by omega)) (hv.kp kf hlo.1) ⟨b1, b2, b3, b4, b5⟩
theorem tofX_TF {x : Sch} {h : AH} {v : Value} (hx : isX x = true) (hv : Prods h v x.ps) : TF (tofX x) ∧ isP (tofX x).p = true := by
  obtain ⟨z, hp, _, _⟩ := isX_facts hx
  have nm := z.nm
  have mk := z.mk2
  have nk := z.nk
  have zp := z.p
  refine ⟨TF.ten zp nm mk nk fun a b c ha hb' hc => ?_, hp⟩
  unfold lsN
  exact (lsX_in hv z (by omega) (by omega) (by omega)).1
theorem TenS.tenB {t : Ten} (s : TenS t) (hl : t.ns.length = (t.i * t.j * t.k).toNat) : TenB t ∧ (1 ≤ t.ns.length ∧ t.ns.length ≤ 900) ∧ (-100 ≤ t.p ∧ t.p ≤ 100 ∧ -100 ≤ t.j ∧ t.j ≤ 100) := by
  obtain ⟨a, b, c, d⟩ := s
  have ij := mul_in1 (A := 9) (B := 9) b c
  have ijk := mul_in1 (A := 81) (B := 9) ij d
  exact ⟨⟨by omega, by omega, by omega, by omega, by omega⟩, by omega, by omega⟩
theorem s_l05Spoil {h0 h : AH} {n : Nat} {Q : Value → AH → Prop} (s : Src h0 h n)
    (hQ : ∀ (t : Ten) (v : Value) (h' : AH), Kp n h h' → Src h0 h' n → TenD h.length h' v t → TenB t → Q (tenV t v) h') : WF S 172 [srcP n] h Q := by
  refine WF_fn (fn := c172) rfl rfl ?_
  unfold c172
  have lt := s.lt
  have l0 := pre_len s.p
  ((try simp (maxSteps := 3000000) (dsimp := false) (disch := first | omega | (simp only [len_new, len_put, len_kill]; omega)) only [↓ypre, ypost, ↓reduceIte, Nat.reduceEqDiff, Nat.reduceAdd, Nat.reduceSub, Nat.reduceLeDiff, Nat.zero_add, Nat.sub_zero, ynew]); try simp only [yback])
  generalize hH1 : AH.new h _ = H1
  obtain ⟨hb1, p1, n1⟩ := new_facts hH1
  refine s_l01Next (s.kp p1) fun r H2 k2 l2 s2 hr _ => ?_
  have g1 := k2.get (by omega) hb1
  have fin : ∀ (t : Ten) (v : Value) (h' : AH), Kp n h h' → Src h0 h' n → TenD H1.length h' v t → TenB t → Q (tenV t v) (h'.put h.length ⟨[I64 t.p, I64 t.i, I64 t.j, I64 t.k, v], 36, false, true⟩) := fun t v h' kk ss td tb =>
    hQ t v _ (kk.putb (Nat.le_refl _)) (ss.putb (by omega) (by omega)) ((KN.put td (by omega)).mono (by omega)) tb
  by_cases r0 : r = 0
  · ((try simp (maxSteps := 3000000) (dsimp := false) (disch := first | omega | (simp only [len_new, len_put, len_kill]; omega)) only [↓ypre, ypost, ↓reduceIte, Nat.reduceEqDiff, Nat.reduceAdd, Nat.reduceSub, Nat.reduceLeDiff, Nat.zero_add, Nat.sub_zero, ynew, decide_eq_true r0]); try simp only [yback])
    refine s_l01Draw s2 fun x v H3 k3 s3 sd hx => ?_
    obtain ⟨z, hp, hl, _⟩ := isX_facts hx
    have tf := tofX_TF hx sd.now
    ((try simp (maxSteps := 3000000) (dsimp := false) (disch := first | omega | (simp only [len_new, len_put, len_kill]; omega)) only [↓ypre, ypost, ↓reduceIte, Nat.reduceEqDiff, Nat.reduceAdd, Nat.reduceSub, Nat.reduceLeDiff, Nat.zero_add, Nat.sub_zero, ynew]); try simp only [yback])
    refine s_l05Of sd.now z hl fun v4 H4 p4 o4 => ?_
    obtain ⟨m, e, hm, rfl, gm⟩ := o4.blk
    have k3l := k3.len
    have lm := get_lt gm
    have ns := TenS.tenB tf.1.tenS (by have := tf.1.len; omega)
    ((try simp (maxSteps := 3000000) (dsimp := false) (disch := first | omega | (simp only [len_new, len_put, len_kill]; omega)) only [↓ypre, ypost, ↓reduceIte, Nat.reduceEqDiff, Nat.reduceAdd, Nat.reduceSub, Nat.reduceLeDiff, Nat.zero_add, Nat.sub_zero, ynew]); try simp only [yback])
    refine s_l05Bad (lo := H1.length) (s3.kp p4) ns.1 (by omega) (nums_kN gm (by omega)) ns.2.1 ns.2.2 fun t v5 H5 k5 s5 td tb => ?_
    have g1 := k5.get (by omega) (pre_get p4 (k3.get (by omega) g1))
    have lg := get_lt g1
    ((try simp (maxSteps := 3000000) (dsimp := false) (disch := first | omega | (simp only [len_new, len_put, len_kill]; omega)) only [↓ypre, ypost, ↓reduceIte, Nat.reduceEqDiff, Nat.reduceAdd, Nat.reduceSub, Nat.reduceLeDiff, Nat.zero_add, Nat.sub_zero, ynew, tenV, td.now.one, wr_of g1, splice_eq, rdn_put_same]); try simp only [yback])
    exact fin t v5 H5 ((((Kp.of p1).trans k2).trans k3).trans ((Kp.of p4).trans k5)) s5 td tb
  · ((try simp (maxSteps := 3000000) (dsimp := false) (disch := first | omega | (simp only [len_new, len_put, len_kill]; omega)) only [↓ypre, ypost, ↓reduceIte, Nat.reduceEqDiff, Nat.reduceAdd, Nat.reduceSub, Nat.reduceLeDiff, Nat.zero_add, Nat.sub_zero, ynew, decide_eq_false r0, fillL, zrep]); try simp only [yback])
    generalize hH3 : AH.new H2 _ = H3
    obtain ⟨hb3, p3, n3⟩ := new_facts hH3
    have ln := s2.lt
    have kv := kp_new (n := n) (ns := [2, 3, 4]) hH3 (by omega)
    refine s_l01Pick (s2.kp p3) kv (by simp) (by simp) fun j H4 k4 l4 s4 hj => ?_
    have bM := pick_in (l := [2, 3, 4]) (a := 2) (b := 4) (by simp) hj
    generalize ([2, 3, 4] : List Int).getD j 0 = M at bM
    have g1 := k4.get (by omega) (pre_get p3 g1)
    ((try simp (maxSteps := 3000000) (dsimp := false) (disch := first | omega | (simp only [len_new, len_put, len_kill]; omega)) only [↓ypre, ypost, ↓reduceIte, Nat.reduceEqDiff, Nat.reduceAdd, Nat.reduceSub, Nat.reduceLeDiff, Nat.zero_add, Nat.sub_zero, ynew]); try simp only [yback])
    refine s_l05Sides s4 bM fun t m e H5 k5 s5 ts hp hns hm gm => ?_
    have g1 := k5.get (by omega) g1
    have k5l := k5.len
    ((try simp (maxSteps := 3000000) (dsimp := false) (disch := first | omega | (simp only [len_new, len_put, len_kill]; omega)) only [↓ypre, ypost, ↓reduceIte, Nat.reduceEqDiff, Nat.reduceAdd, Nat.reduceSub, Nat.reduceLeDiff, Nat.zero_add, Nat.sub_zero, ynew]); try simp only [yback])
    refine s_l05Fill s5 ts rfl fun l mb e2 H6 k6 s6 hl hmb gmb => ?_
    have g1 := k6.get (by omega) g1
    have k6l := k6.len
    have ns := TenS.tenB (t := ⟨t.p, t.i, t.j, t.k, l⟩) ⟨ts.p, ts.i, ts.j, ts.k⟩ hl
    ((try simp (maxSteps := 3000000) (dsimp := false) (disch := first | omega | (simp only [len_new, len_put, len_kill]; omega)) only [↓ypre, ypost, ↓reduceIte, Nat.reduceEqDiff, Nat.reduceAdd, Nat.reduceSub, Nat.reduceLeDiff, Nat.zero_add, Nat.sub_zero, ynew]); try simp only [yback])
    refine s_l05Bad (lo := H1.length) s6 ns.1 (by omega) (nums_kN gmb (by omega)) ns.2.1 ns.2.2 fun t v5 H7 k7 s7 td tb => ?_
    have g1 := k7.get (by omega) g1
    have lg := get_lt g1
    ((try simp (maxSteps := 3000000) (dsimp := false) (disch := first | omega | (simp only [len_new, len_put, len_kill]; omega)) only [↓ypre, ypost, ↓reduceIte, Nat.reduceEqDiff, Nat.reduceAdd, Nat.reduceSub, Nat.reduceLeDiff, Nat.zero_add, Nat.sub_zero, ynew, tenV, td.now.one, wr_of g1, splice_eq, rdn_put_same]); try simp only [yback])
    exact fin t v5 H7 (((((Kp.of p1).trans k2).trans ((Kp.of p3).trans k4)).trans k5).trans (k6.trans k7)) s7 td tb
end Go.Proofs.Ytapafdpnmakekaa.X

set_option linter.unusedVariables false
set_option linter.unusedSimpArgs false
set_option maxRecDepth 20000
set_option maxHeartbeats 4000000
namespace Go.Proofs.Ytapafdpnmakekaa.X
open Go Go.RowKit
structure Cod (h : AH) (cv : Value) (code : List (List Int)) : Prop where
  els : Els .u8 1 h cv code
  byt : Byt 1 code
  len : code.length ≤ 1000000
theorem Cod.pre {h h' : AH} {cv : Value} {code : List (List Int)} (c : Cod h cv code) (p : h <+: h') : Cod h' cv code := ⟨c.els.pre p, c.byt, c.len⟩
theorem xres_3 {f : Fr} {h : AH} {r r' r'' : XRes} {a b c : Value} (ha : xres1 f h r = some a) (hb : xres1 f h r' = some b) (hc : xres1 f h r'' = some c) : xres f h [r, r', r''] = some (.tuple #[a, b, c]) := by
  unfold xres xresl xresl xresl xresl
  rw [ha, hb, hc]
theorem xresn {f : Fr} {h : AH} {t n m e : Nat} {c : List Value} {ro fl : Bool} (hf : f t = .pointer (some ⟨n, 0, none⟩)) (hb : h.get n = some ⟨c, e, ro, fl⟩) (hc : c.length = m) : xres1 f h (.celln t m) = some (.agg c.toArray) := by
  rw [xres1_cells, hf, rdnV_ptr]
  simp only [rdn_of hb]
  subst hc
  simp
theorem wrap_pm {n : Int} (h : -1000000 ≤ n ∧ n ≤ 1000000) : IntKind.i64.wrap n = n := wrap64_in (by omega) (by omega)
end Go.Proofs.Ytapafdpnmakekaa.X

set_option linter.unusedVariables false
set_option linter.unusedSimpArgs false
set_option maxRecDepth 20000
set_option maxHeartbeats 4000000
namespace Go.Proofs.Ytapafdpnmakekaa.X
open Go Go.RowKit
theorem l_likeInts {v w : Value} {ns ms : List Int} {h : AH} {Q : Value → AH → Prop} (hv : Ints h v ns) (hv' : Ints h w ms) (hl : (ns.length : Int) ≤ 1048576)
    (hQ : Q (.bool (decide (ns = ms))) h) : WF S 20 [v, w] h Q := by
  refine WF_fn (fn := c20) rfl rfl ?_
  unfold c20
  by_cases hne : (ns.length : Int) ≠ ms.length
  · ((try simp (maxSteps := 3000000) (dsimp := false) (disch := first | omega | (simp only [len_new, len_put, len_kill]; omega)) only [↓ypre, ypost, ↓reduceIte, Nat.reduceEqDiff, Nat.reduceAdd, Nat.reduceSub, Nat.reduceLeDiff, Nat.zero_add, Nat.sub_zero, ynew, hv.len, hv'.len, decide_eq_true hne]); try simp only [yback])
    have : ns ≠ ms := fun e => hne (by rw [e])
    simpa [this] using hQ
  · ((try simp (maxSteps := 3000000) (dsimp := false) (disch := first | omega | (simp only [len_new, len_put, len_kill]; omega)) only [↓ypre, ypost, ↓reduceIte, Nat.reduceEqDiff, Nat.reduceAdd, Nat.reduceSub, Nat.reduceLeDiff, Nat.zero_add, Nat.sub_zero, ynew, hv.len, hv'.len, decide_eq_false hne]); try simp only [yback])
    have hlen : ns.length = ms.length := by omega
    refine WC_loop_inv (fun m f K1 => ∃ (i : Nat), m = ns.length - i ∧ i ≤ ns.length ∧ f 0 = v ∧ f 1 = w ∧ f 5 = I64 i ∧ (K1 = h) ∧ (∀ j, j < i → ns.getD j 0 = ms.getD j 0)) ?_ (ns.length - 0) _ _ ⟨0, rfl, by omega, (by first | rfl | simp [upd_apply]), (by first | rfl | simp [upd_apply]), (by first | rfl | simp [upd_apply]), rfl, (by omega)⟩
    rintro m f K1 ⟨i, rfl, hi, f0, f1, f5, hK, hj⟩
    subst hK
    by_cases hlt : (i : Int) < ns.length
    · obtain ⟨n1, off1, hix1, hrd1⟩ := hv.cell (j := i) (by omega)
      obtain ⟨n2, off2, hix2, hrd2⟩ := hv'.cell (j := i) (by omega)
      by_cases he : ns.getD i 0 ≠ ms.getD i 0
      · ((try simp (maxSteps := 3000000) (dsimp := false) (disch := first | omega | (simp only [len_new, len_put, len_kill]; omega)) only [↓ypre, ypost, ↓reduceIte, Nat.reduceEqDiff, Nat.reduceAdd, Nat.reduceSub, Nat.reduceLeDiff, Nat.zero_add, Nat.sub_zero, ynew, f0, f1, f5, hv.len, decide_eq_true hlt, hix1, hrd1, hix2, hrd2, decide_eq_true he]); try simp only [yback])
        have : ns ≠ ms := fun e => he (by rw [e])
        simpa [this] using hQ
      · ((try simp (maxSteps := 3000000) (dsimp := false) (disch := first | omega | (simp only [len_new, len_put, len_kill]; omega)) only [↓ypre, ypost, ↓reduceIte, Nat.reduceEqDiff, Nat.reduceAdd, Nat.reduceSub, Nat.reduceLeDiff, Nat.zero_add, Nat.sub_zero, ynew, f0, f1, f5, hv.len, decide_eq_true hlt, hix1, hrd1, hix2, hrd2, decide_eq_false he, wrap64_in]); try simp only [yback])
        have hj' : ∀ j, j < i + 1 → ns.getD j 0 = ms.getD j 0 := fun j q => by
          rcases Nat.lt_succ_iff_lt_or_eq.1 q with q | rfl
          · exact hj j q
          · exact Decidable.not_not.1 he
        refine InvQ_go (ns.length - (i + 1)) (by omega) ⟨(i + 1), rfl, by omega, (by first | rfl | exact f0 | (simp only [upd_apply]; rfl) | (show I64 _ = _; congr 1; omega)), (by first | rfl | exact f1 | (simp only [upd_apply]; rfl) | (show I64 _ = _; congr 1; omega)), (by first | rfl | exact f5 | (simp only [upd_apply]; rfl) | (show I64 _ = _; congr 1; omega)), rfl, hj'⟩
    · ((try simp (maxSteps := 3000000) (dsimp := false) (disch := first | omega | (simp only [len_new, len_put, len_kill]; omega)) only [↓ypre, ypost, ↓reduceIte, Nat.reduceEqDiff, Nat.reduceAdd, Nat.reduceSub, Nat.reduceLeDiff, Nat.zero_add, Nat.sub_zero, ynew, f0, f1, f5, hv.len, decide_eq_false hlt]); try simp only [yback])
      have : ns = ms := by
        refine List.ext_getElem? fun j => ?_
        by_cases h1 : j < ns.length
        · have := hj j (by omega)
          rw [List.getElem?_eq_getElem h1, List.getElem?_eq_getElem (by omega)]
          simpa [List.getD_eq_getElem?_getD, List.getElem?_eq_getElem h1, List.getElem?_eq_getElem (show j < ms.length by omega)] using this
        · rw [List.getElem?_eq_none (by omega), List.getElem?_eq_none (by omega)]
      simpa [this] using hQ
theorem l_big {h : AH} {cv : Value} {code : List (List Int)} {Q : Value → AH → Prop} (c : Els .u8 1 h cv code)
    (hQ : Q (.bool (decide ((code.length : Int) > 4096))) h) : WF S 13 [cv] h Q := by
  refine WF_fn (fn := c13) rfl rfl ?_
  unfold c13
  ((try simp (maxSteps := 3000000) (dsimp := false) (disch := first | omega | (simp only [len_new, len_put, len_kill]; omega)) only [↓ypre, ypost, ↓reduceIte, Nat.reduceEqDiff, Nat.reduceAdd, Nat.reduceSub, Nat.reduceLeDiff, Nat.zero_add, Nat.sub_zero, ynew, c.len]); try simp only [yback])
  exact hQ
end Go.Proofs.Ytapafdpnmakekaa.X

set_option linter.unusedVariables false
set_option linter.unusedSimpArgs false
set_option maxRecDepth 20000
set_option maxHeartbeats 4000000
namespace Go.Proofs.Ytapafdpnmakekaa.X
open Go Go.RowKit
theorem TenB.l {t : Ten} (b : TenB t) : (t.ns.length : Int) ≤ 1048576 := by
  have := b.ns
  omega
theorem WO_mono' {S : XS} {A REST : IR} {f : Fr} {h : AH} {R : XE → Fr → AH → Prop} (I : Fr → AH → Prop) (w : WC S A f h (JnQ I)) (hr : ∀ f h, I f h → WC S REST f h R) : WC S A f h (SeqQ S REST R) :=
  WC.mono w fun e f2 h2 q2 => by
    cases e with
    | normal => exact hr f2 h2 q2
    | exit id => exact q2.elim
    | ret => exact q2.elim
def Kcv (h : AH) (cv : Value) (f : Fr) (h' : AH) : Prop := f 0 = cv ∧ h <+: h'
end Go.Proofs.Ytapafdpnmakekaa.X

set_option linter.unusedVariables false
set_option linter.unusedSimpArgs false
set_option maxRecDepth 20000
set_option maxHeartbeats 4000000
namespace Go.Proofs.Ytapafdpnmakekaa.X
open Go Go.RowKit
theorem mmT {a b : Int} : mmV true (.int .i64 a) [.int .i64 b] = some (I64 (max a b)) := by
  simp only [mmV, xmm]
  by_cases h : a ≤ b
  · simp [h, Int.max_def]
    try omega
  · simp [h, Int.max_def]
    try omega
theorem mmF {a b : Int} : mmV false (.int .i64 a) [.int .i64 b] = some (I64 (min a b)) := by
  simp only [mmV, xmm]
  by_cases h : a ≤ b
  · simp [h, Int.min_def]
    try omega
  · simp [h, Int.min_def]
    try omega
theorem xresT2 {f : Fr} {h : AH} {a b c n e : Nat} {x y : Value} {t : Ten} {v : Value} (fa : f a = .pointer (some ⟨n, 0, none⟩)) (fb : f b = x) (fc : f c = y)
    (ha : h.get n = some ⟨[I64 t.p, I64 t.i, I64 t.j, I64 t.k, v], e, false, true⟩) : xres f h [.celln a 5, .tmp b, .tmp c] = some (.tuple #[tenV t v, x, y]) :=
  xres_3 (xresn fa ha rfl) (by rw [xres1_tmp, fb]) (by rw [xres1_tmp, fc])
theorem xresT3 {f : Fr} {h : AH} {a b c d n e : Nat} {x y z : Value} {t : Ten} {v : Value} (fa : f a = .pointer (some ⟨n, 0, none⟩)) (fb : f b = x) (fc : f c = y) (fd : f d = z)
    (ha : h.get n = some ⟨[I64 t.p, I64 t.i, I64 t.j, I64 t.k, v], e, false, true⟩) : xres f h [.celln a 5, .tmp b, .tmp c, .tmp d] = some (.tuple #[tenV t v, x, y, z]) := by
  unfold xres xresl xresl xresl xresl xresl
  rw [show xres1 f h (.celln a 5) = some (tenV t v) from xresn fa ha rfl, xres1_tmp, xres1_tmp, xres1_tmp, fb, fc, fd]
theorem s_DrawFactorsOfSimple {h : AH} {cv : Value} {code : List (List Int)} {Q : Value → AH → Prop} (c : Cod h cv code)
    (hQ : ∀ (t : Ten) (v : Value) (h' : AH), h <+: h' → Ints h' v t.ns → TenB t → Q (tenV t v) h') : WF S 99 [cv] h Q := by
  refine WF_fn (fn := c99) rfl rfl ?_
  unfold c99
  ((try simp (maxSteps := 3000000) (dsimp := false) (disch := first | omega | (simp only [len_new, len_put, len_kill]; omega)) only [↓ypre, ypost, ↓reduceIte, Nat.reduceEqDiff, Nat.reduceAdd, Nat.reduceSub, Nat.reduceLeDiff, Nat.zero_add, Nat.sub_zero, ynew]); try simp only [yback])
  generalize hH1 : AH.new h _ = H1
  obtain ⟨hb1, p1, n1⟩ := new_facts hH1
  refine s_l01From (c.els.pre p1) c.byt c.len fun H2 p2 l2 s2 => ?_
  ((try simp (maxSteps := 3000000) (dsimp := false) (disch := first | omega | (simp only [len_new, len_put, len_kill]; omega)) only [↓ypre, ypost, ↓reduceIte, Nat.reduceEqDiff, Nat.reduceAdd, Nat.reduceSub, Nat.reduceLeDiff, Nat.zero_add, Nat.sub_zero, ynew]); try simp only [yback])
  refine s_l05Spoil s2 fun t v H3 k3 s3 td tb => ?_
  have g1 := k3.get (by omega) (pre_get p2 hb1)
  have lg := get_lt g1
  ((try simp (maxSteps := 3000000) (dsimp := false) (disch := first | omega | (simp only [len_new, len_put, len_kill]; omega)) only [↓ypre, ypost, ↓reduceIte, Nat.reduceEqDiff, Nat.reduceAdd, Nat.reduceSub, Nat.reduceLeDiff, Nat.zero_add, Nat.sub_zero, ynew, tenV, td.now.one, wr_of g1, splice_eq, rdn_put_same]); try simp only [yback])
  exact hQ t v _ (pre_put (p1.trans s3.p) (Nat.le_refl _)) (KN.put td (by omega)).now tb
theorem s_DrawFlattenRanks {h : AH} {cv : Value} {code : List (List Int)} {Q : Value → AH → Prop} (c : Cod h cv code)
    (hQ : ∀ (t : Ten) (v : Value) (h' : AH), h <+: h' → Ints h' v t.ns → TenB t → Q (tenV t v) h') : WF S 114 [cv] h Q := by
  refine WF_fn (fn := c114) rfl rfl ?_
  unfold c114
  ((try simp (maxSteps := 3000000) (dsimp := false) (disch := first | omega | (simp only [len_new, len_put, len_kill]; omega)) only [↓ypre, ypost, ↓reduceIte, Nat.reduceEqDiff, Nat.reduceAdd, Nat.reduceSub, Nat.reduceLeDiff, Nat.zero_add, Nat.sub_zero, ynew]); try simp only [yback])
  generalize hH1 : AH.new h _ = H1
  obtain ⟨hb1, p1, n1⟩ := new_facts hH1
  refine s_l01From (c.els.pre p1) c.byt c.len fun H2 p2 l2 s2 => ?_
  ((try simp (maxSteps := 3000000) (dsimp := false) (disch := first | omega | (simp only [len_new, len_put, len_kill]; omega)) only [↓ypre, ypost, ↓reduceIte, Nat.reduceEqDiff, Nat.reduceAdd, Nat.reduceSub, Nat.reduceLeDiff, Nat.zero_add, Nat.sub_zero, ynew]); try simp only [yback])
  refine s_l05Spoil s2 fun t v H3 k3 s3 td tb => ?_
  have g1 := k3.get (by omega) (pre_get p2 hb1)
  have lg := get_lt g1
  ((try simp (maxSteps := 3000000) (dsimp := false) (disch := first | omega | (simp only [len_new, len_put, len_kill]; omega)) only [↓ypre, ypost, ↓reduceIte, Nat.reduceEqDiff, Nat.reduceAdd, Nat.reduceSub, Nat.reduceLeDiff, Nat.zero_add, Nat.sub_zero, ynew, tenV, td.now.one, wr_of g1, splice_eq, rdn_put_same]); try simp only [yback])
  exact hQ t v _ (pre_put (p1.trans s3.p) (Nat.le_refl _)) (KN.put td (by omega)).now tb
theorem s_l05SideA {v : Value} {t : Ten} {s : Int} {h : AH} {Q : Value → AH → Prop} (hv : isOne v = true)
    (hQ : ∀ r h', h <+: h' → (r = t.i ∨ r = t.j ∨ r = t.k) → Q (I64 r) h') : WF S 247 [tenV t v, I64 s] h Q := by
  refine WF_fn (fn := c247) rfl rfl ?_
  unfold c247
  ((try simp (maxSteps := 3000000) (dsimp := false) (disch := first | omega | (simp only [len_new, len_put, len_kill]; omega)) only [↓ypre, ypost, ↓reduceIte, Nat.reduceEqDiff, Nat.reduceAdd, Nat.reduceSub, Nat.reduceLeDiff, Nat.zero_add, Nat.sub_zero, ynew, tenV, hv]); try simp only [yback])
  generalize hH1 : AH.new h _ = H1
  obtain ⟨hb1, p1, n1⟩ := new_facts hH1
  by_cases h0 : s = 0
  · ((try simp (maxSteps := 3000000) (dsimp := false) (disch := first | omega | (simp only [len_new, len_put, len_kill]; omega)) only [↓ypre, ypost, ↓reduceIte, Nat.reduceEqDiff, Nat.reduceAdd, Nat.reduceSub, Nat.reduceLeDiff, Nat.zero_add, Nat.sub_zero, ynew, decide_eq_true h0, rd1_of hb1]); try simp only [yback])
    exact hQ _ _ p1 (Or.inl rfl)
  · by_cases h1 : s = 1
    · ((try simp (maxSteps := 3000000) (dsimp := false) (disch := first | omega | (simp only [len_new, len_put, len_kill]; omega)) only [↓ypre, ypost, ↓reduceIte, Nat.reduceEqDiff, Nat.reduceAdd, Nat.reduceSub, Nat.reduceLeDiff, Nat.zero_add, Nat.sub_zero, ynew, decide_eq_false h0, decide_eq_true h1, rd1_of hb1]); try simp only [yback])
      exact hQ _ _ p1 (Or.inr (Or.inl rfl))
    · ((try simp (maxSteps := 3000000) (dsimp := false) (disch := first | omega | (simp only [len_new, len_put, len_kill]; omega)) only [↓ypre, ypost, ↓reduceIte, Nat.reduceEqDiff, Nat.reduceAdd, Nat.reduceSub, Nat.reduceLeDiff, Nat.zero_add, Nat.sub_zero, ynew, decide_eq_false h0, decide_eq_false h1, rd1_of hb1]); try simp only [yback])
      exact hQ _ _ p1 (Or.inr (Or.inr rfl))
theorem s_DrawSliceOf {h : AH} {cv : Value} {code : List (List Int)} {Q : Value → AH → Prop} (c : Cod h cv code)
    (hQ : ∀ (t : Ten) (v : Value) (a b : Int) (h' : AH), h <+: h' → Ints h' v t.ns → TenB t → Q (.tuple #[tenV t v, I64 a, I64 b]) h') : WF S 106 [cv] h Q := by
  refine WF_fn (fn := c106) rfl rfl ?_
  unfold c106
  ((try simp (maxSteps := 3000000) (dsimp := false) (disch := first | omega | (simp only [len_new, len_put, len_kill]; omega)) only [↓ypre, ypost, ↓reduceIte, Nat.reduceEqDiff, Nat.reduceAdd, Nat.reduceSub, Nat.reduceLeDiff, Nat.zero_add, Nat.sub_zero, ynew]); try simp only [yback])
  generalize hH1 : AH.new h _ = H1
  obtain ⟨hb1, p1, n1⟩ := new_facts hH1
  refine s_l01From (c.els.pre p1) c.byt c.len fun H2 p2 l2 s2 => ?_
  ((try simp (maxSteps := 3000000) (dsimp := false) (disch := first | omega | (simp only [len_new, len_put, len_kill]; omega)) only [↓ypre, ypost, ↓reduceIte, Nat.reduceEqDiff, Nat.reduceAdd, Nat.reduceSub, Nat.reduceLeDiff, Nat.zero_add, Nat.sub_zero, ynew]); try simp only [yback])
  refine s_l05Spoil s2 fun t v H3 k3 s3 td tb => ?_
  have g1 := k3.get (by omega) (pre_get p2 hb1)
  have n2 := s2.lt
  have k3l := k3.len
  ((try simp (maxSteps := 3000000) (dsimp := false) (disch := first | omega | (simp only [len_new, len_put, len_kill]; omega)) only [↓ypre, ypost, ↓reduceIte, Nat.reduceEqDiff, Nat.reduceAdd, Nat.reduceSub, Nat.reduceLeDiff, Nat.zero_add, Nat.sub_zero, ynew, tenV, td.now.one]); try simp only [yback])
  generalize hH4 : AH.new H3 _ = H4
  obtain ⟨hb4, p4, n4⟩ := new_facts hH4
  have g1 := pre_get p4 g1
  have td := td.pre p4
  have s4 := s3.kp p4
  refine s_l01Near s4 (by omega) fun a H5 k5 s5 ha => ?_
  have g1 := k5.get (by omega) g1
  have g4 := k5.get (by omega) hb4
  have td := td.kp k5 (by omega)
  have k5l := k5.len
  refine WO_cut (fun f : Fr => f 2 = .pointer (some ⟨h.length, 0, none⟩) ∧ f 5 = srcP H1.length ∧ f 6 = .pointer (some ⟨H3.length, 0, none⟩) ∧ f 13 = I64 a ∧ True) ⟨(by first | rfl | simp [upd_apply]), (by first | rfl | simp [upd_apply]), (by first | rfl | simp [upd_apply]), (by first | rfl | simp [upd_apply]), trivial⟩ ?_
  rintro f ⟨f2, f5, f6, f13, -⟩
  ((try simp (maxSteps := 3000000) (dsimp := false) (disch := first | omega | (simp only [len_new, len_put, len_kill]; omega)) only [↓ypre, ypost, ↓reduceIte, Nat.reduceEqDiff, Nat.reduceAdd, Nat.reduceSub, Nat.reduceLeDiff, Nat.zero_add, Nat.sub_zero, ynew, f2, f5, f6, f13, rdn_of g4]); try simp only [yback])
  refine s_l05SideA (t := t) (v := v) td.now.one fun r H6 p6 hr => ?_
  refine ⟨p6, ?_⟩
  have hr' : -1000 ≤ r ∧ r ≤ 1000 := by
    have := tb.i; have := tb.j; have := tb.k
    rcases hr with rfl | rfl | rfl <;> omega
  have g1 := pre_get p6 g1
  have g4 := pre_get p6 g4
  have td := td.pre p6
  have s6 := s5.kp p6
  have p6l := p6.length_le
  refine WO_cut (fun f : Fr => f 2 = .pointer (some ⟨h.length, 0, none⟩) ∧ f 6 = .pointer (some ⟨H3.length, 0, none⟩) ∧ f 14 = tenV t v ∧ f 15 = I64 a ∧ f 16 = srcP H1.length ∧ f 19 = I64 r ∧ True) ⟨(by first | rfl | exact f2 | simp [upd_apply, f2]), (by first | rfl | exact f6 | simp [upd_apply, f6]), (by first | rfl | simp [upd_apply]), (by first | rfl | simp [upd_apply]), (by first | rfl | simp [upd_apply]), (by first | rfl | simp [upd_apply]), trivial⟩ ?_
  rintro f ⟨f2, f6, f14, f15, f16, f19, -⟩
  ((try simp (maxSteps := 3000000) (dsimp := false) (disch := first | omega | (simp only [len_new, len_put, len_kill]; omega)) only [↓ypre, ypost, ↓reduceIte, Nat.reduceEqDiff, Nat.reduceAdd, Nat.reduceSub, Nat.reduceLeDiff, Nat.zero_add, Nat.sub_zero, ynew, f2, f6, f14, f15, f16, f19, wrap_pm (n := r - 1) (by omega), WX_mm, mmT]); try simp only [yback])
  refine ⟨by omega, ?_⟩
  refine s_l01Near s6 (by omega) fun b H7 k7 s7 hb => ?_
  refine ⟨⟨_, by show blkV (f 16) = _; rw [f16]; rfl, k7⟩, ?_⟩
  have g1 := k7.get (by omega) g1
  have td := td.kp k7 (by omega)
  have k7l := k7.len
  refine WO_cut (fun f : Fr => f 2 = .pointer (some ⟨h.length, 0, none⟩) ∧ f 14 = tenV t v ∧ f 15 = I64 a ∧ f 22 = I64 b ∧ True) ⟨(by first | rfl | exact f2 | simp [upd_apply, f2]), (by first | rfl | exact f14 | simp [upd_apply, f14]), (by first | rfl | exact f15 | simp [upd_apply, f15]), (by first | rfl | simp [upd_apply]), trivial⟩ ?_
  rintro f ⟨f2, f14, f15, f22, -⟩
  ((try simp (maxSteps := 3000000) (dsimp := false) (disch := first | omega | (simp only [len_new, len_put, len_kill]; omega)) only [↓ypre, ypost, ↓reduceIte, Nat.reduceEqDiff, Nat.reduceAdd, Nat.reduceSub, Nat.reduceLeDiff, Nat.zero_add, Nat.sub_zero, ynew, f2, f14, f15, f22, tenV, td.now.one, wr_of g1, splice_eq]); try simp only [yback])
  generalize hHF : AH.put H7 _ _ = HF
  have F1 : HF.get h.length = some ⟨[I64 t.p, I64 t.i, I64 t.j, I64 t.k, v], 36, false, true⟩ := hHF ▸ get_put_same (by omega)
  rw [xresT2 (f := upd (upd f 3 (I64 a)) 4 (I64 b)) (h := HF) (a := 2) (b := 3) (c := 4) (t := t) (v := v) (x := I64 a) (y := I64 b) f2 rfl rfl F1, Option.map_some, OQ_some]
  refine hQ t v a b HF (hHF ▸ pre_put (p1.trans s7.p) (Nat.le_refl _)) ?_ tb
  exact hHF ▸ (KN.put td (by omega)).now
theorem s_DrawNumberAt {h : AH} {cv : Value} {code : List (List Int)} {Q : Value → AH → Prop} (c : Cod h cv code)
    (hQ : ∀ (t : Ten) (v : Value) (a b d : Int) (h' : AH), h <+: h' → Ints h' v t.ns → TenB t → Q (.tuple #[tenV t v, I64 a, I64 b, I64 d]) h') : WF S 116 [cv] h Q := by
  refine WF_fn (fn := c116) rfl rfl ?_
  unfold c116
  ((try simp (maxSteps := 3000000) (dsimp := false) (disch := first | omega | (simp only [len_new, len_put, len_kill]; omega)) only [↓ypre, ypost, ↓reduceIte, Nat.reduceEqDiff, Nat.reduceAdd, Nat.reduceSub, Nat.reduceLeDiff, Nat.zero_add, Nat.sub_zero, ynew]); try simp only [yback])
  generalize hH1 : AH.new h _ = H1
  obtain ⟨hb1, p1, n1⟩ := new_facts hH1
  refine s_l01From (c.els.pre p1) c.byt c.len fun H2 p2 l2 s2 => ?_
  ((try simp (maxSteps := 3000000) (dsimp := false) (disch := first | omega | (simp only [len_new, len_put, len_kill]; omega)) only [↓ypre, ypost, ↓reduceIte, Nat.reduceEqDiff, Nat.reduceAdd, Nat.reduceSub, Nat.reduceLeDiff, Nat.zero_add, Nat.sub_zero, ynew]); try simp only [yback])
  refine s_l05Spoil s2 fun t v H3 k3 s3 td tb => ?_
  have g1 := k3.get (by omega) (pre_get p2 hb1)
  have n2 := s2.lt
  have k3l := k3.len
  have hi := tb.i
  have hj := tb.j
  have hk := tb.k
  refine WO_cut (fun f : Fr => f 2 = .pointer (some ⟨h.length, 0, none⟩) ∧ f 6 = srcP H1.length ∧ f 11 = tenV t v ∧ True) ⟨(by first | rfl | simp [upd_apply]), (by first | rfl | simp [upd_apply]), (by first | rfl | simp [upd_apply]), trivial⟩ ?_
  rintro f ⟨f2, f6, f11, -⟩
  ((try simp (maxSteps := 3000000) (dsimp := false) (disch := first | omega | (simp only [len_new, len_put, len_kill]; omega)) only [↓ypre, ypost, ↓reduceIte, Nat.reduceEqDiff, Nat.reduceAdd, Nat.reduceSub, Nat.reduceLeDiff, Nat.zero_add, Nat.sub_zero, ynew, f2, f6, f11, tenV, td.now.one]); try simp only [yback])
  generalize hH4 : AH.new H3 _ = H4
  obtain ⟨hb4, p4, n4⟩ := new_facts hH4
  have g1 := pre_get p4 g1
  have td := td.pre p4
  have s4 := s3.kp p4
  ((try simp (maxSteps := 3000000) (dsimp := false) (disch := first | omega | (simp only [len_new, len_put, len_kill]; omega)) only [↓ypre, ypost, ↓reduceIte, Nat.reduceEqDiff, Nat.reduceAdd, Nat.reduceSub, Nat.reduceLeDiff, Nat.zero_add, Nat.sub_zero, ynew, f2, f6, f11, rdn_of hb4, rd1_of hb4, wrap_pm (n := t.i - 1) (by omega), WX_mm, mmT]); try simp only [yback])
  refine ⟨by omega, ?_⟩
  refine s_l01Near s4 (by omega) fun a H5 k5 s5 ha => ?_
  refine ⟨⟨_, rfl, k5⟩, ?_⟩
  have g1 := k5.get (by omega) g1
  have g4 := k5.get (by omega) hb4
  have td := td.kp k5 (by omega)
  have k5l := k5.len
  refine WO_cut (fun f : Fr => f 2 = .pointer (some ⟨h.length, 0, none⟩) ∧ f 6 = srcP H1.length ∧ f 7 = .pointer (some ⟨H3.length, 0, none⟩) ∧ f 12 = tenV t v ∧ f 13 = srcP H1.length ∧ f 18 = I64 a ∧ True) ⟨(by first | rfl | exact f2 | simp [upd_apply, f2]), (by first | rfl | exact f6 | simp [upd_apply, f6]), (by first | rfl | simp [upd_apply]), (by first | rfl | simp [upd_apply]), (by first | rfl | simp [upd_apply]), (by first | rfl | simp [upd_apply]), trivial⟩ ?_
  rintro f ⟨f2, f6, f7, f12, f13, f18, -⟩
  ((try simp (maxSteps := 3000000) (dsimp := false) (disch := first | omega | (simp only [len_new, len_put, len_kill]; omega)) only [↓ypre, ypost, ↓reduceIte, Nat.reduceEqDiff, Nat.reduceAdd, Nat.reduceSub, Nat.reduceLeDiff, Nat.zero_add, Nat.sub_zero, ynew, f2, f6, f7, f12, f13, f18, rd1_of g4, wrap_pm (n := t.j - 1) (by omega), WX_mm, mmT]); try simp only [yback])
  refine ⟨by omega, by omega, ?_⟩
  refine s_l01Near s5 (by omega) fun b H6 k6 s6 hb => ?_
  refine ⟨⟨_, rfl, k6⟩, ?_⟩
  have g1 := k6.get (by omega) g1
  have g4 := k6.get (by omega) g4
  have td := td.kp k6 (by omega)
  have k6l := k6.len
  refine WO_cut (fun f : Fr => f 2 = .pointer (some ⟨h.length, 0, none⟩) ∧ f 6 = srcP H1.length ∧ f 7 = .pointer (some ⟨H3.length, 0, none⟩) ∧ f 12 = tenV t v ∧ f 13 = srcP H1.length ∧ f 18 = I64 a ∧ f 19 = srcP H1.length ∧ f 24 = I64 b ∧ True) ⟨(by first | rfl | exact f2 | simp [upd_apply, f2]), (by first | rfl | exact f6 | simp [upd_apply, f6]), (by first | rfl | exact f7 | simp [upd_apply, f7]), (by first | rfl | exact f12 | simp [upd_apply, f12]), (by first | rfl | exact f13 | simp [upd_apply, f13]), (by first | rfl | exact f18 | simp [upd_apply, f18]), (by first | rfl | simp [upd_apply]), (by first | rfl | simp [upd_apply]), trivial⟩ ?_
  rintro f ⟨f2, f6, f7, f12, f13, f18, f19, f24, -⟩
  ((try simp (maxSteps := 3000000) (dsimp := false) (disch := first | omega | (simp only [len_new, len_put, len_kill]; omega)) only [↓ypre, ypost, ↓reduceIte, Nat.reduceEqDiff, Nat.reduceAdd, Nat.reduceSub, Nat.reduceLeDiff, Nat.zero_add, Nat.sub_zero, ynew, f2, f6, f7, f12, f13, f18, f19, f24, rd1_of g4, wrap_pm (n := t.k - 1) (by omega), WX_mm, mmT]); try simp only [yback])
  refine ⟨by omega, by omega, ?_⟩
  refine s_l01Near s6 (by omega) fun d H7 k7 s7 hd => ?_
  refine ⟨⟨_, rfl, k7⟩, ?_⟩
  have g1 := k7.get (by omega) g1
  have td := td.kp k7 (by omega)
  have k7l := k7.len
  refine WO_cut (fun f : Fr => f 2 = .pointer (some ⟨h.length, 0, none⟩) ∧ f 12 = tenV t v ∧ f 18 = I64 a ∧ f 24 = I64 b ∧ f 30 = I64 d ∧ True) ⟨(by first | rfl | exact f2 | simp [upd_apply, f2]), (by first | rfl | exact f12 | simp [upd_apply, f12]), (by first | rfl | exact f18 | simp [upd_apply, f18]), (by first | rfl | exact f24 | simp [upd_apply, f24]), (by first | rfl | simp [upd_apply]), trivial⟩ ?_
  rintro f ⟨f2, f12, f18, f24, f30, -⟩
  ((try simp (maxSteps := 3000000) (dsimp := false) (disch := first | omega | (simp only [len_new, len_put, len_kill]; omega)) only [↓ypre, ypost, ↓reduceIte, Nat.reduceEqDiff, Nat.reduceAdd, Nat.reduceSub, Nat.reduceLeDiff, Nat.zero_add, Nat.sub_zero, ynew, f2, f12, f18, f24, f30, tenV, td.now.one, wr_of g1, splice_eq]); try simp only [yback])
  generalize hHF : AH.put H7 _ _ = HF
  have F1 : HF.get h.length = some ⟨[I64 t.p, I64 t.i, I64 t.j, I64 t.k, v], 36, false, true⟩ := hHF ▸ get_put_same (by omega)
  rw [xresT3 (f := upd (upd (upd f 3 (I64 a)) 4 (I64 b)) 5 (I64 d)) (h := HF) (a := 2) (b := 3) (c := 4) (d := 5) (t := t) (v := v) (x := I64 a) (y := I64 b) (z := I64 d) f2 rfl rfl rfl F1, Option.map_some, OQ_some]
  refine hQ t v a b d HF (hHF ▸ pre_put (p1.trans s7.p) (Nat.le_refl _)) ?_ tb
  exact hHF ▸ (KN.put td (by omega)).now
theorem OQ_T2 {f : Fr} {h : AH} {a b c n e : Nat} {x y : Value} {t : Ten} {v : Value} {Q : Value → AH → Prop} (fa : f a = .pointer (some ⟨n, 0, none⟩)) (fb : f b = x) (fc : f c = y)
    (ha : h.get n = some ⟨[I64 t.p, I64 t.i, I64 t.j, I64 t.k, v], e, false, true⟩) (hQ : Q (.tuple #[tenV t v, x, y]) h) : OQ (Option.map (fun x => (x, h)) (xres f h [.celln a 5, .tmp b, .tmp c])) Q := by
  rw [xresT2 fa fb fc ha, Option.map_some, OQ_some]
  exact hQ
theorem s_DrawContractTensor {h : AH} {cv : Value} {code : List (List Int)} {Q : Value → AH → Prop} (c : Cod h cv code)
    (hQ : ∀ (t : Ten) (v : Value) (a : Int) (ns : List Int) (w : Value) (h' : AH), h <+: h' → Ints h' v t.ns → TenB t → Ints h' w ns → ns.length ≤ 20 → Q (.tuple #[tenV t v, I64 a, w]) h') : WF S 110 [cv] h Q := by
  refine WF_fn (fn := c110) rfl rfl ?_
  unfold c110
  ((try simp (maxSteps := 3000000) (dsimp := false) (disch := first | omega | (simp only [len_new, len_put, len_kill]; omega)) only [↓ypre, ypost, ↓reduceIte, Nat.reduceEqDiff, Nat.reduceAdd, Nat.reduceSub, Nat.reduceLeDiff, Nat.zero_add, Nat.sub_zero, ynew]); try simp only [yback])
  generalize hH1 : AH.new h _ = H1
  obtain ⟨hb1, p1, n1⟩ := new_facts hH1
  refine s_l01From (c.els.pre p1) c.byt c.len fun H2 p2 l2 s2 => ?_
  ((try simp (maxSteps := 3000000) (dsimp := false) (disch := first | omega | (simp only [len_new, len_put, len_kill]; omega)) only [↓ypre, ypost, ↓reduceIte, Nat.reduceEqDiff, Nat.reduceAdd, Nat.reduceSub, Nat.reduceLeDiff, Nat.zero_add, Nat.sub_zero, ynew]); try simp only [yback])
  refine s_l05Spoil s2 fun t v H3 k3 s3 td tb => ?_
  have g1 := k3.get (by omega) (pre_get p2 hb1)
  have n2 := s2.lt
  have k3l := k3.len
  have hp := tb.p
  ((try simp (maxSteps := 3000000) (dsimp := false) (disch := first | omega | (simp only [len_new, len_put, len_kill]; omega)) only [↓ypre, ypost, ↓reduceIte, Nat.reduceEqDiff, Nat.reduceAdd, Nat.reduceSub, Nat.reduceLeDiff, Nat.zero_add, Nat.sub_zero, ynew, tenV, td.now.one]); try simp only [yback])
  generalize hH4 : AH.new H3 _ = H4
  obtain ⟨hb4, p4, n4⟩ := new_facts hH4
  have g1 := pre_get p4 g1
  have td := td.pre p4
  have s4 := s3.kp p4
  refine s_l01Near s4 (by omega) fun a H5 k5 s5 ha => ?_
  have g1 := k5.get (by omega) g1
  have g4 := k5.get (by omega) hb4
  have td := td.kp k5 (by omega)
  have k5l := k5.len
  refine WO_cut (fun f : Fr => f 2 = .pointer (some ⟨h.length, 0, none⟩) ∧ f 5 = srcP H1.length ∧ f 6 = .pointer (some ⟨H3.length, 0, none⟩) ∧ f 14 = I64 a ∧ True) ⟨(by first | rfl | simp [upd_apply]), (by first | rfl | simp [upd_apply]), (by first | rfl | simp [upd_apply]), (by first | rfl | simp [upd_apply]), trivial⟩ ?_
  rintro f ⟨f2, f5, f6, f14, -⟩
  ((try simp (maxSteps := 3000000) (dsimp := false) (disch := first | omega | (simp only [len_new, len_put, len_kill]; omega)) only [↓ypre, ypost, ↓reduceIte, Nat.reduceEqDiff, Nat.reduceAdd, Nat.reduceSub, Nat.reduceLeDiff, Nat.zero_add, Nat.sub_zero, ynew, f2, f5, f6, f14, rdn_of g4, rd1_of g4, WX_mm, mmT, mmF]); try simp only [yback])
  refine s_l05SideA (t := t) (v := v) td.now.one fun r H6 p6 hr => ?_
  refine ⟨p6, ?_⟩
  have hr' : -1000 ≤ r ∧ r ≤ 1000 := by
    have := tb.i; have := tb.j; have := tb.k
    rcases hr with rfl | rfl | rfl <;> omega
  have g1 := pre_get p6 g1
  have g4 := pre_get p6 g4
  have td := td.pre p6
  have s6 := s5.kp p6
  have p6l := p6.length_le
  refine WO_cut (fun f : Fr => f 2 = .pointer (some ⟨h.length, 0, none⟩) ∧ f 5 = srcP H1.length ∧ f 6 = .pointer (some ⟨H3.length, 0, none⟩) ∧ f 7 = I64 a ∧ f 15 = srcP H1.length ∧ f 19 = I64 (min (max t.p 1) 5) ∧ f 22 = I64 r ∧ True) ⟨(by first | rfl | exact f2 | simp [upd_apply, f2]), (by first | rfl | exact f5 | simp [upd_apply, f5]), (by first | rfl | exact f6 | simp [upd_apply, f6]), (by first | rfl | simp [upd_apply]), (by first | rfl | simp [upd_apply]), (by first | rfl | simp [upd_apply]), (by first | rfl | simp [upd_apply]), trivial⟩ ?_
  rintro f ⟨f2, f5, f6, f7, f15, f19, f22, -⟩
  ((try simp (maxSteps := 3000000) (dsimp := false) (disch := first | omega | (simp only [len_new, len_put, len_kill]; omega)) only [↓ypre, ypost, ↓reduceIte, Nat.reduceEqDiff, Nat.reduceAdd, Nat.reduceSub, Nat.reduceLeDiff, Nat.zero_add, Nat.sub_zero, ynew, f2, f5, f6, f7, f15, f19, f22, WX_mm, mmT, mmF]); try simp only [yback])
  have td6 := td
  obtain ⟨N, hN, hN2⟩ : ∃ N : Nat, min (max r 0) 10 = (N : Int) ∧ N ≤ 10 := ⟨(min (max r 0) 10).toNat, by omega, by omega⟩
  rw [hN]
  refine s_l05List s6 (by omega) fun kb l fu H7 k7 s7 hkb ql hl _ => ?_
  have g1 := k7.get (by omega) g1
  have g4 := k7.get (by omega) g4
  have td := td.kp k7 (by omega)
  have k7l := k7.len
  refine WO_cut (fun f : Fr => f 2 = .pointer (some ⟨h.length, 0, none⟩) ∧ f 5 = srcP H1.length ∧ f 6 = .pointer (some ⟨H3.length, 0, none⟩) ∧ f 7 = I64 a ∧ f 25 = sl kb l.length ∧ True) ⟨(by first | rfl | exact f2 | simp [upd_apply, f2]), (by first | rfl | exact f5 | simp [upd_apply, f5]), (by first | rfl | exact f6 | simp [upd_apply, f6]), (by first | rfl | exact f7 | simp [upd_apply, f7]), (by first | rfl | simp [upd_apply]), trivial⟩ ?_
  rintro f ⟨f2, f5, f6, f7, f25, -⟩
  ((try simp (maxSteps := 3000000) (dsimp := false) (disch := first | omega | (simp only [len_new, len_put, len_kill]; omega)) only [↓ypre, ypost, ↓reduceIte, Nat.reduceEqDiff, Nat.reduceAdd, Nat.reduceSub, Nat.reduceLeDiff, Nat.zero_add, Nat.sub_zero, ynew, f2, f5, f6, f7, f25]); try simp only [yback])
  refine s_l01Next s7 fun x H8 k8 l8 s8 _ _ => ?_
  have g1 := k8.get (by omega) g1
  have g4 := k8.get (by omega) g4
  have td := td.kp k8 (by omega)
  have ql := k8.get (by omega) ql
  have k8l := k8.len
  have lql := get_lt ql
  have n8 := s8.lt
  refine WO_cut (fun f : Fr => f 2 = .pointer (some ⟨h.length, 0, none⟩) ∧ f 6 = .pointer (some ⟨H3.length, 0, none⟩) ∧ f 7 = I64 a ∧ f 8 = sl kb l.length ∧ f 27 = I64 x ∧ True) ⟨(by first | rfl | exact f2 | simp [upd_apply, f2]), (by first | rfl | exact f6 | simp [upd_apply, f6]), (by first | rfl | exact f7 | simp [upd_apply, f7]), (by first | rfl | simp [upd_apply]), (by first | rfl | simp [upd_apply]), trivial⟩ ?_
  rintro f ⟨f2, f6, f7, f8, f27, -⟩
  have k68 := k7.trans k8
  have p8 : h <+: H8 := p1.trans s8.p
  by_cases hx : ¬ x = 0
  · ((try simp (maxSteps := 3000000) (dsimp := false) (disch := first | omega | (simp only [len_new, len_put, len_kill]; omega)) only [↓ypre, ypost, ↓reduceIte, Nat.reduceEqDiff, Nat.reduceAdd, Nat.reduceSub, Nat.reduceLeDiff, Nat.zero_add, Nat.sub_zero, ynew, f2, f6, f7, f8, f27, decide_eq_false hx, rdn_of g4, wr_of g1, splice_eq, one_slice, sl, td.now.one]); try simp only [yback])
    generalize hHF : AH.put H8 _ _ = HF
    have F1 : HF.get h.length = some ⟨[I64 t.p, I64 t.i, I64 t.j, I64 t.k, v], 36, false, true⟩ := hHF ▸ get_put_same (by omega)
    have qF : Lst HF kb l fu := by
      unfold Lst
      rw [← hHF, get_put_ne (by omega)]
      exact ql
    refine OQ_T2 (x := I64 a) (y := sl kb l.length) (a := 2) (b := 3) (c := 4) (n := h.length) ?_ ?_ ?_ F1 (hQ t v a l _ HF (hHF ▸ pre_put p8 (Nat.le_refl _)) ?_ tb qF.ints (by omega))
    · exact f2
    · rfl
    · rfl
    · exact hHF ▸ (KN.put td (by omega)).now
  · have hx := Decidable.not_not.1 hx
    ((try simp (maxSteps := 3000000) (dsimp := false) (disch := first | omega | (simp only [len_new, len_put, len_kill]; omega)) only [↓ypre, ypost, ↓reduceIte, Nat.reduceEqDiff, Nat.reduceAdd, Nat.reduceSub, Nat.reduceLeDiff, Nat.zero_add, Nat.sub_zero, ynew, f2, f6, f7, f8, f27, decide_eq_true hx, fillL, zrep]); try simp only [yback])
    refine lst_app ql (by omega) fun H9 l9 k9 q9 => ?_
    have g1 := k9.get (by omega) g1
    have g4 := k9.get (by omega) g4
    have td := td6.kp (k68.over k9 (by omega)) (by omega)
    have s9 := s8.over k9 (by omega) (by omega)
    refine WO_cut (fun f : Fr => f 2 = .pointer (some ⟨h.length, 0, none⟩) ∧ f 6 = .pointer (some ⟨H3.length, 0, none⟩) ∧ f 7 = I64 a ∧ f 31 = sl (H8.length + 1) (l ++ [0]).length ∧ True) ⟨(by first | rfl | exact f2 | simp [upd_apply, f2]), (by first | rfl | exact f6 | simp [upd_apply, f6]), (by first | rfl | exact f7 | simp [upd_apply, f7]), (by first | rfl | simp [upd_apply]), trivial⟩ ?_
    rintro f ⟨f2, f6, f7, f31, -⟩
    ((try simp (maxSteps := 3000000) (dsimp := false) (disch := first | omega | (simp only [len_new, len_put, len_kill]; omega)) only [↓ypre, ypost, ↓reduceIte, Nat.reduceEqDiff, Nat.reduceAdd, Nat.reduceSub, Nat.reduceLeDiff, Nat.zero_add, Nat.sub_zero, ynew, f2, f6, f7, f31, rdn_of g4, wr_of g1, splice_eq, one_slice, sl, td.now.one]); try simp only [yback])
    generalize hHF : AH.put H9 _ _ = HF
    have F1 : HF.get h.length = some ⟨[I64 t.p, I64 t.i, I64 t.j, I64 t.k, v], 36, false, true⟩ := hHF ▸ get_put_same (by omega)
    have qF : Lst HF (H8.length + 1) (l ++ [0]) false := by
      unfold Lst
      rw [← hHF, get_put_ne (by omega)]
      exact q9
    refine OQ_T2 f2 rfl rfl F1 (hQ t v a (l ++ [0]) _ HF (hHF ▸ pre_put (p1.trans s9.p) (Nat.le_refl _)) ?_ tb qF.ints (by simp; omega))
    exact hHF ▸ (KN.put td (by omega)).now
end Go.Proofs.Ytapafdpnmakekaa.X

set_option linter.unusedVariables false
set_option linter.unusedSimpArgs false
set_option maxRecDepth 20000
set_option maxHeartbeats 4000000
namespace Go.Proofs.Ytapafdpnmakekaa.X
open Go Go.RowKit
theorem getq {l : List Value} {i : Nat} (hi : i < l.length) : l[i]? = some (l.getD i undef) := by
  rw [List.getD_eq_getElem?_getD, List.getElem?_eq_getElem hi]
  rfl
theorem cellsL_sl {b n : Nat} : cellsL (sl b n) = [sl b n] := rfl
theorem isOne_sl {b n : Nat} : isOne (sl b n) = true := rfl
structure RowD (lo : Nat) (H : AH) (kb : Nat) (fu : Bool) (rows : List (List Int)) (B : Nat → Nat) (cs : List Value) : Prop where
  get : H.get kb = some ⟨cs, 27, false, fu⟩
  len : cs.length = rows.length
  low : lo ≤ kb
  row : ∀ i, i < rows.length → lo ≤ B i ∧ cs.getD i undef = sl (B i) (rows.getD i []).length ∧ (∃ f, Lst H (B i) (rows.getD i []) f) ∧ B i ≠ kb
  inc : ∀ i j, i < j → j < rows.length → B i < B j
theorem RowD.kp {lo kb n : Nat} {H H' : AH} {fu : Bool} {rows : List (List Int)} {B : Nat → Nat} {cs : List Value} (r : RowD lo H kb fu rows B cs) (k : Kp n H H') (hn : n < lo) : RowD lo H' kb fu rows B cs :=
  ⟨k.get (by have := r.low; omega) r.get, r.len, r.low, fun i hi => by
    obtain ⟨h1, h2, ⟨f, h3⟩, h4⟩ := r.row i hi
    exact ⟨h1, h2, ⟨f, k.get (by omega) h3⟩, h4⟩, r.inc⟩
theorem RowD.rows {lo kb : Nat} {H : AH} {fu : Bool} {rows : List (List Int)} {B : Nat → Nat} {cs : List Value} (r : RowD lo H kb fu rows B cs) : Rows H (sl kb rows.length) rows := by
  refine ⟨cs, .inr ⟨kb, 0, _, by rw [r.len]; rfl, r.get, by simp, fun i hi => ?_⟩, r.len, fun i hi => ?_⟩
  · show cs[0 + i]? = _
    rw [Nat.zero_add]
    exact getq hi
  · obtain ⟨h1, h2, ⟨f, h3⟩, h4⟩ := r.row i hi
    rw [h2]
    exact h3.ints
theorem getD_snocD {α : Type} {l : List α} {x d : α} {j : Nat} : (l ++ [x]).getD j d = if j < l.length then l.getD j d else if j = l.length then x else d := by
  rw [List.getD_eq_getElem?_getD, List.getD_eq_getElem?_getD]
  by_cases h : j < l.length
  · rw [List.getElem?_append_left h, if_pos h]
  · rw [List.getElem?_append_right (by omega), if_neg h]
    split
    · rename_i e
      simp [e]
    · rw [List.getElem?_eq_none (by simp; omega)]
      rfl
theorem rowd_app {lo kb b : Nat} {H : AH} {fu f ro fz : Bool} {e' : TypeId} {rows : List (List Int)} {l : List Int} {B : Nat → Nat} {cs : List Value} (r : RowD lo H kb fu rows B cs) (hl : rows.length ≤ 1000) (hb : lo ≤ b) (hkb : b ≠ kb)
    (hB : ∀ i, i < rows.length → B i < b) (hx : Lst H b l f) {Q : Value → AH → Prop}
    (hQ : ∀ H' : AH, H'.length = H.length + 2 → Kp kb H H' → RowD lo H' (H.length + 1) false (rows ++ [l]) (fun i => if i < rows.length then B i else b) (cs ++ [sl b l.length]) → Q (sl (H.length + 1) (rows ++ [l]).length) H') :
    OQ (appV 27 1 24 (sl kb rows.length) (.slice (some ⟨H.length, 0, none⟩) 1 1) (H.new ⟨[sl b l.length], e', ro, fz⟩)) Q := by
  have hn : (H.new ⟨[sl b l.length], e', ro, fz⟩).rdn H.length 0 1 = some [sl b l.length] := by rw [rdn_new_same]; rfl
  have hk : (H.new ⟨[sl b l.length], e', ro, fz⟩).get kb = some ⟨cs, 27, false, fu⟩ := get_new_any r.get
  have hkl := get_lt r.get
  have hbl := get_lt hx
  unfold sl
  unfold sl at hn hk
  rw [app_ownW (n := rows.length) hk (by rw [r.len, Nat.mul_one]) hn (by omega), OQ_some, len_new]
  have kk : Kp kb H (((H.new ⟨[sl b l.length], e', ro, fz⟩).kill kb).new ⟨cs ++ [sl b l.length], 27, false, false⟩) := ⟨by rw [len_new, len_kill, len_new]; omega, fun j hj hne => by
      rw [show (((H.new ⟨[sl b l.length], e', ro, fz⟩).kill kb).new ⟨cs ++ [sl b l.length], 27, false, false⟩).get j = ((H.new ⟨[sl b l.length], e', ro, fz⟩).kill kb).get j from prefix_get (pre_new (List.prefix_refl _)) (by rw [len_kill, len_new]; omega), get_kill_ne (Ne.symm hne)]
      exact prefix_get (pre_new (List.prefix_refl _)) hj⟩
  have := hQ _ (by rw [len_new, len_kill, len_new]) kk ⟨get_new_eq (by rw [len_kill, len_new]), by simp [r.len], by have := r.low; omega, fun i hi => ?_, fun i j hij hj => ?_⟩
  · unfold sl at this
    rw [List.length_append, List.length_singleton] at this
    exact this
  · by_cases h : i < rows.length
    · obtain ⟨h1, h2, ⟨g, h3⟩, h4⟩ := r.row i h
      have lb := get_lt h3
      simp only [if_pos h]
      refine ⟨h1, ?_, ⟨g, ?_⟩, by omega⟩
      · rw [getD_snocD, if_pos (by rw [r.len]; exact h), h2, getD_snocD, if_pos h]
      · rw [getD_snocD, if_pos h]
        exact kk.get h4 h3
    · have e : i = rows.length := by simp at hi; omega
      subst e
      simp only [if_neg h]
      refine ⟨hb, ?_, ⟨f, ?_⟩, by omega⟩
      · rw [getD_snocD, if_neg (by rw [r.len]; omega), if_pos r.len.symm, getD_snocD, if_neg (by omega), if_pos rfl]
      · rw [getD_snocD, if_neg (by omega), if_pos rfl]
        exact kk.get hkb hx
  · simp only [List.length_append, List.length_singleton] at hj
    by_cases h : j < rows.length
    · simp only [if_pos h, if_pos (show i < rows.length by omega)]
      exact r.inc i j hij h
    · simp only [if_neg h, if_pos (show i < rows.length by omega)]
      exact hB i (by omega)
theorem rowd_fin {lo kb nb : Nat} {H H' : AH} {fu fu' g : Bool} {rows : List (List Int)} {B : Nat → Nat} {cs : List Value} (r : RowD lo H kb fu rows B cs) (h0 : 0 < rows.length) (k : Kp (B 0) H H') (q : Lst H' nb (rows.getD 0 [] ++ [0]) g) (hn : nb ≠ kb) :
    Rows (H'.put kb ⟨cs.set 0 (sl nb (rows.getD 0 [] ++ [0]).length), 27, false, fu'⟩) (sl kb rows.length) (rows.set 0 (rows.getD 0 [] ++ [0])) := by
  have hl := r.len
  have hk := get_lt r.get
  have kl := k.len
  refine ⟨cs.set 0 (sl nb (rows.getD 0 [] ++ [0]).length), .inr ⟨kb, 0, _, by rw [List.length_set, r.len]; rfl, get_put_same (by omega), by simp, fun i hi => ?_⟩, by simp [r.len], fun i hi => ?_⟩
  · show (cs.set 0 _)[0 + i]? = _
    rw [Nat.zero_add]
    exact getq hi
  · simp only [List.length_set] at hi
    by_cases h : i = 0
    · subst h
      have e1 : (cs.set 0 (sl nb (rows.getD 0 [] ++ [0]).length)).getD 0 undef = sl nb (rows.getD 0 [] ++ [0]).length := by
        rw [List.getD_eq_getElem?_getD, List.getElem?_set_self (by omega)]
        rfl
      have e2 : (rows.set 0 (rows.getD 0 [] ++ [0])).getD 0 [] = rows.getD 0 [] ++ [0] := by
        rw [List.getD_eq_getElem?_getD (l := rows.set 0 _), List.getElem?_set_self (by omega)]
        rfl
      rw [e1, e2]
      exact (Lst.put_ne q (Ne.symm hn)).ints
    · have e1 : (cs.set 0 (sl nb (rows.getD 0 [] ++ [0]).length)).getD i undef = cs.getD i undef := by
        rw [List.getD_eq_getElem?_getD, List.getElem?_set_ne (by omega), ← List.getD_eq_getElem?_getD]
      have e2 : (rows.set 0 (rows.getD 0 [] ++ [0])).getD i [] = rows.getD i [] := by
        rw [List.getD_eq_getElem?_getD (l := rows.set 0 _), List.getElem?_set_ne (by omega), ← List.getD_eq_getElem?_getD]
      obtain ⟨h1, h2, ⟨f, h3⟩, h4⟩ := r.row i hi
      have := r.inc 0 i (by omega) hi
      rw [e1, e2, h2]
      exact (Lst.put_ne (k.get (by omega) h3) (Ne.symm h4)).ints
theorem s_DrawRowRank {h : AH} {cv : Value} {code : List (List Int)} {Q : Value → AH → Prop} (c : Cod h cv code)
    (hQ : ∀ (p : Int) (rows : List (List Int)) (w : Value) (h' : AH), h <+: h' → 2 ≤ p ∧ p ≤ 5 → Rows h' w rows → rows.length ≤ 10 → (∀ i, i < rows.length → (rows.getD i []).length ≤ 100) → Q (.tuple #[I64 p, w]) h') : WF S 112 [cv] h Q := by
  refine WF_fn (fn := c112) rfl rfl ?_
  unfold c112
  ((try simp (maxSteps := 3000000) (dsimp := false) (disch := first | omega | (simp only [len_new, len_put, len_kill]; omega)) only [↓ypre, ypost, ↓reduceIte, Nat.reduceEqDiff, Nat.reduceAdd, Nat.reduceSub, Nat.reduceLeDiff, Nat.zero_add, Nat.sub_zero, ynew]); try simp only [yback])
  refine s_l01From c.els c.byt c.len fun H1 p1 l1 s1 => ?_
  have n1 := s1.lt
  refine WO_cut (fun f : Fr => f 10 = srcP h.length ∧ True) ⟨(by first | rfl | simp [upd_apply]), trivial⟩ ?_
  rintro f ⟨f10, -⟩
  ((try simp (maxSteps := 3000000) (dsimp := false) (disch := first | omega | (simp only [len_new, len_put, len_kill]; omega)) only [↓ypre, ypost, ↓reduceIte, Nat.reduceEqDiff, Nat.reduceAdd, Nat.reduceSub, Nat.reduceLeDiff, Nat.zero_add, Nat.sub_zero, ynew, f10, fillL, zrep]); try simp only [yback])
  generalize hH2 : AH.new H1 _ = H2
  obtain ⟨hb2, p2, n2⟩ := new_facts hH2
  have kv := kp_new (n := h.length) (ns := [2, 3, 5, 2, 4]) hH2 (by omega)
  refine s_l01Pick (s1.kp p2) kv (by simp) (by simp) fun j H3 k3 l3 s3 hj => ?_
  have bM := pick_in (l := [2, 3, 5, 2, 4]) (a := 2) (b := 5) (by simp) hj
  generalize ([2, 3, 5, 2, 4] : List Int).getD j 0 = p at bM
  have n3 := s3.lt
  refine WO_cut (fun f : Fr => f 4 = srcP h.length ∧ f 13 = I64 p ∧ True) ⟨(by first | rfl | simp [upd_apply]), (by first | rfl | simp [upd_apply]), trivial⟩ ?_
  rintro f ⟨f4, f13, -⟩
  ((try simp (maxSteps := 3000000) (dsimp := false) (disch := first | omega | (simp only [len_new, len_put, len_kill]; omega)) only [↓ypre, ypost, ↓reduceIte, Nat.reduceEqDiff, Nat.reduceAdd, Nat.reduceSub, Nat.reduceLeDiff, Nat.zero_add, Nat.sub_zero, ynew, f4, f13, fillL, zrep]); try simp only [yback])
  generalize hH4 : AH.new H3 _ = H4
  obtain ⟨hb4, p4, n4⟩ := new_facts hH4
  have kv := kp_new (n := h.length) (ns := [1, 2, 3, 5, 9, 10]) hH4 (by omega)
  refine s_l01Pick (s3.kp p4) kv (by simp) (by simp) fun j H5 k5 l5 s5 hj => ?_
  have bN := pick_in (l := [1, 2, 3, 5, 9, 10]) (a := 1) (b := 10) (by simp) hj
  generalize ([1, 2, 3, 5, 9, 10] : List Int).getD j 0 = n0 at bN
  have n5 := s5.lt
  refine WO_cut (fun f : Fr => f 4 = srcP h.length ∧ f 13 = I64 p ∧ f 16 = I64 n0 ∧ True) ⟨(by first | rfl | exact f4 | simp [upd_apply, f4]), (by first | rfl | exact f13 | simp [upd_apply, f13]), (by first | rfl | simp [upd_apply]), trivial⟩ ?_
  rintro f ⟨f4, f13, f16, -⟩
  ((try simp (maxSteps := 3000000) (dsimp := false) (disch := first | omega | (simp only [len_new, len_put, len_kill]; omega)) only [↓ypre, ypost, ↓reduceIte, Nat.reduceEqDiff, Nat.reduceAdd, Nat.reduceSub, Nat.reduceLeDiff, Nat.zero_add, Nat.sub_zero, ynew, f4, f13, f16, fillL, zrep]); try simp only [yback])
  generalize hH6 : AH.new H5 _ = H6
  obtain ⟨hb6, p6, n6⟩ := new_facts hH6
  have kv := kp_new (n := h.length) (ns := [1, 2, 4, 9, 81]) hH6 (by omega)
  refine s_l01Pick (s5.kp p6) kv (by simp) (by simp) fun j H7 k7 l7 s7 hj => ?_
  have bW := pick_in (l := [1, 2, 4, 9, 81]) (a := 1) (b := 81) (by simp) hj
  generalize ([1, 2, 4, 9, 81] : List Int).getD j 0 = m0 at bW
  obtain ⟨N, rfl⟩ : ∃ N : Nat, n0 = N := ⟨n0.toNat, by omega⟩
  obtain ⟨W, rfl⟩ : ∃ W : Nat, m0 = W := ⟨m0.toNat, by omega⟩
  have n7 := s7.lt
  refine WO_cut (fun f : Fr => f 4 = srcP h.length ∧ f 13 = I64 p ∧ f 16 = I64 N ∧ f 19 = I64 W ∧ True) ⟨(by first | rfl | exact f4 | simp [upd_apply, f4]), (by first | rfl | exact f13 | simp [upd_apply, f13]), (by first | rfl | exact f16 | simp [upd_apply, f16]), (by first | rfl | simp [upd_apply]), trivial⟩ ?_
  rintro f ⟨f4, f13, f16, f19, -⟩
  ((try simp (maxSteps := 3000000) (dsimp := false) (disch := first | omega | (simp only [len_new, len_put, len_kill]; omega)) only [↓ypre, ypost, ↓reduceIte, Nat.reduceEqDiff, Nat.reduceAdd, Nat.reduceSub, Nat.reduceLeDiff, Nat.zero_add, Nat.sub_zero, ynew, f4, f13, f16, f19, fillL, zrep]); try simp only [yback])
  generalize hH8 : AH.new H7 _ = H8
  obtain ⟨hb8, p8, n8⟩ := new_facts hH8
  have s8 := s7.kp p8
  refine WC_loop_inv (fun m f K1 => ∃ (i : Nat) (rows : List (List Int)) (kb : Nat) (fu : Bool) (B : (Nat → Nat)) (cs : List Value), m = N - i ∧ i ≤ N ∧ f 4 = srcP h.length ∧ f 5 = I64 p ∧ f 6 = I64 ((N - i : Nat) : Int) ∧ f 7 = I64 W ∧ f 8 = sl kb rows.length ∧ (Kp h.length H7 K1) ∧ (H7.length ≤ kb) ∧ (Src h K1 h.length) ∧ (rows.length = i) ∧ (RowD (h.length + 1) K1 kb fu rows B cs) ∧ (∀ j, j < rows.length → B j < K1.length) ∧ (∀ j, j < rows.length → (rows.getD j []).length = W)) ?_ (N - 0) _ _ ⟨0, [], H7.length, true, (fun _ => 0), [], rfl, by omega, (by first | rfl | exact f4 | (simp [upd_apply]; done)), (by first | rfl | simp [upd_apply]), (by first | rfl | simp [upd_apply]), (by first | rfl | simp [upd_apply]), (by first | rfl | simp [upd_apply]), Kp.of p8, Nat.le_refl _, s8, rfl, ⟨hb8, rfl, by omega, fun i hi => by simp at hi, fun i j _ hj => by simp at hj⟩, fun j hj => by simp at hj, fun j hj => by simp at hj⟩
  rintro m f K1 ⟨i, rows, kb, fu, B, cs, rfl, hi, f4, f5, f6, f7, f8, kk, hq, ss, li, r, hB, hw⟩
  by_cases hlt : ((N - i : Nat) : Int) > 0
  · ((try simp (maxSteps := 3000000) (dsimp := false) (disch := first | omega | (simp only [len_new, len_put, len_kill]; omega)) only [↓ypre, ypost, ↓reduceIte, Nat.reduceEqDiff, Nat.reduceAdd, Nat.reduceSub, Nat.reduceLeDiff, Nat.zero_add, Nat.sub_zero, ynew, f4, f5, f6, f7, f8, decide_eq_true hlt]); try simp only [yback])
    refine s_l05List ss (by omega) fun b l fl H9 k9 s9 hb9 q9 hl9 _ => ?_
    have hkb := get_lt r.get
    have r9 := r.kp k9 (by omega)
    have k9l := k9.len
    have q9l := get_lt q9
    have n9 := s9.lt
    have kkl := kk.len
    ((try simp (maxSteps := 3000000) (dsimp := false) (disch := first | omega | (simp only [len_new, len_put, len_kill]; omega)) only [↓ypre, ypost, ↓reduceIte, Nat.reduceEqDiff, Nat.reduceAdd, Nat.reduceSub, Nat.reduceLeDiff, Nat.zero_add, Nat.sub_zero, ynew, f4, f5, f6, f7, f8, fillL, zrep, cellsL_sl, isOne_sl]); try simp only [yback])
    refine rowd_app r9 (by omega) (by omega) (by omega) (fun j hj => by have := hB j hj; omega) q9 fun H10 l10 k10 r10 => ?_
    ((try simp (maxSteps := 3000000) (dsimp := false) (disch := first | omega | (simp only [len_new, len_put, len_kill]; omega)) only [↓ypre, ypost, ↓reduceIte, Nat.reduceEqDiff, Nat.reduceAdd, Nat.reduceSub, Nat.reduceLeDiff, Nat.zero_add, Nat.sub_zero, ynew, f4, f5, f6, f7, f8, wrap64_in]); try simp only [yback])
    have hB2 : ∀ j, j < (rows ++ [l]).length → (if j < rows.length then B j else b) < H10.length := fun j hj => by
      split
      · rename_i hjr
        have := hB j hjr
        omega
      · omega
    have hw2 : ∀ j, j < (rows ++ [l]).length → ((rows ++ [l]).getD j []).length = W := fun j hj => by
      rw [getD_snocD]
      split
      · rename_i hjr
        exact hw j hjr
      · rw [if_pos (by simp at hj; omega)]
        exact hl9
    refine InvQ_go (N - (i + 1)) (by omega) ⟨(i + 1), (rows ++ [l]), (H9.length + 1), false, _, _, rfl, by omega, (by first | rfl | exact f4 | (simp only [upd_apply]; rfl) | (show I64 _ = _; congr 1; omega)), (by first | rfl | exact f5 | (simp only [upd_apply]; rfl) | (show I64 _ = _; congr 1; omega)), (by first | rfl | exact f6 | (simp only [upd_apply]; rfl) | (show I64 _ = _; congr 1; omega)), (by first | rfl | exact f7 | (simp only [upd_apply]; rfl) | (show I64 _ = _; congr 1; omega)), (by first | rfl | exact f8 | (simp only [upd_apply]; rfl) | (show I64 _ = _; congr 1; omega)), ((kk.trans k9).over k10 (by omega)), (by omega), (s9.over k10 (by omega) (by have := pre_len s9.p; omega)), (by rw [List.length_append, li]; rfl), r10, hB2, hw2⟩
  · have e : i = N := by omega
    subst e
    have hkb := get_lt r.get
    ((try simp (maxSteps := 3000000) (dsimp := false) (disch := first | omega | (simp only [len_new, len_put, len_kill]; omega)) only [↓ypre, ypost, ↓reduceIte, Nat.reduceEqDiff, Nat.reduceAdd, Nat.reduceSub, Nat.reduceLeDiff, Nat.zero_add, Nat.sub_zero, ynew, f4, f5, f6, f7, f8, decide_eq_false hlt]); try simp only [yback])
    refine s_l01Next ss fun x H9 k9 l9 s9 _ _ => ?_
    have r9 := r.kp k9 (by omega)
    have n9 := s9.lt
    by_cases hx : ¬ x = 0
    · ((try simp (maxSteps := 3000000) (dsimp := false) (disch := first | omega | (simp only [len_new, len_put, len_kill]; omega)) only [↓ypre, ypost, ↓reduceIte, Nat.reduceEqDiff, Nat.reduceAdd, Nat.reduceSub, Nat.reduceLeDiff, Nat.zero_add, Nat.sub_zero, ynew, f4, f5, f6, f7, f8, decide_eq_false hx]); try simp only [yback])
      exact hQ p rows (sl kb rows.length) H9 s9.p bM r9.rows (by omega) (fun i hi => by rw [hw i hi]; omega)
    · have hx := Decidable.not_not.1 hx
      obtain ⟨h1, h2, ⟨g, h3⟩, h4⟩ := r9.row 0 (by omega)
      have ix0 : ixsV 1 (sl kb rows.length) (I64 0) = some (.pointer (some ⟨kb, 0, none⟩)) := Lst.ix (n := kb) (j := 0) (len := rows.length) ⟨by omega, by omega⟩
      have rd0 : H9.rd1 kb 0 = some (sl (B 0) (rows.getD 0 []).length) := by
        rw [← h2, rd1_of r9.get]
        have : 0 < cs.length := by rw [r9.len]; omega
        simp [List.getD_eq_getElem?_getD, List.getElem?_eq_getElem this]
      have w0 := hw 0 (by omega)
      ((try simp (maxSteps := 3000000) (dsimp := false) (disch := first | omega | (simp only [len_new, len_put, len_kill]; omega)) only [↓ypre, ypost, ↓reduceIte, Nat.reduceEqDiff, Nat.reduceAdd, Nat.reduceSub, Nat.reduceLeDiff, Nat.zero_add, Nat.sub_zero, ynew, f4, f5, f6, f7, f8, decide_eq_true hx, ix0, rd0, fillL, zrep]); try simp only [yback])
      refine lst_app h3 (by omega) fun H10 l10 k10 q10 => ?_
      have gk := k10.get (Ne.symm h4) r9.get
      ((try simp (maxSteps := 3000000) (dsimp := false) (disch := first | omega | (simp only [len_new, len_put, len_kill]; omega)) only [↓ypre, ypost, ↓reduceIte, Nat.reduceEqDiff, Nat.reduceAdd, Nat.reduceSub, Nat.reduceLeDiff, Nat.zero_add, Nat.sub_zero, ynew, f4, f5, f6, f7, f8, ix0, wr_of gk, cellsL_sl, isOne_sl, splice_set]); try simp only [yback])
      have hn : H9.length + 1 ≠ kb := by omega
      have s10 := s9.over k10 (by omega) (by omega)
      have hl := r9.len
      refine ⟨by omega, ?_⟩
      have e0 : (rows.set 0 (rows.getD 0 [] ++ [0])).length = rows.length := List.length_set
      have key := rowd_fin (fu' := fu) r9 (by omega) k10 q10 hn
      rw [← e0] at key
      rw [← e0]
      refine hQ p (rows.set 0 (rows.getD 0 [] ++ [0])) _ _ (pre_put s10.p (by omega)) bM key (by omega) fun i hi => ?_
      rw [e0] at hi
      by_cases hi0 : i = 0
      · subst hi0
        rw [List.getD_eq_getElem?_getD (l := rows.set 0 _), List.getElem?_set_self (by omega)]
        simp only [Option.getD_some, List.length_append, List.length_singleton]
        omega
      · rw [List.getD_eq_getElem?_getD (l := rows.set 0 _), List.getElem?_set_ne (by omega), ← List.getD_eq_getElem?_getD, hw i hi]
        omega
end Go.Proofs.Ytapafdpnmakekaa.X

set_option linter.unusedVariables false
set_option linter.unusedSimpArgs false
set_option maxRecDepth 20000
set_option maxHeartbeats 4000000
namespace Go.Proofs.Ytapafdpnmakekaa.X
open Go Go.RowKit
noncomputable def fcR (t : Ten) : List (List Int) := [fcU t (fcF t) (fcE t), fcV t (fcF t) (fcE t), fcW t (fcF t)]
theorem fc_three {h H : AH} {ku kv kw : Nat} {fu fv fw : Bool} {U V W : List Int} (p : h <+: H) (lu : Lst H ku U fu) (lv : Lst H kv V fv) (lw : Lst H kw W fw) (hu : h.length ≤ ku ∧ h.length ≤ kv ∧ h.length ≤ kw) (hd : ku ≠ kv ∧ ku ≠ kw ∧ kv ≠ kw) :
    OwnRows h (H.new ⟨[sl ku U.length, sl kv V.length, sl kw W.length], 27, false, true⟩) (.slice (some ⟨H.length, 0, none⟩) 3 1) [U, V, W] := by
  have s : TabS h (H.new ⟨[sl ku U.length, sl kv V.length, sl kw W.length], 27, false, true⟩) H.length true [(ku, U), (kv, V), (kw, W)] := by
    refine ⟨pre_new p, pre_len p, get_new_same, fun q hq => ?_, ?_⟩
    · have h1 := lu.lt
      have h2 := lv.lt
      have h3 := lw.lt
      simp only [List.mem_cons, List.not_mem_nil, or_false] at hq
      rcases hq with rfl | rfl | rfl
      · exact ⟨⟨hu.1, by simp only; omega⟩, fu, (Lst.pre lu (pre_new (List.prefix_refl _))).own⟩
      · exact ⟨⟨hu.2.1, by simp only; omega⟩, fv, (Lst.pre lv (pre_new (List.prefix_refl _))).own⟩
      · exact ⟨⟨hu.2.2, by simp only; omega⟩, fw, (Lst.pre lw (pre_new (List.prefix_refl _))).own⟩
    · simp only [List.pairwise_cons, List.mem_cons, List.not_mem_nil, or_false, List.Pairwise.nil, and_true]
      exact ⟨by rintro q (rfl | rfl) <;> simp only <;> omega, by rintro q rfl; simp only; omega, by intro q hq; exact hq.elim⟩
  exact s.own
theorem s_l05Factors {v : Value} {t : Ten} {h : AH} {Q : Value → AH → Prop} (hv : Ints h v t.ns) (tf : TF t) (hP : isP t.p = true)
    (hQ : ∀ v' h', h <+: h' → (fcOK t = true → OwnRows h h' v' (fcR t)) → (fcOK t = false → v' = .slice none 0 0) → Q (.tuple #[v', .bool (fcOK t)]) h') : WF S 244 [tenV t v] h Q := by
  refine WF_fn (fn := c244) rfl rfl ?_
  unfold c244
  have p5 := isP_in hP
  have fi := tf.i
  have fj := tf.j
  have fk := tf.k
  have jk := mul_in1 (A := 9) (B := 9) tf.j tf.k
  have hl := tf.len
  have hl2 := tf.le
  ((try simp (maxSteps := 3000000) (dsimp := false) (disch := first | omega | (simp only [len_new, len_put, len_kill]; omega)) only [↓ypre, ypost, ↓reduceIte, Nat.reduceEqDiff, Nat.reduceAdd, Nat.reduceSub, Nat.reduceLeDiff, Nat.zero_add, Nat.sub_zero, ynew, tenV, hv.one]); try simp only [yback])
  generalize hH1 : AH.new h _ = H1
  obtain ⟨hb1, p1, n1⟩ := new_facts hH1
  have hv1 := hv.pre p1
  ((try simp (maxSteps := 3000000) (dsimp := false) (disch := first | omega | (simp only [len_new, len_put, len_kill]; omega)) only [↓ypre, ypost, ↓reduceIte, Nat.reduceEqDiff, Nat.reduceAdd, Nat.reduceSub, Nat.reduceLeDiff, Nat.zero_add, Nat.sub_zero, ynew, rd1_of hb1, hv1.len, wrap64_in]); try simp only [yback])
  obtain ⟨q, hq⟩ : ∃ q : Nat → Bool, q = fun n => decide (t.ns.getD n 0 ≠ 0) := ⟨_, rfl⟩
  refine WC_loop_inv (fun m f K1 => ∃ (z : Nat), m = t.ns.length - z ∧ z ≤ t.ns.length ∧ f 1 = .pointer (some ⟨h.length, 0, none⟩) ∧ f 4 = I64 (firstAt q z (t.ns.length - z)) ∧ f 5 = I64 ((t.ns.length : Int) - 1 - (z : Int)) ∧ K1 = H1) ?_ (t.ns.length - 0) _ _ ⟨0, rfl, by omega, (by first | rfl | simp [upd_apply]), (by first | rfl | simp [upd_apply]), (by first | rfl | simp [upd_apply]), rfl⟩
  rintro m f K1 ⟨z, rfl, hz, f1, f4, f5, rfl⟩
  by_cases hlt : 0 ≤ (t.ns.length : Int) - 1 - (z : Int)
  · obtain ⟨i, hi⟩ : ∃ i : Nat, i = t.ns.length - 1 - z := ⟨_, rfl⟩
    have ei : (t.ns.length : Int) - 1 - (z : Int) = (i : Int) := by omega
    have ix := hv1.ix (k := .i64) (j := i) (by omega) (by omega)
    have rd := hv1.rd (j := i) (by omega) (by omega)
    simp only [nth, Int.toNat_natCast] at rd
    have st : firstAt q (z + 1) (t.ns.length - (z + 1)) = if q i = true then (i : Int) else firstAt q z (t.ns.length - z) := by
      rw [show t.ns.length - (z + 1) = i by omega, show t.ns.length - z = i + 1 by omega]
      rfl
    have hqi : q i = decide (t.ns.getD i 0 ≠ 0) := by rw [hq]
    by_cases h0 : t.ns.getD i 0 = 0
    · rw [hqi, decide_eq_false (fun y => y h0), if_neg (by decide)] at st
      ((try simp (maxSteps := 3000000) (dsimp := false) (disch := first | omega | (simp only [len_new, len_put, len_kill]; omega)) only [↓ypre, ypost, ↓reduceIte, Nat.reduceEqDiff, Nat.reduceAdd, Nat.reduceSub, Nat.reduceLeDiff, Nat.zero_add, Nat.sub_zero, ynew, f1, f4, f5, rd1_of hb1, decide_eq_true (show (0 : Int) ≤ (i : Int) by omega), ei, ix, rd, decide_eq_false (show ¬ t.ns.getD i 0 ≠ 0 from fun y => y h0), wrap64_in]); try simp only [yback])
      refine InvQ_go (t.ns.length - (z + 1)) (by omega) ⟨(z + 1), rfl, by omega, (by first | rfl | exact f1 | (simp only [upd_apply]; rfl) | (show I64 _ = _; congr 1; omega)), (by rw [st]; exact f4), (by show I64 _ = I64 _; congr 1; omega), rfl⟩
    · rw [hqi, decide_eq_true h0, if_pos rfl] at st
      ((try simp (maxSteps := 3000000) (dsimp := false) (disch := first | omega | (simp only [len_new, len_put, len_kill]; omega)) only [↓ypre, ypost, ↓reduceIte, Nat.reduceEqDiff, Nat.reduceAdd, Nat.reduceSub, Nat.reduceLeDiff, Nat.zero_add, Nat.sub_zero, ynew, f1, f4, f5, rd1_of hb1, decide_eq_true (show (0 : Int) ≤ (i : Int) by omega), ei, ix, rd, decide_eq_true (show t.ns.getD i 0 ≠ 0 from h0), wrap64_in]); try simp only [yback])
      refine InvQ_go (t.ns.length - (z + 1)) (by omega) ⟨(z + 1), rfl, by omega, (by first | rfl | exact f1 | (simp only [upd_apply]; rfl) | (show I64 _ = _; congr 1; omega)), (by rw [st]; rfl), (by show I64 _ = I64 _; congr 1; omega), rfl⟩
  have ez : z = t.ns.length := by omega
  subst ez
  have efc : firstAt q t.ns.length (t.ns.length - t.ns.length) = fcF t := by
    rw [Nat.sub_self, hq]
    rfl
  rw [efc] at f4
  have sp := firstAt_spec (q := fun n => decide (t.ns.getD n 0 ≠ 0)) (m := t.ns.length) (i := 0)
  rw [show firstAt (fun n => decide (t.ns.getD n 0 ≠ 0)) t.ns.length 0 = fcF t from rfl] at sp
  rcases sp with ⟨sq1, sq2⟩ | ⟨r, sq1, _, sq3, sq4⟩
  · have no : fcOK t = false := by
      unfold fcOK
      rw [sq1]
      rfl
    rw [sq1] at f4
    ((try simp (maxSteps := 3000000) (dsimp := false) (disch := first | omega | (simp only [len_new, len_put, len_kill]; omega)) only [↓ypre, ypost, ↓reduceIte, Nat.reduceEqDiff, Nat.reduceAdd, Nat.reduceSub, Nat.reduceLeDiff, Nat.zero_add, Nat.sub_zero, ynew, f1, f4, f5, decide_eq_false hlt, decide_eq_true (show (-1 : Int) < 0 by decide)]); try simp only [yback])
    have := hQ (.slice none 0 0) _ p1 (fun h => by rw [no] at h; cases h) (fun _ => rfl)
    rw [no] at this
    exact this
  have hr : r < t.ns.length := by omega
  have hnz : t.ns.getD r 0 ≠ 0 := by simpa using sq4
  obtain ⟨pi, pj, pk, pe⟩ := fc_places tf (f := fcF t) (by omega)
  have enth : nth t.ns (fcF t) = t.ns.getD r 0 := by
    rw [sq1]
    unfold nth
    rw [Int.toNat_natCast]
  have eE : fcE t = invN t.p (nth t.ns (fcF t)) := rfl
  have tin := tat_in tf pi pj pk
  have iv := invN_is hP (n := nth t.ns (fcF t)) (by rw [pe] at tin; rw [enth] at tin ⊢; omega)
  rw [← eE] at iv
  have ivb := iv.1
  have ivb2 := iv.2.1
  have okd : fcOK t = allN t.ns.length (fcAt t (fcF t) (fcE t)) := by
    unfold fcOK
    rw [decide_eq_true (show 0 ≤ fcF t by omega), Bool.true_and]
  have eR : fcR t = [fcU t (fcF t) (fcE t), fcV t (fcF t) (fcE t), fcW t (fcF t)] := rfl
  have hf0 : 0 ≤ fcF t := by omega
  have hfl : fcF t < t.ns.length := by omega
  rw [okd, eR] at hQ
  clear eE okd eR efc
  generalize fcF t = fz at *
  generalize fcE t = e at *
  have q1 : fz.tdiv (t.j * t.k) = fcI t fz := by
    rw [Int.tdiv_eq_ediv_of_nonneg hf0]
    unfold fcI
    rw [Int.ediv_ediv_of_nonneg (by omega), Int.mul_comm]
  have q2 : fz.tdiv t.k = fz / t.k := Int.tdiv_eq_ediv_of_nonneg hf0
  have q2b : 0 ≤ fz / t.k ∧ fz / t.k ≤ fz := ⟨Int.ediv_nonneg hf0 (by omega), Int.ediv_le_self _ hf0⟩
  have q3 : (fz / t.k).tmod t.j = fcJ t fz := by
    rw [Int.tmod_eq_emod_of_nonneg q2b.1]
    rfl
  have q4 : fz.tmod t.k = fcK t fz := by
    rw [Int.tmod_eq_emod_of_nonneg hf0]
    rfl
  have ixf := hv1.ix (k := .i64) (j := fz) (by omega) (by omega)
  have rdf := hv1.rd (j := fz) (by omega) (by omega)
  ((try simp (maxSteps := 3000000) (dsimp := false) (disch := first | omega | (simp only [len_new, len_put, len_kill]; omega)) only [↓ypre, ypost, ↓reduceIte, Nat.reduceEqDiff, Nat.reduceAdd, Nat.reduceSub, Nat.reduceLeDiff, Nat.zero_add, Nat.sub_zero, ynew, f1, f4, f5, decide_eq_false hlt, decide_eq_false (show ¬ fz < 0 by omega), rd1_of hb1, bin_quo, bin_rem, q1, q2, q3, q4, ixf, rdf, wrap64_in]); try simp only [yback])
  refine s_l01Inverse p5 (by rw [pe] at tin; rw [enth] at tin ⊢; omega) iv ?_
  ((try simp (maxSteps := 3000000) (dsimp := false) (disch := first | omega | (simp only [len_new, len_put, len_kill]; omega)) only [↓ypre, ypost, ↓reduceIte, Nat.reduceEqDiff, Nat.reduceAdd, Nat.reduceSub, Nat.reduceLeDiff, Nat.zero_add, Nat.sub_zero, ynew, f1, f4, f5]); try simp only [yback])
  generalize hH2 : AH.new K1 _ = H2
  obtain ⟨hb2, p2, n2⟩ := new_facts hH2
  generalize hH3 : AH.new H2 _ = H3
  obtain ⟨hb3, p3, n3⟩ := new_facts hH3
  generalize hH4 : AH.new H3 _ = H4
  obtain ⟨hb4, p4, n4⟩ := new_facts hH4
  have pz := (p2.trans p3).trans p4
  have lu : Lst H4 K1.length (gen 0 (fun a : Nat => (tat t a (fcJ t fz) (fcK t fz) * e).tmod t.p)) true := pre_get (p3.trans p4) hb2
  have lv : Lst H4 H2.length [] true := pre_get p4 hb3
  have lw : Lst H4 H3.length [] true := hb4
  refine WC_loop_inv (fun m f K2 => ∃ (a : Nat) (ku : Nat) (fu : Bool), m = t.i.toNat - a ∧ a ≤ t.i.toNat ∧ f 1 = .pointer (some ⟨h.length, 0, none⟩) ∧ f 6 = I64 (fcI t fz) ∧ f 7 = I64 (fcJ t fz) ∧ f 8 = I64 (fcK t fz) ∧ f 9 = I64 e ∧ f 10 = sl ku (gen a (fun a : Nat => (tat t a (fcJ t fz) (fcK t fz) * e).tmod t.p)).length ∧ f 11 = sl H2.length 0 ∧ f 12 = sl H3.length 0 ∧ f 13 = I64 a ∧ (K1 <+: K2) ∧ (Lst K2 ku (gen a (fun a : Nat => (tat t a (fcJ t fz) (fcK t fz) * e).tmod t.p)) fu) ∧ (Lst K2 H2.length [] true) ∧ (Lst K2 H3.length [] true) ∧ ((K1.length ≤ ku ∧ K1.length ≤ H2.length ∧ K1.length ≤ H3.length) ∧ ku ≠ H2.length ∧ ku ≠ H3.length ∧ H2.length ≠ H3.length)) ?_ (t.i.toNat - 0) _ _ ⟨0, K1.length, true, rfl, by omega, (by first | rfl | exact f1 | (simp [upd_apply]; done)), (by first | rfl | simp [upd_apply]), (by first | rfl | simp [upd_apply]), (by first | rfl | simp [upd_apply]), (by first | rfl | simp [upd_apply]), (by first | rfl | simp [upd_apply]), (by first | rfl | simp [upd_apply]), (by first | rfl | simp [upd_apply]), (by first | rfl | simp [upd_apply]), pz, lu, lv, lw, ⟨⟨by omega, by omega, by omega⟩, by omega, by omega, by omega⟩⟩
  rintro m f K2 ⟨a, ku, fu, rfl, ha, f1, f6, f7, f8, f9, f10, f11, f12, f13, pp, lu, lv, lw, hd⟩
  have hbK := pre_get pp hb1
  have hvK := hv.pre (p1.trans pp)
  have gl := gen_len (N := a) (g := fun a : Nat => (tat t a (fcJ t fz) (fcK t fz) * e).tmod t.p)
  by_cases hlt : (a : Int) < t.i
  · have ta := tat_in tf (i := (a : Int)) (show 0 ≤ (a : Int) ∧ (a : Int) < t.i by omega) pj pk
    ((try simp (maxSteps := 3000000) (dsimp := false) (disch := first | omega | (simp only [len_new, len_put, len_kill]; omega)) only [↓ypre, ypost, ↓reduceIte, Nat.reduceEqDiff, Nat.reduceAdd, Nat.reduceSub, Nat.reduceLeDiff, Nat.zero_add, Nat.sub_zero, ynew, f1, f6, f7, f8, f9, f10, f11, f12, f13, rd1_of hbK, decide_eq_true hlt, rdn_of hbK]); try simp only [yback])
    refine s_l05At hvK tf (by omega) pj pk fun H5 p5 => ?_
    have mb := mul_in (A := 5) (B := 5) (show 0 ≤ tat t a (fcJ t fz) (fcK t fz) ∧ tat t a (fcJ t fz) (fcK t fz) ≤ 5 by omega) (show 0 ≤ e ∧ e ≤ 5 by omega)
    ((try simp (maxSteps := 3000000) (dsimp := false) (disch := first | omega | (simp only [len_new, len_put, len_kill]; omega)) only [↓ypre, ypost, ↓reduceIte, Nat.reduceEqDiff, Nat.reduceAdd, Nat.reduceSub, Nat.reduceLeDiff, Nat.zero_add, Nat.sub_zero, ynew, f1, f6, f7, f8, f9, f10, f11, f12, f13, rd1_of (pre_get p5 hbK), bin_rem, wrap64_in]); try simp only [yback])
    refine ⟨p5, ?_⟩
    refine (lu.pre p5).app3 (by omega) fun H6 l6 pre6 keep6 lu' => ?_
    have l5 := pre_len p5
    have lt0 := lu.lt
    have lt1 := lv.lt
    have lt2 := lw.lt
    ((try simp (maxSteps := 3000000) (dsimp := false) (disch := first | omega | (simp only [len_new, len_put, len_kill]; omega)) only [↓ypre, ypost, ↓reduceIte, Nat.reduceEqDiff, Nat.reduceAdd, Nat.reduceSub, Nat.reduceLeDiff, Nat.zero_add, Nat.sub_zero, ynew, f1, f6, f7, f8, f9, f10, f11, f12, f13, wrap64_in]); try simp only [yback])
    rw [← gen_succ] at lu'
    refine InvQ_go (t.i.toNat - (a + 1)) (by omega) ⟨(a + 1), (H5.length + 1), false, rfl, by omega, (by first | rfl | exact f1 | (simp only [upd_apply]; rfl) | (show I64 _ = _; congr 1; omega)), (by first | rfl | exact f6 | (simp only [upd_apply]; rfl) | (show I64 _ = _; congr 1; omega)), (by first | rfl | exact f7 | (simp only [upd_apply]; rfl) | (show I64 _ = _; congr 1; omega)), (by first | rfl | exact f8 | (simp only [upd_apply]; rfl) | (show I64 _ = _; congr 1; omega)), (by first | rfl | exact f9 | (simp only [upd_apply]; rfl) | (show I64 _ = _; congr 1; omega)), (by rw [gen_succ]; rfl), (by first | rfl | exact f11 | (simp only [upd_apply]; rfl) | (show I64 _ = _; congr 1; omega)), (by first | rfl | exact f12 | (simp only [upd_apply]; rfl) | (show I64 _ = _; congr 1; omega)), (by first | rfl | exact f13 | (simp only [upd_apply]; rfl) | (show I64 _ = _; congr 1; omega)), (pre6 _ hd.1.1 (pp.trans p5)), lu', (keep6 _ _ (fun e => hd.2.1 e.symm) (lv.pre p5)), (keep6 _ _ (fun e => hd.2.2.1 e.symm) (lw.pre p5)), ⟨⟨by omega, by omega, by omega⟩, by omega, by omega, by omega⟩⟩
  have ea : a = t.i.toNat := by omega
  subst ea
  ((try simp (maxSteps := 3000000) (dsimp := false) (disch := first | omega | (simp only [len_new, len_put, len_kill]; omega)) only [↓ypre, ypost, ↓reduceIte, Nat.reduceEqDiff, Nat.reduceAdd, Nat.reduceSub, Nat.reduceLeDiff, Nat.zero_add, Nat.sub_zero, ynew, f1, f6, f7, f8, f9, f10, f11, f12, f13, rd1_of hbK, decide_eq_false hlt]); try simp only [yback])
  refine WC_loop_inv (fun m f K3 => ∃ (b : Nat) (kv : Nat) (fv : Bool), m = t.j.toNat - b ∧ b ≤ t.j.toNat ∧ f 1 = .pointer (some ⟨h.length, 0, none⟩) ∧ f 6 = I64 (fcI t fz) ∧ f 7 = I64 (fcJ t fz) ∧ f 8 = I64 (fcK t fz) ∧ f 9 = I64 e ∧ f 10 = sl ku (gen t.i.toNat (fun a : Nat => (tat t a (fcJ t fz) (fcK t fz) * e).tmod t.p)).length ∧ f 11 = sl kv (gen b (fun b : Nat => (tat t (fcI t fz) b (fcK t fz) * e).tmod t.p)).length ∧ f 12 = sl H3.length 0 ∧ f 14 = I64 b ∧ (K1 <+: K3) ∧ (Lst K3 ku (gen t.i.toNat (fun a : Nat => (tat t a (fcJ t fz) (fcK t fz) * e).tmod t.p)) fu) ∧ (Lst K3 kv (gen b (fun b : Nat => (tat t (fcI t fz) b (fcK t fz) * e).tmod t.p)) fv) ∧ (Lst K3 H3.length [] true) ∧ ((K1.length ≤ ku ∧ K1.length ≤ kv ∧ K1.length ≤ H3.length) ∧ ku ≠ kv ∧ ku ≠ H3.length ∧ kv ≠ H3.length)) ?_ (t.j.toNat - 0) _ _ ⟨0, H2.length, true, rfl, by omega, (by first | rfl | exact f1 | (simp [upd_apply]; done)), (by first | rfl | exact f6 | (simp [upd_apply]; done)), (by first | rfl | exact f7 | (simp [upd_apply]; done)), (by first | rfl | exact f8 | (simp [upd_apply]; done)), (by first | rfl | exact f9 | (simp [upd_apply]; done)), (by first | rfl | exact f10 | (simp [upd_apply]; done)), (by first | rfl | exact f11 | (simp [upd_apply]; done)), (by first | rfl | exact f12 | (simp [upd_apply]; done)), (by first | rfl | simp [upd_apply]), pp, lu, lv, lw, hd⟩
  rintro m f K3 ⟨b, kv, fv, rfl, hb, f1, f6, f7, f8, f9, f10, f11, f12, f14, pp, lu, lv, lw, hd⟩
  have hbK := pre_get pp hb1
  have hvK := hv.pre (p1.trans pp)
  have gl := gen_len (N := b) (g := fun b : Nat => (tat t (fcI t fz) b (fcK t fz) * e).tmod t.p)
  by_cases hlt : (b : Int) < t.j
  · have ta := tat_in tf pi (show 0 ≤ (b : Int) ∧ (b : Int) < t.j by omega) pk
    ((try simp (maxSteps := 3000000) (dsimp := false) (disch := first | omega | (simp only [len_new, len_put, len_kill]; omega)) only [↓ypre, ypost, ↓reduceIte, Nat.reduceEqDiff, Nat.reduceAdd, Nat.reduceSub, Nat.reduceLeDiff, Nat.zero_add, Nat.sub_zero, ynew, f1, f6, f7, f8, f9, f10, f11, f12, f14, rd1_of hbK, decide_eq_true hlt, rdn_of hbK]); try simp only [yback])
    refine s_l05At hvK tf pi (by omega) pk fun H5 p5 => ?_
    have mb := mul_in (A := 5) (B := 5) (show 0 ≤ tat t (fcI t fz) b (fcK t fz) ∧ tat t (fcI t fz) b (fcK t fz) ≤ 5 by omega) (show 0 ≤ e ∧ e ≤ 5 by omega)
    ((try simp (maxSteps := 3000000) (dsimp := false) (disch := first | omega | (simp only [len_new, len_put, len_kill]; omega)) only [↓ypre, ypost, ↓reduceIte, Nat.reduceEqDiff, Nat.reduceAdd, Nat.reduceSub, Nat.reduceLeDiff, Nat.zero_add, Nat.sub_zero, ynew, f1, f6, f7, f8, f9, f10, f11, f12, f14, rd1_of (pre_get p5 hbK), bin_rem, wrap64_in]); try simp only [yback])
    refine ⟨p5, ?_⟩
    refine (lv.pre p5).app3 (by omega) fun H6 l6 pre6 keep6 lv' => ?_
    have l5 := pre_len p5
    have lt0 := lu.lt
    have lt1 := lv.lt
    have lt2 := lw.lt
    ((try simp (maxSteps := 3000000) (dsimp := false) (disch := first | omega | (simp only [len_new, len_put, len_kill]; omega)) only [↓ypre, ypost, ↓reduceIte, Nat.reduceEqDiff, Nat.reduceAdd, Nat.reduceSub, Nat.reduceLeDiff, Nat.zero_add, Nat.sub_zero, ynew, f1, f6, f7, f8, f9, f10, f11, f12, f14, wrap64_in]); try simp only [yback])
    rw [← gen_succ] at lv'
    refine InvQ_go (t.j.toNat - (b + 1)) (by omega) ⟨(b + 1), (H5.length + 1), false, rfl, by omega, (by first | rfl | exact f1 | (simp only [upd_apply]; rfl) | (show I64 _ = _; congr 1; omega)), (by first | rfl | exact f6 | (simp only [upd_apply]; rfl) | (show I64 _ = _; congr 1; omega)), (by first | rfl | exact f7 | (simp only [upd_apply]; rfl) | (show I64 _ = _; congr 1; omega)), (by first | rfl | exact f8 | (simp only [upd_apply]; rfl) | (show I64 _ = _; congr 1; omega)), (by first | rfl | exact f9 | (simp only [upd_apply]; rfl) | (show I64 _ = _; congr 1; omega)), (by first | rfl | exact f10 | (simp only [upd_apply]; rfl) | (show I64 _ = _; congr 1; omega)), (by rw [gen_succ]; rfl), (by first | rfl | exact f12 | (simp only [upd_apply]; rfl) | (show I64 _ = _; congr 1; omega)), (by first | rfl | exact f14 | (simp only [upd_apply]; rfl) | (show I64 _ = _; congr 1; omega)), (pre6 _ hd.1.2.1 (pp.trans p5)), (keep6 _ _ hd.2.1 (lu.pre p5)), lv', (keep6 _ _ (fun e => hd.2.2.2 e.symm) (lw.pre p5)), ⟨⟨by omega, by omega, by omega⟩, by omega, by omega, by omega⟩⟩
  have eb : b = t.j.toNat := by omega
  subst eb
  ((try simp (maxSteps := 3000000) (dsimp := false) (disch := first | omega | (simp only [len_new, len_put, len_kill]; omega)) only [↓ypre, ypost, ↓reduceIte, Nat.reduceEqDiff, Nat.reduceAdd, Nat.reduceSub, Nat.reduceLeDiff, Nat.zero_add, Nat.sub_zero, ynew, f1, f6, f7, f8, f9, f10, f11, f12, f14, rd1_of hbK, decide_eq_false hlt]); try simp only [yback])
  refine WC_loop_inv (fun m f K4 => ∃ (c : Nat) (kw : Nat) (fw : Bool), m = t.k.toNat - c ∧ c ≤ t.k.toNat ∧ f 1 = .pointer (some ⟨h.length, 0, none⟩) ∧ f 6 = I64 (fcI t fz) ∧ f 7 = I64 (fcJ t fz) ∧ f 8 = I64 (fcK t fz) ∧ f 9 = I64 e ∧ f 10 = sl ku (gen t.i.toNat (fun a : Nat => (tat t a (fcJ t fz) (fcK t fz) * e).tmod t.p)).length ∧ f 11 = sl kv (gen t.j.toNat (fun b : Nat => (tat t (fcI t fz) b (fcK t fz) * e).tmod t.p)).length ∧ f 12 = sl kw (gen c (fun c : Nat => tat t (fcI t fz) (fcJ t fz) c)).length ∧ f 15 = I64 c ∧ (K1 <+: K4) ∧ (Lst K4 ku (gen t.i.toNat (fun a : Nat => (tat t a (fcJ t fz) (fcK t fz) * e).tmod t.p)) fu) ∧ (Lst K4 kv (gen t.j.toNat (fun b : Nat => (tat t (fcI t fz) b (fcK t fz) * e).tmod t.p)) fv) ∧ (Lst K4 kw (gen c (fun c : Nat => tat t (fcI t fz) (fcJ t fz) c)) fw) ∧ ((K1.length ≤ ku ∧ K1.length ≤ kv ∧ K1.length ≤ kw) ∧ ku ≠ kv ∧ ku ≠ kw ∧ kv ≠ kw)) ?_ (t.k.toNat - 0) _ _ ⟨0, H3.length, true, rfl, by omega, (by first | rfl | exact f1 | (simp [upd_apply]; done)), (by first | rfl | exact f6 | (simp [upd_apply]; done)), (by first | rfl | exact f7 | (simp [upd_apply]; done)), (by first | rfl | exact f8 | (simp [upd_apply]; done)), (by first | rfl | exact f9 | (simp [upd_apply]; done)), (by first | rfl | exact f10 | (simp [upd_apply]; done)), (by first | rfl | exact f11 | (simp [upd_apply]; done)), (by first | rfl | exact f12 | (simp [upd_apply]; done)), (by first | rfl | simp [upd_apply]), pp, lu, lv, lw, hd⟩
  rintro m f K4 ⟨c, kw, fw, rfl, hc, f1, f6, f7, f8, f9, f10, f11, f12, f15, pp, lu, lv, lw, hd⟩
  have hbK := pre_get pp hb1
  have hvK := hv.pre (p1.trans pp)
  have gl := gen_len (N := c) (g := fun c : Nat => tat t (fcI t fz) (fcJ t fz) c)
  by_cases hlt : (c : Int) < t.k
  · have ta := tat_in tf pi pj (show 0 ≤ (c : Int) ∧ (c : Int) < t.k by omega)
    ((try simp (maxSteps := 3000000) (dsimp := false) (disch := first | omega | (simp only [len_new, len_put, len_kill]; omega)) only [↓ypre, ypost, ↓reduceIte, Nat.reduceEqDiff, Nat.reduceAdd, Nat.reduceSub, Nat.reduceLeDiff, Nat.zero_add, Nat.sub_zero, ynew, f1, f6, f7, f8, f9, f10, f11, f12, f15, rd1_of hbK, decide_eq_true hlt, rdn_of hbK]); try simp only [yback])
    refine s_l05At hvK tf pi pj (by omega) fun H5 p5 => ?_
    ((try simp (maxSteps := 3000000) (dsimp := false) (disch := first | omega | (simp only [len_new, len_put, len_kill]; omega)) only [↓ypre, ypost, ↓reduceIte, Nat.reduceEqDiff, Nat.reduceAdd, Nat.reduceSub, Nat.reduceLeDiff, Nat.zero_add, Nat.sub_zero, ynew, f1, f6, f7, f8, f9, f10, f11, f12, f15, wrap64_in]); try simp only [yback])
    refine (lw.pre p5).app3 (by omega) fun H6 l6 pre6 keep6 lw' => ?_
    have l5 := pre_len p5
    have lt0 := lu.lt
    have lt1 := lv.lt
    have lt2 := lw.lt
    ((try simp (maxSteps := 3000000) (dsimp := false) (disch := first | omega | (simp only [len_new, len_put, len_kill]; omega)) only [↓ypre, ypost, ↓reduceIte, Nat.reduceEqDiff, Nat.reduceAdd, Nat.reduceSub, Nat.reduceLeDiff, Nat.zero_add, Nat.sub_zero, ynew, f1, f6, f7, f8, f9, f10, f11, f12, f15, wrap64_in]); try simp only [yback])
    rw [← gen_succ] at lw'
    refine InvQ_go (t.k.toNat - (c + 1)) (by omega) ⟨(c + 1), (H5.length + 1), false, rfl, by omega, (by first | rfl | exact f1 | (simp only [upd_apply]; rfl) | (show I64 _ = _; congr 1; omega)), (by first | rfl | exact f6 | (simp only [upd_apply]; rfl) | (show I64 _ = _; congr 1; omega)), (by first | rfl | exact f7 | (simp only [upd_apply]; rfl) | (show I64 _ = _; congr 1; omega)), (by first | rfl | exact f8 | (simp only [upd_apply]; rfl) | (show I64 _ = _; congr 1; omega)), (by first | rfl | exact f9 | (simp only [upd_apply]; rfl) | (show I64 _ = _; congr 1; omega)), (by first | rfl | exact f10 | (simp only [upd_apply]; rfl) | (show I64 _ = _; congr 1; omega)), (by first | rfl | exact f11 | (simp only [upd_apply]; rfl) | (show I64 _ = _; congr 1; omega)), (by rw [gen_succ]; rfl), (by first | rfl | exact f15 | (simp only [upd_apply]; rfl) | (show I64 _ = _; congr 1; omega)), (pre6 _ hd.1.2.2 (pp.trans p5)), (keep6 _ _ hd.2.2.1 (lu.pre p5)), (keep6 _ _ hd.2.2.2 (lv.pre p5)), lw', ⟨⟨by omega, by omega, by omega⟩, by omega, by omega, by omega⟩⟩
  have ec : c = t.k.toNat := by omega
  subst ec
  ((try simp (maxSteps := 3000000) (dsimp := false) (disch := first | omega | (simp only [len_new, len_put, len_kill]; omega)) only [↓ypre, ypost, ↓reduceIte, Nat.reduceEqDiff, Nat.reduceAdd, Nat.reduceSub, Nat.reduceLeDiff, Nat.zero_add, Nat.sub_zero, ynew, f1, f6, f7, f8, f9, f10, f11, f12, f15, rd1_of hbK, decide_eq_false hlt]); try simp only [yback])
  have lts0 := lu.lt
  have lts1 := lv.lt
  have lts2 := lw.lt
  obtain ⟨okF, hokF⟩ : ∃ okF, okF = fcAt t fz e := ⟨_, rfl⟩
  rw [← hokF] at hQ
  refine WC_loop_inv (fun m f K5 => ∃ (n : Nat), m = t.ns.length - n ∧ n ≤ t.ns.length ∧ f 1 = .pointer (some ⟨h.length, 0, none⟩) ∧ f 10 = sl ku (gen t.i.toNat (fun a : Nat => (tat t a (fcJ t fz) (fcK t fz) * e).tmod t.p)).length ∧ f 11 = sl kv (gen t.j.toNat (fun b : Nat => (tat t (fcI t fz) b (fcK t fz) * e).tmod t.p)).length ∧ f 12 = sl kw (gen t.k.toNat (fun c : Nat => tat t (fcI t fz) (fcJ t fz) c)).length ∧ f 16 = I64 n ∧ K5 = K4 ∧ (∀ j, j < n → okF j = true)) ?_ (t.ns.length - 0) _ _ ⟨0, rfl, by omega, (by first | rfl | exact f1 | (simp [upd_apply]; done)), (by first | rfl | exact f10 | (simp [upd_apply]; done)), (by first | rfl | exact f11 | (simp [upd_apply]; done)), (by first | rfl | exact f12 | (simp [upd_apply]; done)), (by first | rfl | simp [upd_apply]), rfl, (by omega)⟩
  rintro m f K5 ⟨n, rfl, hn, f1, f10, f11, f12, f16, rfl, ok⟩
  have lU := gen_len (N := t.i.toNat) (g := fun a : Nat => (tat t a (fcJ t fz) (fcK t fz) * e).tmod t.p)
  have lV := gen_len (N := t.j.toNat) (g := fun b : Nat => (tat t (fcI t fz) b (fcK t fz) * e).tmod t.p)
  have lW := gen_len (N := t.k.toNat) (g := fun c : Nat => tat t (fcI t fz) (fcJ t fz) c)
  have eU : fcU t fz e = gen t.i.toNat (fun a : Nat => (tat t a (fcJ t fz) (fcK t fz) * e).tmod t.p) := rfl
  have eV : fcV t fz e = gen t.j.toNat (fun b : Nat => (tat t (fcI t fz) b (fcK t fz) * e).tmod t.p) := rfl
  have eW : fcW t fz = gen t.k.toNat (fun c : Nat => tat t (fcI t fz) (fcJ t fz) c) := rfl
  by_cases hlt : (n : Int) < t.ns.length
  · have hn : n < t.ns.length := by omega
    obtain ⟨ri, rj, rk', re⟩ := fc_places tf (f := (n : Int)) (by omega)
    have w1 : (n : Int).tdiv (t.j * t.k) = fcI t n := by
      rw [Int.tdiv_eq_ediv_of_nonneg (by omega)]
      unfold fcI
      rw [Int.ediv_ediv_of_nonneg (by omega), Int.mul_comm]
    have w2 : (n : Int).tdiv t.k = (n : Int) / t.k := Int.tdiv_eq_ediv_of_nonneg (by omega)
    have w2b : 0 ≤ (n : Int) / t.k ∧ (n : Int) / t.k ≤ n := ⟨Int.ediv_nonneg (by omega) (by omega), Int.ediv_le_self _ (by omega)⟩
    have w3 : ((n : Int) / t.k).tmod t.j = fcJ t n := by
      rw [Int.tmod_eq_emod_of_nonneg w2b.1]
      rfl
    have w4 : (n : Int).tmod t.k = fcK t n := by
      rw [Int.tmod_eq_emod_of_nonneg (by omega)]
      rfl
    have ixu := Lst.ix (n := ku) (j := fcI t n) (len := (gen t.i.toNat (fun a : Nat => (tat t a (fcJ t fz) (fcK t fz) * e).tmod t.p)).length) (by omega)
    have ixv := Lst.ix (n := kv) (j := fcJ t n) (len := (gen t.j.toNat (fun b : Nat => (tat t (fcI t fz) b (fcK t fz) * e).tmod t.p)).length) (by omega)
    have ixw := Lst.ix (n := kw) (j := fcK t n) (len := (gen t.k.toNat (fun c : Nat => tat t (fcI t fz) (fcJ t fz) c)).length) (by omega)
    have rdu := lu.rd (j := (fcI t n).toNat) (by omega)
    have rdv := lv.rd (j := (fcJ t n).toNat) (by omega)
    have rdw := lw.rd (j := (fcK t n).toNat) (by omega)
    have bu := tmod_nn (a := tat t ((fcI t n).toNat : Nat) (fcJ t fz) (fcK t fz) * e) (J := t.p) (Int.mul_nonneg (tat_in tf (by omega) pj pk).1 (by omega)) (by omega)
    have bv := tmod_nn (a := tat t (fcI t fz) ((fcJ t n).toNat : Nat) (fcK t fz) * e) (J := t.p) (Int.mul_nonneg (tat_in tf pi (by omega) pk).1 (by omega)) (by omega)
    have bw := tat_in tf pi pj (k := ((fcK t n).toNat : Nat)) (by omega)
    have gu : (gen t.i.toNat (fun a : Nat => (tat t a (fcJ t fz) (fcK t fz) * e).tmod t.p)).getD (fcI t n).toNat 0 = (tat t ((fcI t n).toNat : Nat) (fcJ t fz) (fcK t fz) * e).tmod t.p := gen_get (by omega)
    have gv : (gen t.j.toNat (fun b : Nat => (tat t (fcI t fz) b (fcK t fz) * e).tmod t.p)).getD (fcJ t n).toNat 0 = (tat t (fcI t fz) ((fcJ t n).toNat : Nat) (fcK t fz) * e).tmod t.p := gen_get (by omega)
    have gw : (gen t.k.toNat (fun c : Nat => tat t (fcI t fz) (fcJ t fz) c)).getD (fcK t n).toNat 0 = tat t (fcI t fz) (fcJ t fz) ((fcK t n).toNat : Nat) := gen_get (by omega)
    rw [← gu] at bu
    rw [← gv] at bv
    rw [← gw] at bw
    have en : okF n = decide (((gen t.i.toNat (fun a : Nat => (tat t a (fcJ t fz) (fcK t fz) * e).tmod t.p)).getD (fcI t n).toNat 0 * (gen t.j.toNat (fun b : Nat => (tat t (fcI t fz) b (fcK t fz) * e).tmod t.p)).getD (fcJ t n).toNat 0 * (gen t.k.toNat (fun c : Nat => tat t (fcI t fz) (fcJ t fz) c)).getD (fcK t n).toNat 0).tmod t.p = t.ns.getD n 0) := by
      rw [hokF]
      rfl
    have ixn := hvK.ix (k := .i64) (j := n) (by omega) (by omega)
    have rdn := hvK.rd (j := n) (by omega) (by omega)
    simp only [nth, Int.toNat_natCast] at rdn
    clear gu gv gw
    generalize (gen t.i.toNat (fun a : Nat => (tat t a (fcJ t fz) (fcK t fz) * e).tmod t.p)).getD (fcI t n).toNat 0 = xu at *
    generalize (gen t.j.toNat (fun b : Nat => (tat t (fcI t fz) b (fcK t fz) * e).tmod t.p)).getD (fcJ t n).toNat 0 = xv at *
    generalize (gen t.k.toNat (fun c : Nat => tat t (fcI t fz) (fcJ t fz) c)).getD (fcK t n).toNat 0 = xw at *
    have m1 := mul_in (a := xu) (b := xv) (A := 5) (B := 5) (by omega) (by omega)
    have m2 := mul_in (a := xu * xv) (b := xw) (A := 25) (B := 5) m1 (by omega)
    ((try simp (maxSteps := 3000000) (dsimp := false) (disch := first | omega | (simp only [len_new, len_put, len_kill]; omega)) only [↓ypre, ypost, ↓reduceIte, Nat.reduceEqDiff, Nat.reduceAdd, Nat.reduceSub, Nat.reduceLeDiff, Nat.zero_add, Nat.sub_zero, ynew, f1, f10, f11, f12, f16, rd1_of hbK, hvK.len, decide_eq_true hlt, bin_quo, bin_rem, w1, w2, w3, w4, ixu, rdu, ixv, rdv, ixw, rdw, ixn, rdn, wrap64_in]); try simp only [yback])
    by_cases hc : (xu * xv * xw).tmod t.p = t.ns.getD n 0
    · rw [decide_eq_true hc] at en
      ((try simp (maxSteps := 3000000) (dsimp := false) (disch := first | omega | (simp only [len_new, len_put, len_kill]; omega)) only [↓ypre, ypost, ↓reduceIte, Nat.reduceEqDiff, Nat.reduceAdd, Nat.reduceSub, Nat.reduceLeDiff, Nat.zero_add, Nat.sub_zero, ynew, f1, f10, f11, f12, f16, decide_eq_false (show ¬ (xu * xv * xw).tmod t.p ≠ t.ns.getD n 0 from fun y => y hc), wrap64_in]); try simp only [yback])
      refine InvQ_go (t.ns.length - (n + 1)) (by omega) ⟨(n + 1), rfl, by omega, (by first | rfl | exact f1 | (simp only [upd_apply]; rfl) | (show I64 _ = _; congr 1; omega)), (by first | rfl | exact f10 | (simp only [upd_apply]; rfl) | (show I64 _ = _; congr 1; omega)), (by first | rfl | exact f11 | (simp only [upd_apply]; rfl) | (show I64 _ = _; congr 1; omega)), (by first | rfl | exact f12 | (simp only [upd_apply]; rfl) | (show I64 _ = _; congr 1; omega)), (by first | rfl | exact f16 | (simp only [upd_apply]; rfl) | (show I64 _ = _; congr 1; omega)), rfl, ?_⟩
      intro j hj
      by_cases hjn : j = n
      · subst hjn
        exact en
      · exact ok j (by omega)
    · rw [decide_eq_false hc] at en
      have no : allN t.ns.length okF = false := allN_false hn en
      ((try simp (maxSteps := 3000000) (dsimp := false) (disch := first | omega | (simp only [len_new, len_put, len_kill]; omega)) only [↓ypre, ypost, ↓reduceIte, Nat.reduceEqDiff, Nat.reduceAdd, Nat.reduceSub, Nat.reduceLeDiff, Nat.zero_add, Nat.sub_zero, ynew, f1, f10, f11, f12, f16, decide_eq_true (show (xu * xv * xw).tmod t.p ≠ t.ns.getD n 0 from hc)]); try simp only [yback])
      have := hQ (.slice none 0 0) _ (p1.trans pp) (fun y => by rw [no] at y; cases y) (fun _ => rfl)
      rw [no] at this
      exact this
  have en : n = t.ns.length := by omega
  subst en
  ((try simp (maxSteps := 3000000) (dsimp := false) (disch := first | omega | (simp only [len_new, len_put, len_kill]; omega)) only [↓ypre, ypost, ↓reduceIte, Nat.reduceEqDiff, Nat.reduceAdd, Nat.reduceSub, Nat.reduceLeDiff, Nat.zero_add, Nat.sub_zero, ynew, f1, f10, f11, f12, f16, rd1_of hbK, hvK.len, decide_eq_false hlt, sl_cells, sl_one, fillL, zrep]); try simp only [yback])
  have yes : allN t.ns.length okF = true := allN_true ok
  have hp := p1.trans pp
  have o := fc_three hp lu lv lw (by have := pre_len p1; omega) hd.2
  have := hQ _ _ (pre_new hp) (fun _ => o) (fun y => by rw [yes] at y; cases y)
  rw [yes] at this
  exact this
noncomputable def siR (t : Ten) : Bool × Int := if isT t = true then (fcOK t, 0) else (false, 1)
noncomputable def faR (t : Ten) : List (List Int) × Int := if isT t = true then (if fcOK t = true then (fcR t, 0) else ([], 5)) else ([], 1)
theorem s_IsSimple {v : Value} {t : Ten} {h : AH} {Q : Value → AH → Prop} (hv : Ints h v t.ns) (hl : SmallS t.ns)
    (hQ : ∀ h', h <+: h' → Q (.tuple #[.bool (siR t).1, I64 (siR t).2]) h') : WF S 103 [tenV t v] h Q := by
  refine WF_fn (fn := c103) rfl rfl ?_
  unfold c103
  ((try simp (maxSteps := 3000000) (dsimp := false) (disch := first | omega | (simp only [len_new, len_put, len_kill]; omega)) only [↓ypre, ypost, ↓reduceIte, Nat.reduceEqDiff, Nat.reduceAdd, Nat.reduceSub, Nat.reduceLeDiff, Nat.zero_add, Nat.sub_zero, ynew, tenV, hv.one]); try simp only [yback])
  generalize hH1 : AH.new h _ = H1
  obtain ⟨hb1, p1, n1⟩ := new_facts hH1
  ((try simp (maxSteps := 3000000) (dsimp := false) (disch := first | omega | (simp only [len_new, len_put, len_kill]; omega)) only [↓ypre, ypost, ↓reduceIte, Nat.reduceEqDiff, Nat.reduceAdd, Nat.reduceSub, Nat.reduceLeDiff, Nat.zero_add, Nat.sub_zero, ynew, rdn_of hb1]); try simp only [yback])
  refine s_l05Is (hv.pre p1) hl fun H2 p2 => ?_
  have hb2 := pre_get p2 hb1
  unfold siR at hQ
  cases h1 : isT t with
  | false =>
    rw [h1, if_neg (by decide)] at hQ
    ((try simp (maxSteps := 3000000) (dsimp := false) (disch := first | omega | (simp only [len_new, len_put, len_kill]; omega)) only [↓ypre, ypost, ↓reduceIte, Nat.reduceEqDiff, Nat.reduceAdd, Nat.reduceSub, Nat.reduceLeDiff, Nat.zero_add, Nat.sub_zero, ynew]); try simp only [yback])
    exact hQ _ (p1.trans p2)
  | true =>
    rw [h1, if_pos rfl] at hQ
    ((try simp (maxSteps := 3000000) (dsimp := false) (disch := first | omega | (simp only [len_new, len_put, len_kill]; omega)) only [↓ypre, ypost, ↓reduceIte, Nat.reduceEqDiff, Nat.reduceAdd, Nat.reduceSub, Nat.reduceLeDiff, Nat.zero_add, Nat.sub_zero, ynew, rdn_of hb2]); try simp only [yback])
    refine s_l05Factors (hv.pre (p1.trans p2)) (isT_facts h1) (isT_isP h1) fun v' H3 p3 _ _ => ?_
    ((try simp (maxSteps := 3000000) (dsimp := false) (disch := first | omega | (simp only [len_new, len_put, len_kill]; omega)) only [↓ypre, ypost, ↓reduceIte, Nat.reduceEqDiff, Nat.reduceAdd, Nat.reduceSub, Nat.reduceLeDiff, Nat.zero_add, Nat.sub_zero, ynew]); try simp only [yback])
    exact hQ _ ((p1.trans p2).trans p3)
theorem s_FactorsOfSimple {v : Value} {t : Ten} {h : AH} {Q : Value → AH → Prop} (hv : Ints h v t.ns) (hl : SmallS t.ns)
    (hQ : ∀ v' h', h <+: h' → OwnRows h h' v' (faR t).1 → Q (.tuple #[v', I64 (faR t).2]) h') : WF S 101 [tenV t v] h Q := by
  refine WF_fn (fn := c101) rfl rfl ?_
  unfold c101
  ((try simp (maxSteps := 3000000) (dsimp := false) (disch := first | omega | (simp only [len_new, len_put, len_kill]; omega)) only [↓ypre, ypost, ↓reduceIte, Nat.reduceEqDiff, Nat.reduceAdd, Nat.reduceSub, Nat.reduceLeDiff, Nat.zero_add, Nat.sub_zero, ynew, tenV, hv.one]); try simp only [yback])
  generalize hH1 : AH.new h _ = H1
  obtain ⟨hb1, p1, n1⟩ := new_facts hH1
  ((try simp (maxSteps := 3000000) (dsimp := false) (disch := first | omega | (simp only [len_new, len_put, len_kill]; omega)) only [↓ypre, ypost, ↓reduceIte, Nat.reduceEqDiff, Nat.reduceAdd, Nat.reduceSub, Nat.reduceLeDiff, Nat.zero_add, Nat.sub_zero, ynew, rdn_of hb1]); try simp only [yback])
  refine s_l05Is (hv.pre p1) hl fun H2 p2 => ?_
  have hb2 := pre_get p2 hb1
  unfold faR at hQ
  cases h1 : isT t with
  | false =>
    rw [h1, if_neg (by decide)] at hQ
    ((try simp (maxSteps := 3000000) (dsimp := false) (disch := first | omega | (simp only [len_new, len_put, len_kill]; omega)) only [↓ypre, ypost, ↓reduceIte, Nat.reduceEqDiff, Nat.reduceAdd, Nat.reduceSub, Nat.reduceLeDiff, Nat.zero_add, Nat.sub_zero, ynew]); try simp only [yback])
    exact hQ _ _ (p1.trans p2) (.inl ⟨rfl, rfl⟩)
  | true =>
    rw [h1, if_pos rfl] at hQ
    ((try simp (maxSteps := 3000000) (dsimp := false) (disch := first | omega | (simp only [len_new, len_put, len_kill]; omega)) only [↓ypre, ypost, ↓reduceIte, Nat.reduceEqDiff, Nat.reduceAdd, Nat.reduceSub, Nat.reduceLeDiff, Nat.zero_add, Nat.sub_zero, ynew, rdn_of hb2]); try simp only [yback])
    refine s_l05Factors (hv.pre (p1.trans p2)) (isT_facts h1) (isT_isP h1) fun v' H3 p3 o3 _ => ?_
    cases h2 : fcOK t with
    | false =>
      rw [h2, if_neg (by decide)] at hQ
      ((try simp (maxSteps := 3000000) (dsimp := false) (disch := first | omega | (simp only [len_new, len_put, len_kill]; omega)) only [↓ypre, ypost, ↓reduceIte, Nat.reduceEqDiff, Nat.reduceAdd, Nat.reduceSub, Nat.reduceLeDiff, Nat.zero_add, Nat.sub_zero, ynew]); try simp only [yback])
      exact hQ _ _ ((p1.trans p2).trans p3) (.inl ⟨rfl, rfl⟩)
    | true =>
      rw [h2, if_pos rfl] at hQ
      ((try simp (maxSteps := 3000000) (dsimp := false) (disch := first | omega | (simp only [len_new, len_put, len_kill]; omega)) only [↓ypre, ypost, ↓reduceIte, Nat.reduceEqDiff, Nat.reduceAdd, Nat.reduceSub, Nat.reduceLeDiff, Nat.zero_add, Nat.sub_zero, ynew]); try simp only [yback])
      exact hQ _ _ ((p1.trans p2).trans p3) ((o3 h2).lo (pre_len (p1.trans p2)))
end Go.Proofs.Ytapafdpnmakekaa.X
