/- Texts of one claim, put together by merge.py: XP6. -/
import Derived.Test.YtilpnbejpndgpaaMQ
/- Tables under way, tables turned over: FormsOf of both sides. -/
set_option linter.unusedVariables false
set_option linter.unusedSimpArgs false
set_option maxRecDepth 20000
set_option maxHeartbeats 4000000
namespace Go.Proofs.Ytilpnbejpndgpaa.X
open Go Go.RowKit

theorem Ints.cell {h : AH} {v : Value} {ns : List Int} (hv : Ints h v ns) {j : Nat} (hj : j < ns.length) : ∃ n off, (∀ kk : IntKind, ixsV 1 v (.int kk (j : Int)) = some (.pointer (some ⟨n, off, none⟩))) ∧ h.rd1 n off = some (I64 (ns.getD j 0)) := by
  rcases hv with ⟨rfl, t, _, rfl⟩ | ⟨b, off, blk, rfl, h2, h3, h4⟩
  · simp at hj
  · refine ⟨b, off + j, fun kk => ?_, ?_⟩
    · rw [ixsV_some, if_pos (by omega)]
      simp
    · rw [rd1_of h2]
      exact h4 j hj
theorem Rows.len {h : AH} {v : Value} {rows : List (List Int)} (hv : Rows h v rows) : lenV v = some (I64 rows.length) := by
  obtain ⟨cs, h1, h2, h3⟩ := hv
  rw [h1.len, h2]
theorem Rows.row {h : AH} {v : Value} {rows : List (List Int)} (hv : Rows h v rows) {i : Nat} (hi : i < rows.length) :
    ∃ n off x, (∀ kk : IntKind, ixsV 1 v (.int kk (i : Int)) = some (.pointer (some ⟨n, off, none⟩))) ∧ h.rd1 n off = some x ∧ Ints h x (rows.getD i []) := by
  obtain ⟨cs, hc, hl, hr⟩ := hv
  rcases hc with ⟨rfl, t, _, rfl⟩ | ⟨b, off, blk, rfl, h2, h3, h4⟩
  · simp at hl
    omega
  · refine ⟨b, off + i, cs.getD i undef, fun kk => ?_, ?_, hr i hi⟩
    · rw [ixsV_some, if_pos (by omega)]
      simp
    · rw [rd1_of h2]
      exact h4 i (by omega)
theorem sl_cells {n l : Nat} : cellsL (sl n l) = [sl n l] := rfl
theorem sl_one {n l : Nat} : isOne (sl n l) = true := rfl
/-- A row appended; other blocks stay. -/
theorem TabS.app2 {h0 h2 : AH} {nb n : Nat} {full fu fw : Bool} {L : List (Nat × List Int)} {r : List Int} {e : TypeId} (s : TabS h0 h2 nb full L) (hn : h0.length ≤ n ∧ n ≠ nb ∧ ∀ p, p ∈ L → p.1 ≠ n) (ob : OwnB h2 n (r.map (Value.int .i64)) fw)
    (hl : (L.length : Int) ≤ 1048576) {Q : Value → AH → Prop}
    (hQ : ∀ nb' H', TabS h0 H' nb' false (L ++ [(n, r)]) → H'.length = h2.length + 2 → nb' = h2.length + 1 → (∀ m c fl, m ≠ nb → OwnB h2 m c fl → OwnB H' m c fl) → (∀ h9 : AH, h9.length ≤ nb → h9 <+: h2 → h9 <+: H') → Q (sl nb' (L ++ [(n, r)]).length) H') :
    OQ (appV 22 1 24 (sl nb L.length) (.slice (some ⟨h2.length, 0, none⟩) 1 1) (h2.new ⟨[sl n r.length], e, false, fu⟩)) Q := by
  have hrd : (h2.new ⟨[.slice (some ⟨n, 0, none⟩) r.length 1], e, false, fu⟩).rdn h2.length 0 1 = some [.slice (some ⟨n, 0, none⟩) r.length 1] := by rw [rdn_new_same]; rfl
  have hk : (h2.new ⟨[.slice (some ⟨n, 0, none⟩) r.length 1], e, false, fu⟩).get nb = some ⟨L.map rowV, 22, false, full⟩ := get_new_any s.g
  have l1 := get_lt s.g
  have key := s.app (e := e) (fu := fu) hn ob hl (Q := fun v H' => ∃ nb', v = .slice (some ⟨nb', 0, none⟩) (L ++ [(n, r)]).length 1 ∧ TabS h0 H' nb' false (L ++ [(n, r)])) (fun nb' H' st => ⟨nb', rfl, st⟩)
  unfold sl at hQ ⊢
  rw [app_own hk (by simp) hrd (by omega), OQ_some] at key ⊢
  obtain ⟨nb', e1, st⟩ := key
  have e2 : nb' = h2.length + 1 := by
    simp only [Value.slice.injEq, Option.some.injEq, Addr.mk.injEq] at e1
    rw [← e1.1.1, len_new]
  have := hQ nb' _ st (by rw [len_new, len_kill, len_new]) e2 (fun m c fl hm o => (o.new.kill_ne (fun e => hm e.symm)).new) (fun h9 hh p => pre_new (pre_kill (pre_new p) hh))
  rw [← e1] at this
  exact this
/-- A number put into a row. -/
theorem TabS.cell {h0 h : AH} {nb i j : Nat} {full : Bool} {L : List (Nat × List Int)} {x : Int} {n : Nat} {r : List Int} (s : TabS h0 h nb full L) (hi : i < L.length) (hL : L[i] = (n, r)) (hj : j < r.length) :
    ∃ e fu, h.get n = some ⟨r.map (Value.int .i64), e, false, fu⟩ ∧ TabS h0 (h.put n ⟨(r.set j x).map (Value.int .i64), e, false, fu⟩) nb full (L.set i (n, r.set j x)) := by
  have a := s.rows _ (List.getElem_mem hi)
  rw [hL] at a
  obtain ⟨⟨a1, a2⟩, fu, e, o⟩ := a
  refine ⟨e, fu, o, pre_put s.hp a1, s.lo, ?_, fun q hq => ?_, ?_⟩
  · rw [get_put_ne a2, s.g]
    congr 2
    rw [List.map_set]
    have : rowV (n, r.set j x) = (L.map rowV)[i]'(by simpa using hi) := by
      rw [List.getElem_map, hL]
      simp [rowV]
    rw [this, List.set_getElem_self]
  · obtain ⟨m, hm, rfl⟩ := List.mem_iff_getElem.1 hq
    have hm' : m < L.length := by simpa using hm
    by_cases hmi : m = i
    · subst hmi
      rw [List.getElem_set_self]
      exact ⟨⟨a1, a2⟩, fu, e, get_put_same (get_lt o)⟩
    · rw [List.getElem_set_ne (fun q => hmi q.symm)]
      have b := s.rows _ (List.getElem_mem hm')
      obtain ⟨b1, fq, oq⟩ := b
      refine ⟨b1, fq, oq.put_ne ?_⟩
      have hd := List.pairwise_iff_getElem.1 s.dist
      rcases Nat.lt_or_gt_of_ne hmi with hlt | hgt
      · have := hd m i hm' hi hlt
        rw [hL] at this
        exact fun q => this q.symm
      · have := hd i m hi hm' hgt
        rw [hL] at this
        exact this
  · have e1 : (L.set i (n, r.set j x)).map Prod.fst = L.map Prod.fst := by
      rw [List.map_set]
      have : (n, r.set j x).1 = (L.map Prod.fst)[i]'(by simpa using hi) := by rw [List.getElem_map, hL]
      rw [this, List.set_getElem_self]
    have h1 := List.pairwise_map (f := Prod.fst) (R := fun a b : Nat => a ≠ b) (l := L)
    have h2 := List.pairwise_map (f := Prod.fst) (R := fun a b : Nat => a ≠ b) (l := L.set i (n, r.set j x))
    rw [← h2, e1, h1]
    exact s.dist

def trL (rows : List (List Int)) (w : Nat) : List (List Int) := (List.range w).map fun j => gen rows.length fun i => (rows.getD i []).getD j 0
theorem trL_len {rows : List (List Int)} {w : Nat} : (trL rows w).length = w := by simp [trL]
theorem trL_get {rows : List (List Int)} {w j : Nat} (hj : j < w) : (trL rows w).getD j [] = gen rows.length fun i => (rows.getD i []).getD j 0 := by
  simp [trL, List.getD_eq_getElem?_getD, List.getElem?_map, List.getElem?_range hj]
theorem i_transposed {v : Value} {rows : List (List Int)} {w : Nat} {h : AH} {Q : Value → AH → Prop} (hv : Rows h v rows) (h0 : 0 < rows.length) (hl : (rows.length : Int) ≤ 1048576) (hr : ∀ i, i < rows.length → (rows.getD i []).length = w) (hw : (w : Int) ≤ 1048576)
    (hQ : ∀ v' h', h <+: h' → OwnRows h h' v' (trL rows w) → Q v' h') : WF S 94 [v] h Q := by
  refine WF_fn (fn := c94) rfl rfl ?_
  unfold c94
  obtain ⟨n0, off0, x0, hix0, hrd0, i0⟩ := hv.row h0
  have hx0 := hix0 .i64
  rw [show ((0 : Nat) : Int) = 0 from rfl] at hx0
  ((try simp (maxSteps := 3000000) (dsimp := false) (disch := first | omega | (simp only [len_new, len_put, len_kill]; omega)) only [↓ypre, ypost, ↓reduceIte, Nat.reduceEqDiff, Nat.reduceAdd, Nat.reduceSub, Nat.reduceLeDiff, Nat.zero_add, Nat.sub_zero, ynew]); try simp only [yback])
  generalize hH1 : AH.new h _ = H1
  obtain ⟨hb1, p1, n1⟩ := new_facts hH1
  have lt0 : n0 < h.length := by
    unfold AH.rd1 at hrd0
    obtain ⟨b, hb, _⟩ := Option.bind_eq_some_iff.1 hrd0
    exact get_lt hb
  have hrd1 : H1.rd1 n0 off0 = some x0 := by rw [← hH1, rd1_new_lt lt0]; exact hrd0
  ((try simp (maxSteps := 3000000) (dsimp := false) (disch := first | omega | (simp only [len_new, len_put, len_kill]; omega)) only [↓ypre, ypost, ↓reduceIte, Nat.reduceEqDiff, Nat.reduceAdd, Nat.reduceSub, Nat.reduceLeDiff, Nat.zero_add, Nat.sub_zero, ynew, hx0, hrd1, hrd0, i0.len, hr 0 h0]); try simp only [yback])
  refine WC_loop_inv (fun m f K1 => ∃ (j : Nat) (nb : Nat) (full : Bool) (L : List (Nat × List Int)), m = w - j ∧ j ≤ w ∧ f 0 = v ∧ f 3 = sl nb L.length ∧ f 12 = I64 w ∧ f 13 = I64 j ∧ (TabS h K1 nb full L) ∧ (L.map Prod.snd = (trL rows w).take j)) ?_ (w - 0) _ _ ⟨0, h.length, true, [], rfl, by omega, (by first | rfl | (simp [upd_apply]; done)), (by first | rfl | (simp [upd_apply]; done)), (by first | rfl | (simp [upd_apply]; done)), (by first | rfl | (simp [upd_apply]; done)), ⟨p1, Nat.le_refl _, hb1, by simp, by simp⟩, (by simp)⟩
  rintro m f K1 ⟨j, nb, full, L, rfl, hj, f0, f3, f12, f13, st, hL⟩
  have hLl : L.length = j := by
    have := congrArg List.length hL
    rw [List.length_map, List.length_take, trL_len] at this
    omega
  have lt := st.lt
  have lh := pre_len st.hp
  by_cases hlt : (j : Int) < w
  · have hj' : j < w := by omega
    ((try simp (maxSteps := 3000000) (dsimp := false) (disch := first | omega | (simp only [len_new, len_put, len_kill]; omega)) only [↓ypre, ypost, ↓reduceIte, Nat.reduceEqDiff, Nat.reduceAdd, Nat.reduceSub, Nat.reduceLeDiff, Nat.zero_add, Nat.sub_zero, ynew, f0, f3, f12, f13, decide_eq_true hlt]); try simp only [yback])
    generalize hH3 : AH.new K1 _ = H3
    obtain ⟨hb3, p3, n3⟩ := new_facts hH3
    have l0 : Lst H3 K1.length (gen 0 fun i => (rows.getD i []).getD j 0) true := hb3
    ((try simp (maxSteps := 3000000) (dsimp := false) (disch := first | omega | (simp only [len_new, len_put, len_kill]; omega)) only [↓ypre, ypost, ↓reduceIte, Nat.reduceEqDiff, Nat.reduceAdd, Nat.reduceSub, Nat.reduceLeDiff, Nat.zero_add, Nat.sub_zero, ynew, f0, f3, f12, f13, hv.len]); try simp only [yback])
    refine WC_loop_inv (fun m f K2 => ∃ (i : Nat) (kb : Nat) (fu : Bool), m = rows.length - i ∧ i ≤ rows.length ∧ f 0 = v ∧ f 3 = sl nb L.length ∧ f 12 = I64 w ∧ f 13 = I64 j ∧ f 4 = I64 j ∧ f 17 = v ∧ f 18 = I64 rows.length ∧ f 19 = I64 i ∧ f 5 = sl kb (gen i fun i => (rows.getD i []).getD j 0).length ∧ (K1 <+: K2) ∧ (K1.length ≤ kb) ∧ (Lst K2 kb (gen i fun i => (rows.getD i []).getD j 0) fu)) ?_ (rows.length - 0) _ _ ⟨0, K1.length, true, rfl, by omega, (by first | rfl | exact f0 | (simp [upd_apply]; done)), (by first | rfl | exact f3 | (simp [upd_apply]; done)), (by first | rfl | exact f12 | (simp [upd_apply]; done)), (by first | rfl | exact f13 | (simp [upd_apply]; done)), (by first | rfl | (simp [upd_apply]; done)), (by first | rfl | (simp [upd_apply]; done)), (by first | rfl | (simp [upd_apply]; done)), (by first | rfl | (simp [upd_apply]; done)), (by first | rfl | (simp [upd_apply]; done)), p3, Nat.le_refl _, l0⟩
    rintro m f K2 ⟨i, kb, fu, rfl, hi, f0, f3, f12, f13, f4, f17, f18, f19, f5, q2, kb1, li⟩
    by_cases hlti : (i : Int) < rows.length
    · have hi' : i < rows.length := by omega
      obtain ⟨n, off, x, hix, hrd, ix⟩ := (hv.pre (st.hp.trans q2)).row hi'
      obtain ⟨n', off', hix', hrd'⟩ := ix.cell (j := j) (by rw [hr i hi']; exact hj')
      ((try simp (maxSteps := 3000000) (dsimp := false) (disch := first | omega | (simp only [len_new, len_put, len_kill]; omega)) only [↓ypre, ypost, ↓reduceIte, Nat.reduceEqDiff, Nat.reduceAdd, Nat.reduceSub, Nat.reduceLeDiff, Nat.zero_add, Nat.sub_zero, ynew, f0, f3, f12, f13, f4, f17, f18, f19, f5, decide_eq_true hlti, hix, hrd, hix', hrd']); try simp only [yback])
      refine li.app (by rw [gen_len]; omega) fun H5 l5 pre5 own5 lst5 li5 => ?_
      ((try simp (maxSteps := 3000000) (dsimp := false) (disch := first | omega | (simp only [len_new, len_put, len_kill]; omega)) only [↓ypre, ypost, ↓reduceIte, Nat.reduceEqDiff, Nat.reduceAdd, Nat.reduceSub, Nat.reduceLeDiff, Nat.zero_add, Nat.sub_zero, ynew, f0, f3, f12, f13, f4, f17, f18, f19, f5, wrap64_in]); try simp only [yback])
      have eg : gen i (fun i => (rows.getD i []).getD j 0) ++ [(rows.getD i []).getD j 0] = gen (i + 1) fun i => (rows.getD i []).getD j 0 := gen_succ.symm
      rw [eg] at li5
      refine InvQ_go (rows.length - (i + 1)) (by omega) ⟨(i + 1), (K2.length + 1), false, rfl, by omega, (by first | rfl | exact f0 | (simp only [upd_apply]; rfl) | (show I64 _ = _; congr 1; omega)), (by first | rfl | exact f3 | (simp only [upd_apply]; rfl) | (show I64 _ = _; congr 1; omega)), (by first | rfl | exact f12 | (simp only [upd_apply]; rfl) | (show I64 _ = _; congr 1; omega)), (by first | rfl | exact f13 | (simp only [upd_apply]; rfl) | (show I64 _ = _; congr 1; omega)), (by first | rfl | exact f4 | (simp only [upd_apply]; rfl) | (show I64 _ = _; congr 1; omega)), (by first | rfl | exact f17 | (simp only [upd_apply]; rfl) | (show I64 _ = _; congr 1; omega)), (by first | rfl | exact f18 | (simp only [upd_apply]; rfl) | (show I64 _ = _; congr 1; omega)), (by first | rfl | exact f19 | (simp only [upd_apply]; rfl) | (show I64 _ = _; congr 1; omega)), (by show sl _ _ = _; rw [eg]), (pre5 _ kb1 q2), (by have := pre_len q2; omega), li5⟩
    · have ei : i = rows.length := by omega
      subst ei
      ((try simp (maxSteps := 3000000) (dsimp := false) (disch := first | omega | (simp only [len_new, len_put, len_kill]; omega)) only [↓ypre, ypost, ↓reduceIte, Nat.reduceEqDiff, Nat.reduceAdd, Nat.reduceSub, Nat.reduceLeDiff, Nat.zero_add, Nat.sub_zero, ynew, f0, f3, f12, f13, f4, f17, f18, f19, f5, decide_eq_false hlti, sl_cells, sl_one]); try simp only [yback])
      refine (st.pre q2).app2 ⟨by omega, by omega, fun q hq => by have := lt.2 q hq; omega⟩ li.own (by omega) fun nb' H' st' l' e' own' pre' => ?_
      ((try simp (maxSteps := 3000000) (dsimp := false) (disch := first | omega | (simp only [len_new, len_put, len_kill]; omega)) only [↓ypre, ypost, ↓reduceIte, Nat.reduceEqDiff, Nat.reduceAdd, Nat.reduceSub, Nat.reduceLeDiff, Nat.zero_add, Nat.sub_zero, ynew, f0, f3, f12, f13, f4, f17, f18, f19, f5, wrap64_in]); try simp only [yback])
      refine InvQ_go (w - (j + 1)) (by omega) ⟨(j + 1), nb', false, (L ++ [(kb, gen rows.length fun i => (rows.getD i []).getD j 0)]), rfl, by omega, (by first | rfl | exact f0 | (simp only [upd_apply]; rfl) | (show I64 _ = _; congr 1; omega)), (by first | rfl | exact f3 | (simp only [upd_apply]; rfl) | (show I64 _ = _; congr 1; omega)), (by first | rfl | exact f12 | (simp only [upd_apply]; rfl) | (show I64 _ = _; congr 1; omega)), (by first | rfl | exact f13 | (simp only [upd_apply]; rfl) | (show I64 _ = _; congr 1; omega)), st', ?_⟩
      rw [List.map_append, hL, take_next (d := []) (by rw [trL_len]; exact hj'), trL_get hj']
      rfl
  · have ej : j = w := by omega
    subst ej
    rw [List.take_of_length_le (by rw [trL_len]; exact Nat.le_refl _)] at hL
    ((try simp (maxSteps := 3000000) (dsimp := false) (disch := first | omega | (simp only [len_new, len_put, len_kill]; omega)) only [↓ypre, ypost, ↓reduceIte, Nat.reduceEqDiff, Nat.reduceAdd, Nat.reduceSub, Nat.reduceLeDiff, Nat.zero_add, Nat.sub_zero, ynew, f0, f3, f12, f13, decide_eq_false hlt]); try simp only [yback])
    have o := st.own
    rw [hL] at o
    exact hQ _ _ st.hp o
end Go.Proofs.Ytilpnbejpndgpaa.X
