/- Texts of one claim, put together by merge.py: XP6, XP7. -/
import Derived.Test.YtilpnbejpndgpaaM6
/- Tables under way, tables turned over: FormsOf of both sides. -/
set_option linter.unusedVariables false
set_option linter.unusedSimpArgs false
set_option maxRecDepth 20000
set_option maxHeartbeats 4000000
namespace Go.Proofs.Ytilpnbejpndgpaa.X
open Go Go.RowKit

theorem Ints.cell {h : AH} {v : Value} {ns : List Int} (hv : Ints h v ns) {j : Nat} (hj : j < ns.length) : ∃ n off, (∀ kk : IntKind, ixsV 1 v (.int kk (j : Int)) = some (.pointer (some ⟨n, off, none⟩))) ∧ h.rd1 n off = some (I64 (ns.getD j 0)) := by
  rcases hv with ⟨rfl, t, _, rfl⟩ | ⟨b, off, blk, rfl, h2, h3, h4⟩
  · simp at hj
  · refine ⟨b, off + j, fun kk => ?_, ?_⟩
    · rw [ixsV_some, if_pos (by omega)]
      simp
    · rw [rd1_of h2]
      exact h4 j hj
theorem Rows.len {h : AH} {v : Value} {rows : List (List Int)} (hv : Rows h v rows) : lenV v = some (I64 rows.length) := by
  obtain ⟨cs, h1, h2, h3⟩ := hv
  rw [h1.len, h2]
theorem Rows.row {h : AH} {v : Value} {rows : List (List Int)} (hv : Rows h v rows) {i : Nat} (hi : i < rows.length) :
    ∃ n off x, (∀ kk : IntKind, ixsV 1 v (.int kk (i : Int)) = some (.pointer (some ⟨n, off, none⟩))) ∧ h.rd1 n off = some x ∧ Ints h x (rows.getD i []) := by
  obtain ⟨cs, hc, hl, hr⟩ := hv
  rcases hc with ⟨rfl, t, _, rfl⟩ | ⟨b, off, blk, rfl, h2, h3, h4⟩
  · simp at hl
    omega
  · refine ⟨b, off + i, cs.getD i undef, fun kk => ?_, ?_, hr i hi⟩
    · rw [ixsV_some, if_pos (by omega)]
      simp
    · rw [rd1_of h2]
      exact h4 i (by omega)
theorem sl_cells {n l : Nat} : cellsL (sl n l) = [sl n l] := rfl
theorem sl_one {n l : Nat} : isOne (sl n l) = true := rfl
/-- A row appended; other blocks stay. -/
theorem TabS.app2 {h0 h2 : AH} {nb n : Nat} {full fu fw : Bool} {L : List (Nat × List Int)} {r : List Int} {e : TypeId} (s : TabS h0 h2 nb full L) (hn : h0.length ≤ n ∧ n ≠ nb ∧ ∀ p, p ∈ L → p.1 ≠ n) (ob : OwnB h2 n (r.map (Value.int .i64)) fw)
    (hl : (L.length : Int) ≤ 1048576) {Q : Value → AH → Prop}
    (hQ : ∀ nb' H', TabS h0 H' nb' false (L ++ [(n, r)]) → H'.length = h2.length + 2 → nb' = h2.length + 1 → (∀ m c fl, m ≠ nb → OwnB h2 m c fl → OwnB H' m c fl) → (∀ h9 : AH, h9.length ≤ nb → h9 <+: h2 → h9 <+: H') → Q (sl nb' (L ++ [(n, r)]).length) H') :
    OQ (appV 22 1 24 (sl nb L.length) (.slice (some ⟨h2.length, 0, none⟩) 1 1) (h2.new ⟨[sl n r.length], e, false, fu⟩)) Q := by
  have hrd : (h2.new ⟨[.slice (some ⟨n, 0, none⟩) r.length 1], e, false, fu⟩).rdn h2.length 0 1 = some [.slice (some ⟨n, 0, none⟩) r.length 1] := by rw [rdn_new_same]; rfl
  have hk : (h2.new ⟨[.slice (some ⟨n, 0, none⟩) r.length 1], e, false, fu⟩).get nb = some ⟨L.map rowV, 22, false, full⟩ := get_new_any s.g
  have l1 := get_lt s.g
  have key := s.app (e := e) (fu := fu) hn ob hl (Q := fun v H' => ∃ nb', v = .slice (some ⟨nb', 0, none⟩) (L ++ [(n, r)]).length 1 ∧ TabS h0 H' nb' false (L ++ [(n, r)])) (fun nb' H' st => ⟨nb', rfl, st⟩)
  unfold sl at hQ ⊢
  rw [app_own hk (by simp) hrd (by omega), OQ_some] at key ⊢
  obtain ⟨nb', e1, st⟩ := key
  have e2 : nb' = h2.length + 1 := by
    simp only [Value.slice.injEq, Option.some.injEq, Addr.mk.injEq] at e1
    rw [← e1.1.1, len_new]
  have := hQ nb' _ st (by rw [len_new, len_kill, len_new]) e2 (fun m c fl hm o => (o.new.kill_ne (fun e => hm e.symm)).new) (fun h9 hh p => pre_new (pre_kill (pre_new p) hh))
  rw [← e1] at this
  exact this
/-- A number put into a row. -/
theorem TabS.cell {h0 h : AH} {nb i j : Nat} {full : Bool} {L : List (Nat × List Int)} {x : Int} {n : Nat} {r : List Int} (s : TabS h0 h nb full L) (hi : i < L.length) (hL : L[i] = (n, r)) (hj : j < r.length) :
    ∃ e fu, h.get n = some ⟨r.map (Value.int .i64), e, false, fu⟩ ∧ TabS h0 (h.put n ⟨(r.set j x).map (Value.int .i64), e, false, fu⟩) nb full (L.set i (n, r.set j x)) := by
  have a := s.rows _ (List.getElem_mem hi)
  rw [hL] at a
  obtain ⟨⟨a1, a2⟩, fu, e, o⟩ := a
  refine ⟨e, fu, o, pre_put s.hp a1, s.lo, ?_, fun q hq => ?_, ?_⟩
  · rw [get_put_ne a2, s.g]
    congr 2
    rw [List.map_set]
    have : rowV (n, r.set j x) = (L.map rowV)[i]'(by simpa using hi) := by
      rw [List.getElem_map, hL]
      simp [rowV]
    rw [this, List.set_getElem_self]
  · obtain ⟨m, hm, rfl⟩ := List.mem_iff_getElem.1 hq
    have hm' : m < L.length := by simpa using hm
    by_cases hmi : m = i
    · subst hmi
      rw [List.getElem_set_self]
      exact ⟨⟨a1, a2⟩, fu, e, get_put_same (get_lt o)⟩
    · rw [List.getElem_set_ne (fun q => hmi q.symm)]
      have b := s.rows _ (List.getElem_mem hm')
      obtain ⟨b1, fq, oq⟩ := b
      refine ⟨b1, fq, oq.put_ne ?_⟩
      have hd := List.pairwise_iff_getElem.1 s.dist
      rcases Nat.lt_or_gt_of_ne hmi with hlt | hgt
      · have := hd m i hm' hi hlt
        rw [hL] at this
        exact fun q => this q.symm
      · have := hd i m hi hm' hgt
        rw [hL] at this
        exact this
  · have e1 : (L.set i (n, r.set j x)).map Prod.fst = L.map Prod.fst := by
      rw [List.map_set]
      have : (n, r.set j x).1 = (L.map Prod.fst)[i]'(by simpa using hi) := by rw [List.getElem_map, hL]
      rw [this, List.set_getElem_self]
    have h1 := List.pairwise_map (f := Prod.fst) (R := fun a b : Nat => a ≠ b) (l := L)
    have h2 := List.pairwise_map (f := Prod.fst) (R := fun a b : Nat => a ≠ b) (l := L.set i (n, r.set j x))
    rw [← h2, e1, h1]
    exact s.dist

def trL (rows : List (List Int)) (w : Nat) : List (List Int) := (List.range w).map fun j => gen rows.length fun i => (rows.getD i []).getD j 0
theorem trL_len {rows : List (List Int)} {w : Nat} : (trL rows w).length = w := by simp [trL]
theorem trL_get {rows : List (List Int)} {w j : Nat} (hj : j < w) : (trL rows w).getD j [] = gen rows.length fun i => (rows.getD i []).getD j 0 := by
  simp [trL, List.getD_eq_getElem?_getD, List.getElem?_map, List.getElem?_range hj]
theorem i_transposed {v : Value} {rows : List (List Int)} {w : Nat} {h : AH} {Q : Value → AH → Prop} (hv : Rows h v rows) (h0 : 0 < rows.length) (hl : (rows.length : Int) ≤ 1048576) (hr : ∀ i, i < rows.length → (rows.getD i []).length = w) (hw : (w : Int) ≤ 1048576)
    (hQ : ∀ v' h', h <+: h' → OwnRows h h' v' (trL rows w) → Q v' h') : WF S 94 [v] h Q := by
  refine WF_fn (fn := c94) rfl rfl ?_
  unfold c94
  obtain ⟨n0, off0, x0, hix0, hrd0, i0⟩ := hv.row h0
  have hx0 := hix0 .i64
  rw [show ((0 : Nat) : Int) = 0 from rfl] at hx0
  ((try simp (maxSteps := 3000000) (dsimp := false) (disch := first | omega | (simp only [len_new, len_put, len_kill]; omega)) only [↓ypre, ypost, ↓reduceIte, Nat.reduceEqDiff, Nat.reduceAdd, Nat.reduceSub, Nat.reduceLeDiff, Nat.zero_add, Nat.sub_zero, ynew]); try simp only [yback])
  generalize hH1 : AH.new h _ = H1
  obtain ⟨hb1, p1, n1⟩ := new_facts hH1
  have lt0 : n0 < h.length := by
    unfold AH.rd1 at hrd0
    obtain ⟨b, hb, _⟩ := Option.bind_eq_some_iff.1 hrd0
    exact get_lt hb
  have hrd1 : H1.rd1 n0 off0 = some x0 := by rw [← hH1, rd1_new_lt lt0]; exact hrd0
  ((try simp (maxSteps := 3000000) (dsimp := false) (disch := first | omega | (simp only [len_new, len_put, len_kill]; omega)) only [↓ypre, ypost, ↓reduceIte, Nat.reduceEqDiff, Nat.reduceAdd, Nat.reduceSub, Nat.reduceLeDiff, Nat.zero_add, Nat.sub_zero, ynew, hx0, hrd1, hrd0, i0.len, hr 0 h0]); try simp only [yback])
  refine WC_loop_inv (fun m f K1 => ∃ (j : Nat) (nb : Nat) (full : Bool) (L : List (Nat × List Int)), m = w - j ∧ j ≤ w ∧ f 0 = v ∧ f 3 = sl nb L.length ∧ f 12 = I64 w ∧ f 13 = I64 j ∧ (TabS h K1 nb full L) ∧ (L.map Prod.snd = (trL rows w).take j)) ?_ (w - 0) _ _ ⟨0, h.length, true, [], rfl, by omega, (by first | rfl | (simp [upd_apply]; done)), (by first | rfl | (simp [upd_apply]; done)), (by first | rfl | (simp [upd_apply]; done)), (by first | rfl | (simp [upd_apply]; done)), ⟨p1, Nat.le_refl _, hb1, by simp, by simp⟩, (by simp)⟩
  rintro m f K1 ⟨j, nb, full, L, rfl, hj, f0, f3, f12, f13, st, hL⟩
  have hLl : L.length = j := by
    have := congrArg List.length hL
    rw [List.length_map, List.length_take, trL_len] at this
    omega
  have lt := st.lt
  have lh := pre_len st.hp
  by_cases hlt : (j : Int) < w
  · have hj' : j < w := by omega
    ((try simp (maxSteps := 3000000) (dsimp := false) (disch := first | omega | (simp only [len_new, len_put, len_kill]; omega)) only [↓ypre, ypost, ↓reduceIte, Nat.reduceEqDiff, Nat.reduceAdd, Nat.reduceSub, Nat.reduceLeDiff, Nat.zero_add, Nat.sub_zero, ynew, f0, f3, f12, f13, decide_eq_true hlt]); try simp only [yback])
    generalize hH3 : AH.new K1 _ = H3
    obtain ⟨hb3, p3, n3⟩ := new_facts hH3
    have l0 : Lst H3 K1.length (gen 0 fun i => (rows.getD i []).getD j 0) true := hb3
    ((try simp (maxSteps := 3000000) (dsimp := false) (disch := first | omega | (simp only [len_new, len_put, len_kill]; omega)) only [↓ypre, ypost, ↓reduceIte, Nat.reduceEqDiff, Nat.reduceAdd, Nat.reduceSub, Nat.reduceLeDiff, Nat.zero_add, Nat.sub_zero, ynew, f0, f3, f12, f13, hv.len]); try simp only [yback])
    refine WC_loop_inv (fun m f K2 => ∃ (i : Nat) (kb : Nat) (fu : Bool), m = rows.length - i ∧ i ≤ rows.length ∧ f 0 = v ∧ f 3 = sl nb L.length ∧ f 12 = I64 w ∧ f 13 = I64 j ∧ f 4 = I64 j ∧ f 17 = v ∧ f 18 = I64 rows.length ∧ f 19 = I64 i ∧ f 5 = sl kb (gen i fun i => (rows.getD i []).getD j 0).length ∧ (K1 <+: K2) ∧ (K1.length ≤ kb) ∧ (Lst K2 kb (gen i fun i => (rows.getD i []).getD j 0) fu)) ?_ (rows.length - 0) _ _ ⟨0, K1.length, true, rfl, by omega, (by first | rfl | exact f0 | (simp [upd_apply]; done)), (by first | rfl | exact f3 | (simp [upd_apply]; done)), (by first | rfl | exact f12 | (simp [upd_apply]; done)), (by first | rfl | exact f13 | (simp [upd_apply]; done)), (by first | rfl | (simp [upd_apply]; done)), (by first | rfl | (simp [upd_apply]; done)), (by first | rfl | (simp [upd_apply]; done)), (by first | rfl | (simp [upd_apply]; done)), (by first | rfl | (simp [upd_apply]; done)), p3, Nat.le_refl _, l0⟩
    rintro m f K2 ⟨i, kb, fu, rfl, hi, f0, f3, f12, f13, f4, f17, f18, f19, f5, q2, kb1, li⟩
    by_cases hlti : (i : Int) < rows.length
    · have hi' : i < rows.length := by omega
      obtain ⟨n, off, x, hix, hrd, ix⟩ := (hv.pre (st.hp.trans q2)).row hi'
      obtain ⟨n', off', hix', hrd'⟩ := ix.cell (j := j) (by rw [hr i hi']; exact hj')
      ((try simp (maxSteps := 3000000) (dsimp := false) (disch := first | omega | (simp only [len_new, len_put, len_kill]; omega)) only [↓ypre, ypost, ↓reduceIte, Nat.reduceEqDiff, Nat.reduceAdd, Nat.reduceSub, Nat.reduceLeDiff, Nat.zero_add, Nat.sub_zero, ynew, f0, f3, f12, f13, f4, f17, f18, f19, f5, decide_eq_true hlti, hix, hrd, hix', hrd']); try simp only [yback])
      refine li.app (by rw [gen_len]; omega) fun H5 l5 pre5 own5 lst5 li5 => ?_
      ((try simp (maxSteps := 3000000) (dsimp := false) (disch := first | omega | (simp only [len_new, len_put, len_kill]; omega)) only [↓ypre, ypost, ↓reduceIte, Nat.reduceEqDiff, Nat.reduceAdd, Nat.reduceSub, Nat.reduceLeDiff, Nat.zero_add, Nat.sub_zero, ynew, f0, f3, f12, f13, f4, f17, f18, f19, f5, wrap64_in]); try simp only [yback])
      have eg : gen i (fun i => (rows.getD i []).getD j 0) ++ [(rows.getD i []).getD j 0] = gen (i + 1) fun i => (rows.getD i []).getD j 0 := gen_succ.symm
      rw [eg] at li5
      refine InvQ_go (rows.length - (i + 1)) (by omega) ⟨(i + 1), (K2.length + 1), false, rfl, by omega, (by first | rfl | exact f0 | (simp only [upd_apply]; rfl) | (show I64 _ = _; congr 1; omega)), (by first | rfl | exact f3 | (simp only [upd_apply]; rfl) | (show I64 _ = _; congr 1; omega)), (by first | rfl | exact f12 | (simp only [upd_apply]; rfl) | (show I64 _ = _; congr 1; omega)), (by first | rfl | exact f13 | (simp only [upd_apply]; rfl) | (show I64 _ = _; congr 1; omega)), (by first | rfl | exact f4 | (simp only [upd_apply]; rfl) | (show I64 _ = _; congr 1; omega)), (by first | rfl | exact f17 | (simp only [upd_apply]; rfl) | (show I64 _ = _; congr 1; omega)), (by first | rfl | exact f18 | (simp only [upd_apply]; rfl) | (show I64 _ = _; congr 1; omega)), (by first | rfl | exact f19 | (simp only [upd_apply]; rfl) | (show I64 _ = _; congr 1; omega)), (by show sl _ _ = _; rw [eg]), (pre5 _ kb1 q2), (by have := pre_len q2; omega), li5⟩
    · have ei : i = rows.length := by omega
      subst ei
      ((try simp (maxSteps := 3000000) (dsimp := false) (disch := first | omega | (simp only [len_new, len_put, len_kill]; omega)) only [↓ypre, ypost, ↓reduceIte, Nat.reduceEqDiff, Nat.reduceAdd, Nat.reduceSub, Nat.reduceLeDiff, Nat.zero_add, Nat.sub_zero, ynew, f0, f3, f12, f13, f4, f17, f18, f19, f5, decide_eq_false hlti, sl_cells, sl_one]); try simp only [yback])
      refine (st.pre q2).app2 ⟨by omega, by omega, fun q hq => by have := lt.2 q hq; omega⟩ li.own (by omega) fun nb' H' st' l' e' own' pre' => ?_
      ((try simp (maxSteps := 3000000) (dsimp := false) (disch := first | omega | (simp only [len_new, len_put, len_kill]; omega)) only [↓ypre, ypost, ↓reduceIte, Nat.reduceEqDiff, Nat.reduceAdd, Nat.reduceSub, Nat.reduceLeDiff, Nat.zero_add, Nat.sub_zero, ynew, f0, f3, f12, f13, f4, f17, f18, f19, f5, wrap64_in]); try simp only [yback])
      refine InvQ_go (w - (j + 1)) (by omega) ⟨(j + 1), nb', false, (L ++ [(kb, gen rows.length fun i => (rows.getD i []).getD j 0)]), rfl, by omega, (by first | rfl | exact f0 | (simp only [upd_apply]; rfl) | (show I64 _ = _; congr 1; omega)), (by first | rfl | exact f3 | (simp only [upd_apply]; rfl) | (show I64 _ = _; congr 1; omega)), (by first | rfl | exact f12 | (simp only [upd_apply]; rfl) | (show I64 _ = _; congr 1; omega)), (by first | rfl | exact f13 | (simp only [upd_apply]; rfl) | (show I64 _ = _; congr 1; omega)), st', ?_⟩
      rw [List.map_append, hL, take_next (d := []) (by rw [trL_len]; exact hj'), trL_get hj']
      rfl
  · have ej : j = w := by omega
    subst ej
    rw [List.take_of_length_le (by rw [trL_len]; exact Nat.le_refl _)] at hL
    ((try simp (maxSteps := 3000000) (dsimp := false) (disch := first | omega | (simp only [len_new, len_put, len_kill]; omega)) only [↓ypre, ypost, ↓reduceIte, Nat.reduceEqDiff, Nat.reduceAdd, Nat.reduceSub, Nat.reduceLeDiff, Nat.zero_add, Nat.sub_zero, ynew, f0, f3, f12, f13, decide_eq_false hlt]); try simp only [yback])
    have o := st.own
    rw [hL] at o
    exact hQ _ _ st.hp o
end Go.Proofs.Ytilpnbejpndgpaa.X

/- FormsOf of both sides. -/
set_option linter.unusedVariables false
set_option linter.unusedSimpArgs false
set_option maxRecDepth 20000
set_option maxHeartbeats 4000000
namespace Go.Proofs.Ytilpnbejpndgpaa.X
open Go Go.RowKit

def unN (N k : Nat) : List Int := (List.replicate N 0).set k 1
theorem unN_len {N k : Nat} : (unN N k).length = N := by simp [unN]
theorem unN_in {N k : Nat} {p : Int} (hp : 2 ≤ p) : allIn p (unN N k) = true := by
  rw [allIn_iff]
  intro j hj
  unfold unN at hj ⊢
  rw [List.length_set, List.length_replicate] at hj
  rw [List.getD_eq_getElem?_getD, List.getElem?_set]
  split
  · simp
    split <;> simp <;> omega
  · rw [List.getElem?_replicate]
    split <;> simp <;> omega
def fmF (x : Prg) (N i k : Nat) : Int := (runP x (unN N k)).getD i 0
def fmL (x : Prg) : List (List Int) := (List.range x.out.length).map fun i => gen x.n.toNat fun k => fmF x x.n.toNat i k
def fmR (x : Prg) : List (List Int) × Int := if isPrg x = true then (fmL x, 0) else ([], 1)
theorem fmL_len {x : Prg} : (fmL x).length = x.out.length := by simp [fmL]
theorem fmL_get {x : Prg} {i : Nat} (hi : i < x.out.length) : (fmL x).getD i [] = gen x.n.toNat fun k => fmF x x.n.toNat i k := by
  simp [fmL, List.getD_eq_getElem?_getD, List.getElem?_map, List.getElem?_range hi]
theorem smallM_of2 {rows : List (List Int)} {A B : Nat} (h1 : rows.length ≤ A) (h2 : ∀ i, i < rows.length → (rows.getD i []).length ≤ B) (hAB : A ≤ 1000 ∧ B ≤ 1000) : SmallM rows := by
  have ht : ∀ i, i ≤ rows.length → tot rows i ≤ i * 1000 := fun i => by
    induction i with
    | zero => intro _; simp
    | succ i ih =>
      intro hi
      have e := tot_succ (rows := rows) (i := i) (by omega)
      have := ih (by omega)
      have := h2 i (by omega)
      omega
  have := ht rows.length (Nat.le_refl _)
  exact ⟨by omega, fun i hi => by have := h2 i hi; omega, by omega⟩
theorem fmR_small (x : Prg) : SmallM (fmR x).1 := by
  unfold fmR
  split
  · rename_i h
    have pf := isPrg_facts h
    have := pf.out
    have := pf.n
    refine smallM_of2 (A := 30) (B := 30) (by rw [fmL_len]; omega) (fun i hi => ?_) (by omega)
    rw [fmL_len] at hi
    rw [fmL_get hi, gen_len]
    omega
  · exact ⟨by simp, by simp, by simp [tot]⟩
theorem TabS.get {h0 h : AH} {nb i : Nat} {full : Bool} {L : List (Nat × List Int)} (s : TabS h0 h nb full L) (hi : i < L.length) : h.rd1 nb i = some (sl (L[i]).1 (L[i]).2.length) := by
  rw [rd1_of s.g]
  simp [hi, rowV, sl]
def colL (x : Prg) (N : Nat) : List (List Int) := (List.range N).map fun k => runP x (unN N k)
theorem colL_len {x : Prg} {N : Nat} : (colL x N).length = N := by simp [colL]
theorem colL_get {x : Prg} {N k : Nat} (hk : k < N) : (colL x N).getD k [] = runP x (unN N k) := by
  simp [colL, List.getD_eq_getElem?_getD, List.getElem?_map, List.getElem?_range hk]
theorem trL_colL {x : Prg} : trL (colL x x.n.toNat) x.out.length = fmL x := by
  unfold trL fmL
  rw [colL_len]
  refine List.map_congr_left fun j hj => gen_congr fun k hk => ?_
  rw [colL_get hk]
  rfl
theorem i_FormsOf {v w : Value} {x : Prg} {h : AH} {Q : Value → AH → Prop} (hv : PrgR h v w x) (hl : SmallP x)
    (hQ : ∀ v' h', h <+: h' → OwnRows h h' v' (fmR x).1 → Q (.tuple #[v', I64 (fmR x).2]) h') : WF S 46 [prgV x v w] h Q := by
  refine WF_fn (fn := c46) rfl rfl ?_
  unfold c46
  ((try simp (maxSteps := 3000000) (dsimp := false) (disch := first | omega | (simp only [len_new, len_put, len_kill]; omega)) only [↓ypre, ypost, ↓reduceIte, Nat.reduceEqDiff, Nat.reduceAdd, Nat.reduceSub, Nat.reduceLeDiff, Nat.zero_add, Nat.sub_zero, ynew, prgV, hv.1.one, hv.2.one]); try simp only [yback])
  generalize hH1 : AH.new h _ = H1
  obtain ⟨hb1, p1, n1⟩ := new_facts hH1
  ((try simp (maxSteps := 3000000) (dsimp := false) (disch := first | omega | (simp only [len_new, len_put, len_kill]; omega)) only [↓ypre, ypost, ↓reduceIte, Nat.reduceEqDiff, Nat.reduceAdd, Nat.reduceSub, Nat.reduceLeDiff, Nat.zero_add, Nat.sub_zero, ynew, rdn_of hb1]); try simp only [yback])
  refine i_IsPrg (hv.pre p1) hl fun H2 p2 => ?_
  have hb2 := pre_get p2 hb1
  unfold fmR at hQ
  cases h1 : isPrg x with
  | false =>
    rw [h1, if_neg (by decide)] at hQ
    ((try simp (maxSteps := 3000000) (dsimp := false) (disch := first | omega | (simp only [len_new, len_put, len_kill]; omega)) only [↓ypre, ypost, ↓reduceIte, Nat.reduceEqDiff, Nat.reduceAdd, Nat.reduceSub, Nat.reduceLeDiff, Nat.zero_add, Nat.sub_zero, ynew]); try simp only [yback])
    exact hQ _ _ (p1.trans p2) (.inl ⟨rfl, rfl⟩)
  | true =>
    rw [h1, if_pos rfl, ← trL_colL] at hQ
    have pf := isPrg_facts h1
    have fp := pf.p
    have fn := pf.n
    have fout := pf.out
    have p12 := p1.trans p2
    obtain ⟨N, hN⟩ : ∃ N : Nat, x.n = N := ⟨x.n.toNat, by omega⟩
    have hNt : x.n.toNat = N := by omega
    rw [hNt] at hQ
    ((try simp (maxSteps := 3000000) (dsimp := false) (disch := first | omega | (simp only [len_new, len_put, len_kill]; omega)) only [↓ypre, ypost, ↓reduceIte, Nat.reduceEqDiff, Nat.reduceAdd, Nat.reduceSub, Nat.reduceLeDiff, Nat.zero_add, Nat.sub_zero, ynew]); try simp only [yback])
    generalize hH3 : AH.new H2 _ = H3
    obtain ⟨hb3, p3, n3⟩ := new_facts hH3
    ((try simp (maxSteps := 3000000) (dsimp := false) (disch := first | omega | (simp only [len_new, len_put, len_kill]; omega)) only [↓ypre, ypost, ↓reduceIte, Nat.reduceEqDiff, Nat.reduceAdd, Nat.reduceSub, Nat.reduceLeDiff, Nat.zero_add, Nat.sub_zero, ynew, rd1_of (pre_get p3 hb2)]); try simp only [yback])
    have lh := pre_len p12
    refine WC_loop_inv (fun m f K1 => ∃ (k : Nat) (nb : Nat) (full : Bool) (L : List (Nat × List Int)), m = N - k ∧ k ≤ N ∧ f 1 = .pointer (some ⟨h.length, 0, none⟩) ∧ f 4 = sl nb L.length ∧ f 12 = I64 x.n ∧ f 13 = I64 k ∧ (TabS H2 K1 nb full L) ∧ (L.map Prod.snd = (colL x N).take k)) ?_ (N - 0) _ _ ⟨0, H2.length, true, [], rfl, by omega, (by first | rfl | (simp [upd_apply]; done)), (by first | rfl | (simp [upd_apply]; done)), (by first | rfl | (simp [upd_apply]; done)), (by first | rfl | (simp [upd_apply]; done)), ⟨p3, Nat.le_refl _, hb3, by simp, by simp⟩, (by simp)⟩
    rintro m f K1 ⟨k, nb, full, L, rfl, hk, f1, f4, f12, f13, st, hL⟩
    have hLl : L.length = k := by
      have := congrArg List.length hL
      rw [List.length_map, List.length_take, colL_len] at this
      omega
    have lt := st.lt
    have lh2 := pre_len st.hp
    have hbK := pre_get st.hp hb2
    have ltK := get_lt hbK
    by_cases hlt : (k : Int) < x.n
    · have hk' : k < N := by omega
      ((try simp (maxSteps := 3000000) (dsimp := false) (disch := first | omega | (simp only [len_new, len_put, len_kill]; omega)) only [↓ypre, ypost, ↓reduceIte, Nat.reduceEqDiff, Nat.reduceAdd, Nat.reduceSub, Nat.reduceLeDiff, Nat.zero_add, Nat.sub_zero, ynew, f1, f4, f12, f13, decide_eq_true hlt, rd1_of hbK]); try simp only [yback])
      refine ⟨by omega, ?_⟩
      rw [hNt, zrep_ints]
      generalize hH4 : AH.new K1 _ = H4
      obtain ⟨hb4, p4, n4⟩ := new_facts hH4
      have l4 : Lst H4 K1.length (List.replicate N 0) true := hb4
      have ixk := Lst.ix (n := K1.length) (j := (k : Int)) (len := N) (by omega)
      rw [Int.toNat_natCast] at ixk
      obtain ⟨H5, w5, e5, l5⟩ := l4.wr (j := k) (x := 1) (by rw [List.length_replicate]; exact hk')
      have q5 : K1 <+: H5 := by rw [e5]; exact pre_put p4 (Nat.le_refl _)
      have hb5 := pre_get q5 hbK
      rw [show Value.slice (some ⟨K1.length, 0, none⟩) N 1 = sl K1.length N from rfl]
      ((try simp (maxSteps := 3000000) (dsimp := false) (disch := first | omega | (simp only [len_new, len_put, len_kill]; omega)) only [↓ypre, ypost, ↓reduceIte, Nat.reduceEqDiff, Nat.reduceAdd, Nat.reduceSub, Nat.reduceLeDiff, Nat.zero_add, Nat.sub_zero, ynew, f1, f4, f12, f13, ixk, w5, rdn_of hb5]); try simp only [yback])
      have un := l5.ints
      rw [show (List.replicate N (0 : Int)).set k 1 = unN N k from rfl, unN_len] at un
      refine i_run (hv.pre (p12.trans (st.hp.trans q5))) pf un (unN_in fp.1) (by rw [unN_len]; omega) fun n fu H6 hn p6 o6 => ?_
      have q6 := q5.trans p6
      have l6 := pre_len q5
      ((try simp (maxSteps := 3000000) (dsimp := false) (disch := first | omega | (simp only [len_new, len_put, len_kill]; omega)) only [↓ypre, ypost, ↓reduceIte, Nat.reduceEqDiff, Nat.reduceAdd, Nat.reduceSub, Nat.reduceLeDiff, Nat.zero_add, Nat.sub_zero, ynew, f1, f4, f12, f13, sl_cells, sl_one]); try simp only [yback])
      refine (st.pre q6).app2 ⟨by omega, by omega, fun q hq => by have := lt.2 q hq; omega⟩ o6.own (by omega) fun nb' H' st' l' e' own' pre' => ?_
      ((try simp (maxSteps := 3000000) (dsimp := false) (disch := first | omega | (simp only [len_new, len_put, len_kill]; omega)) only [↓ypre, ypost, ↓reduceIte, Nat.reduceEqDiff, Nat.reduceAdd, Nat.reduceSub, Nat.reduceLeDiff, Nat.zero_add, Nat.sub_zero, ynew, f1, f4, f12, f13, wrap64_in]); try simp only [yback])
      refine InvQ_go (N - (k + 1)) (by omega) ⟨(k + 1), nb', false, (L ++ [(n, runP x (unN N k))]), rfl, by omega, (by first | rfl | exact f1 | (simp only [upd_apply]; rfl) | (show I64 _ = _; congr 1; omega)), (by first | rfl | exact f4 | (simp only [upd_apply]; rfl) | (show I64 _ = _; congr 1; omega)), (by first | rfl | exact f12 | (simp only [upd_apply]; rfl) | (show I64 _ = _; congr 1; omega)), (by first | rfl | exact f13 | (simp only [upd_apply]; rfl) | (show I64 _ = _; congr 1; omega)), st', ?_⟩
      rw [List.map_append, hL, take_next (d := []) (by rw [colL_len]; exact hk'), colL_get hk']
      rfl
    · have ek : k = N := by omega
      subst ek
      rw [List.take_of_length_le (by rw [colL_len]; exact Nat.le_refl _)] at hL
      ((try simp (maxSteps := 3000000) (dsimp := false) (disch := first | omega | (simp only [len_new, len_put, len_kill]; omega)) only [↓ypre, ypost, ↓reduceIte, Nat.reduceEqDiff, Nat.reduceAdd, Nat.reduceSub, Nat.reduceLeDiff, Nat.zero_add, Nat.sub_zero, ynew, f1, f4, f12, f13, decide_eq_false hlt]); try simp only [yback])
      have o := st.own
      rw [hL] at o
      refine i_transposed (w := x.out.length) o.rows (by rw [colL_len]; omega) (by rw [colL_len]; omega) (fun i hi => by rw [colL_len] at hi; rw [colL_get hi, runP_len]) (by omega) fun v' H' p' o' => ?_
      ((try simp (maxSteps := 3000000) (dsimp := false) (disch := first | omega | (simp only [len_new, len_put, len_kill]; omega)) only [↓ypre, ypost, ↓reduceIte, Nat.reduceEqDiff, Nat.reduceAdd, Nat.reduceSub, Nat.reduceLeDiff, Nat.zero_add, Nat.sub_zero, ynew]); try simp only [yback])
      exact hQ _ _ (p12.trans (st.hp.trans p')) (o'.lo (pre_len (p12.trans st.hp)))
def tabF (x : Prg) (N k i : Nat) : List (List Int) := (List.range x.out.length).map fun i' => gen N fun c => if c < k ∨ (c = k ∧ i' < i) then fmF x N i' c else 0
theorem tabF_len {x : Prg} {N k i : Nat} : (tabF x N k i).length = x.out.length := by simp [tabF]
theorem tabF_get {x : Prg} {N k i j : Nat} (hj : j < x.out.length) : (tabF x N k i).getD j [] = gen N fun c => if c < k ∨ (c = k ∧ j < i) then fmF x N j c else 0 := by
  simp [tabF, List.getD_eq_getElem?_getD, List.getElem?_map, List.getElem?_range hj]
theorem tabF_zero {x : Prg} {N j : Nat} (hj : j < x.out.length) : (tabF x N 0 0).getD j [] = List.replicate N 0 := by
  rw [tabF_get hj]
  exact (gen_ext (by simp) fun i hi => by simp [List.getD_eq_getElem?_getD, List.getElem?_replicate, hi]).symm
theorem tabF_next {x : Prg} {N k : Nat} : tabF x N k x.out.length = tabF x N (k + 1) 0 := by
  unfold tabF
  refine List.map_congr_left fun j hj => gen_congr fun c hc => ?_
  have := List.mem_range.1 hj
  by_cases h : c < k ∨ (c = k ∧ j < x.out.length)
  · rw [if_pos h, if_pos (by omega)]
  · rw [if_neg h, if_neg (by omega)]
theorem tabF_all {x : Prg} : tabF x x.n.toNat x.n.toNat 0 = fmL x := by
  unfold tabF fmL
  refine List.map_congr_left fun j hj => gen_congr fun c hc => ?_
  rw [if_pos (.inl hc)]
theorem tabF_set {x : Prg} {N k i : Nat} (hi : i < x.out.length) (hk : k < N) : (tabF x N k i).set i (((tabF x N k i).getD i []).set k (fmF x N i k)) = tabF x N k (i + 1) := by
  refine getD_ext (by rw [List.length_set, tabF_len, tabF_len]) fun j hj => ?_
  rw [List.length_set, tabF_len] at hj
  rw [set_getD' (by rw [tabF_len]; exact hi)]
  by_cases h : j = i
  · subst h
    rw [if_pos rfl, tabF_get hi, tabF_get hi]
    refine gen_ext (by rw [List.length_set, gen_len]) fun c hc => ?_
    rw [set_getD (by rw [gen_len]; exact hk)]
    by_cases hck : c = k
    · subst hck
      rw [if_pos rfl, if_pos (by omega)]
    · rw [if_neg hck, gen_get hc]
      by_cases h2 : c < k
      · rw [if_pos (.inl h2), if_pos (.inl h2)]
      · rw [if_neg (by omega), if_neg (by omega)]
  · rw [if_neg h, tabF_get hj, tabF_get hj]
    refine gen_congr fun c hc => ?_
    by_cases h2 : c < k ∨ (c = k ∧ j < i)
    · rw [if_pos h2, if_pos (by omega)]
    · rw [if_neg h2, if_neg (by omega)]
theorem map_snd_get {L : List (Nat × List Int)} {T : List (List Int)} {i : Nat} (hL : L.map Prod.snd = T) (hi : i < L.length) : (L[i]).2 = T.getD i [] := by
  rw [← hL, List.getD_eq_getElem?_getD, List.getElem?_map, List.getElem?_eq_getElem hi]
  rfl
theorem s_Forms {v w : Value} {x : Prg} {h : AH} {Q : Value → AH → Prop} (hv : PrgR h v w x) (pf : PrgF x)
    (hQ : ∀ v' h', h <+: h' → OwnRows h h' v' (fmL x) → Q v' h') : WF S 93 [prgV x v w] h Q := by
  refine WF_fn (fn := c93) rfl rfl ?_
  unfold c93
  have fp := pf.p
  have fn := pf.n
  have fout := pf.out
  obtain ⟨N, hN⟩ : ∃ N : Nat, x.n = N := ⟨x.n.toNat, by omega⟩
  have hNt : x.n.toNat = N := by omega
  have ta := tabF_all (x := x)
  rw [hNt] at ta
  rw [← ta] at hQ
  ((try simp (maxSteps := 3000000) (dsimp := false) (disch := first | omega | (simp only [len_new, len_put, len_kill]; omega)) only [↓ypre, ypost, ↓reduceIte, Nat.reduceEqDiff, Nat.reduceAdd, Nat.reduceSub, Nat.reduceLeDiff, Nat.zero_add, Nat.sub_zero, ynew, prgV, hv.1.one, hv.2.one]); try simp only [yback])
  generalize hH1 : AH.new h _ = H1
  obtain ⟨hb1, p1, n1⟩ := new_facts hH1
  generalize hH2 : AH.new H1 _ = H2
  obtain ⟨hb2, p2, n2⟩ := new_facts hH2
  refine WC_loop_inv (fun m f K1 => ∃ (i : Nat) (nb : Nat) (full : Bool) (L : List (Nat × List Int)), m = x.out.length - i ∧ i ≤ x.out.length ∧ f 1 = .pointer (some ⟨h.length, 0, none⟩) ∧ f 3 = sl nb L.length ∧ f 4 = I64 i ∧ (TabS H1 K1 nb full L) ∧ (L.map Prod.snd = (tabF x N 0 0).take i)) ?_ (x.out.length - 0) _ _ ⟨0, H1.length, true, [], rfl, by omega, (by first | rfl | (simp [upd_apply]; done)), (by first | rfl | (simp [upd_apply]; done)), (by first | rfl | (simp [upd_apply]; done)), ⟨p2, Nat.le_refl _, hb2, by simp, by simp⟩, (by simp)⟩
  rintro m f K1 ⟨i, nb, full, L, rfl, hi, f1, f3, f4, st, hL⟩
  have hLl : L.length = i := by
    have := congrArg List.length hL
    rw [List.length_map, List.length_take, tabF_len] at this
    omega
  have lt := st.lt
  have lh := pre_len st.hp
  have hbK := pre_get st.hp hb1
  have ltK := get_lt hbK
  by_cases hlt : (i : Int) < x.out.length
  · have hi' : i < x.out.length := by omega
    ((try simp (maxSteps := 3000000) (dsimp := false) (disch := first | omega | (simp only [len_new, len_put, len_kill]; omega)) only [↓ypre, ypost, ↓reduceIte, Nat.reduceEqDiff, Nat.reduceAdd, Nat.reduceSub, Nat.reduceLeDiff, Nat.zero_add, Nat.sub_zero, ynew, f1, f3, f4, rd1_of hbK, hv.2.len, decide_eq_true hlt]); try simp only [yback])
    refine ⟨by omega, ?_⟩
    rw [hNt, zrep_ints]
    generalize hH4 : AH.new K1 _ = H4
    obtain ⟨hb4, p4, n4⟩ := new_facts hH4
    have l4 : Lst H4 K1.length (List.replicate N 0) true := hb4
    rw [show Value.slice (some ⟨K1.length, 0, none⟩) N 1 = sl K1.length (List.replicate N (0 : Int)).length by rw [List.length_replicate]; rfl]
    ((try simp (maxSteps := 3000000) (dsimp := false) (disch := first | omega | (simp only [len_new, len_put, len_kill]; omega)) only [↓ypre, ypost, ↓reduceIte, Nat.reduceEqDiff, Nat.reduceAdd, Nat.reduceSub, Nat.reduceLeDiff, Nat.zero_add, Nat.sub_zero, ynew, f1, f3, f4, sl_cells, sl_one]); try simp only [yback])
    refine (st.pre p4).app2 ⟨by omega, by omega, fun q hq => by have := lt.2 q hq; omega⟩ l4.own (by omega) fun nb' H' st' l' e' own' pre' => ?_
    ((try simp (maxSteps := 3000000) (dsimp := false) (disch := first | omega | (simp only [len_new, len_put, len_kill]; omega)) only [↓ypre, ypost, ↓reduceIte, Nat.reduceEqDiff, Nat.reduceAdd, Nat.reduceSub, Nat.reduceLeDiff, Nat.zero_add, Nat.sub_zero, ynew, f1, f3, f4, wrap64_in]); try simp only [yback])
    refine InvQ_go (x.out.length - (i + 1)) (by omega) ⟨(i + 1), nb', false, (L ++ [(K1.length, List.replicate N 0)]), rfl, by omega, (by first | rfl | exact f1 | (simp only [upd_apply]; rfl) | (show I64 _ = _; congr 1; omega)), (by first | rfl | exact f3 | (simp only [upd_apply]; rfl) | (show I64 _ = _; congr 1; omega)), (by first | rfl | exact f4 | (simp only [upd_apply]; rfl) | (show I64 _ = _; congr 1; omega)), st', ?_⟩
    rw [List.map_append, hL, take_next (d := []) (by rw [tabF_len]; exact hi'), tabF_zero hi']
    rfl
  have ei : i = x.out.length := by omega
  subst ei
  rw [List.take_of_length_le (by rw [tabF_len]; exact Nat.le_refl _)] at hL
  ((try simp (maxSteps := 3000000) (dsimp := false) (disch := first | omega | (simp only [len_new, len_put, len_kill]; omega)) only [↓ypre, ypost, ↓reduceIte, Nat.reduceEqDiff, Nat.reduceAdd, Nat.reduceSub, Nat.reduceLeDiff, Nat.zero_add, Nat.sub_zero, ynew, f1, f3, f4, rd1_of hbK, hv.2.len, decide_eq_false hlt]); try simp only [yback])
  refine WC_loop_inv (fun m f K2 => ∃ (k : Nat) (L : List (Nat × List Int)), m = N - k ∧ k ≤ N ∧ f 1 = .pointer (some ⟨h.length, 0, none⟩) ∧ f 3 = sl nb L.length ∧ f 5 = I64 k ∧ (TabS H1 K2 nb full L) ∧ (L.map Prod.snd = tabF x N k 0)) ?_ (N - 0) _ _ ⟨0, L, rfl, by omega, (by first | rfl | exact f1 | (simp [upd_apply]; done)), (by first | rfl | exact f3 | (simp [upd_apply]; done)), (by first | rfl | (simp [upd_apply]; done)), st, hL⟩
  rintro m f K2 ⟨k, L, rfl, hk, f1, f3, f5, st, hL⟩
  have hLl : L.length = x.out.length := by
    have := congrArg List.length hL
    rw [List.length_map, tabF_len] at this
    omega
  have lt := st.lt
  have lh := pre_len st.hp
  have hbK := pre_get st.hp hb1
  have ltK := get_lt hbK
  by_cases hltk : (k : Int) < x.n
  · have hk' : k < N := by omega
    ((try simp (maxSteps := 3000000) (dsimp := false) (disch := first | omega | (simp only [len_new, len_put, len_kill]; omega)) only [↓ypre, ypost, ↓reduceIte, Nat.reduceEqDiff, Nat.reduceAdd, Nat.reduceSub, Nat.reduceLeDiff, Nat.zero_add, Nat.sub_zero, ynew, f1, f3, f5, rd1_of hbK, decide_eq_true hltk]); try simp only [yback])
    refine ⟨by omega, ?_⟩
    rw [hNt, zrep_ints]
    generalize hH4 : AH.new K2 _ = H4
    obtain ⟨hb4, p4, n4⟩ := new_facts hH4
    have l4 : Lst H4 K2.length (List.replicate N 0) true := hb4
    have ixk := Lst.ix (n := K2.length) (j := (k : Int)) (len := N) (by omega)
    rw [Int.toNat_natCast] at ixk
    obtain ⟨H5, w5, e5, l5⟩ := l4.wr (j := k) (x := 1) (by rw [List.length_replicate]; exact hk')
    have q5 : K2 <+: H5 := by rw [e5]; exact pre_put p4 (Nat.le_refl _)
    have hb5 := pre_get q5 hbK
    rw [show Value.slice (some ⟨K2.length, 0, none⟩) N 1 = sl K2.length N from rfl]
    ((try simp (maxSteps := 3000000) (dsimp := false) (disch := first | omega | (simp only [len_new, len_put, len_kill]; omega)) only [↓ypre, ypost, ↓reduceIte, Nat.reduceEqDiff, Nat.reduceAdd, Nat.reduceSub, Nat.reduceLeDiff, Nat.zero_add, Nat.sub_zero, ynew, f1, f3, f5, ixk, w5, rdn_of hb5]); try simp only [yback])
    have un := l5.ints
    rw [show (List.replicate N (0 : Int)).set k 1 = unN N k from rfl, unN_len] at un
    refine s_run (hv.pre (p1.trans (st.hp.trans q5))) pf un (unN_in fp.1) (by rw [unN_len]; omega) fun n fu H6 hn p6 o6 => ?_
    have q6 := q5.trans p6
    have l6 := pre_len q5
    have l66 := pre_len q6
    ((try simp (maxSteps := 3000000) (dsimp := false) (disch := first | omega | (simp only [len_new, len_put, len_kill]; omega)) only [↓ypre, ypost, ↓reduceIte, Nat.reduceEqDiff, Nat.reduceAdd, Nat.reduceSub, Nat.reduceLeDiff, Nat.zero_add, Nat.sub_zero, ynew, f1, f3, f5]); try simp only [yback])
    refine WC_loop_inv (fun m f K3 => ∃ (i : Nat) (L : List (Nat × List Int)), m = x.out.length - i ∧ i ≤ x.out.length ∧ f 1 = .pointer (some ⟨h.length, 0, none⟩) ∧ f 3 = sl nb L.length ∧ f 5 = I64 k ∧ f 7 = sl n (runP x (unN N k)).length ∧ f 8 = I64 i ∧ (TabS H1 K3 nb full L) ∧ (L.map Prod.snd = tabF x N k i) ∧ (Lst K3 n (runP x (unN N k)) fu) ∧ (∀ q, q ∈ L → q.1 < K2.length)) ?_ (x.out.length - 0) _ _ ⟨0, L, rfl, by omega, (by first | rfl | exact f1 | (simp [upd_apply]; done)), (by first | rfl | exact f3 | (simp [upd_apply]; done)), (by first | rfl | exact f5 | (simp [upd_apply]; done)), (by first | rfl | (simp [upd_apply]; done)), (by first | rfl | (simp [upd_apply]; done)), st.pre q6, hL, o6, fun q hq => lt.2 q hq⟩
    rintro m f K3 ⟨i, L, rfl, hi, f1, f3, f5, f7, f8, st, hL, ov, lq⟩
    have hLl : L.length = x.out.length := by
      have := congrArg List.length hL
      rw [List.length_map, tabF_len] at this
      omega
    have lenV7 : lenV (sl n (runP x (unN N k)).length) = some (I64 x.out.length) := by rw [runP_len]; rfl
    by_cases hlti : (i : Int) < x.out.length
    · have hi' : i < x.out.length := by omega
      have hiL : i < L.length := by omega
      have e2 := map_snd_get hL hiL
      have ix1 := Lst.ix (n := nb) (j := (i : Int)) (len := L.length) (by omega)
      have ix2 := Lst.ix (n := n) (j := (i : Int)) (len := (runP x (unN N k)).length) (by rw [runP_len]; omega)
      rw [Int.toNat_natCast] at ix1 ix2
      have rv := ov.rd (j := i) (by rw [runP_len]; exact hi')
      have rl := st.get hiL
      obtain ⟨m, r, hLi⟩ : ∃ m r, L[i] = (m, r) := ⟨_, _, rfl⟩
      have mlt := lq _ (List.getElem_mem hiL)
      rw [hLi] at e2 rl mlt
      have e2' : r = (tabF x N k i).getD i [] := e2
      have rlen : r.length = N := by rw [e2', tabF_get hi', gen_len]
      obtain ⟨e, fr, hg, st'⟩ := st.cell (x := (runP x (unN N k)).getD i 0) hiL hLi (show k < r.length by omega)
      have ix3 := Lst.ix (n := m) (j := (k : Int)) (len := r.length) (by omega)
      rw [Int.toNat_natCast] at ix3
      have sp := map_set (l := r) (j := k) (x := (runP x (unN N k)).getD i 0) (by omega)
      have rml : (r.map (Value.int .i64)).length = N := by rw [List.length_map, rlen]
      ((try simp (maxSteps := 3000000) (dsimp := false) (disch := first | omega | (simp only [len_new, len_put, len_kill]; omega)) only [↓ypre, ypost, ↓reduceIte, Nat.reduceEqDiff, Nat.reduceAdd, Nat.reduceSub, Nat.reduceLeDiff, Nat.zero_add, Nat.sub_zero, ynew, f1, f3, f5, f7, f8, lenV7, decide_eq_true hlti, ix1, rl, ix2, rv, ix3, wr_of hg, sp, rml, wrap64_in]); try simp only [yback])
      refine ⟨by omega, ?_⟩
      refine InvQ_go (x.out.length - (i + 1)) (by omega) ⟨(i + 1), (L.set i (m, r.set k ((runP x (unN N k)).getD i 0))), rfl, by omega, (by first | rfl | exact f1 | (simp only [upd_apply]; rfl) | (show I64 _ = _; congr 1; omega)), (by rw [List.length_set]; exact f3), (by first | rfl | exact f5 | (simp only [upd_apply]; rfl) | (show I64 _ = _; congr 1; omega)), (by first | rfl | exact f7 | (simp only [upd_apply]; rfl) | (show I64 _ = _; congr 1; omega)), (by first | rfl | exact f8 | (simp only [upd_apply]; rfl) | (show I64 _ = _; congr 1; omega)), st', ?_, (ov.put_ne (by show m ≠ n; have := mlt; simp only at this; omega)), ?_⟩
      · rw [List.map_set, hL]
        show (tabF x N k i).set i (r.set k _) = _
        rw [e2', ← tabF_set hi' hk']
        rfl
      · intro q hq
        rcases List.mem_or_eq_of_mem_set hq with hq | rfl
        · exact lq q hq
        · exact mlt
    · have ei : i = x.out.length := by omega
      subst ei
      rw [tabF_next] at hL
      ((try simp (maxSteps := 3000000) (dsimp := false) (disch := first | omega | (simp only [len_new, len_put, len_kill]; omega)) only [↓ypre, ypost, ↓reduceIte, Nat.reduceEqDiff, Nat.reduceAdd, Nat.reduceSub, Nat.reduceLeDiff, Nat.zero_add, Nat.sub_zero, ynew, f1, f3, f5, f7, f8, lenV7, decide_eq_false hlti, wrap64_in]); try simp only [yback])
      refine InvQ_go (N - (k + 1)) (by omega) ⟨(k + 1), L, rfl, by omega, (by first | rfl | exact f1 | (simp only [upd_apply]; rfl) | (show I64 _ = _; congr 1; omega)), (by first | rfl | exact f3 | (simp only [upd_apply]; rfl) | (show I64 _ = _; congr 1; omega)), (by first | rfl | exact f5 | (simp only [upd_apply]; rfl) | (show I64 _ = _; congr 1; omega)), st, hL⟩
  have ek : k = N := by omega
  subst ek
  ((try simp (maxSteps := 3000000) (dsimp := false) (disch := first | omega | (simp only [len_new, len_put, len_kill]; omega)) only [↓ypre, ypost, ↓reduceIte, Nat.reduceEqDiff, Nat.reduceAdd, Nat.reduceSub, Nat.reduceLeDiff, Nat.zero_add, Nat.sub_zero, ynew, f1, f3, f5, rd1_of hbK, decide_eq_false hltk]); try simp only [yback])
  have o := st.own
  rw [hL] at o
  exact hQ _ _ (p1.trans st.hp) (o.lo (by omega))
theorem s_FormsOf {v w : Value} {x : Prg} {h : AH} {Q : Value → AH → Prop} (hv : PrgR h v w x) (hl : SmallP x)
    (hQ : ∀ v' h', h <+: h' → OwnRows h h' v' (fmR x).1 → Q (.tuple #[v', I64 (fmR x).2]) h') : WF S 45 [prgV x v w] h Q := by
  refine WF_fn (fn := c45) rfl rfl ?_
  unfold c45
  ((try simp (maxSteps := 3000000) (dsimp := false) (disch := first | omega | (simp only [len_new, len_put, len_kill]; omega)) only [↓ypre, ypost, ↓reduceIte, Nat.reduceEqDiff, Nat.reduceAdd, Nat.reduceSub, Nat.reduceLeDiff, Nat.zero_add, Nat.sub_zero, ynew, prgV, hv.1.one, hv.2.one]); try simp only [yback])
  generalize hH1 : AH.new h _ = H1
  obtain ⟨hb1, p1, n1⟩ := new_facts hH1
  ((try simp (maxSteps := 3000000) (dsimp := false) (disch := first | omega | (simp only [len_new, len_put, len_kill]; omega)) only [↓ypre, ypost, ↓reduceIte, Nat.reduceEqDiff, Nat.reduceAdd, Nat.reduceSub, Nat.reduceLeDiff, Nat.zero_add, Nat.sub_zero, ynew, rdn_of hb1]); try simp only [yback])
  refine s_IsPrg (hv.pre p1) hl fun H2 p2 => ?_
  have hb2 := pre_get p2 hb1
  unfold fmR at hQ
  cases h1 : isPrg x with
  | false =>
    rw [h1, if_neg (by decide)] at hQ
    ((try simp (maxSteps := 3000000) (dsimp := false) (disch := first | omega | (simp only [len_new, len_put, len_kill]; omega)) only [↓ypre, ypost, ↓reduceIte, Nat.reduceEqDiff, Nat.reduceAdd, Nat.reduceSub, Nat.reduceLeDiff, Nat.zero_add, Nat.sub_zero, ynew]); try simp only [yback])
    exact hQ _ _ (p1.trans p2) (.inl ⟨rfl, rfl⟩)
  | true =>
    rw [h1, if_pos rfl] at hQ
    ((try simp (maxSteps := 3000000) (dsimp := false) (disch := first | omega | (simp only [len_new, len_put, len_kill]; omega)) only [↓ypre, ypost, ↓reduceIte, Nat.reduceEqDiff, Nat.reduceAdd, Nat.reduceSub, Nat.reduceLeDiff, Nat.zero_add, Nat.sub_zero, ynew, rdn_of hb2]); try simp only [yback])
    refine s_Forms (hv.pre (p1.trans p2)) (isPrg_facts h1) fun v' H3 p3 o => ?_
    ((try simp (maxSteps := 3000000) (dsimp := false) (disch := first | omega | (simp only [len_new, len_put, len_kill]; omega)) only [↓ypre, ypost, ↓reduceIte, Nat.reduceEqDiff, Nat.reduceAdd, Nat.reduceSub, Nat.reduceLeDiff, Nat.zero_add, Nat.sub_zero, ynew]); try simp only [yback])
    exact hQ _ _ ((p1.trans p2).trans p3) (o.lo (pre_len (p1.trans p2)))
end Go.Proofs.Ytilpnbejpndgpaa.X
