/- The program's rank. -/
import Derived.Test.YtnjhhgfpclngcaaXF28
set_option linter.unusedVariables false
set_option linter.unusedSimpArgs false
set_option maxRecDepth 20000
set_option maxHeartbeats 4000000
namespace Go.Proofs.Ytnjhhgfpclngcaa.X
open Go Go.RowKit

def rowV (p : Nat × List Int) : Value := .slice (some ⟨p.1, 0, none⟩) p.2.length 1
/-- The state while the rows are copied. -/
structure CloneS (h0 h : AH) (nb : Nat) (full : Bool) (L : List (Nat × List Int)) : Prop where
  hp : h0 <+: h
  lo : h0.length ≤ nb
  g : h.get nb = some ⟨L.map rowV, 25, false, full⟩
  rows : ∀ p, p ∈ L → (h0.length ≤ p.1 ∧ p.1 ≠ nb) ∧ OwnB h p.1 (p.2.map (Value.int .i64)) false
  dist : L.Pairwise (fun p q => p.1 ≠ q.1)
theorem OwnB.kill_ne {h : AH} {c : List Value} {full : Bool} {n m : Nat} (o : OwnB h n c full) (e : m ≠ n) : OwnB (h.kill m) n c full := by
  obtain ⟨t, hg⟩ := o
  exact ⟨t, by rw [get_kill_ne e]; exact hg⟩
theorem OwnB.new {h : AH} {c : List Value} {full : Bool} {n : Nat} {b : Blk} (o : OwnB h n c full) : OwnB (h.new b) n c full := by
  obtain ⟨t, hg⟩ := o
  exact ⟨t, get_new_any hg⟩
theorem CloneS.app {h0 h1 h2 : AH} {nb n : Nat} {full fu : Bool} {L : List (Nat × List Int)} {r : List Int} {e : TypeId} (s : CloneS h0 h1 nb full L) (hn : h1.length ≤ n) (p : h1 <+: h2) (ob : OwnB h2 n (r.map (Value.int .i64)) false)
    (hl : (L.length : Int) ≤ 1048576) {Q : Value → AH → Prop}
    (hQ : ∀ nb' H', CloneS h0 H' nb' false (L ++ [(n, r)]) → Q (.slice (some ⟨nb', 0, none⟩) (L ++ [(n, r)]).length 1) H') :
    OQ (appV 25 1 24 (.slice (some ⟨nb, 0, none⟩) L.length 1) (.slice (some ⟨h2.length, 0, none⟩) 1 1) (h2.new ⟨[.slice (some ⟨n, 0, none⟩) r.length 1], e, false, fu⟩)) Q := by
  have hrd : (h2.new ⟨[.slice (some ⟨n, 0, none⟩) r.length 1], e, false, fu⟩).rdn h2.length 0 1 = some [.slice (some ⟨n, 0, none⟩) r.length 1] := by rw [rdn_new_same]; rfl
  have hk : (h2.new ⟨[.slice (some ⟨n, 0, none⟩) r.length 1], e, false, fu⟩).get nb = some ⟨L.map rowV, 25, false, full⟩ := get_new_any (pre_get p s.g)
  have l1 := get_lt s.g
  have l2 := pre_len p
  have l3 := ob.lt
  have l0 := pre_len s.hp
  rw [app_own hk (by simp) hrd (by omega), OQ_some]
  have key : CloneS h0 (((h2.new ⟨[.slice (some ⟨n, 0, none⟩) r.length 1], e, false, fu⟩).kill nb).new ⟨L.map rowV ++ [.slice (some ⟨n, 0, none⟩) r.length 1], 25, false, false⟩) (h2.new ⟨[.slice (some ⟨n, 0, none⟩) r.length 1], e, false, fu⟩).length false (L ++ [(n, r)]) := by
    refine ⟨pre_new (pre_kill (pre_new (s.hp.trans p)) s.lo), by rw [len_new]; omega, ?_, fun q hq => ?_, ?_⟩
    · rw [get_new_eq (by rw [len_kill])]
      simp [rowV]
    · rw [len_new]
      rcases List.mem_append.1 hq with hq | hq
      · have a := s.rows q hq
        have := a.2.lt
        exact ⟨⟨a.1.1, by omega⟩, (((a.2.pre p).new).kill_ne (fun e => a.1.2 e.symm)).new⟩
      · rw [List.mem_singleton] at hq
        subst hq
        exact ⟨⟨show h0.length ≤ n by omega, show n ≠ h2.length + 1 by omega⟩, (ob.new.kill_ne (show nb ≠ n by omega)).new⟩
    · rw [List.pairwise_append]
      refine ⟨s.dist, by simp, fun a ha b hb => ?_⟩
      rw [List.mem_singleton] at hb
      subst hb
      have := (s.rows a ha).2.lt
      show a.1 ≠ n
      omega
  have := hQ _ _ key
  rw [List.length_append, List.length_singleton] at this
  exact this
theorem CloneS.own {h0 h : AH} {nb : Nat} {L : List (Nat × List Int)} (s : CloneS h0 h nb false L) : OwnT h0 h 0 nb (L.map Prod.fst) (L.map Prod.snd) := by
  have e0 : ((L.map Prod.snd).mapIdx fun i r => Value.slice (some ⟨(L.map Prod.fst).getD i 0, 0, none⟩) r.length 1) = L.map rowV := by
    refine List.ext_getElem? fun j => ?_
    rw [List.getElem?_mapIdx, List.getElem?_map, List.getElem?_map, List.getD_eq_getElem?_getD, List.getElem?_map]
    cases L[j]? <;> rfl
  have ei : ∀ i, i < L.length → ∃ hi : i < L.length, (L.map Prod.fst).getD i 0 = (L[i]).1 ∧ (L.map Prod.snd).getD i [] = (L[i]).2 := fun i hi => ⟨hi, by simp [List.getD_eq_getElem?_getD, hi], by simp [List.getD_eq_getElem?_getD, hi]⟩
  refine ⟨s.hp, ⟨s.lo, get_lt s.g⟩, ⟨25, by rw [e0]; exact s.g⟩, by simp, fun i hi => ?_, fun i j hi hj hij => ?_⟩
  · obtain ⟨hi', e1, e2⟩ := ei i (by simpa using hi)
    rw [e1, e2]
    exact s.rows _ (List.getElem_mem hi')
  · obtain ⟨hi', e1, -⟩ := ei i (by simpa using hi)
    obtain ⟨hj', e2, -⟩ := ei j (by simpa using hj)
    rw [e1, e2]
    have := List.pairwise_iff_getElem.1 s.dist
    rcases Nat.lt_or_gt_of_ne hij with h | h
    · exact this i j hi' hj' h
    · exact fun e => this j i hj' hi' h e.symm
theorem set_self {α : Type} {d : α} {l : List α} {k : Nat} (hk : k < l.length) : l.set k (l.getD k d) = l := by
  rw [List.getD_eq_getElem?_getD, List.getElem?_eq_getElem hk]
  simp
theorem put_put {h : AH} {n : Nat} {a b : Blk} : (h.put n a).put n b = h.put n b := by simp [AH.put]

theorem i_rank : RankDoes 87 := by
  intro v rows p W h Q hv hp hN gd hW hQ
  refine WF_fn (fn := c87) rfl rfl ?_
  unfold c87
  have hp5 := isP_in hp
  obtain ⟨cs, hvv, hcl, hr⟩ := hv
  try simp (maxSteps := 3000000) (disch := first | omega | (simp only [len_new, len_put, len_kill]; omega)) only [↓xpre, xpost, ↓reduceIte, Nat.reduceEqDiff, Nat.reduceAdd, Nat.reduceSub, Nat.reduceLeDiff, Nat.zero_add, Nat.sub_zero, fillL, zrep, hvv.len, hcl]
  generalize hH : AH.new h _ = H0
  obtain ⟨hb0, p0, n0⟩ := new_facts hH
  have st0 : CloneS h H0 h.length true [] := ⟨p0, Nat.le_refl _, hb0, by simp, by simp⟩
  refine WC_loop_inv (fun m f K1 => ∃ (i : Nat) (nb : Nat) (full : Bool) (L : List (Nat × List Int)), m = rows.length - i ∧ i ≤ rows.length ∧ f 0 = I64 p ∧ f 5 = .slice (some ⟨nb, 0, none⟩) L.length 1 ∧ f 16 = v ∧ f 17 = I64 rows.length ∧ f 18 = I64 i ∧ (CloneS h K1 nb full L) ∧ (L.map Prod.snd = rows.take i) ∧ (0 < i → full = false)) ?_ (rows.length - 0) _ _ ⟨0, h.length, true, [], rfl, by omega, (by first | rfl | exact f0), (by first | rfl | exact f5), (by first | rfl | exact f16), (by first | rfl | exact f17), (by first | rfl | exact f18), st0, (by simp), (by omega)⟩
  rintro m f K1 ⟨i, nb, full, L, rfl, hi, f0, f5, f16, f17, f18, st, hL, hfu⟩
  have hLl : L.length = i := by
    have := congrArg List.length hL
    rw [List.length_map, List.length_take] at this
    omega
  try simp (maxSteps := 3000000) (disch := first | omega | (simp only [len_new, len_put, len_kill]; omega)) only [↓xpre, xpost, ↓reduceIte, Nat.reduceEqDiff, Nat.reduceAdd, Nat.reduceSub, Nat.reduceLeDiff, Nat.zero_add, Nat.sub_zero, f0, f5, f16, f17, f18, IfW_dec]
  refine ⟨fun hlt => ?_, fun hge => ?_⟩
  · have hi' : i < rows.length := by omega
    have hvK := hvv.pre st.hp
    have hix := hvK.ix (k := .i64) (j := i) (by omega) (by omega)
    have hrd := hvK.rd (j := i) (by omega) (by omega)
    try simp (maxSteps := 3000000) (disch := first | omega | (simp only [len_new, len_put, len_kill]; omega)) only [↓xpre, xpost, ↓reduceIte, Nat.reduceEqDiff, Nat.reduceAdd, Nat.reduceSub, Nat.reduceLeDiff, Nat.zero_add, Nat.sub_zero, f0, f5, f16, f17, f18, hix, hrd, Int.toNat_natCast]
    refine i_CloneB ((hr i hi').pre st.hp) (by rw [(gd i hi').1]; omega) (by rw [(gd i hi').1]; omega) fun n h2 hn p2 ob => ?_
    try simp (maxSteps := 3000000) (disch := first | omega | (simp only [len_new, len_put, len_kill]; omega)) only [↓xpre, xpost, ↓reduceIte, Nat.reduceEqDiff, Nat.reduceAdd, Nat.reduceSub, Nat.reduceLeDiff, Nat.zero_add, Nat.sub_zero, f0, f5, f16, f17, f18, fillL, zrep]
    refine st.app hn p2 ob (by omega) fun nb' H' st' => ?_
    try simp (maxSteps := 3000000) (disch := first | omega | (simp only [len_new, len_put, len_kill]; omega)) only [↓xpre, xpost, ↓reduceIte, Nat.reduceEqDiff, Nat.reduceAdd, Nat.reduceSub, Nat.reduceLeDiff, Nat.zero_add, Nat.sub_zero, f0, f5, f16, f17, f18, wrap64_in]
    refine InvQ_go (rows.length - (i + 1)) (by omega) ⟨(i + 1), nb', false, (L ++ [(n, rows.getD i [])]), rfl, by omega, (by first | rfl | exact f0 | (simp only [upd_apply]; rfl) | (show I64 _ = _; congr 1; omega)), (by first | rfl | exact f5 | (simp only [upd_apply]; rfl) | (show I64 _ = _; congr 1; omega)), (by first | rfl | exact f16 | (simp only [upd_apply]; rfl) | (show I64 _ = _; congr 1; omega)), (by first | rfl | exact f17 | (simp only [upd_apply]; rfl) | (show I64 _ = _; congr 1; omega)), (by first | rfl | exact f18 | (simp only [upd_apply]; rfl) | (show I64 _ = _; congr 1; omega)), st', ?_, (fun _ => rfl)⟩
    rw [List.map_append, hL, List.take_succ_eq_append_getElem hi']
    simp [List.getD_eq_getElem?_getD, hi']
  · have e : i = rows.length := by omega
    subst e
    rw [List.take_length] at hL
    have hf' := hfu (by omega)
    subst hf'
    have stT := st.own
    rw [hL] at stT
    rw [hLl] at f5
    have blt : ∀ i, i < rows.length → (L.map Prod.fst).getD i 0 < K1.length := fun i hi => (stT.rows i hi).2.lt
    have nlt := stT.lo0.2
    try simp (maxSteps := 3000000) (disch := first | omega | (simp only [len_new, len_put, len_kill]; omega)) only [↓xpre, xpost, ↓reduceIte, Nat.reduceEqDiff, Nat.reduceAdd, Nat.reduceSub, Nat.reduceLeDiff, Nat.zero_add, Nat.sub_zero, f0, f5, f16, f17, f18]
    generalize hH2 : AH.new K1 _ = H2
    obtain ⟨hb2, p2, n2⟩ := new_facts hH2
    have hrk : elim p rows 0 0 (W - 0) = rankN p rows := by
      unfold rankN
      rw [(gd 0 (by omega)).1]
      rfl
    refine WC_loop_inv (fun m f K2 => ∃ (c : Nat) (r : Nat) (bs : List Nat) (T : List (List Int)) (bx : Nat), m = W - c ∧ c ≤ W ∧ f 0 = I64 p ∧ f 5 = .slice (some ⟨nb, 0, none⟩) rows.length 1 ∧ f 8 = I64 r ∧ f 9 = .pointer (some ⟨bx, 0, none⟩) ∧ (OwnT h K2 0 nb bs T) ∧ (OwnB K2 bx [I64 c] true) ∧ (nb < bx) ∧ (∀ i, i < T.length → bs.getD i 0 < bx) ∧ (r ≤ rows.length) ∧ (T.length = rows.length) ∧ (Good p T W) ∧ (elim p T r c (W - c) = rankN p rows)) ?_ (W - 0) _ _ ⟨0, 0, (L.map Prod.fst), rows, K1.length, rfl, by omega, (by first | rfl | exact f0), (by first | rfl | exact f5), (by first | rfl | exact f8), (by first | rfl | exact f9), stT.pre p2, ⟨_, hb2⟩, nlt, blt, (by omega), rfl, gd, hrk⟩
    rintro m f K2 ⟨c, r, bs, T, bx, rfl, hc, f0, f5, f8, f9, so, hbx, hlo, hlb, hrN, hT, g, hel⟩
    clear stT blt nlt hb2 hH2 p2 n2 hrk st hr hvv hcl
    obtain ⟨eb, hgb⟩ := hbx
    by_cases hrn : r < rows.length
    case neg =>
      try simp (maxSteps := 3000000) (disch := first | omega | (simp only [len_new, len_put, len_kill]; omega)) only [↓xpre, xpost, ↓reduceIte, Nat.reduceEqDiff, Nat.reduceAdd, Nat.reduceSub, Nat.reduceLeDiff, Nat.zero_add, Nat.sub_zero, f0, f5, f8, f9, decide_eq_false (show ¬ ((r : Int) < (rows.length : Int)) by omega)]
      have := hQ _ so.hp
      rw [← hel, elim_full (by omega)] at this
      exact this
    have g0 := (g 0 (by omega)).1
    have rd0 := so.rdk (k := 0) hT (by omega)
    rw [g0] at rd0
    have rx0 : ixsV 1 (.slice (some ⟨nb, 0, none⟩) rows.length 1) (I64 0) = _ := rd0.1
    try simp (maxSteps := 3000000) (disch := first | omega | (simp only [len_new, len_put, len_kill]; omega)) only [↓xpre, xpost, ↓reduceIte, Nat.reduceEqDiff, Nat.reduceAdd, Nat.reduceSub, Nat.reduceLeDiff, Nat.zero_add, Nat.sub_zero, f0, f5, f8, f9, decide_eq_true (show (r : Int) < (rows.length : Int) by omega), rx0, rd0.2, rd1_of hgb, IfW_dec]
    refine ⟨fun hlt => ?_, fun hge => ?_⟩
    · have hvT := so.vals
      rw [hT] at hvT
      obtain ⟨v', hs1, hs2⟩ := hvT.slcV_lo (k1 := .i64) (l := r) ⟨by omega, by rw [List.length_mapIdx]; omega⟩
      rw [Int.toNat_natCast] at hs2
      try simp (maxSteps := 3000000) (disch := first | omega | (simp only [len_new, len_put, len_kill]; omega)) only [↓xpre, xpost, ↓reduceIte, Nat.reduceEqDiff, Nat.reduceAdd, Nat.reduceSub, Nat.reduceLeDiff, Nat.zero_add, Nat.sub_zero, f0, f5, f8, f9, ↓WX_slc, omapF_some, omapF_none, hs1]
      refine i_IndexRows (q := fun i => decide (tb T (r + i) c ≠ 0)) hs2 (by rw [List.length_drop, List.length_mapIdx]; omega) (fun i hi Q hq => ?_) ?_
      · rw [List.length_drop, List.length_mapIdx] at hi
        have e1 : ((T.mapIdx fun i r => Value.slice (some ⟨bs.getD i 0, 0, none⟩) r.length 1).drop r).getD i undef = .slice (some ⟨bs.getD (r + i) 0, 0, none⟩) (T.getD (r + i) []).length 1 := by
          rw [← outer_get (bs := bs) (show r + i < T.length by omega), List.getD_eq_getElem?_getD, List.getElem?_drop, List.getD_eq_getElem?_getD]
        rw [e1]
        simp only [WK_func]
        exact i_rank1 (so.row (k := r + i) (by omega)) (by rw [(g (r + i) (by omega)).1]; omega) hgb hq
      · have hlen : ((T.mapIdx fun i r => Value.slice (some ⟨bs.getD i 0, 0, none⟩) r.length 1).drop r).length = rows.length - r := by rw [List.length_drop, List.length_mapIdx, hT]
        have hfa := firstAt_pivot (T := T) (c := c) (r := r) (m := rows.length - r) (i := 0)
        rw [Nat.add_zero, show r + (rows.length - r) = rows.length by omega] at hfa
        rw [hlen, hfa]
        have hpl := pivot_le (T := T) (c := c) (m := rows.length - r) (r := r)
        by_cases hpv : pivot T c (rows.length - r) r = rows.length
        · rw [if_pos hpv]
          try simp (maxSteps := 3000000) (disch := first | omega | (simp only [len_new, len_put, len_kill]; omega)) only [↓xpre, xpost, ↓reduceIte, Nat.reduceEqDiff, Nat.reduceAdd, Nat.reduceSub, Nat.reduceLeDiff, Nat.zero_add, Nat.sub_zero, f0, f5, f8, f9, decide_eq_true (show (-1 : Int) < 0 by decide), rd1_of hgb, wrap64_in]
          have hcs : colStep p T r c = (T, r) := by
            unfold colStep
            rw [hT, if_pos hpv]
          have lbx := get_lt hgb
          refine InvQ_go (W - (c + 1)) (by omega) ⟨(c + 1), r, bs, T, K2.length, rfl, by omega, (by first | rfl | exact f0 | (simp only [upd_apply]; rfl) | (show I64 _ = _; congr 1; omega)), (by first | rfl | exact f5 | (simp only [upd_apply]; rfl) | (show I64 _ = _; congr 1; omega)), (by first | rfl | exact f8 | (simp only [upd_apply]; rfl) | (show I64 _ = _; congr 1; omega)), (by first | rfl | exact f9 | (simp only [upd_apply]; rfl) | (show I64 _ = _; congr 1; omega)), (so.pre (pre_new (List.prefix_refl _))), ⟨_, get_new_same⟩, so.lo0.2, (fun i hi => (so.rows i hi).2.lt), hrN, hT, g, ?_⟩
          rw [← hel, show W - c = (W - (c + 1)) + 1 by omega]
          conv => rhs; unfold elim
          rw [hcs]
        · rw [if_neg hpv]
          have hpne := pivot_ne (T := T) (c := c) (m := rows.length - r) (r := r) (by omega)
          have hcs : colStep p T r c = (swept p (swapped T r (pivot T c (rows.length - r) r)) r c rows.length, r + 1) := by
            unfold colStep
            rw [hT, if_neg hpv]
          generalize hbq : pivot T c (rows.length - r) r = b at hpl hpv hpne hcs ⊢
          have hbN : b < rows.length := by omega
          have rr := so.rdk (k := r) hT hrn
          have rb := so.rdk (k := b) hT hbN
          obtain ⟨e, hg⟩ := so.g
          have sw := so.swap (r := r) (b := b) (e := e) (by omega) (by omega) rfl
          have hbx2 : OwnB (K2.put nb ⟨((T.mapIdx fun i r => Value.slice (some ⟨bs.getD i 0, 0, none⟩) r.length 1).set r (.slice (some ⟨bs.getD b 0, 0, none⟩) (T.getD b []).length 1)).set b (.slice (some ⟨bs.getD r 0, 0, none⟩) (T.getD r []).length 1), e, false, false⟩) bx [I64 c] true := OwnB.put_ne ⟨eb, hgb⟩ (by omega)
          have nlt := so.lo0.2
          have sp1 : splice (T.mapIdx fun i r => Value.slice (some ⟨bs.getD i 0, 0, none⟩) r.length 1) r [.slice (some ⟨bs.getD b 0, 0, none⟩) (T.getD b []).length 1] = (T.mapIdx fun i r => Value.slice (some ⟨bs.getD i 0, 0, none⟩) r.length 1).set r (.slice (some ⟨bs.getD b 0, 0, none⟩) (T.getD b []).length 1) := splice_set (by rw [List.length_mapIdx]; omega)
          have sp2 : splice ((T.mapIdx fun i r => Value.slice (some ⟨bs.getD i 0, 0, none⟩) r.length 1).set r (.slice (some ⟨bs.getD b 0, 0, none⟩) (T.getD b []).length 1)) b [.slice (some ⟨bs.getD r 0, 0, none⟩) (T.getD r []).length 1] = _ := splice_set (by rw [List.length_set, List.length_mapIdx]; omega)
          have t1l : (swapped T r b).length = rows.length := by rw [swapped_len, hT]
          have t1r : (swapped T r b).getD r [] = T.getD b [] := by rw [swapped_get (by omega) (by omega), if_pos rfl]
          have g1 := g.swapped (r := r) (i := b) (by omega) (by omega)
          have lb1 : ∀ i, i < rows.length → (swapB bs r b).getD i 0 < bx := fun i hi => by
            rw [swapB_get (by rw [so.len]; omega) (by rw [so.len]; omega)]
            split
            · exact hlb b (by omega)
            · split
              · exact hlb r (by omega)
              · exact hlb i (by omega)
          generalize hT1 : swapped T r b = T1 at *
          generalize hB1 : swapB bs r b = bs1 at *
          have gr := g1 r (by omega)
          have rr1 := sw.rdk (k := r) t1l hrn
          rw [gr.1, rd1_put_same nlt] at rr1
          have rc1 := sw.rdc (k := r) (l := c) (W := W) (by omega) gr.1 (by omega)
          have gb := (g b (by omega)).2 c (by omega)
          have nz : 1 ≤ (T1.getD r []).getD c 0 ∧ (T1.getD r []).getD c 0 < p := by
            rw [t1r]; unfold tb at gb hpne; omega
          try simp (maxSteps := 3000000) (disch := first | omega | (simp only [len_new, len_put, len_kill]; omega)) only [↓xpre, xpost, ↓reduceIte, Nat.reduceEqDiff, Nat.reduceAdd, Nat.reduceSub, Nat.reduceLeDiff, Nat.zero_add, Nat.sub_zero, f0, f5, f8, f9, decide_eq_false (show ¬ (((b - r : Nat) : Int) < 0) by omega), wrap64_in, show ((r : Int) + ((b - r : Nat) : Int)) = (b : Int) by omega, rr.1, rr.2, rb.1, rb.2, wr_of hg, sp1, sp2, List.length_mapIdx, List.length_set, rr1.2, rd1_of hgb, rc1.1, rc1.2]
          refine ⟨by omega, by omega, ?_⟩
          generalize hG : AH.put _ _ _ = G2 at sw hbx2 ⊢
          obtain ⟨eb2, hgb2⟩ := hbx2
          refine i_inverse hp5 nz (invN_is hp nz) ?_
          generalize hiv : invN p ((T1.getD r []).getD c 0) = iv
          have ivb : 1 ≤ iv ∧ iv < p := by have := invN_is hp nz; rw [hiv] at this; exact ⟨this.1, this.2.1⟩
          try simp (maxSteps := 3000000) (disch := first | omega | (simp only [len_new, len_put, len_kill]; omega)) only [↓xpre, xpost, ↓reduceIte, Nat.reduceEqDiff, Nat.reduceAdd, Nat.reduceSub, Nat.reduceLeDiff, Nat.zero_add, Nat.sub_zero, f0, f5, f8, f9, wrap64_in]
          refine WC_loop_inv (fun m f K3 => ∃ (k : Nat), m = rows.length - k ∧ k ≤ rows.length ∧ f 0 = I64 p ∧ f 5 = .slice (some ⟨nb, 0, none⟩) rows.length 1 ∧ f 8 = I64 r ∧ f 9 = .pointer (some ⟨bx, 0, none⟩) ∧ f 11 = I64 iv ∧ f 12 = I64 k ∧ (OwnT h K3 0 nb bs1 (swept p T1 r c k)) ∧ (OwnB K3 bx [I64 c] true) ∧ (r + 1 ≤ k)) ?_ (rows.length - (r+1)) _ _ ⟨(r+1), rfl, by omega, (by first | rfl | exact f0), (by first | rfl | exact f5), (by first | rfl | exact f8), (by first | rfl | exact f9), (by first | rfl | exact f11), (by first | rfl | exact f12), (by rw [swept_start]; exact sw), ⟨_, hgb2⟩, Nat.le_refl _⟩
          rintro m f K3 ⟨k, rfl, hk, f0, f5, f8, f9, f11, f12, sk, hb3, hrk⟩
          clear sw rr1 rc1 hG hgb2
          obtain ⟨eb3, hgb3⟩ := hb3
          try simp (maxSteps := 3000000) (disch := first | omega | (simp only [len_new, len_put, len_kill]; omega)) only [↓xpre, xpost, ↓reduceIte, Nat.reduceEqDiff, Nat.reduceAdd, Nat.reduceSub, Nat.reduceLeDiff, Nat.zero_add, Nat.sub_zero, f0, f5, f8, f9, f11, f12, IfW_dec]
          refine ⟨fun hltk => ?_, fun hgek => ?_⟩
          · have hk' : k < rows.length := by omega
            have ek : (swept p T1 r c k).getD k [] = T1.getD k [] := by rw [swept_get (by omega), if_neg (by omega)]
            have er : (swept p T1 r c k).getD r [] = T1.getD r [] := by rw [swept_get (by omega), if_neg (by omega)]
            have sl0 : (swept p T1 r c k).length = rows.length := by rw [swept_len, t1l]
            have enx : swept p T1 r c (k + 1) = (swept p T1 r c k).set k (rowOp p (T1.getD r []) (T1.getD k []) c) := swept_next (by omega) (by omega)
            have gk := g1 k (by omega)
            have rk := sk.rdk (k := k) sl0 hk'
            have rc := sk.rdc (k := k) (l := c) (W := W) (by omega) (by rw [ek]; exact gk.1) (by omega)
            rw [ek, gk.1] at rk
            rw [ek] at rc
            have gkc := gk.2 c (by omega)
            have bm := mul_in (a := (T1.getD k []).getD c 0) (b := iv) (A := 5) (B := 5) (by unfold tb at gkc; omega) (by omega)
            generalize hsd : ((T1.getD k []).getD c 0 * iv).tmod p = sN
            have sb : 0 ≤ sN ∧ sN < p := by rw [← hsd]; exact tmod_nn bm.1 (by omega)
            try simp (maxSteps := 3000000) (disch := first | omega | (simp only [len_new, len_put, len_kill]; omega)) only [↓xpre, xpost, ↓reduceIte, Nat.reduceEqDiff, Nat.reduceAdd, Nat.reduceSub, Nat.reduceLeDiff, Nat.zero_add, Nat.sub_zero, f0, f5, f8, f9, f11, f12, rk.1, rk.2, rd1_of hgb3, rc.1, rc.2, wrap64_in, bin_rem, hsd]
            obtain ⟨G, hGx⟩ : ∃ G : Nat → Int, ∀ x, G x = md p ((T1.getD k []).getD x 0 - sN * (T1.getD r []).getD x 0) := ⟨_, fun _ => rfl⟩
            refine WC_loop_inv (fun m f K4 => ∃ (l : Nat), m = W - l ∧ l ≤ W ∧ f 0 = I64 p ∧ f 5 = .slice (some ⟨nb, 0, none⟩) rows.length 1 ∧ f 8 = I64 r ∧ f 9 = .pointer (some ⟨bx, 0, none⟩) ∧ f 11 = I64 iv ∧ f 12 = I64 k ∧ f 13 = I64 sN ∧ f 99 = I64 W ∧ f 100 = I64 l ∧ (OwnT h K4 0 nb bs1 ((swept p T1 r c k).set k (mixed G (T1.getD k []) l))) ∧ (OwnB K4 bx [I64 c] true)) ?_ (W - 0) _ _ ⟨0, rfl, by omega, (by first | rfl | exact f0), (by first | rfl | exact f5), (by first | rfl | exact f8), (by first | rfl | exact f9), (by first | rfl | exact f11), (by first | rfl | exact f12), (by first | rfl | exact f13), (by first | rfl | exact f99), (by first | rfl | exact f100), (by rw [mixed_zero, ← ek, set_self (by omega)]; exact sk), ⟨_, hgb3⟩⟩
            rintro m f K4 ⟨l, rfl, hl, f0, f5, f8, f9, f11, f12, f13, f99, f100, sl, hb4⟩
            try simp (maxSteps := 3000000) (disch := first | omega | (simp only [len_new, len_put, len_kill]; omega)) only [↓xpre, xpost, ↓reduceIte, Nat.reduceEqDiff, Nat.reduceAdd, Nat.reduceSub, Nat.reduceLeDiff, Nat.zero_add, Nat.sub_zero, f0, f5, f8, f9, f11, f12, f13, f99, f100, IfW_dec]
            refine ⟨fun hltl => ?_, fun hgel => ?_⟩
            · have hl' : l < W := by omega
              have ek4 : ((swept p T1 r c k).set k (mixed G (T1.getD k []) l)).getD k [] = mixed G (T1.getD k []) l := by rw [set_getD' (by omega), if_pos rfl]
              have er4 : ((swept p T1 r c k).set k (mixed G (T1.getD k []) l)).getD r [] = T1.getD r [] := by rw [set_getD' (by omega), if_neg (by omega), er]
              have ml : (mixed G (T1.getD k []) l).length = W := by rw [mixed_len, gk.1]
              have sll : ((swept p T1 r c k).set k (mixed G (T1.getD k []) l)).length = rows.length := by rw [List.length_set, sl0]
              have rk4 := sl.rdk (k := k) sll hk'
              have rr4 := sl.rdk (k := r) sll hrn
              have rkc := sl.rdc (k := k) (l := l) (W := W) (by omega) (by rw [ek4, ml]) hl'
              have rrc := sl.rdc (k := r) (l := l) (W := W) (by omega) (by rw [er4]; exact gr.1) hl'
              rw [ek4, ml] at rk4
              rw [er4, gr.1] at rr4
              rw [ek4, mixed_get (by rw [gk.1]; exact hl') (Nat.le_refl _)] at rkc
              rw [er4] at rrc
              have b1 := gk.2 l hl'
              have b2 := gr.2 l hl'
              unfold tb at b1 b2
              have b3 := mul_in (a := sN) (b := (T1.getD r []).getD l 0) (A := 5) (B := 5) (by omega) (by omega)
              have b4 := tmod_bound (x := (T1.getD k []).getD l 0 - sN * (T1.getD r []).getD l 0) hp5.1
              have b5 := hGx l
              unfold md at b5
              obtain ⟨e4, hg4⟩ := (sl.rows k (by omega)).2
              have sc := sl.cell (k := k) (l := l) (x := G l) (by omega) (by rw [ek4, ml]; exact hl') (e := e4) hg4
              rw [ek4] at hg4 sc
              rw [List.set_set, mixed_next (by rw [gk.1]; exact hl')] at sc
              have hm : splice ((mixed G (T1.getD k []) l).map (Value.int .i64)) l [I64 (G l)] = (mixed G (T1.getD k []) (l + 1)).map (Value.int .i64) := by rw [splice_set (by rw [List.length_map, ml]; exact hl'), ← mixed_next (by rw [gk.1]; exact hl'), List.map_set]
              have ne4 := lb1 k hk'
              try simp (maxSteps := 3000000) (disch := first | omega | (simp only [len_new, len_put, len_kill]; omega)) only [↓xpre, xpost, ↓reduceIte, Nat.reduceEqDiff, Nat.reduceAdd, Nat.reduceSub, Nat.reduceLeDiff, Nat.zero_add, Nat.sub_zero, f0, f5, f8, f9, f11, f12, f13, f99, f100, rk4.1, rk4.2, rr4.1, rr4.2, rkc.1, rkc.2, rrc.1, rrc.2, wrap64_in, bin_rem, ← b5, wr_of hg4, splice_set, List.length_map, ml, hm]
              refine ⟨by omega, ?_⟩
              refine InvQ_go (W - (l + 1)) (by omega) ⟨(l + 1), rfl, by omega, (by first | rfl | exact f0 | (simp only [upd_apply]; rfl) | (show I64 _ = _; congr 1; omega)), (by first | rfl | exact f5 | (simp only [upd_apply]; rfl) | (show I64 _ = _; congr 1; omega)), (by first | rfl | exact f8 | (simp only [upd_apply]; rfl) | (show I64 _ = _; congr 1; omega)), (by first | rfl | exact f9 | (simp only [upd_apply]; rfl) | (show I64 _ = _; congr 1; omega)), (by first | rfl | exact f11 | (simp only [upd_apply]; rfl) | (show I64 _ = _; congr 1; omega)), (by first | rfl | exact f12 | (simp only [upd_apply]; rfl) | (show I64 _ = _; congr 1; omega)), (by first | rfl | exact f13 | (simp only [upd_apply]; rfl) | (show I64 _ = _; congr 1; omega)), (by first | rfl | exact f99 | (simp only [upd_apply]; rfl) | (show I64 _ = _; congr 1; omega)), (by first | rfl | exact f100 | (simp only [upd_apply]; rfl) | (show I64 _ = _; congr 1; omega)), sc, (hb4.put_ne (by omega))⟩
            · have e : l = W := by omega
              subst e
              have em : mixed G (T1.getD k []) l = rowOp p (T1.getD r []) (T1.getD k []) c := by
                have q := mixed_full (g := G) (row := T1.getD k [])
                rw [gk.1] at q
                rw [q]
                unfold rowOp
                rw [gk.1]
                exact gen_congr fun x _ => by rw [hGx, hiv, hsd]
              rw [em, ← enx] at sl
              try simp (maxSteps := 3000000) (disch := first | omega | (simp only [len_new, len_put, len_kill]; omega)) only [↓xpre, xpost, ↓reduceIte, Nat.reduceEqDiff, Nat.reduceAdd, Nat.reduceSub, Nat.reduceLeDiff, Nat.zero_add, Nat.sub_zero, f0, f5, f8, f9, f11, f12, f13, f99, f100, wrap64_in]
              refine InvQ_go (rows.length - (k + 1)) (by omega) ⟨(k + 1), rfl, by omega, (by first | rfl | exact f0 | (simp only [upd_apply]; rfl) | (show I64 _ = _; congr 1; omega)), (by first | rfl | exact f5 | (simp only [upd_apply]; rfl) | (show I64 _ = _; congr 1; omega)), (by first | rfl | exact f8 | (simp only [upd_apply]; rfl) | (show I64 _ = _; congr 1; omega)), (by first | rfl | exact f9 | (simp only [upd_apply]; rfl) | (show I64 _ = _; congr 1; omega)), (by first | rfl | exact f11 | (simp only [upd_apply]; rfl) | (show I64 _ = _; congr 1; omega)), (by first | rfl | exact f12 | (simp only [upd_apply]; rfl) | (show I64 _ = _; congr 1; omega)), sl, hb4, (by omega)⟩
          · have e : k = rows.length := by omega
            subst e
            try simp (maxSteps := 3000000) (disch := first | omega | (simp only [len_new, len_put, len_kill]; omega)) only [↓xpre, xpost, ↓reduceIte, Nat.reduceEqDiff, Nat.reduceAdd, Nat.reduceSub, Nat.reduceLeDiff, Nat.zero_add, Nat.sub_zero, f0, f5, f8, f9, f11, f12, rd1_of hgb3, wrap64_in]
            refine InvQ_go (W - (c + 1)) (by omega) ⟨(c + 1), (r + 1), bs1, (swept p T1 r c rows.length), K3.length, rfl, by omega, (by first | rfl | exact f0 | (simp only [upd_apply]; rfl) | (show I64 _ = _; congr 1; omega)), (by first | rfl | exact f5 | (simp only [upd_apply]; rfl) | (show I64 _ = _; congr 1; omega)), (by first | rfl | exact f8 | (simp only [upd_apply]; rfl) | (show I64 _ = _; congr 1; omega)), (by first | rfl | exact f9 | (simp only [upd_apply]; rfl) | (show I64 _ = _; congr 1; omega)), (sk.pre (pre_new (List.prefix_refl _))), ⟨_, get_new_same⟩, sk.lo0.2, (fun i hi => (sk.rows i hi).2.lt), (by omega), (by rw [swept_len, t1l]), (g1.swept hp5.1), ?_⟩
            rw [← hel, show W - c = (W - (c + 1)) + 1 by omega]
            conv => rhs; unfold elim
            rw [hcs]
    · have : c = W := by omega
      subst this
      try simp (maxSteps := 3000000) (disch := first | omega | (simp only [len_new, len_put, len_kill]; omega)) only [↓xpre, xpost, ↓reduceIte, Nat.reduceEqDiff, Nat.reduceAdd, Nat.reduceSub, Nat.reduceLeDiff, Nat.zero_add, Nat.sub_zero, f0, f5, f8, f9]
      have := hQ _ so.hp
      rw [← hel] at this
      simpa [elim] using this
end Go.Proofs.Ytnjhhgfpclngcaa.X
