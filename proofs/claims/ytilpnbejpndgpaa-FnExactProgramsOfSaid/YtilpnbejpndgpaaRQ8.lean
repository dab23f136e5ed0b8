/- Texts of one claim, put together by merge.py: XT5, XT6, XT7, XT8, XT9, XU1. -/
import Derived.Test.YtilpnbejpndgpaaRQ7
import Derived.Test.YtilpnbejpndgpaaRQ6
/- SharedProgram of the reference. -/
set_option linter.unusedVariables false
set_option linter.unusedSimpArgs false
set_option maxRecDepth 20000
set_option maxHeartbeats 4000000
namespace Go.Proofs.Ytilpnbejpndgpaa.X
open Go Go.RowKit

/-- The table while rows are moved: those ahead of k are. -/
def mvK (p : Int) (s : BS) (T : List (List Int)) (k : Nat) : List (List Int) := (List.range T.length).map fun j => if j < k then mvRow p s.l s.j s.r (T.getD j []) else T.getD j []
theorem mvK_len {p : Int} {s : BS} {T : List (List Int)} {k : Nat} : (mvK p s T k).length = T.length := by simp [mvK]
theorem mvK_get {p : Int} {s : BS} {T : List (List Int)} {k j : Nat} (hj : j < T.length) : (mvK p s T k).getD j [] = if j < k then mvRow p s.l s.j s.r (T.getD j []) else T.getD j [] := by
  simp [mvK, List.getD_eq_getElem?_getD, List.getElem?_map, List.getElem?_range hj]
theorem mvK_zero {p : Int} {s : BS} {T : List (List Int)} : mvK p s T 0 = T := getD_ext mvK_len fun j hj => by
  rw [mvK_len] at hj
  rw [mvK_get hj, if_neg (by omega)]
theorem mvK_all {p : Int} {s : BS} {T : List (List Int)} : mvK p s T T.length = mvT p s T := getD_ext (by rw [mvK_len, mvT_len]) fun j hj => by
  rw [mvK_len] at hj
  rw [mvK_get hj, if_pos hj, mvT_get hj]
theorem mvK_next {p : Int} {s : BS} {T : List (List Int)} {k : Nat} (hk : k < T.length) : (mvK p s T k).set k (mvRow p s.l s.j s.r (T.getD k [])) = mvK p s T (k + 1) := getD_ext (by rw [List.length_set, mvK_len, mvK_len]) fun j hj => by
  rw [List.length_set, mvK_len] at hj
  rw [set_getD' (by rw [mvK_len]; exact hk), mvK_get hj, mvK_get hj]
  by_cases h : j = k
  · subst h
    rw [if_pos rfl, if_pos (by omega)]
  · rw [if_neg h]
    by_cases h2 : j < k
    · rw [if_pos h2, if_pos (by omega)]
    · rw [if_neg h2, if_neg (by omega)]
theorem snd_at {L : List (Nat × List Int)} {T : List (List Int)} (h : L.map Prod.snd = T) {i : Nat} (hi : i < L.length) : (L[i]).2 = T.getD i [] := by
  rw [← h, List.getD_eq_getElem?_getD, List.getElem?_map, List.getElem?_eq_getElem hi]
  rfl

theorem s_l07Shared {u : Value} {p n : Int} {rows : List (List Int)} {h : AH} {Q : Value → AH → Prop} (hu : Rows h u rows) (hok : lsOK p n rows = true)
    (hQ : ∀ v' w' h', h <+: h' → Way2 h' h.length v' w' (shP p n rows) → OrdB v' w' → Q (prgV (shP p n rows) v' w') h') : WF S 95 [I64 p, I64 n, u] h Q := by
  refine WF_fn (fn := c95) rfl rfl ?_
  unfold c95
  obtain ⟨hp, hn, hl, hm⟩ := lsOK_iff.1 hok
  have hp5 := isP_in hp
  ((try simp (maxSteps := 3000000) (dsimp := false) (disch := first | omega | (simp only [len_new, len_put, len_kill]; omega)) only [↓ypre, ypost, ↓reduceIte, Nat.reduceEqDiff, Nat.reduceAdd, Nat.reduceSub, Nat.reduceLeDiff, Nat.zero_add, Nat.sub_zero, ynew]); try simp only [yback])
  generalize hH1 : AH.new h _ = H1
  obtain ⟨hb1, p1, n1⟩ := new_facts hH1
  generalize hH2 : AH.new H1 _ = H2
  obtain ⟨hb2, p2, n2⟩ := new_facts hH2
  generalize hH3 : AH.new H2 _ = H3
  obtain ⟨hb3, p3, n3⟩ := new_facts hH3
  generalize hH4 : AH.new H3 _ = H4
  obtain ⟨hb4, p4, n4⟩ := new_facts hH4
  generalize hH5 : AH.new H4 _ = H5
  obtain ⟨hb5, p5, n5⟩ := new_facts hH5
  have p15 := (((p1.trans p2).trans p3).trans p4).trans p5
  have tb0 : TabL H5 H1.length H3.length true [] := ⟨pre_get p5 hb4, by omega, fun i hi => by simp at hi, fun a b ha => by simp at ha⟩
  refine WC_loop_inv (fun m f K1 => ∃ (i : Nat) (nb : Nat) (fl : Bool) (L : List (Nat × List Int)), m = rows.length - i ∧ i ≤ rows.length ∧ f 0 = I64 p ∧ f 2 = u ∧ f 6 = .pointer (some ⟨h.length, 0, none⟩) ∧ f 7 = .pointer (some ⟨H4.length, 0, none⟩) ∧ f 8 = sl nb L.length ∧ f 9 = I64 i ∧ (StayT H1.length H5 K1) ∧ (TabL K1 H1.length nb fl L) ∧ (L.map Prod.snd = rows.take i)) ?_ (rows.length - 0) _ _ ⟨0, H3.length, true, [], rfl, by omega, (by first | rfl | (simp [upd_apply]; done)), (by first | rfl | (simp [upd_apply]; done)), (by first | rfl | (simp [upd_apply]; done)), (by first | rfl | (simp [upd_apply]; done)), (by first | rfl | (simp [upd_apply]; done)), (by first | rfl | (simp [upd_apply]; done)), StayT.refl, tb0, (by simp)⟩
  rintro m f K1 ⟨i, nb, fl, L, rfl, hi, f0, f2, f6, f7, f8, f9, sy, tl, hL⟩
  have hLl : L.length = i := by
    have := congrArg List.length hL
    rw [List.length_map, List.length_take] at this
    omega
  have pK1 : h <+: K1 := sy.pre _ (by omega) p15
  have huK := hu.pre pK1
  have sl1 := sy.len
  by_cases hlt : (i : Int) < rows.length
  · have hi' : i < rows.length := by omega
    obtain ⟨nr, offr, x, ixr, rdr, hx⟩ := huK.row hi'
    obtain ⟨hw, ha⟩ := isMat_iff.1 hm i hi'
    ((try simp (maxSteps := 3000000) (dsimp := false) (disch := first | omega | (simp only [len_new, len_put, len_kill]; omega)) only [↓ypre, ypost, ↓reduceIte, Nat.reduceEqDiff, Nat.reduceAdd, Nat.reduceSub, Nat.reduceLeDiff, Nat.zero_add, Nat.sub_zero, ynew, f0, f2, f6, f7, f8, f9, huK.len, decide_eq_true hlt, ixr, rdr]); try simp only [yback])
    refine s_OwnT hx (by omega) (by omega) fun nn H6 hnn p6 l6 => ?_
    ((try simp (maxSteps := 3000000) (dsimp := false) (disch := first | omega | (simp only [len_new, len_put, len_kill]; omega)) only [↓ypre, ypost, ↓reduceIte, Nat.reduceEqDiff, Nat.reduceAdd, Nat.reduceSub, Nat.reduceLeDiff, Nat.zero_add, Nat.sub_zero, ynew, f0, f2, f6, f7, f8, f9, sl_cells, sl_one]); try simp only [yback])
    have tl6 := tl.pre p6
    have l66 := pre_len p6
    refine tl6.app (by omega) (fun j hj => by
      obtain ⟨fu, o⟩ := (tl.rows j hj).2
      have := o.lt
      omega) l6 (by omega) (by omega) fun H7 l7 tl7 keep7 pre7 => ?_
    ((try simp (maxSteps := 3000000) (dsimp := false) (disch := first | omega | (simp only [len_new, len_put, len_kill]; omega)) only [↓ypre, ypost, ↓reduceIte, Nat.reduceEqDiff, Nat.reduceAdd, Nat.reduceSub, Nat.reduceLeDiff, Nat.zero_add, Nat.sub_zero, ynew, f0, f2, f6, f7, f8, f9, wrap64_in]); try simp only [yback])
    have st7 : StayT H1.length H6 H7 := ⟨by omega, fun h0 hh q => pre7 h0 (Nat.le_trans hh tl.low) q, fun m' b' g q1 q2 => keep7 m' b' (fun e => by
      have g3 := tl6.g
      rw [e, g3] at g
      cases g
      exact q2 rfl) g⟩
    refine InvQ_go (rows.length - (i + 1)) (by omega) ⟨(i + 1), (H6.length + 1), false, (L ++ [(nn, rows.getD i [])]), rfl, by omega, (by first | rfl | exact f0 | (simp only [upd_apply]; rfl) | (show I64 _ = _; congr 1; omega)), (by first | rfl | exact f2 | (simp only [upd_apply]; rfl) | (show I64 _ = _; congr 1; omega)), (by first | rfl | exact f6 | (simp only [upd_apply]; rfl) | (show I64 _ = _; congr 1; omega)), (by first | rfl | exact f7 | (simp only [upd_apply]; rfl) | (show I64 _ = _; congr 1; omega)), (by first | rfl | exact f8 | (simp only [upd_apply]; rfl) | (show I64 _ = _; congr 1; omega)), (by first | rfl | exact f9 | (simp only [upd_apply]; rfl) | (show I64 _ = _; congr 1; omega)), (sy.trans ((StayT.of p6).trans st7)), tl7, (by rw [List.map_append, hL, take_next (d := []) hi']; rfl)⟩
  have ei : i = rows.length := by omega
  subst ei
  rw [List.take_of_length_le (Nat.le_refl _)] at hL
  ((try simp (maxSteps := 3000000) (dsimp := false) (disch := first | omega | (simp only [len_new, len_put, len_kill]; omega)) only [↓ypre, ypost, ↓reduceIte, Nat.reduceEqDiff, Nat.reduceAdd, Nat.reduceSub, Nat.reduceLeDiff, Nat.zero_add, Nat.sub_zero, ynew, f0, f2, f6, f7, f8, f9, huK.len, decide_eq_false hlt]); try simp only [yback])
  obtain ⟨N, hN⟩ : ∃ N : Nat, n = N := ⟨n.toNat, by omega⟩
  have hNt : n.toNat = N := by omega
  have si0 := ShI.start hok
  rw [hNt] at si0
  have hp1K := sy.pre H1 (Nat.le_refl _) (((p2.trans p3).trans p4).trans p5)
  have g7 := sy.get _ _ hb5 (by simp) (by simp)
  have g3 := sy.get _ _ (pre_get (p4.trans p5) hb3) (by simp) (by simp)
  have wv0 : WayX (96) .i64 3 K1 H1.length [] (.slice (some ⟨H1.length, 0, none⟩) 0 3) ([] : List (List Int)) := ⟨fun r hr => by simp at hr, .inr ⟨H1.length, true, rfl, Nat.le_refl _, by simp, sy.get _ _ (pre_get ((p3.trans p4).trans p5) hb2) (by simp) (by simp)⟩⟩
  rw [hLl] at f8
  have nz0 : nzT rows = nzT rows - 0 := rfl
  refine WC_loop_inv (fun m f K2 => ∃ (d : Nat) (s : SS) (sv : Value) (nb : Nat) (fl : Bool) (L : List (Nat × List Int)), m = ((nzT rows)) - d ∧ d ≤ ((nzT rows)) ∧ f 0 = I64 p ∧ f 6 = .pointer (some ⟨h.length, 0, none⟩) ∧ f 7 = .pointer (some ⟨H4.length, 0, none⟩) ∧ f 8 = sl nb rows.length ∧ (nzT s.T = nzT rows - d) ∧ (ShI p N rows s) ∧ (H1 <+: K2) ∧ (TabL K2 H1.length nb fl L) ∧ (L.map Prod.snd = s.T) ∧ (WayX (96) .i64 3 K2 H1.length [] sv s.st) ∧ (K2.get H4.length = some ⟨[I64 p, I64 n, sv, .slice (some ⟨H2.length, 0, none⟩) 0 2], 48, false, true⟩) ∧ (K2.get H2.length = some ⟨[], 98, false, true⟩) ∧ (H5.length ≤ K2.length)) ?_ (((nzT rows)) - 0) _ _ ⟨0, ⟨rows, []⟩, .slice (some ⟨H1.length, 0, none⟩) 0 3, nb, fl, L, rfl, by omega, (by first | rfl | exact f0 | (simp [upd_apply]; done)), (by first | rfl | exact f6 | (simp [upd_apply]; done)), (by first | rfl | exact f7 | (simp [upd_apply]; done)), (by first | rfl | exact f8 | (simp [upd_apply]; done)), nz0, si0, hp1K, tl, hL, wv0, g7, g3, sl1⟩
  rintro m f K2 ⟨d, s, sv, nb, fl, L, rfl, hd, f0, f6, f7, f8, hz, si, pp, tl, hL, wv, g7, g3, lk⟩
  have hLl : L.length = rows.length := by rw [← si.len, ← hL, List.length_map]
  have hv : Rows K2 (sl nb rows.length) s.T := by
    rw [← hLl, ← hL]
    exact tl.rowsR
  have nzb := si.nz
  have hT1 : 1 ≤ s.T.length := by rw [si.len]; omega
  ((try simp (maxSteps := 3000000) (dsimp := false) (disch := first | omega | (simp only [len_new, len_put, len_kill]; omega)) only [↓ypre, ypost, ↓reduceIte, Nat.reduceEqDiff, Nat.reduceAdd, Nat.reduceSub, Nat.reduceLeDiff, Nat.zero_add, Nat.sub_zero, ynew, f0, f6, f7, f8]); try simp only [yback])
  refine s_l07Best hv hp si.gt ⟨hT1, by rw [si.len]; omega⟩ (by omega) fun bb H6 p6 rel mle => ?_
  ((try simp (maxSteps := 3000000) (dsimp := false) (disch := first | omega | (simp only [len_new, len_put, len_kill]; omega)) only [↓ypre, ypost, ↓reduceIte, Nat.reduceEqDiff, Nat.reduceAdd, Nat.reduceSub, Nat.reduceLeDiff, Nat.zero_add, Nat.sub_zero, ynew, f0, f6, f7, f8, wrap64_in]); try simp only [yback])
  generalize hH7 : AH.new H6 _ = H7
  obtain ⟨hb7, p7, n7⟩ := new_facts hH7
  have p67 := p6.trans p7
  have k6 := pre_len p6
  by_cases hbm : (bb.m : Int) < 2
  · -- no two rows are left
    have stop : ¬ 2 ≤ (bst p s.T).m := by
      rcases rel with ⟨_, r2⟩ | ⟨r1, _⟩
      · omega
      · omega
    have es := si.stop stop
    ((try simp (maxSteps := 3000000) (dsimp := false) (disch := first | omega | (simp only [len_new, len_put, len_kill]; omega)) only [↓ypre, ypost, ↓reduceIte, Nat.reduceEqDiff, Nat.reduceAdd, Nat.reduceSub, Nat.reduceLeDiff, Nat.zero_add, Nat.sub_zero, ynew, f0, f6, f7, f8, decide_eq_true hbm]); try simp only [yback])
    have tl7 := tl.pre p67
    have pp7 := pp.trans p67
    have hpp : h <+: H7 := p1.trans pp7
    have hrr : ∀ i, i < s.T.length → allIn p (s.T.getD i []) = true ∧ (s.T.getD i []).length ≤ 10000 := fun i hi => by
      obtain ⟨q1, q2⟩ := si.gt i hi
      exact ⟨allIn_iff.2 fun j hj => q2 j (by omega), by omega⟩
    have eSP : shP p n rows = finP ⟨p, n, s.st, []⟩ s.T s.T.length := by unfold shP; rw [← es]
    rw [eSP] at hQ
    have sl' := si.len
    have o0 : Way2 H7 H1.length sv (.slice (some ⟨H2.length, 0, none⟩) 0 2) (finP ⟨p, n, s.st, []⟩ s.T 0) :=
      ⟨wv.pre p67, ⟨fun r hr => by simp [finP] at hr, .inr ⟨H2.length, true, rfl, by omega, by simp, pre_get p67 g3⟩⟩⟩
    generalize hT : s.T = T at *
    generalize hst : s.st = st0 at *
    have hkI : ∀ h', StayI H1.length H7 h' → TabL h' H1.length nb fl L := fun h' st => tl7.keep fun m' b' hb g => st.get m' b' g hb
    have hvS : ∀ h', StayI H1.length H7 h' → Vals h' (sl nb rows.length) (L.map rowV) := fun h' st => by rw [← hLl]; exact (hkI h' st).vals
    have hrS : ∀ i, i < T.length → ∀ h', StayI H1.length H7 h' → Ints h' ((L.map rowV).getD i undef) (T.getD i []) := fun i hi h' st => by
      rw [← hL]
      exact (hkI h' st).at (by omega)
    have hcl : (L.map rowV).length = T.length := by rw [List.length_map, hLl, sl']
    have g6 := pre_get pp7 hb1
    refine WC_loop_inv (fun m f K3 => ∃ (i : Nat) (v : Value) (w : Value), m = T.length - i ∧ i ≤ T.length ∧ f 6 = .pointer (some ⟨h.length, 0, none⟩) ∧ f 7 = .pointer (some ⟨H4.length, 0, none⟩) ∧ f 8 = sl nb rows.length ∧ f 16 = I64 i ∧ (StayI H1.length H7 K3) ∧ (Way2 K3 H1.length v w (finP ⟨p, n, st0, []⟩ T i)) ∧ (0 < i → OrdB v w) ∧ (K3.get H4.length = some ⟨[I64 p, I64 n, v, w], 48, false, true⟩)) ?_ (T.length - 0) _ _ ⟨0, sv, .slice (some ⟨H2.length, 0, none⟩) 0 2, rfl, by omega, (by first | rfl | exact f6 | (simp [upd_apply]; done)), (by first | rfl | exact f7 | (simp [upd_apply]; done)), (by first | rfl | exact f8 | (simp [upd_apply]; done)), (by first | rfl | (simp [upd_apply]; done)), StayI.refl, o0, (by omega), pre_get p67 g7⟩
    rintro m f K3 ⟨i, v, w, rfl, hi, f6, f7, f8, f16, sy, o2, ob, g7⟩
    obtain ⟨ep, en, sle, ole⟩ := finP_facts (x := ⟨p, n, st0, []⟩) (N := 10000) hp hrr hn (i := i) hi
    have lt7 := get_lt g7
    have slk := sy.len
    have lnT : lenV (sl nb rows.length) = some (I64 T.length) := by rw [sl']; rfl
    have g6' := pre_get (sy.pre H1 (Nat.le_refl _) pp7) hb1
    by_cases hlt : (i : Int) < T.length
    · have hi' : i < T.length := by omega
      obtain ⟨hra, hrl⟩ := hrr i hi'
      have ix := (hvS _ sy).ix (k := .i64) (j := i) (by omega) (by omega)
      have rd := (hvS _ sy).rd (j := i) (by omega) (by omega)
      have hri := hrS i hi'
      rw [Int.toNat_natCast] at rd
      have fin1 : finP ⟨p, n, st0, []⟩ T (i + 1) = rowP (finP ⟨p, n, st0, []⟩ T i) (T.getD i []) := rfl
      generalize finP ⟨p, n, st0, []⟩ T i = X at *
      have epv : prgV X v w = .agg #[I64 p, I64 n, v, w] := by unfold prgV; rw [ep, en]
      ((try simp (maxSteps := 3000000) (dsimp := false) (disch := first | omega | (simp only [len_new, len_put, len_kill]; omega)) only [↓ypre, ypost, ↓reduceIte, Nat.reduceEqDiff, Nat.reduceAdd, Nat.reduceSub, Nat.reduceLeDiff, Nat.zero_add, Nat.sub_zero, ynew, f6, f7, f8, f16, lnT, decide_eq_true hlt, rdn_of g7, ix, rd]); try simp only [yback])
      rw [← epv]
      refine s_l07Row (by rw [ep]; exact hp) (by rw [en]; exact hn) o2 (by omega) (fun h' s' => hri h' (sy.trans s'.toI)) (by rw [ep]; exact hra) (by omega) (by simp at sle; omega) (by simp at ole; omega) fun v' w' H' sy' o' ob' => ?_
      have g7' := sy'.get _ _ g7 (by simp) (by simp)
      have lt7' := get_lt g7'
      ((try simp (maxSteps := 3000000) (dsimp := false) (disch := first | omega | (simp only [len_new, len_put, len_kill]; omega)) only [↓ypre, ypost, ↓reduceIte, Nat.reduceEqDiff, Nat.reduceAdd, Nat.reduceSub, Nat.reduceLeDiff, Nat.zero_add, Nat.sub_zero, ynew, f6, f7, f8, f16, prgV, o'.st.one, o'.st.cells, o'.out.one, o'.out.cells, wr_of g7', wrap64_in]); try simp only [yback])
      refine InvQ_go (T.length - (i + 1)) (by omega) ⟨(i + 1), v', w', rfl, by omega, (by first | rfl | exact f6 | (simp only [upd_apply]; rfl) | (show I64 _ = _; congr 1; omega)), (by first | rfl | exact f7 | (simp only [upd_apply]; rfl) | (show I64 _ = _; congr 1; omega)), (by first | rfl | exact f8 | (simp only [upd_apply]; rfl) | (show I64 _ = _; congr 1; omega)), (by first | rfl | exact f16 | (simp only [upd_apply]; rfl) | (show I64 _ = _; congr 1; omega)), ((sy.trans sy'.toI).trans (StayI.put g7' (by simp) (by omega))), ?_, (fun _ => ob'), ?_⟩
      · rw [fin1]
        exact ⟨o'.st.put_ty g7' (by simp), o'.out.put_ty g7' (by simp)⟩
      · rw [get_put_same lt7']
        show some (⟨[I64 X.p, I64 X.n, v', w'], _, _, _⟩ : Blk) = _
        rw [ep, en]
    have ei : i = T.length := by omega
    subst ei
    have lt6 := get_lt g6'
    ((try simp (maxSteps := 3000000) (dsimp := false) (disch := first | omega | (simp only [len_new, len_put, len_kill]; omega)) only [↓ypre, ypost, ↓reduceIte, Nat.reduceEqDiff, Nat.reduceAdd, Nat.reduceSub, Nat.reduceLeDiff, Nat.zero_add, Nat.sub_zero, ynew, f6, f7, f8, f16, lnT, decide_eq_false hlt, rdn_of g7, wr_of g6', o2.st.one, o2.st.cells, o2.out.one, o2.out.cells]); try simp only [yback])
    have := hQ v w _ (pre_put (b := ⟨[I64 p, I64 n, v, w], 48, false, true⟩) (sy.pre h (by omega) hpp) (Nat.le_refl _)) ⟨(o2.st.put_ty g6' (by simp)).mlo (by omega), (o2.out.put_ty g6' (by simp)).mlo (by omega)⟩ (ob (by omega))
    unfold prgV at this
    rw [ep, en] at this
    exact this
  · have hbb : bst p s.T = bb := by
      rcases rel with ⟨r1, _⟩ | ⟨_, r2⟩
      · omega
      · exact r2
    obtain ⟨b1, b2, b3, b4, _⟩ := bst_ok hp si.gt hT1 (by rw [hbb]; omega)
    rw [hbb] at b1 b2 b3 b4
    have sg := si.go hp (by omega) (by rw [hbb]; omega)
    have est : (stepS p s).st = s.st ++ [[(bb.l : Int), (bb.j : Int), (bb.r : Int)]] := by unfold stepS; rw [hbb]
    have eT : (stepS p s).T = mvT p bb s.T := by unfold stepS; rw [hbb]
    have g7a := pre_get p67 g7
    ((try simp (maxSteps := 3000000) (dsimp := false) (disch := first | omega | (simp only [len_new, len_put, len_kill]; omega)) only [↓ypre, ypost, ↓reduceIte, Nat.reduceEqDiff, Nat.reduceAdd, Nat.reduceSub, Nat.reduceLeDiff, Nat.zero_add, Nat.sub_zero, ynew, f0, f6, f7, f8, decide_eq_false hbm, rd1_of g7a, rdn_of hb7]); try simp only [yback])
    have wv7 : WayX (96) .i64 3 H7 H1.length [H6.length] sv s.st := (wv.exc (fun m' hm => by simp at hm; omega)).pre p67
    refine wv7.appK (q := [(bb.l : Int), (bb.j : Int), (bb.r : Int)]) rfl (by omega) (by omega) (by omega) (by simp; omega) fun sv' H8 l8 pre8 keep8 wv8 => ?_
    have g7b := keep8 _ _ (.inr (by simp)) g7a
    have g3b := keep8 _ _ (.inr (by simp)) (pre_get p67 g3)
    have gAb := keep8 _ _ (.inl (by simp)) hb7
    have tl8 := (tl.pre p67).keep (fun m' b' hb g => keep8 m' b' (.inr (by rcases hb with hb | hb <;> rw [hb] <;> decide)) g)
    have lt7 := get_lt g7b
    ((try simp (maxSteps := 3000000) (dsimp := false) (disch := first | omega | (simp only [len_new, len_put, len_kill]; omega)) only [↓ypre, ypost, ↓reduceIte, Nat.reduceEqDiff, Nat.reduceAdd, Nat.reduceSub, Nat.reduceLeDiff, Nat.zero_add, Nat.sub_zero, ynew, f0, f6, f7, f8, wv8.one, wv8.cells, wr_of g7b, wrap64_in]); try simp only [yback])
    generalize hH9 : AH.put H8 _ _ = H9
    have g7c : H9.get H4.length = some ⟨[I64 p, I64 n, sv', .slice (some ⟨H2.length, 0, none⟩) 0 2], 48, false, true⟩ := by rw [← hH9]; exact get_put_same lt7
    have g3c : H9.get H2.length = some ⟨[], 98, false, true⟩ := by rw [← hH9, get_put_ne (by omega)]; exact g3b
    have gAc := show H9.get H6.length = some ⟨[I64 bb.l, I64 bb.j, I64 bb.r], 96, false, true⟩ by rw [← hH9, get_put_ne (by omega)]; exact gAb
    have tl9 : TabL H9 H1.length nb fl L := by rw [← hH9]; exact tl8.put g7b (by simp)
    have wv9 : WayX (96) .i64 3 H9 H1.length [] sv' (s.st ++ [[(bb.l : Int), (bb.j : Int), (bb.r : Int)]]) := by
      rw [← hH9]
      exact ((wv8.put_ty g7b (by simp)).exc (by simp)).mlo (by omega)
    have pp9 : H1 <+: H9 := by rw [← hH9]; exact pre_put (pre8 _ (Nat.le_refl _) (pp.trans p67)) (by omega)
    have l9 : H9.length = H8.length := by rw [← hH9, len_put]
    rw [← mvK_zero (p := p) (s := bb) (T := s.T)] at hL
    refine WC_loop_inv (fun m f K4 => ∃ (k : Nat) (L : List (Nat × List Int)), m = rows.length - k ∧ k ≤ rows.length ∧ f 0 = I64 p ∧ f 6 = .pointer (some ⟨h.length, 0, none⟩) ∧ f 7 = .pointer (some ⟨H4.length, 0, none⟩) ∧ f 8 = sl nb rows.length ∧ f 10 = .pointer (some ⟨H6.length, 0, none⟩) ∧ f 12 = I64 k ∧ (StayT H1.length H9 K4) ∧ (TabL K4 H1.length nb fl L) ∧ (L.map Prod.snd = mvK p bb s.T k)) ?_ (rows.length - 0) _ _ ⟨0, L, rfl, by omega, (by first | rfl | exact f0 | (simp [upd_apply]; done)), (by first | rfl | exact f6 | (simp [upd_apply]; done)), (by first | rfl | exact f7 | (simp [upd_apply]; done)), (by first | rfl | exact f8 | (simp [upd_apply]; done)), (by first | rfl | (simp [upd_apply]; done)), (by first | rfl | (simp [upd_apply]; done)), StayT.refl, tl9, hL⟩
    rintro m f K4 ⟨k, L, rfl, hk, f0, f6, f7, f8, f10, f12, sy, tl, hL⟩
    have hLl : L.length = rows.length := by rw [← si.len, ← mvK_len (p := p) (s := bb) (T := s.T) (k := k), ← hL, List.length_map]
    have gA := sy.get _ _ gAc (by simp) (by simp)
    have sl3 := sy.len
    have lnT : lenV (sl nb rows.length) = some (I64 rows.length) := rfl
    by_cases hltk : (k : Int) < rows.length
    · have hkL : k < L.length := by omega
      have hkT : k < s.T.length := by rw [si.len]; omega
      obtain ⟨nr, r, hLk⟩ : ∃ nr r, L[k] = (nr, r) := ⟨_, _, rfl⟩
      have er : r = s.T.getD k [] := by
        have := snd_at hL hkL
        rw [hLk, mvK_get hkT, if_neg (by omega)] at this
        exact this
      obtain ⟨gw, gi⟩ := si.gt k hkT
      obtain ⟨lr, fu, o⟩ := tl.rows k hkL
      rw [hLk] at lr o
      have lr : H1.length ≤ nr := lr
      have o : Lst K4 nr r fu := o
      have rl := tl.rd hkL
      rw [hLk] at rl
      have rl : K4.rd1 nb k = some (sl nr r.length) := rl
      have rlen : r.length = N + s.st.length := by rw [er]; exact gw
      have ixk := Lst.ix (n := nb) (j := (k : Int)) (len := rows.length) (by omega)
      rw [Int.toNat_natCast] at ixk
      have ixl := Lst.ix (n := nr) (j := (bb.l : Int)) (len := r.length) (by omega)
      have ixj := Lst.ix (n := nr) (j := (bb.j : Int)) (len := r.length) (by omega)
      rw [Int.toNat_natCast] at ixl ixj
      have rdl := o.rd (j := bb.l) (by omega)
      have rdj := o.rd (j := bb.j) (by omega)
      have gl := gi bb.l (by omega)
      have gj := gi bb.j (by omega)
      have el : r.getD bb.l 0 = tb s.T k bb.l := by rw [er]; rfl
      have ej : r.getD bb.j 0 = tb s.T k bb.j := by rw [er]; rfl
      rw [← el] at gl
      rw [← ej] at gj
      have mb := mul_in (A := 5) (B := 5) (a := r.getD bb.l 0) (b := (bb.r : Int)) (by omega) (by omega)
      have emv : mvRow p bb.l bb.j bb.r r = if mvOK p bb.l bb.j bb.r r = true then ((r.set bb.l 0).set bb.j 0) ++ [r.getD bb.l 0] else r ++ [0] := rfl
      have eok : mvOK p bb.l bb.j bb.r r = (decide (r.getD bb.l 0 ≠ 0) && decide (r.getD bb.j 0 = (r.getD bb.l 0 * bb.r).tmod p)) := rfl
      have nx : ∀ (n' : Nat) (L2 : List (Nat × List Int)), L2.map Prod.snd = mvK p bb s.T k → (L2.set k (n', mvRow p bb.l bb.j bb.r r)).map Prod.snd = mvK p bb s.T (k + 1) := fun n' L2 hL2 => by
        rw [List.map_set, hL2, er]
        exact mvK_next hkT
      by_cases hmv : mvOK p bb.l bb.j bb.r r = true
      · rw [if_pos hmv] at emv
        rw [eok, Bool.and_eq_true, decide_eq_true_eq, decide_eq_true_eq] at hmv
        obtain ⟨H10, w10, e10, o10⟩ := o.wr (j := bb.l) (x := 0) (by omega)
        have tl10 : TabL H10 H1.length nb fl (L.set k (nr, r.set bb.l 0)) := by rw [e10]; exact tl.cell hkL hLk o
        obtain ⟨H11, w11, e11, o11⟩ := o10.wr (j := bb.j) (x := 0) (by rw [List.length_set]; omega)
        have tl11 : TabL H11 H1.length nb fl ((L.set k (nr, r.set bb.l 0)).set k (nr, (r.set bb.l 0).set bb.j 0)) := by
          rw [e11]
          exact tl10.cell (by rw [List.length_set]; exact hkL) (by rw [List.getElem_set_self]) o10
        rw [List.set_set] at tl11
        have k10 : H10.length = K4.length := by rw [e10, len_put]
        have k11 : H11.length = K4.length := by rw [e11, len_put, k10]
        have gA10 : H10.get H6.length = some ⟨[I64 bb.l, I64 bb.j, I64 bb.r], 96, false, true⟩ := by
          rw [e10]
          exact (StayT.put o (.inl rfl) lr).get _ _ gA (by simp) (by simp)
        have st10 : StayT H1.length K4 H10 := by rw [e10]; exact StayT.put o (.inl rfl) lr
        have st11 : StayT H1.length H10 H11 := by rw [e11]; exact StayT.put o10 (.inl rfl) lr
        have rl2 : (r.set bb.l 0).length = r.length := List.length_set
        ((try simp (maxSteps := 3000000) (dsimp := false) (disch := first | omega | (simp only [len_new, len_put, len_kill]; omega)) only [↓ypre, ypost, ↓reduceIte, Nat.reduceEqDiff, Nat.reduceAdd, Nat.reduceSub, Nat.reduceLeDiff, Nat.zero_add, Nat.sub_zero, ynew, f0, f6, f7, f8, f10, f12, lnT, decide_eq_true hltk, ixk, rl, rd1_of gA, ixl, rdl, decide_eq_true hmv.1, ixj, rdj, decide_eq_true hmv.2, bin_rem, w10, rd1_of gA10, w11, wrap64_in]); try simp only [yback])
        have rl3 : ((r.set bb.l 0).set bb.j 0).length = r.length := by rw [List.length_set, List.length_set]
        rw [← rl3]
        refine o11.app3 (by omega) fun H12 l12 pre12 keep12 lst12 => ?_
        obtain ⟨w13, tl13⟩ := tl11.store (i := k) (n := nr) (by rw [List.length_set]; exact hkL) (by rw [List.getElem_set_self]) keep12 lst12 (by omega) (by omega)
        rw [List.set_set, ← emv] at tl13
        rw [List.set_set] at w13
        have st12 : StayT H1.length H11 H12 := ⟨by omega, fun h0 hh q => pre12 h0 (Nat.le_trans hh lr) q, fun m' b' g q1 q2 => keep12 m' b' (fun e => by
          unfold Lst at o11
          rw [e, o11] at g
          cases g
          exact q1 rfl) g⟩
        have gnb := keep12 _ _ (by have := tl.ne hkL; rw [hLk] at this; exact this.symm) tl11.g
        ((try simp (maxSteps := 3000000) (dsimp := false) (disch := first | omega | (simp only [len_new, len_put, len_kill]; omega)) only [↓ypre, ypost, ↓reduceIte, Nat.reduceEqDiff, Nat.reduceAdd, Nat.reduceSub, Nat.reduceLeDiff, Nat.zero_add, Nat.sub_zero, ynew, f0, f6, f7, f8, f10, f12, ixk, w13, sl_cells, sl_one, wrap64_in]); try simp only [yback])
        refine InvQ_go (rows.length - (k + 1)) (by omega) ⟨(k + 1), (L.set k (H11.length + 1, mvRow p bb.l bb.j bb.r r)), rfl, by omega, (by first | rfl | exact f0 | (simp only [upd_apply]; rfl) | (show I64 _ = _; congr 1; omega)), (by first | rfl | exact f6 | (simp only [upd_apply]; rfl) | (show I64 _ = _; congr 1; omega)), (by first | rfl | exact f7 | (simp only [upd_apply]; rfl) | (show I64 _ = _; congr 1; omega)), (by first | rfl | exact f8 | (simp only [upd_apply]; rfl) | (show I64 _ = _; congr 1; omega)), (by first | rfl | exact f10 | (simp only [upd_apply]; rfl) | (show I64 _ = _; congr 1; omega)), (by first | rfl | exact f12 | (simp only [upd_apply]; rfl) | (show I64 _ = _; congr 1; omega)), ((((sy.trans st10).trans st11).trans st12).trans (StayT.put gnb (.inr rfl) tl.low)), ?_, (nx _ _ hL)⟩
        rw [emv] at tl13 ⊢
        exact tl13
      · rw [if_neg hmv] at emv
        have step0 : ∀ (F : Fr), True := fun _ => trivial
        by_cases ha : r.getD bb.l 0 = 0
        · ((try simp (maxSteps := 3000000) (dsimp := false) (disch := first | omega | (simp only [len_new, len_put, len_kill]; omega)) only [↓ypre, ypost, ↓reduceIte, Nat.reduceEqDiff, Nat.reduceAdd, Nat.reduceSub, Nat.reduceLeDiff, Nat.zero_add, Nat.sub_zero, ynew, f0, f6, f7, f8, f10, f12, lnT, decide_eq_true hltk, ixk, rl, rd1_of gA, ixl, rdl, decide_eq_false (show ¬ r.getD bb.l 0 ≠ 0 from fun y => y ha), wrap64_in]); try simp only [yback])
          have lst0 : True := trivial
          refine o.app3 (by omega) fun H12 l12 pre12 keep12 lst12 => ?_
          obtain ⟨w13, tl13⟩ := tl.store (i := k) (n := nr) hkL hLk keep12 lst12 (by omega) (by omega)
          rw [← emv] at tl13
          have st12 : StayT H1.length K4 H12 := ⟨by omega, fun h0 hh q => pre12 h0 (Nat.le_trans hh lr) q, fun m' b' g q1 q2 => keep12 m' b' (fun e => by
            unfold Lst at o
            rw [e, o] at g
            cases g
            exact q1 rfl) g⟩
          have gnb := keep12 _ _ (by have := tl.ne hkL; rw [hLk] at this; exact this.symm) tl.g
          ((try simp (maxSteps := 3000000) (dsimp := false) (disch := first | omega | (simp only [len_new, len_put, len_kill]; omega)) only [↓ypre, ypost, ↓reduceIte, Nat.reduceEqDiff, Nat.reduceAdd, Nat.reduceSub, Nat.reduceLeDiff, Nat.zero_add, Nat.sub_zero, ynew, f0, f6, f7, f8, f10, f12, ixk, w13, sl_cells, sl_one, wrap64_in]); try simp only [yback])
          refine InvQ_go (rows.length - (k + 1)) (by omega) ⟨(k + 1), (L.set k (K4.length + 1, mvRow p bb.l bb.j bb.r r)), rfl, by omega, (by first | rfl | exact f0 | (simp only [upd_apply]; rfl) | (show I64 _ = _; congr 1; omega)), (by first | rfl | exact f6 | (simp only [upd_apply]; rfl) | (show I64 _ = _; congr 1; omega)), (by first | rfl | exact f7 | (simp only [upd_apply]; rfl) | (show I64 _ = _; congr 1; omega)), (by first | rfl | exact f8 | (simp only [upd_apply]; rfl) | (show I64 _ = _; congr 1; omega)), (by first | rfl | exact f10 | (simp only [upd_apply]; rfl) | (show I64 _ = _; congr 1; omega)), (by first | rfl | exact f12 | (simp only [upd_apply]; rfl) | (show I64 _ = _; congr 1; omega)), ((sy.trans st12).trans (StayT.put gnb (.inr rfl) tl.low)), ?_, (nx _ _ hL)⟩
          rw [emv] at tl13 ⊢
          exact tl13
        · have hb : ¬ r.getD bb.j 0 = (r.getD bb.l 0 * bb.r).tmod p := fun e => hmv (by rw [eok, decide_eq_true ha, decide_eq_true e]; rfl)
          ((try simp (maxSteps := 3000000) (dsimp := false) (disch := first | omega | (simp only [len_new, len_put, len_kill]; omega)) only [↓ypre, ypost, ↓reduceIte, Nat.reduceEqDiff, Nat.reduceAdd, Nat.reduceSub, Nat.reduceLeDiff, Nat.zero_add, Nat.sub_zero, ynew, f0, f6, f7, f8, f10, f12, lnT, decide_eq_true hltk, ixk, rl, rd1_of gA, ixl, rdl, decide_eq_true (show r.getD bb.l 0 ≠ 0 from ha), ixj, rdj, bin_rem, decide_eq_false hb, wrap64_in]); try simp only [yback])
          have lst0 : True := trivial
          refine o.app3 (by omega) fun H12 l12 pre12 keep12 lst12 => ?_
          obtain ⟨w13, tl13⟩ := tl.store (i := k) (n := nr) hkL hLk keep12 lst12 (by omega) (by omega)
          rw [← emv] at tl13
          have st12 : StayT H1.length K4 H12 := ⟨by omega, fun h0 hh q => pre12 h0 (Nat.le_trans hh lr) q, fun m' b' g q1 q2 => keep12 m' b' (fun e => by
            unfold Lst at o
            rw [e, o] at g
            cases g
            exact q1 rfl) g⟩
          have gnb := keep12 _ _ (by have := tl.ne hkL; rw [hLk] at this; exact this.symm) tl.g
          ((try simp (maxSteps := 3000000) (dsimp := false) (disch := first | omega | (simp only [len_new, len_put, len_kill]; omega)) only [↓ypre, ypost, ↓reduceIte, Nat.reduceEqDiff, Nat.reduceAdd, Nat.reduceSub, Nat.reduceLeDiff, Nat.zero_add, Nat.sub_zero, ynew, f0, f6, f7, f8, f10, f12, ixk, w13, sl_cells, sl_one, wrap64_in]); try simp only [yback])
          refine InvQ_go (rows.length - (k + 1)) (by omega) ⟨(k + 1), (L.set k (K4.length + 1, mvRow p bb.l bb.j bb.r r)), rfl, by omega, (by first | rfl | exact f0 | (simp only [upd_apply]; rfl) | (show I64 _ = _; congr 1; omega)), (by first | rfl | exact f6 | (simp only [upd_apply]; rfl) | (show I64 _ = _; congr 1; omega)), (by first | rfl | exact f7 | (simp only [upd_apply]; rfl) | (show I64 _ = _; congr 1; omega)), (by first | rfl | exact f8 | (simp only [upd_apply]; rfl) | (show I64 _ = _; congr 1; omega)), (by first | rfl | exact f10 | (simp only [upd_apply]; rfl) | (show I64 _ = _; congr 1; omega)), (by first | rfl | exact f12 | (simp only [upd_apply]; rfl) | (show I64 _ = _; congr 1; omega)), ((sy.trans st12).trans (StayT.put gnb (.inr rfl) tl.low)), ?_, (nx _ _ hL)⟩
          rw [emv] at tl13 ⊢
          exact tl13
    have ek : k = rows.length := by omega
    subst ek
    ((try simp (maxSteps := 3000000) (dsimp := false) (disch := first | omega | (simp only [len_new, len_put, len_kill]; omega)) only [↓ypre, ypost, ↓reduceIte, Nat.reduceEqDiff, Nat.reduceAdd, Nat.reduceSub, Nat.reduceLeDiff, Nat.zero_add, Nat.sub_zero, ynew, f0, f6, f7, f8, f10, f12, lnT, decide_eq_false hltk]); try simp only [yback])
    rw [← si.len, mvK_all, ← eT] at hL
    have hlt := sg.2
    have dlt : d < nzT rows := by omega
    refine InvQ_go (nzT rows - (nzT rows - nzT (stepS p s).T)) (by omega) ⟨nzT rows - nzT (stepS p s).T, stepS p s, sv', nb, fl, L, rfl, by omega, f0, f6, f7, f8, by omega, sg.1, sy.pre _ (Nat.le_refl _) pp9, tl, hL, ?_, sy.get _ _ g7c (by simp) (by simp), sy.get _ _ g3c (by simp) (by simp), by have := pre_len pp9; omega⟩
    rw [est]
    exact wv9.keep fun m' c' f' _ _ g => sy.get _ _ g (by simp) (by simp)
end Go.Proofs.Ytilpnbejpndgpaa.X

/- Shared programs of the program: sets of rows, the best pair. -/
set_option linter.unusedVariables false
set_option linter.unusedSimpArgs false
set_option maxRecDepth 20000
set_option maxHeartbeats 4000000
namespace Go.Proofs.Ytilpnbejpndgpaa.X
open Go Go.RowKit

/-- A column: the rows with each number. -/
def Col (T : List (List Int)) (i : Nat) (q : List Int) : Prop := q.length = 5 ∧ ∀ x : Nat, 1 ≤ x → x < 5 → q.getD x 0 = ((bs T.length fun k => decide (tb T k i = x) : Nat) : Int)
theorem Col.at {T : List (List Int)} {i x : Nat} {q : List Int} (c : Col T i q) (h : 1 ≤ x ∧ x < 5) : (cel .u32 q)[x]? = some (U32 (bs T.length fun k => decide (tb T k i = x))) := by
  rw [cel_get (by rw [c.1]; exact h.2), c.2 x h.1 h.2]
  rfl
theorem bs_none {R : Nat} : bs R (fun _ => false) = 0 := (bs_of fun k => by simp).symm
theorem ixa_u {n off len : Nat} {kk : IntKind} {j : Nat} (h : j < len) : ixaV len 1 (.pointer (some ⟨n, off, none⟩)) (.int kk (j : Int)) = some (.pointer (some ⟨n, off + j, none⟩)) := by
  rw [ixaV_ptr (by omega), Int.toNat_natCast, Nat.mul_one]

theorem i_rowsWith {p : Int} {W i j r : Nat} {T : List (List Int)} {qa qb : List Int} {h : AH} {Q : Value → AH → Prop} (hp : isP p = true) (g : GT p W T) (hT : T.length ≤ 30) (hi : i < W) (hj : j < W) (ca : Col T i qa) (cb : Col T j qb) (hr : 1 ≤ r ∧ (r : Int) < p)
    (hQ : ∀ h', h <+: h' → Q (U32 (bs T.length (mkB p T i j r))) h') : WF S 131 [I64 p, aggV .u32 qa, aggV .u32 qb, I64 r] h Q := by
  refine WF_fn (fn := c131) rfl rfl ?_
  unfold c131
  have hp5 := isP_in hp
  ((try simp (maxSteps := 3000000) (dsimp := false) (disch := first | omega | (simp only [len_new, len_put, len_kill]; omega)) only [↓ypre, ypost, ↓reduceIte, Nat.reduceEqDiff, Nat.reduceAdd, Nat.reduceSub, Nat.reduceLeDiff, Nat.zero_add, Nat.sub_zero, ynew, aggV, cel_all, cellsL_cel]); try simp only [yback])
  generalize hH1 : AH.new h _ = H1
  obtain ⟨hb1, p1, n1⟩ := new_facts hH1
  generalize hH2 : AH.new H1 _ = H2
  obtain ⟨hb2, p2, n2⟩ := new_facts hH2
  have hb1 := pre_get p2 hb1
  obtain ⟨fN, hfN⟩ : ∃ fN : Nat → Nat → Bool, fN = fun (c : Nat) (k : Nat) => decide (1 ≤ tb T k i ∧ tb T k i ≤ (c : Int)) && decide (tb T k j = (tb T k i * r).tmod p) := ⟨_, rfl⟩
  have z0 : Value.int IntKind.u32 0 = U32 (bs T.length (fN 0)) := by
    have : bs T.length (fN 0) = bs T.length fun _ => false := bs_congr fun k _ => by
      rw [hfN]
      show (decide (1 ≤ tb T k i ∧ tb T k i ≤ ((0 : Nat) : Int)) && _) = false
      rw [decide_eq_false (by omega), Bool.false_and]
    rw [this, bs_none]
    rfl
  rw [z0]
  refine WC_loop_inv (fun m f K1 => ∃ (c : Nat), m = ((p.toNat - 1)) - c ∧ c ≤ ((p.toNat - 1)) ∧ f 0 = I64 p ∧ f 3 = I64 r ∧ f 5 = .pointer (some ⟨h.length, 0, none⟩) ∧ f 6 = .pointer (some ⟨H1.length, 0, none⟩) ∧ f 9 = U32 (bs T.length (fN c)) ∧ f 10 = I64 ((c : Int) + 1) ∧ K1 = H2) ?_ (((p.toNat - 1)) - 0) _ _ ⟨0, rfl, by omega, (by first | rfl | (simp [upd_apply]; done)), (by first | rfl | (simp [upd_apply]; done)), (by first | rfl | (simp [upd_apply]; done)), (by first | rfl | (simp [upd_apply]; done)), (by first | rfl | (simp [upd_apply]; done)), (by first | rfl | (simp [upd_apply]; done)), rfl⟩
  rintro m f K1 ⟨c, rfl, hc, f0, f3, f5, f6, f9, f10, rfl⟩
  by_cases hlt : (c : Int) + 1 < p
  · have hc : c < p.toNat - 1 := by omega
    have nz := mul_nz hp (a := ((c + 1 : Nat) : Int)) (r := (r : Int)) (by omega) (by omega)
    have mb := mul_in (A := 5) (B := 5) (a := ((c + 1 : Nat) : Int)) (b := (r : Int)) (by omega) (by omega)
    obtain ⟨y, hy⟩ : ∃ y : Nat, (((c + 1 : Nat) : Int) * r).tmod p = y := ⟨_, (Int.toNat_of_nonneg (by omega)).symm⟩
    have eI : (c : Int) + 1 = ((c + 1 : Nat) : Int) := by omega
    rw [eI] at f10
    have ra := ca.at (x := c + 1) (by omega)
    have rb := cb.at (x := y) (by omega)
    have ixA := ixa_u (n := h.length) (off := 0) (len := 5) (kk := .i64) (j := c + 1) (by omega)
    have ixB := ixa_u (n := H1.length) (off := 0) (len := 5) (kk := .i64) (j := y) (by omega)
    rw [Nat.zero_add] at ixA ixB
    have an := bin_and (R := T.length) (f := fun k => decide (tb T k i = ((c + 1 : Nat) : Int))) (g := fun k => decide (tb T k j = ((y : Nat) : Int))) (by omega)
    have orr := bin_or (R := T.length) (f := fN c) (g := fun k => decide (tb T k i = ((c + 1 : Nat) : Int)) && decide (tb T k j = ((y : Nat) : Int))) (by omega)
    have e1 : bs T.length (fun k => fN c k || (decide (tb T k i = ((c + 1 : Nat) : Int)) && decide (tb T k j = ((y : Nat) : Int)))) = bs T.length (fN (c + 1)) := bs_congr fun k hk => by
      rw [hfN]
      show (decide (1 ≤ tb T k i ∧ tb T k i ≤ (c : Int)) && decide (tb T k j = (tb T k i * r).tmod p) || (decide (tb T k i = ((c + 1 : Nat) : Int)) && decide (tb T k j = ((y : Nat) : Int)))) = (decide (1 ≤ tb T k i ∧ tb T k i ≤ ((c + 1 : Nat) : Int)) && decide (tb T k j = (tb T k i * r).tmod p))
      by_cases e : tb T k i = ((c + 1 : Nat) : Int)
      · rw [decide_eq_false (p := 1 ≤ tb T k i ∧ tb T k i ≤ (c : Int)) (by omega), decide_eq_true (p := tb T k i = ((c + 1 : Nat) : Int)) e, decide_eq_true (p := 1 ≤ tb T k i ∧ tb T k i ≤ ((c + 1 : Nat) : Int)) (by omega), e, hy]
        simp
      · rw [decide_eq_false (p := tb T k i = ((c + 1 : Nat) : Int)) e]
        by_cases e2 : 1 ≤ tb T k i ∧ tb T k i ≤ (c : Int)
        · rw [decide_eq_true e2, decide_eq_true (p := 1 ≤ tb T k i ∧ tb T k i ≤ ((c + 1 : Nat) : Int)) (by omega)]
          simp
        · rw [decide_eq_false e2, decide_eq_false (p := 1 ≤ tb T k i ∧ tb T k i ≤ ((c + 1 : Nat) : Int)) (by omega)]
          simp
    rw [e1] at orr
    ((try simp (maxSteps := 3000000) (dsimp := false) (disch := first | omega | (simp only [len_new, len_put, len_kill]; omega)) only [↓ypre, ypost, ↓reduceIte, Nat.reduceEqDiff, Nat.reduceAdd, Nat.reduceSub, Nat.reduceLeDiff, Nat.zero_add, Nat.sub_zero, ynew, f0, f3, f5, f6, f9, f10, decide_eq_true (show ((c + 1 : Nat) : Int) < p by omega), ixA, rd1_of hb1, ra, bin_rem, hy, ixB, rd1_of hb2, rb, an, orr, wrap64_in]); try simp only [yback])
    refine InvQ_go (((p.toNat - 1)) - (c + 1)) (by omega) ⟨(c + 1), rfl, by omega, (by first | rfl | exact f0 | (simp only [upd_apply]; rfl) | (show I64 _ = _; congr 1; omega)), (by first | rfl | exact f3 | (simp only [upd_apply]; rfl) | (show I64 _ = _; congr 1; omega)), (by first | rfl | exact f5 | (simp only [upd_apply]; rfl) | (show I64 _ = _; congr 1; omega)), (by first | rfl | exact f6 | (simp only [upd_apply]; rfl) | (show I64 _ = _; congr 1; omega)), (by first | rfl | exact f9 | (simp only [upd_apply]; rfl) | (show I64 _ = _; congr 1; omega)), (by show I64 _ = I64 _; congr 1), rfl⟩
  have ec : c = p.toNat - 1 := by omega
  subst ec
  ((try simp (maxSteps := 3000000) (dsimp := false) (disch := first | omega | (simp only [len_new, len_put, len_kill]; omega)) only [↓ypre, ypost, ↓reduceIte, Nat.reduceEqDiff, Nat.reduceAdd, Nat.reduceSub, Nat.reduceLeDiff, Nat.zero_add, Nat.sub_zero, ynew, f0, f3, f5, f6, f9, f10, decide_eq_false hlt]); try simp only [yback])
  have e2 : bs T.length (fN (p.toNat - 1)) = bs T.length (mkB p T i j r) := bs_congr fun k hk => by
    obtain ⟨_, gi⟩ := g k hk
    have := gi i hi
    rw [hfN]
    show (decide (1 ≤ tb T k i ∧ tb T k i ≤ ((p.toNat - 1 : Nat) : Int)) && _) = (decide (tb T k i ≠ 0) && _)
    by_cases e : tb T k i = 0
    · rw [decide_eq_false (p := tb T k i ≠ 0) (fun y => y e), decide_eq_false (p := 1 ≤ tb T k i ∧ _) (by omega)]
    · rw [decide_eq_true (p := tb T k i ≠ 0) e, decide_eq_true (p := 1 ≤ tb T k i ∧ _) (by omega)]
  rw [e2]
  exact hQ _ (p1.trans p2)
/-- The part of an array behind its first place. -/
def slcaW (len sz : Nat) (x c : Value) (h : AH) : Option (Value × AH) := xop (.slca len sz (.const x) (some (.const c)) none) (fun _ => undef) h
theorem yWX_slcaW {S : XS} {f : Fr} {h : AH} {Q : Value → AH → Prop} {len sz : Nat} {x : Operand} {c : Value} : WX S (.slca len sz x (some (.const c)) none) f h Q = yOQ (slcaW len sz (ev f x) c h) Q .mk := by
  rw [WX_op (fun _ => rfl)]
  rfl
theorem slcaW_of {h : AH} {n : Nat} {c : List Value} {e : TypeId} (hg : h.get n = some ⟨c, e, false, true⟩) (hl : c.length = 5) : slcaW 5 1 (.pointer (some ⟨n, 0, none⟩)) (I64 1) h = some (.slice (some ⟨n, 1, none⟩) 4 1, h) := by
  simp only [slcaW, xop, ev, hg, bound]
  rw [if_pos ⟨trivial, trivial, by omega, by omega, by omega, by omega⟩]
  rfl

theorem i_mostRows {v : Value} {p : Int} {W : Nat} {T : List (List Int)} {cols : List (List Int)} {h : AH} {Q : Value → AH → Prop} (hv : Els .u32 5 h v cols) (hcw : cols.length = W) (hcol : ∀ i, i < W → Col T i (cols.getD i [])) (hp : isP p = true) (g : GT p W T) (hT : 1 ≤ T.length ∧ T.length ≤ 30) (hW : W ≤ 1000)
    (hQ : ∀ h', h <+: h' → Q (.tuple #[.agg #[I64 (bst p T).l, I64 (bst p T).j, I64 (bst p T).r], .bool (decide (1 < ((bst p T).m : Int)))]) h') : WF S 130 [I64 p, v] h Q := by
  refine WF_fn (fn := c130) rfl rfl ?_
  unfold c130
  have hp5 := isP_in hp
  ((try simp (maxSteps := 3000000) (dsimp := false) (disch := first | omega | (simp only [len_new, len_put, len_kill]; omega)) only [↓ypre, ypost, ↓reduceIte, Nat.reduceEqDiff, Nat.reduceAdd, Nat.reduceSub, Nat.reduceLeDiff, Nat.zero_add, Nat.sub_zero, ynew, hv.one]); try simp only [yback])
  generalize hH1 : AH.new h _ = H1
  obtain ⟨hb1, p1, n1⟩ := new_facts hH1
  generalize hH2 : AH.new H1 _ = H2
  obtain ⟨hb2, p2, n2⟩ := new_facts hH2
  have hw0 := (g 0 (by omega)).1
  have hlen := (hv.pre (p1.trans p2)).len
  rw [hcw] at hlen
  ((try simp (maxSteps := 3000000) (dsimp := false) (disch := first | omega | (simp only [len_new, len_put, len_kill]; omega)) only [↓ypre, ypost, ↓reduceIte, Nat.reduceEqDiff, Nat.reduceAdd, Nat.reduceSub, Nat.reduceLeDiff, Nat.zero_add, Nat.sub_zero, ynew, hlen]); try simp only [yback])
  have hm0 : ∀ n, (foldI p T W n ⟨0, 0, 0, 1⟩).m ≤ 30 := fun n => foldI_m (by simp) hT.2
  refine WC_loop_inv (fun m f K1 => ∃ (i : Nat), m = W - i ∧ i ≤ W ∧ f 0 = I64 p ∧ f 1 = v ∧ f 4 = .pointer (some ⟨h.length, 0, none⟩) ∧ f 6 = .pointer (some ⟨H1.length, 0, none⟩) ∧ f 7 = I64 (foldI p T W i ⟨0, 0, 0, 1⟩).m ∧ f 17 = v ∧ f 18 = I64 W ∧ f 19 = I64 i ∧ (H1 <+: K1) ∧ (OwnB K1 H1.length [I64 (foldI p T W i ⟨0, 0, 0, 1⟩).l, I64 (foldI p T W i ⟨0, 0, 0, 1⟩).j, I64 (foldI p T W i ⟨0, 0, 0, 1⟩).r] true)) ?_ (W - 0) _ _ ⟨0, rfl, by omega, (by first | rfl | (simp [upd_apply]; done)), (by first | rfl | (simp [upd_apply]; done)), (by first | rfl | (simp [upd_apply]; done)), (by first | rfl | (simp [upd_apply]; done)), (by first | rfl | (simp [upd_apply]; done)), (by first | rfl | (simp [upd_apply]; done)), (by first | rfl | (simp [upd_apply]; done)), (by first | rfl | (simp [upd_apply]; done)), p2, ⟨_, hb2⟩⟩
  rintro m f K1 ⟨i, rfl, hi, f0, f1, f4, f6, f7, f17, f18, f19, pp, g6⟩
  have hvK := hv.pre (p1.trans pp)
  by_cases hlt : (i : Int) < W
  · have hi' : i < W := by omega
    obtain ⟨s0, hs0⟩ : ∃ s0, s0 = foldI p T W i ⟨0, 0, 0, 1⟩ := ⟨_, rfl⟩
    have m0 := hm0 i
    have ei1 : foldI p T W (i + 1) ⟨0, 0, 0, 1⟩ = foldJ p T i (W - (i + 1)) s0 := by rw [hs0]; rfl
    rw [← hs0] at f7 g6 m0
    have ca := hcol i hi'
    obtain ⟨n5, off5, hix, hrn⟩ := hvK.rdw (i := i) (by omega)
    have wq := ca.1
    generalize hq : cols.getD i [] = q at *
    have w1 : ∀ (h1 : AH) (e : TypeId), (h1.new ⟨[.int .u32 0, .int .u32 0, .int .u32 0, .int .u32 0, .int .u32 0], e, false, true⟩).wr h1.length 0 (cel .u32 q) = some (h1.new ⟨cel .u32 q, e, false, true⟩) := fun h1 e => wr_all (by rw [cel_len, wq]; rfl)
    ((try simp (maxSteps := 3000000) (dsimp := false) (disch := first | omega | (simp only [len_new, len_put, len_kill]; omega)) only [↓ypre, ypost, ↓reduceIte, Nat.reduceEqDiff, Nat.reduceAdd, Nat.reduceSub, Nat.reduceLeDiff, Nat.zero_add, Nat.sub_zero, ynew, f0, f1, f4, f6, f7, f17, f18, f19, decide_eq_true hlt, hix, hrn, cel_all, cellsL_cel, cel_len, wq, ↓w1, wrap64_in]); try simp only [yback])
    generalize hH5 : AH.new K1 _ = H5
    obtain ⟨hb5, p5, n5'⟩ := new_facts hH5
    have sw := slcaW_of hb5 (by rw [cel_len]; exact wq)
    ((try simp (maxSteps := 3000000) (dsimp := false) (disch := first | omega | (simp only [len_new, len_put, len_kill]; omega)) only [↓ypre, ypost, ↓reduceIte, Nat.reduceEqDiff, Nat.reduceAdd, Nat.reduceSub, Nat.reduceLeDiff, Nat.zero_add, Nat.sub_zero, ynew, f0, f1, f4, f6, f7, f17, f18, f19, ↓yWX_slcaW, sw]); try simp only [yback])
    obtain ⟨fN, hfN⟩ : ∃ fN : Nat → Nat → Bool, fN = fun (c : Nat) (k : Nat) => decide (1 ≤ tb T k i ∧ tb T k i ≤ (c : Int)) := ⟨_, rfl⟩
    have z0 : Value.int IntKind.u32 0 = U32 (bs T.length (fN 0)) := by
      have : bs T.length (fN 0) = bs T.length fun _ => false := bs_congr fun k _ => by
        rw [hfN]
        exact decide_eq_false (by omega)
      rw [this, bs_none]
      rfl
    rw [z0]
    refine WC_loop_inv (fun m f K2 => ∃ (c : Nat), m = 4 - c ∧ c ≤ 4 ∧ f 0 = I64 p ∧ f 1 = v ∧ f 4 = .pointer (some ⟨h.length, 0, none⟩) ∧ f 6 = .pointer (some ⟨H1.length, 0, none⟩) ∧ f 7 = I64 s0.m ∧ f 8 = I64 i ∧ f 9 = .pointer (some ⟨K1.length, 0, none⟩) ∧ f 10 = U32 (bs T.length (fN c)) ∧ f 17 = v ∧ f 18 = I64 W ∧ f 19 = I64 i ∧ f 24 = .slice (some ⟨K1.length, 1, none⟩) 4 1 ∧ f 25 = I64 4 ∧ f 26 = I64 c ∧ K2 = H5) ?_ (4 - 0) _ _ ⟨0, rfl, by omega, (by first | rfl | exact f0 | (simp [upd_apply]; done)), (by first | rfl | exact f1 | (simp [upd_apply]; done)), (by first | rfl | exact f4 | (simp [upd_apply]; done)), (by first | rfl | exact f6 | (simp [upd_apply]; done)), (by first | rfl | exact f7 | (simp [upd_apply]; done)), (by first | rfl | (simp [upd_apply]; done)), (by first | rfl | (simp [upd_apply]; done)), (by first | rfl | (simp [upd_apply]; done)), (by first | rfl | exact f17 | (simp [upd_apply]; done)), (by first | rfl | exact f18 | (simp [upd_apply]; done)), (by first | rfl | exact f19 | (simp [upd_apply]; done)), (by first | rfl | (simp [upd_apply]; done)), (by first | rfl | (simp [upd_apply]; done)), (by first | rfl | (simp [upd_apply]; done)), rfl⟩
    rintro m f K2 ⟨c, rfl, hc, f0, f1, f4, f6, f7, f8, f9, f10, f17, f18, f19, f24, f25, f26, rfl⟩
    by_cases hltc : (c : Int) < 4
    · have hc4 : c < 4 := by omega
      have ra := ca.at (x := c + 1) (by omega)
      have ixc : ixsV 1 (.slice (some ⟨K1.length, 1, none⟩) 4 1) (I64 c) = some (.pointer (some ⟨K1.length, c + 1, none⟩)) := by
        rw [ixsV_some, if_pos (by omega)]
        simp [Nat.add_comm]
      have orr := bin_or (R := T.length) (f := fN c) (g := fun k => decide (tb T k i = ((c + 1 : Nat) : Int))) (by omega)
      have e1 : bs T.length (fun k => fN c k || decide (tb T k i = ((c + 1 : Nat) : Int))) = bs T.length (fN (c + 1)) := bs_congr fun k hk => by
        rw [hfN]
        show (decide (1 ≤ tb T k i ∧ tb T k i ≤ (c : Int)) || decide (tb T k i = ((c + 1 : Nat) : Int))) = decide (1 ≤ tb T k i ∧ tb T k i ≤ ((c + 1 : Nat) : Int))
        rw [← Bool.decide_or]
        congr 1
        exact propext ⟨by omega, by omega⟩
      rw [e1] at orr
      ((try simp (maxSteps := 3000000) (dsimp := false) (disch := first | omega | (simp only [len_new, len_put, len_kill]; omega)) only [↓ypre, ypost, ↓reduceIte, Nat.reduceEqDiff, Nat.reduceAdd, Nat.reduceSub, Nat.reduceLeDiff, Nat.zero_add, Nat.sub_zero, ynew, f0, f1, f4, f6, f7, f8, f9, f10, f17, f18, f19, f24, f25, f26, decide_eq_true hltc, ixc, rd1_of hb5, ra, orr, wrap64_in]); try simp only [yback])
      refine InvQ_go (4 - (c + 1)) (by omega) ⟨(c + 1), rfl, by omega, (by first | rfl | exact f0 | (simp only [upd_apply]; rfl) | (show I64 _ = _; congr 1; omega)), (by first | rfl | exact f1 | (simp only [upd_apply]; rfl) | (show I64 _ = _; congr 1; omega)), (by first | rfl | exact f4 | (simp only [upd_apply]; rfl) | (show I64 _ = _; congr 1; omega)), (by first | rfl | exact f6 | (simp only [upd_apply]; rfl) | (show I64 _ = _; congr 1; omega)), (by first | rfl | exact f7 | (simp only [upd_apply]; rfl) | (show I64 _ = _; congr 1; omega)), (by first | rfl | exact f8 | (simp only [upd_apply]; rfl) | (show I64 _ = _; congr 1; omega)), (by first | rfl | exact f9 | (simp only [upd_apply]; rfl) | (show I64 _ = _; congr 1; omega)), (by first | rfl | exact f10 | (simp only [upd_apply]; rfl) | (show I64 _ = _; congr 1; omega)), (by first | rfl | exact f17 | (simp only [upd_apply]; rfl) | (show I64 _ = _; congr 1; omega)), (by first | rfl | exact f18 | (simp only [upd_apply]; rfl) | (show I64 _ = _; congr 1; omega)), (by first | rfl | exact f19 | (simp only [upd_apply]; rfl) | (show I64 _ = _; congr 1; omega)), (by first | rfl | exact f24 | (simp only [upd_apply]; rfl) | (show I64 _ = _; congr 1; omega)), (by first | rfl | exact f25 | (simp only [upd_apply]; rfl) | (show I64 _ = _; congr 1; omega)), (by first | rfl | exact f26 | (simp only [upd_apply]; rfl) | (show I64 _ = _; congr 1; omega)), rfl⟩
    have ec : c = 4 := by omega
    subst ec
    have e4 : bs T.length (fN 4) = bs T.length fun k => decide (tb T k i ≠ 0) := bs_congr fun k hk => by
      obtain ⟨_, gi⟩ := g k hk
      have := gi i hi'
      rw [hfN]
      show decide (1 ≤ tb T k i ∧ tb T k i ≤ ((4 : Nat) : Int)) = decide (tb T k i ≠ 0)
      congr 1
      exact propext ⟨by omega, by omega⟩
    rw [e4] at f10
    ((try simp (maxSteps := 3000000) (dsimp := false) (disch := first | omega | (simp only [len_new, len_put, len_kill]; omega)) only [↓ypre, ypost, ↓reduceIte, Nat.reduceEqDiff, Nat.reduceAdd, Nat.reduceSub, Nat.reduceLeDiff, Nat.zero_add, Nat.sub_zero, ynew, f0, f1, f4, f6, f7, f8, f9, f10, f17, f18, f19, f24, f25, f26, decide_eq_false hltc]); try simp only [yback])
    refine l_OnesCount (bs_32 (by omega)) ?_
    rw [pop_bs (by omega)]
    have pp5 := pp.trans p5
    by_cases hskip : ((cntB (fun k => decide (tb T k i ≠ 0)) T.length : Nat) : Int) ≤ ((s0.m : Nat) : Int)
    · rw [foldJ_skip (fun j r => by have := cntT_le (p := p) (T := T) (i := i) (j := j) (r := r); omega)] at ei1
      ((try simp (maxSteps := 3000000) (dsimp := false) (disch := first | omega | (simp only [len_new, len_put, len_kill]; omega)) only [↓ypre, ypost, ↓reduceIte, Nat.reduceEqDiff, Nat.reduceAdd, Nat.reduceSub, Nat.reduceLeDiff, Nat.zero_add, Nat.sub_zero, ynew, f0, f1, f4, f6, f7, f8, f9, f10, f17, f18, f19, f24, f25, f26, decide_eq_true hskip, wrap64_in]); try simp only [yback])
      obtain ⟨e6, g6⟩ := g6
      refine InvQ_go (W - (i + 1)) (by omega) ⟨(i + 1), rfl, by omega, (by first | rfl | exact f0 | (simp only [upd_apply]; rfl) | (show I64 _ = _; congr 1; omega)), (by first | rfl | exact f1 | (simp only [upd_apply]; rfl) | (show I64 _ = _; congr 1; omega)), (by first | rfl | exact f4 | (simp only [upd_apply]; rfl) | (show I64 _ = _; congr 1; omega)), (by first | rfl | exact f6 | (simp only [upd_apply]; rfl) | (show I64 _ = _; congr 1; omega)), (by rw [ei1]; exact f7), (by first | rfl | exact f17 | (simp only [upd_apply]; rfl) | (show I64 _ = _; congr 1; omega)), (by first | rfl | exact f18 | (simp only [upd_apply]; rfl) | (show I64 _ = _; congr 1; omega)), (by first | rfl | exact f19 | (simp only [upd_apply]; rfl) | (show I64 _ = _; congr 1; omega)), pp5, ⟨e6, by rw [ei1]; exact pre_get p5 g6⟩⟩
    have hmJ : ∀ n, (foldJ p T i n s0).m ≤ 30 := fun n => foldJ_m m0 hT.2
    ((try simp (maxSteps := 3000000) (dsimp := false) (disch := first | omega | (simp only [len_new, len_put, len_kill]; omega)) only [↓ypre, ypost, ↓reduceIte, Nat.reduceEqDiff, Nat.reduceAdd, Nat.reduceSub, Nat.reduceLeDiff, Nat.zero_add, Nat.sub_zero, ynew, f0, f1, f4, f6, f7, f8, f9, f10, f17, f18, f19, decide_eq_false hskip, wrap64_in]); try simp only [yback])
    obtain ⟨e6, g6⟩ := g6
    refine WC_loop_inv (fun m f K3 => ∃ (b : Nat), m = ((W - (i + 1))) - b ∧ b ≤ ((W - (i + 1))) ∧ f 0 = I64 p ∧ f 1 = v ∧ f 4 = .pointer (some ⟨h.length, 0, none⟩) ∧ f 6 = .pointer (some ⟨H1.length, 0, none⟩) ∧ f 7 = I64 (foldJ p T i b s0).m ∧ f 8 = I64 i ∧ f 9 = .pointer (some ⟨K1.length, 0, none⟩) ∧ f 13 = I64 ((i : Int) + 1 + b) ∧ f 17 = v ∧ f 18 = I64 W ∧ f 19 = I64 i ∧ (H1 <+: K3) ∧ (OwnB K3 H1.length [I64 (foldJ p T i b s0).l, I64 (foldJ p T i b s0).j, I64 (foldJ p T i b s0).r] true) ∧ (OwnB K3 K1.length (cel .u32 q) true)) ?_ (((W - (i + 1))) - 0) _ _ ⟨0, rfl, by omega, (by first | rfl | exact f0 | (simp [upd_apply]; done)), (by first | rfl | exact f1 | (simp [upd_apply]; done)), (by first | rfl | exact f4 | (simp [upd_apply]; done)), (by first | rfl | exact f6 | (simp [upd_apply]; done)), (by first | rfl | exact f7 | (simp [upd_apply]; done)), (by first | rfl | exact f8 | (simp [upd_apply]; done)), (by first | rfl | exact f9 | (simp [upd_apply]; done)), (by first | rfl | (simp [upd_apply]; done)), (by first | rfl | exact f17 | (simp [upd_apply]; done)), (by first | rfl | exact f18 | (simp [upd_apply]; done)), (by first | rfl | exact f19 | (simp [upd_apply]; done)), pp5, ⟨e6, pre_get p5 g6⟩, ⟨_, hb5⟩⟩
    rintro m f K3 ⟨b, rfl, hb, f0, f1, f4, f6, f7, f8, f9, f13, f17, f18, f19, pp, g6, g9⟩
    by_cases hltb : (i : Int) + 1 + b < W
    · obtain ⟨j, hj⟩ : ∃ j : Nat, j = i + 1 + b := ⟨_, rfl⟩
      have ej : (i : Int) + 1 + (b : Int) = (j : Int) := by omega
      have hj' : j < W := by omega
      rw [ej] at f13
      have hv3 := hv.pre (p1.trans pp)
      have hlen3 := hv3.len
      rw [hcw] at hlen3
      ((try simp (maxSteps := 3000000) (dsimp := false) (disch := first | omega | (simp only [len_new, len_put, len_kill]; omega)) only [↓ypre, ypost, ↓reduceIte, Nat.reduceEqDiff, Nat.reduceAdd, Nat.reduceSub, Nat.reduceLeDiff, Nat.zero_add, Nat.sub_zero, ynew, f0, f1, f4, f6, f7, f8, f9, f13, f17, f18, f19, hlen3, decide_eq_true (show (j : Int) < W by omega), wrap64_in]); try simp only [yback])
      have hmR : ∀ n, (foldR p T i j n (foldJ p T i b s0)).m ≤ 30 := fun n => foldR_m (hmJ b) hT.2
      refine WC_loop_inv (fun m f K4 => ∃ (r : Nat), m = ((p.toNat - 1)) - r ∧ r ≤ ((p.toNat - 1)) ∧ f 0 = I64 p ∧ f 1 = v ∧ f 4 = .pointer (some ⟨h.length, 0, none⟩) ∧ f 6 = .pointer (some ⟨H1.length, 0, none⟩) ∧ f 7 = I64 (foldR p T i j r (foldJ p T i b s0)).m ∧ f 8 = I64 i ∧ f 9 = .pointer (some ⟨K1.length, 0, none⟩) ∧ f 13 = I64 j ∧ f 14 = I64 ((r : Int) + 1) ∧ f 17 = v ∧ f 18 = I64 W ∧ f 19 = I64 i ∧ (H1 <+: K4) ∧ (OwnB K4 H1.length [I64 (foldR p T i j r (foldJ p T i b s0)).l, I64 (foldR p T i j r (foldJ p T i b s0)).j, I64 (foldR p T i j r (foldJ p T i b s0)).r] true) ∧ (OwnB K4 K1.length (cel .u32 q) true)) ?_ (((p.toNat - 1)) - 0) _ _ ⟨0, rfl, by omega, (by first | rfl | exact f0 | (simp [upd_apply]; done)), (by first | rfl | exact f1 | (simp [upd_apply]; done)), (by first | rfl | exact f4 | (simp [upd_apply]; done)), (by first | rfl | exact f6 | (simp [upd_apply]; done)), (by first | rfl | exact f7 | (simp [upd_apply]; done)), (by first | rfl | exact f8 | (simp [upd_apply]; done)), (by first | rfl | exact f9 | (simp [upd_apply]; done)), (by first | rfl | exact f13 | (simp [upd_apply]; done)), (by first | rfl | (simp [upd_apply]; done)), (by first | rfl | exact f17 | (simp [upd_apply]; done)), (by first | rfl | exact f18 | (simp [upd_apply]; done)), (by first | rfl | exact f19 | (simp [upd_apply]; done)), pp, g6, g9⟩
      rintro m f K4 ⟨r, rfl, hr, f0, f1, f4, f6, f7, f8, f9, f13, f14, f17, f18, f19, pp, g6, g9⟩
      by_cases hltr : (r : Int) + 1 < p
      · have hv4 := hv.pre (p1.trans pp)
        obtain ⟨n7, off7, hix7, hrn7⟩ := hv4.rdw (i := j) (by omega)
        have cb := hcol j hj'
        have er : foldR p T i j (r + 1) (foldJ p T i b s0) = upB (foldR p T i j r (foldJ p T i b s0)) i j (r + 1) (cntT p T i j (r + 1)) := rfl
        have eI : (r : Int) + 1 = ((r + 1 : Nat) : Int) := by omega
        rw [eI] at f14
        have mr := hmR r
        have mr1 : cntT p T i j (r + 1) ≤ T.length := cntB_le
        obtain ⟨e6, g6⟩ := g6
        obtain ⟨e9, g9⟩ := g9
        have lt6 := get_lt g6
        generalize foldR p T i j r (foldJ p T i b s0) = s1 at *
        have tk : (cel .u32 q).take 5 = cel .u32 q := List.take_of_length_le (by rw [cel_len]; omega)
        ((try simp (maxSteps := 3000000) (dsimp := false) (disch := first | omega | (simp only [len_new, len_put, len_kill]; omega)) only [↓ypre, ypost, ↓reduceIte, Nat.reduceEqDiff, Nat.reduceAdd, Nat.reduceSub, Nat.reduceLeDiff, Nat.zero_add, Nat.sub_zero, ynew, f0, f1, f4, f6, f7, f8, f9, f13, f14, f17, f18, f19, decide_eq_true (show ((r + 1 : Nat) : Int) < p by omega), rdn_of g9, cel_len, wq, tk, hix7, hrn7, wrap64_in]); try simp only [yback])
        refine i_rowsWith (qa := q) (qb := cols.getD j []) hp g hT.2 hi' hj' ca cb (r := r + 1) (by omega) fun H8 p8 => ?_
        ((try simp (maxSteps := 3000000) (dsimp := false) (disch := first | omega | (simp only [len_new, len_put, len_kill]; omega)) only [↓ypre, ypost, ↓reduceIte, Nat.reduceEqDiff, Nat.reduceAdd, Nat.reduceSub, Nat.reduceLeDiff, Nat.zero_add, Nat.sub_zero, ynew, f0, f1, f4, f6, f7, f8, f9, f13, f14, f17, f18, f19]); try simp only [yback])
        refine l_OnesCount (bs_32 (by omega)) ?_
        rw [pop_bs (by omega)]
        have ec : cntB (mkB p T i j (r + 1)) T.length = cntT p T i j (r + 1) := rfl
        rw [ec]
        generalize cntT p T i j (r + 1) = c1 at *
        unfold upB at er
        have g6 := pre_get p8 g6
        have g9 := pre_get p8 g9
        have lt6 := get_lt g6
        have lt9 := get_lt g9
        have k8 := pre_len p8
        by_cases hcc : s1.m < c1
        · rw [if_pos hcc] at er
          ((try simp (maxSteps := 3000000) (dsimp := false) (disch := first | omega | (simp only [len_new, len_put, len_kill]; omega)) only [↓ypre, ypost, ↓reduceIte, Nat.reduceEqDiff, Nat.reduceAdd, Nat.reduceSub, Nat.reduceLeDiff, Nat.zero_add, Nat.sub_zero, ynew, f0, f1, f4, f6, f7, f8, f9, f13, f14, f17, f18, f19, decide_eq_true (show ((s1.m : Nat) : Int) < ((c1 : Nat) : Int) by omega), wr_of g6, wrap64_in]); try simp only [yback])
          refine InvQ_go (((p.toNat - 1)) - (r + 1)) (by omega) ⟨(r + 1), rfl, by omega, (by first | rfl | exact f0 | (simp only [upd_apply]; rfl) | (show I64 _ = _; congr 1; omega)), (by first | rfl | exact f1 | (simp only [upd_apply]; rfl) | (show I64 _ = _; congr 1; omega)), (by first | rfl | exact f4 | (simp only [upd_apply]; rfl) | (show I64 _ = _; congr 1; omega)), (by first | rfl | exact f6 | (simp only [upd_apply]; rfl) | (show I64 _ = _; congr 1; omega)), (by rw [er]; rfl), (by first | rfl | exact f8 | (simp only [upd_apply]; rfl) | (show I64 _ = _; congr 1; omega)), (by first | rfl | exact f9 | (simp only [upd_apply]; rfl) | (show I64 _ = _; congr 1; omega)), (by first | rfl | exact f13 | (simp only [upd_apply]; rfl) | (show I64 _ = _; congr 1; omega)), (by show I64 _ = I64 _; congr 1), (by first | rfl | exact f17 | (simp only [upd_apply]; rfl) | (show I64 _ = _; congr 1; omega)), (by first | rfl | exact f18 | (simp only [upd_apply]; rfl) | (show I64 _ = _; congr 1; omega)), (by first | rfl | exact f19 | (simp only [upd_apply]; rfl) | (show I64 _ = _; congr 1; omega)), (pre_put (pp.trans p8) (Nat.le_refl _)), ⟨e6, by rw [er]; exact get_put_same lt6⟩, ⟨e9, by rw [get_put_ne (by have := get_lt (show K1.get H1.length = _ from by assumption); omega)]; exact g9⟩⟩
        · rw [if_neg hcc] at er
          ((try simp (maxSteps := 3000000) (dsimp := false) (disch := first | omega | (simp only [len_new, len_put, len_kill]; omega)) only [↓ypre, ypost, ↓reduceIte, Nat.reduceEqDiff, Nat.reduceAdd, Nat.reduceSub, Nat.reduceLeDiff, Nat.zero_add, Nat.sub_zero, ynew, f0, f1, f4, f6, f7, f8, f9, f13, f14, f17, f18, f19, decide_eq_false (show ¬ ((s1.m : Nat) : Int) < ((c1 : Nat) : Int) by omega), wrap64_in]); try simp only [yback])
          refine InvQ_go (((p.toNat - 1)) - (r + 1)) (by omega) ⟨(r + 1), rfl, by omega, (by first | rfl | exact f0 | (simp only [upd_apply]; rfl) | (show I64 _ = _; congr 1; omega)), (by first | rfl | exact f1 | (simp only [upd_apply]; rfl) | (show I64 _ = _; congr 1; omega)), (by first | rfl | exact f4 | (simp only [upd_apply]; rfl) | (show I64 _ = _; congr 1; omega)), (by first | rfl | exact f6 | (simp only [upd_apply]; rfl) | (show I64 _ = _; congr 1; omega)), (by rw [er]; exact f7), (by first | rfl | exact f8 | (simp only [upd_apply]; rfl) | (show I64 _ = _; congr 1; omega)), (by first | rfl | exact f9 | (simp only [upd_apply]; rfl) | (show I64 _ = _; congr 1; omega)), (by first | rfl | exact f13 | (simp only [upd_apply]; rfl) | (show I64 _ = _; congr 1; omega)), (by show I64 _ = I64 _; congr 1), (by first | rfl | exact f17 | (simp only [upd_apply]; rfl) | (show I64 _ = _; congr 1; omega)), (by first | rfl | exact f18 | (simp only [upd_apply]; rfl) | (show I64 _ = _; congr 1; omega)), (by first | rfl | exact f19 | (simp only [upd_apply]; rfl) | (show I64 _ = _; congr 1; omega)), (pp.trans p8), ⟨e6, by rw [er]; exact g6⟩, ⟨e9, g9⟩⟩
      have er : r = p.toNat - 1 := by omega
      subst er
      ((try simp (maxSteps := 3000000) (dsimp := false) (disch := first | omega | (simp only [len_new, len_put, len_kill]; omega)) only [↓ypre, ypost, ↓reduceIte, Nat.reduceEqDiff, Nat.reduceAdd, Nat.reduceSub, Nat.reduceLeDiff, Nat.zero_add, Nat.sub_zero, ynew, f0, f1, f4, f6, f7, f8, f9, f13, f14, f17, f18, f19, decide_eq_false hltr, wrap64_in]); try simp only [yback])
      have ef : foldJ p T i (b + 1) s0 = foldR p T i j (p.toNat - 1) (foldJ p T i b s0) := by rw [hj]; rfl
      refine InvQ_go (((W - (i + 1))) - (b + 1)) (by omega) ⟨(b + 1), rfl, by omega, (by first | rfl | exact f0 | (simp only [upd_apply]; rfl) | (show I64 _ = _; congr 1; omega)), (by first | rfl | exact f1 | (simp only [upd_apply]; rfl) | (show I64 _ = _; congr 1; omega)), (by first | rfl | exact f4 | (simp only [upd_apply]; rfl) | (show I64 _ = _; congr 1; omega)), (by first | rfl | exact f6 | (simp only [upd_apply]; rfl) | (show I64 _ = _; congr 1; omega)), (by rw [ef]; exact f7), (by first | rfl | exact f8 | (simp only [upd_apply]; rfl) | (show I64 _ = _; congr 1; omega)), (by first | rfl | exact f9 | (simp only [upd_apply]; rfl) | (show I64 _ = _; congr 1; omega)), (by show I64 _ = I64 _; congr 1; omega), (by first | rfl | exact f17 | (simp only [upd_apply]; rfl) | (show I64 _ = _; congr 1; omega)), (by first | rfl | exact f18 | (simp only [upd_apply]; rfl) | (show I64 _ = _; congr 1; omega)), (by first | rfl | exact f19 | (simp only [upd_apply]; rfl) | (show I64 _ = _; congr 1; omega)), pp, (by rw [ef]; exact g6), g9⟩
    have eb : b = W - (i + 1) := by omega
    subst eb
    have hlen3 := (hv.pre (p1.trans pp)).len
    rw [hcw] at hlen3
    ((try simp (maxSteps := 3000000) (dsimp := false) (disch := first | omega | (simp only [len_new, len_put, len_kill]; omega)) only [↓ypre, ypost, ↓reduceIte, Nat.reduceEqDiff, Nat.reduceAdd, Nat.reduceSub, Nat.reduceLeDiff, Nat.zero_add, Nat.sub_zero, ynew, f0, f1, f4, f6, f7, f8, f9, f13, f17, f18, f19, hlen3, decide_eq_false hltb, wrap64_in]); try simp only [yback])
    refine InvQ_go (W - (i + 1)) (by omega) ⟨(i + 1), rfl, by omega, (by first | rfl | exact f0 | (simp only [upd_apply]; rfl) | (show I64 _ = _; congr 1; omega)), (by first | rfl | exact f1 | (simp only [upd_apply]; rfl) | (show I64 _ = _; congr 1; omega)), (by first | rfl | exact f4 | (simp only [upd_apply]; rfl) | (show I64 _ = _; congr 1; omega)), (by first | rfl | exact f6 | (simp only [upd_apply]; rfl) | (show I64 _ = _; congr 1; omega)), (by rw [ei1]; exact f7), (by first | rfl | exact f17 | (simp only [upd_apply]; rfl) | (show I64 _ = _; congr 1; omega)), (by first | rfl | exact f18 | (simp only [upd_apply]; rfl) | (show I64 _ = _; congr 1; omega)), (by first | rfl | exact f19 | (simp only [upd_apply]; rfl) | (show I64 _ = _; congr 1; omega)), pp, (by rw [ei1]; exact g6)⟩
  have ei : i = W := by omega
  subst ei
  obtain ⟨e6, g6⟩ := g6
  have hb1 := pre_get pp hb1
  have lt1 := get_lt hb1
  ((try simp (maxSteps := 3000000) (dsimp := false) (disch := first | omega | (simp only [len_new, len_put, len_kill]; omega)) only [↓ypre, ypost, ↓reduceIte, Nat.reduceEqDiff, Nat.reduceAdd, Nat.reduceSub, Nat.reduceLeDiff, Nat.zero_add, Nat.sub_zero, ynew, f0, f1, f4, f6, f7, f17, f18, f19, decide_eq_false hlt, rdn_of g6, wr_of hb1]); try simp only [yback])
  have := hQ _ (pre_put (b := ⟨[I64 (bst p T).l, I64 (bst p T).j, I64 (bst p T).r], 146, false, true⟩) (p1.trans pp) (Nat.le_refl _))
  unfold bst at this
  rw [hw0] at this
  exact this
end Go.Proofs.Ytilpnbejpndgpaa.X

/- Tables of columns: cells, what the columns are while rows are laid in and moved. -/
set_option linter.unusedVariables false
set_option linter.unusedSimpArgs false
set_option maxRecDepth 20000
set_option maxHeartbeats 4000000
namespace Go.Proofs.Ytilpnbejpndgpaa.X
open Go Go.RowKit

theorem flat_cell {w c x : Nat} {L : List (List Int)} {v : Int} (hw : Wid w L) (hc : c < L.length) (hx : x < w) : L.flatten.set (c * w + x) v = (L.set c ((L.getD c []).set x v)).flatten := by
  have hq : (L.getD c []).length = w := by
    rw [List.getD_eq_getElem?_getD, List.getElem?_eq_getElem hc]
    exact hw _ (List.getElem_mem hc)
  have e0 := flat_set (r := L.getD c []) hw hc
  have e1 := flat_set (r := (L.getD c []).set x v) hw hc
  have es : L.set c (L.getD c []) = L := by
    rw [List.getD_eq_getElem?_getD, List.getElem?_eq_getElem hc]
    exact List.set_getElem_self hc
  rw [es] at e0
  have hrow := mul_row (w := w) hc
  have hl : (L.flatten.take (c * w)).length = c * w := by
    rw [List.length_take, flat_len hw]
    omega
  rw [← e1]
  conv => lhs; rw [← e0]
  rw [List.set_append_left _ _ (by rw [List.length_append, hl, hq]; omega), List.set_append_right _ _ (by rw [hl]; omega), hl, show c * w + x - c * w = x by omega]
/-- A table of columns in a known block. -/
structure ColT (h : AH) (nb : Nat) (full : Bool) (L : List (List Int)) : Prop where
  g : h.get nb = some ⟨cel .u32 L.flatten, 144, false, full⟩
  wid : Wid 5 L
def tv (nb len : Nat) : Value := .slice (some ⟨nb, 0, none⟩) len 5
section
variable {h h' : AH} {nb : Nat} {full : Bool} {L : List (List Int)}
theorem ColT.pre (o : ColT h nb full L) (p : h <+: h') : ColT h' nb full L := ⟨pre_get p o.g, o.wid⟩
theorem ColT.put_ne {m : Nat} {b : Blk} (o : ColT h nb full L) (e : m ≠ nb) : ColT (h.put m b) nb full L := ⟨by rw [get_put_ne e]; exact o.g, o.wid⟩
theorem ColT.get (o : ColT h nb full L) (hk : h'.get nb = h.get nb) : ColT h' nb full L := ⟨by rw [hk]; exact o.g, o.wid⟩
theorem ColT.ix {c len : Nat} {kk : IntKind} (hc : c < len) : ixsV 5 (tv nb len) (.int kk (c : Int)) = some (.pointer (some ⟨nb, c * 5, none⟩)) := by
  unfold tv
  rw [ixsV_some, if_pos (by omega)]
  simp
theorem ColT.row (o : ColT h nb full L) {c : Nat} (hc : c < L.length) : (L.getD c []).length = 5 := by
  rw [List.getD_eq_getElem?_getD, List.getElem?_eq_getElem hc]
  exact o.wid _ (List.getElem_mem hc)
theorem ColT.rd (o : ColT h nb full L) {c x : Nat} (hc : c < L.length) (hx : x < 5) : h.rd1 nb (c * 5 + x) = some (.int .u32 ((L.getD c []).getD x 0)) := by
  rw [rd1_of o.g]
  have hf := flat_len o.wid
  have hrow := mul_row (w := 5) hc
  show (cel .u32 L.flatten)[c * 5 + x]? = _
  rw [cel_get (by omega)]
  have hg := flat_get o.wid hc
  rw [← hg]
  rw [List.getD_eq_getElem?_getD, List.getD_eq_getElem?_getD, List.getElem?_take, if_pos hx, List.getElem?_drop]
theorem ColT.rdn (o : ColT h nb full L) {c : Nat} (hc : c < L.length) : h.rdn nb (c * 5) 5 = some (cel .u32 (L.getD c [])) := by
  rw [rdn_of o.g]
  have hf := flat_len o.wid
  have hrow := mul_row (w := 5) hc
  show (if c * 5 + 5 ≤ (cel .u32 L.flatten).length then some (((cel .u32 L.flatten).drop (c * 5)).take 5) else none) = _
  rw [if_pos (by rw [cel_len]; omega), cel_drop, cel_take, flat_get o.wid hc]
theorem ColT.wr (o : ColT h nb full L) {c x : Nat} {v : Int} (hc : c < L.length) (hx : x < 5) :
    ∃ h', h.wr nb (c * 5 + x) [.int .u32 v] = some h' ∧ h' = h.put nb ⟨cel .u32 (L.set c ((L.getD c []).set x v)).flatten, 144, false, full⟩ ∧ ColT h' nb full (L.set c ((L.getD c []).set x v)) := by
  have hf := flat_len o.wid
  have hrow := mul_row (w := 5) hc
  refine ⟨_, ?_, rfl, get_put_same (get_lt o.g), ?_⟩
  · rw [wr_of o.g, if_pos ⟨rfl, by simp only [cel_len, List.length_singleton]; omega⟩, cel_set (by omega), flat_cell o.wid hc hx]
  · intro q hq
    rcases List.mem_or_eq_of_mem_set hq with hq | rfl
    · exact o.wid q hq
    · rw [List.length_set]
      exact o.row hc
theorem ColT.els (o : ColT h nb full L) : Els .u32 5 h (tv nb L.length) L := by
  refine .inr ⟨nb, 0, _, rfl, o.g, fun i hi => ?_⟩
  have := mul_row (w := 5) hi
  simp only [cel_len, flat_len o.wid, Nat.zero_add, cel_drop, cel_take, flat_get o.wid hi]
  exact ⟨by omega, trivial⟩
theorem ColT.way (o : ColT h nb full L) {lo : Nat} {ex : List Nat} (h1 : lo ≤ nb) (h2 : nb ∉ ex) : WayX (144) .u32 5 h lo ex (tv nb L.length) L := ⟨o.wid, .inr ⟨nb, full, rfl, h1, h2, o.g⟩⟩
theorem WayX.colT {lo : Nat} {ex : List Nat} {sv : Value} (o : WayX (144) .u32 5 h lo ex sv L) (h0 : L ≠ []) : ∃ nb full, sv = tv nb L.length ∧ lo ≤ nb ∧ ColT h nb full L := by
  obtain ⟨hw, ⟨_, e⟩ | ⟨kb, full, e1, e2, e3, e4⟩⟩ := o
  · exact absurd e h0
  · exact ⟨kb, full, e1, e2, e4, hw⟩
end

/-! ### Rows laid in -/
def fl0 (rows : List (List Int)) (i c j : Nat) (x : Nat) (k : Nat) : Bool := (decide (k < i) || (decide (k = i) && decide (j < c))) && decide (tb rows k j = (x : Int))
def col0 (rows : List (List Int)) (i c j : Nat) : List Int := gen 5 fun x => (bs rows.length (fl0 rows i c j x) : Nat)
def cols0 (rows : List (List Int)) (N i c : Nat) : List (List Int) := (List.range N).map fun j => col0 rows i c j
section
variable {rows : List (List Int)} {N i c : Nat}
theorem cols0_len : (cols0 rows N i c).length = N := by simp [cols0]
theorem cols0_get {j : Nat} (hj : j < N) : (cols0 rows N i c).getD j [] = col0 rows i c j := by
  simp [cols0, List.getD_eq_getElem?_getD, List.getElem?_map, List.getElem?_range hj]
theorem cols0_wid : Wid 5 (cols0 rows N i c) := wid_of fun j hj => by
  rw [cols0_len] at hj
  rw [cols0_get hj]
  exact gen_len
theorem cols0_zero : cols0 rows N 0 0 = List.replicate N (List.replicate 5 0) := by
  refine getD_ext (by rw [cols0_len]; simp) fun j hj => ?_
  rw [cols0_len] at hj
  rw [cols0_get hj]
  have : (List.replicate N (List.replicate 5 (0 : Int))).getD j [] = List.replicate 5 0 := by
    rw [List.getD_eq_getElem?_getD, List.getElem?_replicate, if_pos hj]
    rfl
  rw [this]
  refine (gen_ext (by simp) fun x hx => ?_).symm
  have e : bs rows.length (fl0 rows 0 0 j x) = 0 := (bs_congr fun k hk => by
      unfold fl0
      rw [decide_eq_false (p := k < 0) (by omega), decide_eq_false (p := j < 0) (by omega), Bool.and_false, Bool.or_false, Bool.false_and]).trans bs_none
  rw [e, List.getD_eq_getElem?_getD, List.getElem?_replicate, if_pos hx]
  rfl
theorem cols0_next : cols0 rows N i N = cols0 rows N (i + 1) 0 := by
  refine getD_ext (by rw [cols0_len, cols0_len]) fun j hj => ?_
  rw [cols0_len] at hj
  rw [cols0_get hj, cols0_get hj]
  refine gen_congr fun x hx => ?_
  congr 1
  refine bs_congr fun k hk => ?_
  unfold fl0
  congr 1
  rw [decide_eq_true hj, decide_eq_false (p := j < 0) (by omega), Bool.and_true, Bool.and_false, Bool.or_false, ← Bool.decide_or]
  congr 1
  exact propext ⟨by omega, by omega⟩
theorem cols0_set {x : Nat} (hc : c < N) (hi : i < rows.length) (hx : x < 5) (ht : tb rows i c = (x : Int)) :
    (cols0 rows N i c).set c ((col0 rows i c c).set x ((bs rows.length (fun k => fl0 rows i c c x k || (k == i)) : Nat) : Int)) = cols0 rows N i (c + 1) := by
  refine getD_ext (by rw [List.length_set, cols0_len, cols0_len]) fun j hj => ?_
  rw [List.length_set, cols0_len] at hj
  rw [set_getD' (by rw [cols0_len]; exact hc), cols0_get hj, cols0_get hj]
  by_cases hjc : j = c
  · subst hjc
    rw [if_pos rfl]
    refine gen_ext (by rw [List.length_set]; exact gen_len) fun y hy => ?_
    have gl : (col0 rows i j j).length = 5 := gen_len
    rw [set_getD (by rw [gl]; exact hx)]
    by_cases hyx : y = x
    · subst hyx
      rw [if_pos rfl]
      congr 1
      refine bs_congr fun k hk => ?_
      unfold fl0
      by_cases hki : k = i
      · subst hki
        rw [ht]
        simp
      · have : (k == i) = false := by simpa using hki
        rw [this, Bool.or_false, decide_eq_false hki, Bool.false_and, Bool.false_and]
    · rw [if_neg hyx]
      show (gen 5 _).getD y 0 = _
      rw [gen_get hy]
      congr 1
      refine bs_congr fun k hk => ?_
      unfold fl0
      by_cases hki : k = i
      · subst hki
        rw [ht, decide_eq_false (p := (x : Int) = (y : Int)) (by omega), Bool.and_false, Bool.and_false]
      · rw [decide_eq_false hki, Bool.false_and, Bool.false_and]
  · rw [if_neg hjc]
    refine gen_congr fun y hy => ?_
    congr 1
    refine bs_congr fun k hk => ?_
    unfold fl0
    congr 2
    congr 1
    congr 1
    exact propext ⟨by omega, by omega⟩
theorem cols0_col {j : Nat} (hj : j < N) : Col rows j ((cols0 rows N rows.length 0).getD j []) := by
  rw [cols0_get hj]
  refine ⟨gen_len, fun x h1 h2 => ?_⟩
  show (gen 5 _).getD x 0 = _
  rw [gen_get h2]
  congr 1
  refine bs_congr fun k hk => ?_
  unfold fl0
  rw [decide_eq_true hk, Bool.true_or, Bool.true_and]
end

/-! ### Rows moved -/
section
variable {p : Int} {T : List (List Int)} {s : BS}
def mvS (p : Int) (s : BS) (T : List (List Int)) (k : Nat) : Bool := mkB p T s.l s.j s.r k
/-- One column, its first numbers changed: without the set, or with it alone. -/
def lcol (T : List (List Int)) (S : Nat → Bool) (i c : Nat) (q : List Int) : List Int := gen 5 fun x => if 1 ≤ x ∧ x ≤ c then (bs T.length (fun k => decide (tb T k i = (x : Int)) && !S k) : Nat) else q.getD x 0
def ncol (T : List (List Int)) (S : Nat → Bool) (i c : Nat) : List Int := gen 5 fun x => if 1 ≤ x ∧ x ≤ c then (bs T.length (fun k => decide (tb T k i = (x : Int)) && S k) : Nat) else 0
theorem lcol_zero {S : Nat → Bool} {i : Nat} {q : List Int} (hq : q.length = 5) : lcol T S i 0 q = q := (gen_ext hq fun x hx => by rw [if_neg (by omega)]).symm
theorem ncol_zero {S : Nat → Bool} {i : Nat} : ncol T S i 0 = List.replicate 5 0 := (gen_ext (by simp) fun x hx => by rw [if_neg (by omega), List.getD_eq_getElem?_getD, List.getElem?_replicate, if_pos hx]; rfl).symm
theorem lcol_set {S : Nat → Bool} {i c : Nat} {q : List Int} (hc : c + 1 < 5) : (lcol T S i c q).set (c + 1) ((bs T.length (fun k => decide (tb T k i = ((c + 1 : Nat) : Int)) && !S k) : Nat) : Int) = lcol T S i (c + 1) q := by
  have gl : (lcol T S i c q).length = 5 := gen_len
  refine gen_ext (by rw [List.length_set, gl]) fun x hx => ?_
  rw [set_getD (by rw [gl]; exact hc)]
  by_cases h : x = c + 1
  · subst h
    rw [if_pos rfl, if_pos ⟨by omega, Nat.le_refl _⟩]
  · rw [if_neg h]
    show (gen 5 _).getD x 0 = _
    rw [gen_get hx]
    by_cases h2 : 1 ≤ x ∧ x ≤ c
    · rw [if_pos h2, if_pos (by omega)]
    · rw [if_neg h2, if_neg (by omega)]
theorem ncol_set {S : Nat → Bool} {i c : Nat} (hc : c + 1 < 5) : (ncol T S i c).set (c + 1) ((bs T.length (fun k => decide (tb T k i = ((c + 1 : Nat) : Int)) && S k) : Nat) : Int) = ncol T S i (c + 1) := by
  have gl : (ncol T S i c).length = 5 := gen_len
  refine gen_ext (by rw [List.length_set, gl]) fun x hx => ?_
  rw [set_getD (by rw [gl]; exact hc)]
  by_cases h : x = c + 1
  · subst h
    rw [if_pos rfl, if_pos ⟨by omega, Nat.le_refl _⟩]
  · rw [if_neg h]
    show (gen 5 _).getD x 0 = _
    rw [gen_get hx]
    by_cases h2 : 1 ≤ x ∧ x ≤ c
    · rw [if_pos h2, if_pos (by omega)]
    · rw [if_neg h2, if_neg (by omega)]
theorem lcol_at {S : Nat → Bool} {i c : Nat} {q : List Int} (cq : Col T i q) (hc : c + 1 < 5) : (lcol T S i c q).getD (c + 1) 0 = ((bs T.length fun k => decide (tb T k i = ((c + 1 : Nat) : Int)) : Nat) : Int) := by
  show (gen 5 _).getD (c + 1) 0 = _
  rw [gen_get hc, if_neg (by omega)]
  exact cq.2 (c + 1) (by omega) hc
theorem tb_mv {W k i : Nat} (g : GT p W T) (hk : k < T.length) (hl : s.l < W) (hj : s.j < W) (hi : i ≤ W) :
    tb (mvT p s T) k i = if i = W then (if mvS p s T k = true then tb T k s.l else 0) else if mvS p s T k = true ∧ (i = s.l ∨ i = s.j) then 0 else tb T k i := by
  obtain ⟨gw, gi⟩ := g k hk
  have e : tb (mvT p s T) k i = (mvRow p s.l s.j s.r (T.getD k [])).getD i 0 := by unfold tb; rw [mvT_get hk]
  rw [e, mvRow_at (by omega) (by omega) (by omega), gw]
  rfl
theorem col_left {W : Nat} {q : List Int} (g : GT p W T) (hp : 2 ≤ p ∧ p ≤ 5) (hl : s.l < W) (hj : s.j < W) {i : Nat} (hi : i = s.l ∨ i = s.j) (cq : Col T i q) : Col (mvT p s T) i (lcol T (mvS p s T) i (p.toNat - 1) q) := by
  refine ⟨gen_len, fun x h1 h2 => ?_⟩
  have hiW : i < W := by rcases hi with rfl | rfl <;> assumption
  have e : (lcol T (mvS p s T) i (p.toNat - 1) q).getD x 0 = ((bs T.length (fun k => decide (tb T k i = (x : Int)) && !mvS p s T k) : Nat) : Int) := by
    show (gen 5 _).getD x 0 = _
    rw [gen_get h2]
    by_cases hx : x ≤ p.toNat - 1
    · rw [if_pos ⟨h1, hx⟩]
    · rw [if_neg (by omega), cq.2 x h1 h2]
      congr 1
      refine bs_congr fun k hk => ?_
      have := (g k hk).2 i hiW
      rw [decide_eq_false (by omega), Bool.false_and]
  rw [e, mvT_len]
  congr 1
  refine bs_congr fun k hk => ?_
  rw [tb_mv g hk hl hj (by omega), if_neg (by omega)]
  cases hS : mvS p s T k with
  | true =>
    rw [if_pos ⟨rfl, hi⟩, decide_eq_false (p := (0 : Int) = (x : Int)) (by omega)]
    simp
  | false =>
    rw [if_neg (by simp)]
    simp
theorem col_new {W : Nat} (g : GT p W T) (hp : 2 ≤ p ∧ p ≤ 5) (hl : s.l < W) (hj : s.j < W) : Col (mvT p s T) W (ncol T (mvS p s T) s.l (p.toNat - 1)) := by
  refine ⟨gen_len, fun x h1 h2 => ?_⟩
  have e : (ncol T (mvS p s T) s.l (p.toNat - 1)).getD x 0 = ((bs T.length (fun k => decide (tb T k s.l = (x : Int)) && mvS p s T k) : Nat) : Int) := by
    show (gen 5 _).getD x 0 = _
    rw [gen_get h2]
    by_cases hx : x ≤ p.toNat - 1
    · rw [if_pos ⟨h1, hx⟩]
    · rw [if_neg (by omega), show (0 : Int) = ((bs T.length (fun _ => false) : Nat) : Int) by rw [bs_none]; rfl]
      congr 1
      refine bs_congr fun k hk => ?_
      have := (g k hk).2 s.l hl
      rw [decide_eq_false (by omega), Bool.false_and]
  rw [e, mvT_len]
  congr 1
  refine bs_congr fun k hk => ?_
  rw [tb_mv g hk hl hj (Nat.le_refl _), if_pos rfl]
  cases hS : mvS p s T k with
  | true => simp
  | false =>
    rw [if_neg (by simp), decide_eq_false (p := (0 : Int) = (x : Int)) (by omega)]
    simp
theorem col_other {W i : Nat} {q : List Int} (g : GT p W T) (hl : s.l < W) (hj : s.j < W) (hi : i < W) (h1 : i ≠ s.l) (h2 : i ≠ s.j) (cq : Col T i q) : Col (mvT p s T) i q := by
  refine ⟨cq.1, fun x hx1 hx2 => ?_⟩
  rw [cq.2 x hx1 hx2, mvT_len]
  congr 1
  refine bs_congr fun k hk => ?_
  rw [tb_mv g hk hl hj (by omega), if_neg (by omega), if_neg (fun h => h.2.elim h1 h2)]
end
end Go.Proofs.Ytilpnbejpndgpaa.X

/- SharedProgram of the program. -/
set_option linter.unusedVariables false
set_option linter.unusedSimpArgs false
set_option maxRecDepth 20000
set_option maxHeartbeats 4000000
namespace Go.Proofs.Ytilpnbejpndgpaa.X
open Go Go.RowKit

theorem zeros5u : ([.int .u32 0, .int .u32 0, .int .u32 0, .int .u32 0, .int .u32 0] : List Value) = cel .u32 (List.replicate 5 0) := rfl
theorem U_one {n : Nat} : isOne (U32 n) = true := rfl
theorem U_cells {n : Nat} : cellsL (U32 n) = [U32 n] := rfl
theorem set2_next {α : Type} {L : List α} {l j : Nat} {a b a' b' : α} (h : l ≠ j) : (((L.set l a).set j b).set l a').set j b' = (L.set l a').set j b' := by
  rw [List.set_comm b a' h.symm, List.set_set, List.set_set]
theorem get2_l {L : List (List Int)} {l j : Nat} {a b : List Int} (h : l ≠ j) (hl : l < L.length) (hj : j < L.length) : ((L.set l a).set j b).getD l [] = a := by
  rw [set_getD' (by rw [List.length_set]; exact hj), if_neg h, set_getD' hl, if_pos rfl]
theorem get2_j {L : List (List Int)} {l j : Nat} {a b : List Int} (hj : j < L.length) : ((L.set l a).set j b).getD j [] = b := by
  rw [set_getD' (by rw [List.length_set]; exact hj), if_pos rfl]
theorem get2_o {L : List (List Int)} {l j i : Nat} {a b : List Int} (h1 : i ≠ l) (h2 : i ≠ j) (hl : l < L.length) (hj : j < L.length) : ((L.set l a).set j b).getD i [] = L.getD i [] := by
  rw [set_getD' (by rw [List.length_set]; exact hj), if_neg h2, set_getD' hl, if_neg h1]

theorem i_sharedProgram {u : Value} {p n : Int} {rows : List (List Int)} {h : AH} {Q : Value → AH → Prop} (hu : Rows h u rows) (hok : lsOK p n rows = true)
    (hQ : ∀ v' w' h', h <+: h' → Way2 h' h.length v' w' (shP p n rows) → OrdB v' w' → Q (prgV (shP p n rows) v' w') h') : WF S 96 [I64 p, I64 n, u] h Q := by
  refine WF_fn (fn := c96) rfl rfl ?_
  unfold c96
  obtain ⟨hp, hn, hl, hm⟩ := lsOK_iff.1 hok
  have hp5 := isP_in hp
  obtain ⟨N, hN⟩ : ∃ N : Nat, n = N := ⟨n.toNat, by omega⟩
  have hNt : n.toNat = N := by omega
  ((try simp (maxSteps := 3000000) (dsimp := false) (disch := first | omega | (simp only [len_new, len_put, len_kill]; omega)) only [↓ypre, ypost, ↓reduceIte, Nat.reduceEqDiff, Nat.reduceAdd, Nat.reduceSub, Nat.reduceLeDiff, Nat.zero_add, Nat.sub_zero, ynew]); try simp only [yback])
  generalize hH1 : AH.new h _ = H1
  obtain ⟨hb1, p1, n1⟩ := new_facts hH1
  refine ⟨by omega, ?_⟩
  rw [hNt, zeros5u, zrep_cel]
  generalize hH2 : AH.new H1 _ = H2
  obtain ⟨hb2, p2, n2⟩ := new_facts hH2
  ((try simp (maxSteps := 3000000) (dsimp := false) (disch := first | omega | (simp only [len_new, len_put, len_kill]; omega)) only [↓ypre, ypost, ↓reduceIte, Nat.reduceEqDiff, Nat.reduceAdd, Nat.reduceSub, Nat.reduceLeDiff, Nat.zero_add, Nat.sub_zero, ynew]); try simp only [yback])
  generalize hH3 : AH.new H2 _ = H3
  obtain ⟨hb3, p3, n3⟩ := new_facts hH3
  have p23 := p2.trans p3
  obtain ⟨cs, hvS, hcsl, hrS⟩ := (hu.pre p1).stays
  have ct0 : ColT H3 H1.length true (cols0 rows N 0 0) := by
    rw [cols0_zero]
    exact ⟨pre_get p3 hb2, by rw [← cols0_zero (rows := rows)]; exact cols0_wid⟩
  have sy0 : Stay H1.length H1 H3 := Stay.of p23
  ((try simp (maxSteps := 3000000) (dsimp := false) (disch := first | omega | (simp only [len_new, len_put, len_kill]; omega)) only [↓ypre, ypost, ↓reduceIte, Nat.reduceEqDiff, Nat.reduceAdd, Nat.reduceSub, Nat.reduceLeDiff, Nat.zero_add, Nat.sub_zero, ynew, (hvS _ sy0).len, hcsl]); try simp only [yback])
  refine WC_loop_inv (fun m f K1 => ∃ (i : Nat), m = rows.length - i ∧ i ≤ rows.length ∧ f 0 = I64 p ∧ f 2 = u ∧ f 6 = .pointer (some ⟨h.length, 0, none⟩) ∧ f 7 = .pointer (some ⟨H2.length, 0, none⟩) ∧ f 8 = tv H1.length N ∧ f 29 = u ∧ f 30 = I64 rows.length ∧ f 31 = I64 i ∧ (Stay H1.length H1 K1) ∧ (ColT K1 H1.length true (cols0 rows N i 0)) ∧ (K1.get H2.length = some ⟨[I64 p, I64 n, .slice none 0 0, .slice none 0 0], 48, false, true⟩)) ?_ (rows.length - 0) _ _ ⟨0, rfl, by omega, (by first | rfl | (simp [upd_apply]; done)), (by first | rfl | (simp [upd_apply]; done)), (by first | rfl | (simp [upd_apply]; done)), (by first | rfl | (simp [upd_apply]; done)), (by first | rfl | (simp [upd_apply]; done)), (by first | rfl | (simp [upd_apply]; done)), (by first | rfl | (simp [upd_apply]; done)), (by first | rfl | (simp [upd_apply]; done)), sy0, ct0, hb3⟩
  rintro m f K1 ⟨i, rfl, hi, f0, f2, f6, f7, f8, f29, f30, f31, sy, ct, g7⟩
  by_cases hlt : (i : Int) < rows.length
  · have hi' : i < rows.length := by omega
    obtain ⟨hw, ha⟩ := isMat_iff.1 hm i hi'
    have ix := (hvS _ sy).ix (k := .i64) (j := i) (by omega) (by omega)
    have rd := (hvS _ sy).rd (j := i) (by omega) (by omega)
    have hri := hrS i hi'
    rw [Int.toNat_natCast] at rd
    generalize cs.getD i undef = rv at *
    have lnr := (hri _ sy).len
    have rlen : (rows.getD i []).length = N := by omega
    rw [rlen] at lnr
    ((try simp (maxSteps := 3000000) (dsimp := false) (disch := first | omega | (simp only [len_new, len_put, len_kill]; omega)) only [↓ypre, ypost, ↓reduceIte, Nat.reduceEqDiff, Nat.reduceAdd, Nat.reduceSub, Nat.reduceLeDiff, Nat.zero_add, Nat.sub_zero, ynew, f0, f2, f6, f7, f8, f29, f30, f31, decide_eq_true hlt, ix, rd, lnr, wrap64_in]); try simp only [yback])
    refine WC_loop_inv (fun m f K2 => ∃ (c : Nat), m = N - c ∧ c ≤ N ∧ f 0 = I64 p ∧ f 2 = u ∧ f 6 = .pointer (some ⟨h.length, 0, none⟩) ∧ f 7 = .pointer (some ⟨H2.length, 0, none⟩) ∧ f 8 = tv H1.length N ∧ f 9 = I64 i ∧ f 29 = u ∧ f 30 = I64 rows.length ∧ f 31 = I64 i ∧ f 36 = rv ∧ f 37 = I64 N ∧ f 38 = I64 c ∧ (Stay H1.length H1 K2) ∧ (ColT K2 H1.length true (cols0 rows N i c)) ∧ (K2.get H2.length = some ⟨[I64 p, I64 n, .slice none 0 0, .slice none 0 0], 48, false, true⟩)) ?_ (N - 0) _ _ ⟨0, rfl, by omega, (by first | rfl | exact f0 | (simp [upd_apply]; done)), (by first | rfl | exact f2 | (simp [upd_apply]; done)), (by first | rfl | exact f6 | (simp [upd_apply]; done)), (by first | rfl | exact f7 | (simp [upd_apply]; done)), (by first | rfl | exact f8 | (simp [upd_apply]; done)), (by first | rfl | (simp [upd_apply]; done)), (by first | rfl | exact f29 | (simp [upd_apply]; done)), (by first | rfl | exact f30 | (simp [upd_apply]; done)), (by first | rfl | exact f31 | (simp [upd_apply]; done)), (by first | rfl | (simp [upd_apply]; done)), (by first | rfl | (simp [upd_apply]; done)), (by first | rfl | (simp [upd_apply]; done)), sy, ct, g7⟩
    rintro m f K2 ⟨c, rfl, hc, f0, f2, f6, f7, f8, f9, f29, f30, f31, f36, f37, f38, sy, ct, g7⟩
    by_cases hltc : (c : Int) < N
    · have hc' : c < N := by omega
      have hx := hri _ sy
      have ixx := hx.ix (k := .i64) (j := c) (by omega) (by omega)
      have rdx := hx.rd (j := c) (by omega) (by omega)
      simp only [nth, Int.toNat_natCast] at rdx
      have tin := allIn_iff.1 ha c (by omega)
      obtain ⟨xv, hxv⟩ : ∃ xv : Nat, (rows.getD i []).getD c 0 = xv := ⟨_, (Int.toNat_of_nonneg tin.1).symm⟩
      rw [hxv] at rdx tin
      have hxt : tb rows i c = (xv : Int) := hxv
      have cl : (cols0 rows N i c).length = N := cols0_len
      have ixc : ∀ kk : IntKind, ixsV 5 (tv H1.length N) (.int kk (c : Int)) = _ := fun kk => ColT.ix hc'
      have ixa1 := ixa_u (n := H1.length) (off := c * 5) (len := 5) (kk := .i64) (j := xv) (by omega)
      have rd1 := ct.rd (c := c) (x := xv) (by omega) (by omega)
      have e1 : ((cols0 rows N i c).getD c []).getD xv 0 = ((bs rows.length (fl0 rows i c c xv) : Nat) : Int) := by
        rw [cols0_get hc']
        exact gen_get (by omega)
      rw [e1] at rd1
      have rd1 : K2.rd1 H1.length (c * 5 + xv) = some (U32 (bs rows.length (fl0 rows i c c xv))) := rd1
      have sh := bin_shl (R := rows.length) (r := i) hi' (by omega)
      have orr := bin_or (R := rows.length) (f := fl0 rows i c c xv) (g := fun k => k == i) (by omega)
      obtain ⟨H5, w5, e5, ct5⟩ := ct.wr (c := c) (x := xv) (v := ((bs rows.length (fun k => fl0 rows i c c xv k || (k == i)) : Nat) : Int)) (by omega) (by omega)
      have w5 : K2.wr H1.length (c * 5 + xv) [U32 (bs rows.length (fun k => fl0 rows i c c xv k || (k == i)))] = some H5 := w5
      rw [cols0_get hc', cols0_set hc' hi' (by omega) hxt] at ct5
      ((try simp (maxSteps := 3000000) (dsimp := false) (disch := first | omega | (simp only [len_new, len_put, len_kill]; omega)) only [↓ypre, ypost, ↓reduceIte, Nat.reduceEqDiff, Nat.reduceAdd, Nat.reduceSub, Nat.reduceLeDiff, Nat.zero_add, Nat.sub_zero, ynew, f0, f2, f6, f7, f8, f9, f29, f30, f31, f36, f37, f38, decide_eq_true hltc, ixx, rdx, ixc, ixa1, rd1, sh, orr, U_one, U_cells, w5, wrap64_in]); try simp only [yback])
      refine InvQ_go (N - (c + 1)) (by omega) ⟨(c + 1), rfl, by omega, (by first | rfl | exact f0 | (simp only [upd_apply]; rfl) | (show I64 _ = _; congr 1; omega)), (by first | rfl | exact f2 | (simp only [upd_apply]; rfl) | (show I64 _ = _; congr 1; omega)), (by first | rfl | exact f6 | (simp only [upd_apply]; rfl) | (show I64 _ = _; congr 1; omega)), (by first | rfl | exact f7 | (simp only [upd_apply]; rfl) | (show I64 _ = _; congr 1; omega)), (by first | rfl | exact f8 | (simp only [upd_apply]; rfl) | (show I64 _ = _; congr 1; omega)), (by first | rfl | exact f9 | (simp only [upd_apply]; rfl) | (show I64 _ = _; congr 1; omega)), (by first | rfl | exact f29 | (simp only [upd_apply]; rfl) | (show I64 _ = _; congr 1; omega)), (by first | rfl | exact f30 | (simp only [upd_apply]; rfl) | (show I64 _ = _; congr 1; omega)), (by first | rfl | exact f31 | (simp only [upd_apply]; rfl) | (show I64 _ = _; congr 1; omega)), (by first | rfl | exact f36 | (simp only [upd_apply]; rfl) | (show I64 _ = _; congr 1; omega)), (by first | rfl | exact f37 | (simp only [upd_apply]; rfl) | (show I64 _ = _; congr 1; omega)), (by first | rfl | exact f38 | (simp only [upd_apply]; rfl) | (show I64 _ = _; congr 1; omega)), (by rw [e5]; exact sy.put (Nat.le_refl _) (Nat.le_refl _)), ct5, (by rw [e5, get_put_ne (by omega)]; exact g7)⟩
    have ec : c = N := by omega
    subst ec
    rw [cols0_next] at ct
    ((try simp (maxSteps := 3000000) (dsimp := false) (disch := first | omega | (simp only [len_new, len_put, len_kill]; omega)) only [↓ypre, ypost, ↓reduceIte, Nat.reduceEqDiff, Nat.reduceAdd, Nat.reduceSub, Nat.reduceLeDiff, Nat.zero_add, Nat.sub_zero, ynew, f0, f2, f6, f7, f8, f9, f29, f30, f31, f36, f37, f38, decide_eq_false hltc, wrap64_in]); try simp only [yback])
    refine InvQ_go (rows.length - (i + 1)) (by omega) ⟨(i + 1), rfl, by omega, (by first | rfl | exact f0 | (simp only [upd_apply]; rfl) | (show I64 _ = _; congr 1; omega)), (by first | rfl | exact f2 | (simp only [upd_apply]; rfl) | (show I64 _ = _; congr 1; omega)), (by first | rfl | exact f6 | (simp only [upd_apply]; rfl) | (show I64 _ = _; congr 1; omega)), (by first | rfl | exact f7 | (simp only [upd_apply]; rfl) | (show I64 _ = _; congr 1; omega)), (by first | rfl | exact f8 | (simp only [upd_apply]; rfl) | (show I64 _ = _; congr 1; omega)), (by first | rfl | exact f29 | (simp only [upd_apply]; rfl) | (show I64 _ = _; congr 1; omega)), (by first | rfl | exact f30 | (simp only [upd_apply]; rfl) | (show I64 _ = _; congr 1; omega)), (by first | rfl | exact f31 | (simp only [upd_apply]; rfl) | (show I64 _ = _; congr 1; omega)), sy, ct, g7⟩
  have ei : i = rows.length := by omega
  subst ei
  ((try simp (maxSteps := 3000000) (dsimp := false) (disch := first | omega | (simp only [len_new, len_put, len_kill]; omega)) only [↓ypre, ypost, ↓reduceIte, Nat.reduceEqDiff, Nat.reduceAdd, Nat.reduceSub, Nat.reduceLeDiff, Nat.zero_add, Nat.sub_zero, ynew, f0, f2, f6, f7, f8, f29, f30, f31, decide_eq_false hlt]); try simp only [yback])
  have si0 := ShI.start hok
  rw [hNt] at si0
  have hcl0 : (cols0 rows N rows.length 0).length = N + ([] : List (List Int)).length := cols0_len
  have hc0 : ∀ i, i < N + ([] : List (List Int)).length → Col rows i ((cols0 rows N rows.length 0).getD i []) := fun i hi => cols0_col hi
  have pp1 : H1 <+: K1 := sy.pre _ (Nat.le_refl _) (List.prefix_refl _)
  have nz0 : nzT rows = nzT rows - 0 := rfl
  have wv0 : WayX (96) .i64 3 K1 H1.length [] (.slice none 0 0) ([] : List (List Int)) := ⟨fun r hr => by simp at hr, .inl ⟨rfl, rfl⟩⟩
  refine WC_loop_inv (fun m f K3 => ∃ (d : Nat) (s : SS) (sv : Value) (nb : Nat) (fl : Bool) (cols : List (List Int)), m = ((nzT rows)) - d ∧ d ≤ ((nzT rows)) ∧ f 0 = I64 p ∧ f 2 = u ∧ f 6 = .pointer (some ⟨h.length, 0, none⟩) ∧ f 7 = .pointer (some ⟨H2.length, 0, none⟩) ∧ f 8 = tv nb (N + s.st.length) ∧ (nzT s.T = nzT rows - d) ∧ (ShI p N rows s) ∧ (H1 <+: K3) ∧ (H1.length ≤ nb) ∧ (ColT K3 nb fl cols) ∧ (cols.length = N + s.st.length) ∧ (∀ i, i < N + s.st.length → Col s.T i (cols.getD i [])) ∧ (WayX (96) .i64 3 K3 H1.length [] sv s.st) ∧ (K3.get H2.length = some ⟨[I64 p, I64 n, sv, .slice none 0 0], 48, false, true⟩)) ?_ (((nzT rows)) - 0) _ _ ⟨0, ⟨rows, []⟩, .slice none 0 0, H1.length, true, cols0 rows N rows.length 0, rfl, by omega, (by first | rfl | exact f0 | (simp [upd_apply]; done)), (by first | rfl | exact f2 | (simp [upd_apply]; done)), (by first | rfl | exact f6 | (simp [upd_apply]; done)), (by first | rfl | exact f7 | (simp [upd_apply]; done)), (by first | rfl | exact f8 | (simp [upd_apply]; done)), nz0, si0, pp1, Nat.le_refl _, ct, hcl0, hc0, wv0, g7⟩
  rintro m f K3 ⟨d, s, sv, nb, fl, cols, rfl, hd, f0, f2, f6, f7, f8, hz, si, pp, lnb, ct, hcl, hcol, wv, g7⟩
  have nzb := si.nz
  have hT1 : 1 ≤ s.T.length := by rw [si.len]; omega
  have hT30 : s.T.length ≤ 30 := by rw [si.len]; omega
  have elsK := ct.els
  rw [hcl] at elsK
  ((try simp (maxSteps := 3000000) (dsimp := false) (disch := first | omega | (simp only [len_new, len_put, len_kill]; omega)) only [↓ypre, ypost, ↓reduceIte, Nat.reduceEqDiff, Nat.reduceAdd, Nat.reduceSub, Nat.reduceLeDiff, Nat.zero_add, Nat.sub_zero, ynew, f0, f2, f6, f7, f8]); try simp only [yback])
  refine i_mostRows elsK hcl hcol hp si.gt ⟨hT1, hT30⟩ (by omega) fun H6 p6 => ?_
  ((try simp (maxSteps := 3000000) (dsimp := false) (disch := first | omega | (simp only [len_new, len_put, len_kill]; omega)) only [↓ypre, ypost, ↓reduceIte, Nat.reduceEqDiff, Nat.reduceAdd, Nat.reduceSub, Nat.reduceLeDiff, Nat.zero_add, Nat.sub_zero, ynew, f0, f2, f6, f7, f8, wrap64_in]); try simp only [yback])
  generalize hH7 : AH.new H6 _ = H7
  obtain ⟨hb7, p7, n7⟩ := new_facts hH7
  have p67 := p6.trans p7
  have k6 := pre_len p6
  by_cases hbm : (1 : Int) < ((bst p s.T).m : Int)
  case neg =>
    have es := si.stop (by omega)
    have pp7 := pp.trans p67
    have hu7 := hu.pre (p1.trans pp7)
    ((try simp (maxSteps := 3000000) (dsimp := false) (disch := first | omega | (simp only [len_new, len_put, len_kill]; omega)) only [↓ypre, ypost, ↓reduceIte, Nat.reduceEqDiff, Nat.reduceAdd, Nat.reduceSub, Nat.reduceLeDiff, Nat.zero_add, Nat.sub_zero, ynew, f0, f2, f6, f7, f8, decide_eq_false hbm, rd1_new_lt]); try simp only [yback])
    generalize hHA : AH.new H7 _ = HA
    obtain ⟨hbA, pA, nA⟩ := new_facts hHA
    have p6A := p67.trans pA
    have huA := hu7.pre pA
    ((try simp (maxSteps := 3000000) (dsimp := false) (disch := first | omega | (simp only [len_new, len_put, len_kill]; omega)) only [↓ypre, ypost, ↓reduceIte, Nat.reduceEqDiff, Nat.reduceAdd, Nat.reduceSub, Nat.reduceLeDiff, Nat.zero_add, Nat.sub_zero, ynew, f0, f2, f6, f7, f8, huA.len]); try simp only [yback])
    have ctA := ct.pre p6A
    have g7A := pre_get p6A g7
    have wvA := wv.pre p6A
    have gT := si.gt
    have sl' := si.len
    have hp1A := pp7.trans pA
    have eSP : shP p n rows = finP ⟨p, n, s.st, []⟩ s.T s.T.length := by unfold shP; rw [← es]
    rw [eSP] at hQ
    generalize hTT : s.T = T at *
    generalize hst : s.st = st0 at *
    obtain ⟨W, hW⟩ : ∃ W, W = N + st0.length := ⟨_, rfl⟩
    rw [← hW] at f8 hcl hcol gT
    have tl0 : TabL HA H1.length H7.length true [] := ⟨hbA, by have := pre_len pp7; omega, fun i hi => by simp at hi, fun a b ha => by simp at ha⟩
    have k7 := pre_len pp7
    refine WC_loop_inv (fun m f K4 => ∃ (i : Nat) (nr : Nat) (fr : Bool) (L : List (Nat × List Int)), m = rows.length - i ∧ i ≤ rows.length ∧ f 0 = I64 p ∧ f 6 = .pointer (some ⟨h.length, 0, none⟩) ∧ f 7 = .pointer (some ⟨H2.length, 0, none⟩) ∧ f 8 = tv nb W ∧ f 18 = sl nr L.length ∧ f 134 = u ∧ f 135 = I64 rows.length ∧ f 136 = I64 i ∧ (StayT H1.length HA K4) ∧ (TabL K4 H1.length nr fr L) ∧ (L.map Prod.snd = T.take i)) ?_ (rows.length - 0) _ _ ⟨0, H7.length, true, [], rfl, by omega, (by first | rfl | exact f0 | (simp [upd_apply]; done)), (by first | rfl | exact f6 | (simp [upd_apply]; done)), (by first | rfl | exact f7 | (simp [upd_apply]; done)), (by first | rfl | exact f8 | (simp [upd_apply]; done)), (by first | rfl | (simp [upd_apply]; done)), (by first | rfl | (simp [upd_apply]; done)), (by first | rfl | (simp [upd_apply]; done)), (by first | rfl | (simp [upd_apply]; done)), StayT.refl, tl0, (by simp)⟩
    rintro m f K4 ⟨i, nr, fr, L, rfl, hi, f0, f6, f7, f8, f18, f134, f135, f136, sy, tl, hL⟩
    have hLl : L.length = i := by
      have := congrArg List.length hL
      rw [List.length_map, List.length_take] at this
      omega
    have sl4 := sy.len
    by_cases hlt : (i : Int) < rows.length
    · have hi' : i < rows.length := by omega
      have hiT : i < T.length := by omega
      obtain ⟨gw, gi⟩ := gT i hiT
      ((try simp (maxSteps := 3000000) (dsimp := false) (disch := first | omega | (simp only [len_new, len_put, len_kill]; omega)) only [↓ypre, ypost, ↓reduceIte, Nat.reduceEqDiff, Nat.reduceAdd, Nat.reduceSub, Nat.reduceLeDiff, Nat.zero_add, Nat.sub_zero, ynew, f0, f6, f7, f8, f18, f134, f135, f136, decide_eq_true hlt, show lenV (tv nb W) = some (I64 W) from rfl, wrap64_in]); try simp only [yback])
      refine ⟨by omega, ?_⟩
      rw [Int.toNat_natCast, zrep_ints]
      generalize hHB : AH.new K4 _ = HB
      obtain ⟨hbB, pB, nB⟩ := new_facts hHB
      have ls0 : Lst HB K4.length (gen W fun y => if y < 0 then tb T i y else 0) true := by
        have e : gen W (fun y => if y < 0 then tb T i y else 0) = List.replicate W 0 := (gen_ext (by simp) fun y hy => by simp [List.getD_eq_getElem?_getD, List.getElem?_replicate, hy]).symm
        rw [e]
        exact hbB
      rw [show Value.slice (some ⟨K4.length, 0, none⟩) W 1 = sl K4.length W from rfl]
      ((try simp (maxSteps := 3000000) (dsimp := false) (disch := first | omega | (simp only [len_new, len_put, len_kill]; omega)) only [↓ypre, ypost, ↓reduceIte, Nat.reduceEqDiff, Nat.reduceAdd, Nat.reduceSub, Nat.reduceLeDiff, Nat.zero_add, Nat.sub_zero, ynew, f0, f6, f7, f8, f18, f134, f135, f136, show lenV (tv nb W) = some (I64 W) from rfl]); try simp only [yback])
      refine WC_loop_inv (fun m f K5 => ∃ (c : Nat), m = W - c ∧ c ≤ W ∧ f 0 = I64 p ∧ f 6 = .pointer (some ⟨h.length, 0, none⟩) ∧ f 7 = .pointer (some ⟨H2.length, 0, none⟩) ∧ f 8 = tv nb W ∧ f 18 = sl nr L.length ∧ f 19 = I64 i ∧ f 20 = sl K4.length W ∧ f 134 = u ∧ f 135 = I64 rows.length ∧ f 136 = I64 i ∧ f 142 = tv nb W ∧ f 143 = I64 W ∧ f 144 = I64 c ∧ (K4 <+: K5) ∧ (Lst K5 K4.length (gen W fun y => if y < c then tb T i y else 0) true)) ?_ (W - 0) _ _ ⟨0, rfl, by omega, (by first | rfl | exact f0 | (simp [upd_apply]; done)), (by first | rfl | exact f6 | (simp [upd_apply]; done)), (by first | rfl | exact f7 | (simp [upd_apply]; done)), (by first | rfl | exact f8 | (simp [upd_apply]; done)), (by first | rfl | exact f18 | (simp [upd_apply]; done)), (by first | rfl | (simp [upd_apply]; done)), (by first | rfl | (simp [upd_apply]; done)), (by first | rfl | exact f134 | (simp [upd_apply]; done)), (by first | rfl | exact f135 | (simp [upd_apply]; done)), (by first | rfl | exact f136 | (simp [upd_apply]; done)), (by first | rfl | (simp [upd_apply]; done)), (by first | rfl | (simp [upd_apply]; done)), (by first | rfl | (simp [upd_apply]; done)), pB, ls0⟩
      rintro m f K5 ⟨c, rfl, hc, f0, f6, f7, f8, f18, f19, f20, f134, f135, f136, f142, f143, f144, pp, ls⟩
      by_cases hltc : (c : Int) < W
      · have hcW : c < W := by omega
        have ct5 : ColT K5 nb fl cols := ⟨pre_get pp (sy.get _ _ ctA.g (by simp) (by simp)), ctA.wid⟩
        have rnc := ct5.rdn (c := c) (by omega)
        have cq := hcol c hcW
        have wq := cq.1
        have tcb := gi c hcW
        generalize cols.getD c [] = q at *
        have ixc : ∀ kk : IntKind, ixsV 5 (tv nb W) (.int kk (c : Int)) = _ := fun kk => ColT.ix hcW
        have w1 : ∀ (h1 : AH) (e : TypeId), (h1.new ⟨cel .u32 (List.replicate 5 0), e, false, true⟩).wr h1.length 0 (cel .u32 q) = some (h1.new ⟨cel .u32 q, e, false, true⟩) := fun h1 e => wr_all (by rw [cel_len, cel_len, wq]; rfl)
        ((try simp (maxSteps := 3000000) (dsimp := false) (disch := first | omega | (simp only [len_new, len_put, len_kill]; omega)) only [↓ypre, ypost, ↓reduceIte, Nat.reduceEqDiff, Nat.reduceAdd, Nat.reduceSub, Nat.reduceLeDiff, Nat.zero_add, Nat.sub_zero, ynew, f0, f6, f7, f8, f18, f19, f20, f134, f135, f136, f142, f143, f144, decide_eq_true hltc, ixc, rnc, cel_all, cellsL_cel, cel_len, wq, ↓w1, wrap64_in]); try simp only [yback])
        generalize hHC : AH.new K5 _ = HC
        obtain ⟨hbC, pC, nC⟩ := new_facts hHC
        have lsC : Lst HC K4.length (gen W fun z => if z < c then tb T i z else if z = c ∧ 1 ≤ tb T i c ∧ tb T i c ≤ ((0 : Nat) : Int) then tb T i c else 0) true := by
          have e : gen W (fun z => if z < c then tb T i z else if z = c ∧ 1 ≤ tb T i c ∧ tb T i c ≤ ((0 : Nat) : Int) then tb T i c else 0) = gen W (fun y => if y < c then tb T i y else 0) := gen_congr fun z hz => by
            by_cases h1 : z < c
            · rw [if_pos h1, if_pos h1]
            · rw [if_neg h1, if_neg h1, if_neg (by omega)]
          rw [e]
          exact ls.pre pC
        refine WC_loop_inv (fun m f K6 => ∃ (y : Nat), m = ((p.toNat - 1)) - y ∧ y ≤ ((p.toNat - 1)) ∧ f 0 = I64 p ∧ f 6 = .pointer (some ⟨h.length, 0, none⟩) ∧ f 7 = .pointer (some ⟨H2.length, 0, none⟩) ∧ f 8 = tv nb W ∧ f 18 = sl nr L.length ∧ f 19 = I64 i ∧ f 20 = sl K4.length W ∧ f 21 = I64 c ∧ f 22 = .pointer (some ⟨K5.length, 0, none⟩) ∧ f 23 = I64 ((y : Int) + 1) ∧ f 134 = u ∧ f 135 = I64 rows.length ∧ f 136 = I64 i ∧ f 142 = tv nb W ∧ f 143 = I64 W ∧ f 144 = I64 c ∧ (K4 <+: K6) ∧ (Lst K6 K4.length (gen W fun z => if z < c then tb T i z else if z = c ∧ 1 ≤ tb T i c ∧ tb T i c ≤ (y : Int) then tb T i c else 0) true) ∧ (K6.get K5.length = some ⟨cel .u32 q, 144, false, true⟩)) ?_ (((p.toNat - 1)) - 0) _ _ ⟨0, rfl, by omega, (by first | rfl | exact f0 | (simp [upd_apply]; done)), (by first | rfl | exact f6 | (simp [upd_apply]; done)), (by first | rfl | exact f7 | (simp [upd_apply]; done)), (by first | rfl | exact f8 | (simp [upd_apply]; done)), (by first | rfl | exact f18 | (simp [upd_apply]; done)), (by first | rfl | exact f19 | (simp [upd_apply]; done)), (by first | rfl | exact f20 | (simp [upd_apply]; done)), (by first | rfl | (simp [upd_apply]; done)), (by first | rfl | (simp [upd_apply]; done)), (by first | rfl | (simp [upd_apply]; done)), (by first | rfl | exact f134 | (simp [upd_apply]; done)), (by first | rfl | exact f135 | (simp [upd_apply]; done)), (by first | rfl | exact f136 | (simp [upd_apply]; done)), (by first | rfl | exact f142 | (simp [upd_apply]; done)), (by first | rfl | exact f143 | (simp [upd_apply]; done)), (by first | rfl | exact f144 | (simp [upd_apply]; done)), pp.trans pC, lsC, hbC⟩
        rintro m f K6 ⟨y, rfl, hy, f0, f6, f7, f8, f18, f19, f20, f21, f22, f23, f134, f135, f136, f142, f143, f144, pp, ls, gC⟩
        by_cases hlty : (y : Int) + 1 < p
        · have eI : (y : Int) + 1 = ((y + 1 : Nat) : Int) := by omega
          rw [eI] at f23
          have ra := cq.at (x := y + 1) (by omega)
          have ixA := ixa_u (n := K5.length) (off := 0) (len := 5) (kk := .i64) (j := y + 1) (by omega)
          rw [Nat.zero_add] at ixA
          obtain ⟨pk1, pk2⟩ := bin_pick (R := T.length) (f := fun k => decide (tb T k c = ((y + 1 : Nat) : Int))) (r := i) (by omega) hiT
          by_cases e : tb T i c = ((y + 1 : Nat) : Int)
          · rw [if_pos (decide_eq_true e)] at pk2
            have ixl := Lst.ix (n := K4.length) (j := (c : Int)) (len := W) (by omega)
            rw [Int.toNat_natCast] at ixl
            obtain ⟨H9, w9, e9, l9⟩ := ls.wr (j := c) (x := ((y + 1 : Nat) : Int)) (by rw [gen_len]; exact hcW)
            have eL : (gen W fun z => if z < c then tb T i z else if z = c ∧ 1 ≤ tb T i c ∧ tb T i c ≤ (y : Int) then tb T i c else 0).set c ((y + 1 : Nat) : Int) = gen W fun z => if z < c then tb T i z else if z = c ∧ 1 ≤ tb T i c ∧ tb T i c ≤ ((y + 1 : Nat) : Int) then tb T i c else 0 := gen_ext (by rw [List.length_set, gen_len]) fun z hz => by
              rw [set_getD (by rw [gen_len]; exact hcW)]
              by_cases h1 : z = c
              · subst h1
                rw [if_pos rfl, if_neg (by omega), if_pos ⟨rfl, by omega, by omega⟩, e]
              · rw [if_neg h1, gen_get hz]
                by_cases h2 : z < c
                · rw [if_pos h2, if_pos h2]
                · rw [if_neg h2, if_neg h2, if_neg (by omega), if_neg (by omega)]
            rw [eL] at l9
            ((try simp (maxSteps := 3000000) (dsimp := false) (disch := first | omega | (simp only [len_new, len_put, len_kill]; omega)) only [↓ypre, ypost, ↓reduceIte, Nat.reduceEqDiff, Nat.reduceAdd, Nat.reduceSub, Nat.reduceLeDiff, Nat.zero_add, Nat.sub_zero, ynew, f0, f6, f7, f8, f18, f19, f20, f21, f22, f23, f134, f135, f136, f142, f143, f144, decide_eq_true (show ((y + 1 : Nat) : Int) < p by omega), ixA, rd1_of gC, ra, pk1, pk2, decide_eq_true (show (1 : Int) = 1 from rfl), ixl, w9, wrap64_in]); try simp only [yback])
            refine InvQ_go (((p.toNat - 1)) - (y + 1)) (by omega) ⟨(y + 1), rfl, by omega, (by first | rfl | exact f0 | (simp only [upd_apply]; rfl) | (show I64 _ = _; congr 1; omega)), (by first | rfl | exact f6 | (simp only [upd_apply]; rfl) | (show I64 _ = _; congr 1; omega)), (by first | rfl | exact f7 | (simp only [upd_apply]; rfl) | (show I64 _ = _; congr 1; omega)), (by first | rfl | exact f8 | (simp only [upd_apply]; rfl) | (show I64 _ = _; congr 1; omega)), (by first | rfl | exact f18 | (simp only [upd_apply]; rfl) | (show I64 _ = _; congr 1; omega)), (by first | rfl | exact f19 | (simp only [upd_apply]; rfl) | (show I64 _ = _; congr 1; omega)), (by first | rfl | exact f20 | (simp only [upd_apply]; rfl) | (show I64 _ = _; congr 1; omega)), (by first | rfl | exact f21 | (simp only [upd_apply]; rfl) | (show I64 _ = _; congr 1; omega)), (by first | rfl | exact f22 | (simp only [upd_apply]; rfl) | (show I64 _ = _; congr 1; omega)), (by show I64 _ = I64 _; congr 1), (by first | rfl | exact f134 | (simp only [upd_apply]; rfl) | (show I64 _ = _; congr 1; omega)), (by first | rfl | exact f135 | (simp only [upd_apply]; rfl) | (show I64 _ = _; congr 1; omega)), (by first | rfl | exact f136 | (simp only [upd_apply]; rfl) | (show I64 _ = _; congr 1; omega)), (by first | rfl | exact f142 | (simp only [upd_apply]; rfl) | (show I64 _ = _; congr 1; omega)), (by first | rfl | exact f143 | (simp only [upd_apply]; rfl) | (show I64 _ = _; congr 1; omega)), (by first | rfl | exact f144 | (simp only [upd_apply]; rfl) | (show I64 _ = _; congr 1; omega)), (by rw [e9]; exact pre_put pp (Nat.le_refl _)), l9, (by rw [e9, get_put_ne (by have := pre_len (show K4 <+: K5 from by assumption); have := (show Lst K5 K4.length _ true from by assumption).lt; omega)]; exact gC)⟩
          · have ef : (if decide (tb T i c = ((y + 1 : Nat) : Int)) = true then (1 : Int) else 0) = 0 := by rw [decide_eq_false e]; rfl
            rw [ef] at pk2
            have eL : (gen W fun z => if z < c then tb T i z else if z = c ∧ 1 ≤ tb T i c ∧ tb T i c ≤ (y : Int) then tb T i c else 0) = gen W fun z => if z < c then tb T i z else if z = c ∧ 1 ≤ tb T i c ∧ tb T i c ≤ ((y + 1 : Nat) : Int) then tb T i c else 0 := gen_congr fun z hz => by
              by_cases h2 : z < c
              · rw [if_pos h2, if_pos h2]
              · rw [if_neg h2, if_neg h2]
                by_cases h3 : z = c ∧ 1 ≤ tb T i c ∧ tb T i c ≤ (y : Int)
                · rw [if_pos h3, if_pos (by omega)]
                · rw [if_neg h3, if_neg (by omega)]
            rw [eL] at ls
            ((try simp (maxSteps := 3000000) (dsimp := false) (disch := first | omega | (simp only [len_new, len_put, len_kill]; omega)) only [↓ypre, ypost, ↓reduceIte, Nat.reduceEqDiff, Nat.reduceAdd, Nat.reduceSub, Nat.reduceLeDiff, Nat.zero_add, Nat.sub_zero, ynew, f0, f6, f7, f8, f18, f19, f20, f21, f22, f23, f134, f135, f136, f142, f143, f144, decide_eq_true (show ((y + 1 : Nat) : Int) < p by omega), ixA, rd1_of gC, ra, pk1, pk2, decide_eq_false (show ¬ (0 : Int) = 1 by decide), wrap64_in]); try simp only [yback])
            refine InvQ_go (((p.toNat - 1)) - (y + 1)) (by omega) ⟨(y + 1), rfl, by omega, (by first | rfl | exact f0 | (simp only [upd_apply]; rfl) | (show I64 _ = _; congr 1; omega)), (by first | rfl | exact f6 | (simp only [upd_apply]; rfl) | (show I64 _ = _; congr 1; omega)), (by first | rfl | exact f7 | (simp only [upd_apply]; rfl) | (show I64 _ = _; congr 1; omega)), (by first | rfl | exact f8 | (simp only [upd_apply]; rfl) | (show I64 _ = _; congr 1; omega)), (by first | rfl | exact f18 | (simp only [upd_apply]; rfl) | (show I64 _ = _; congr 1; omega)), (by first | rfl | exact f19 | (simp only [upd_apply]; rfl) | (show I64 _ = _; congr 1; omega)), (by first | rfl | exact f20 | (simp only [upd_apply]; rfl) | (show I64 _ = _; congr 1; omega)), (by first | rfl | exact f21 | (simp only [upd_apply]; rfl) | (show I64 _ = _; congr 1; omega)), (by first | rfl | exact f22 | (simp only [upd_apply]; rfl) | (show I64 _ = _; congr 1; omega)), (by show I64 _ = I64 _; congr 1), (by first | rfl | exact f134 | (simp only [upd_apply]; rfl) | (show I64 _ = _; congr 1; omega)), (by first | rfl | exact f135 | (simp only [upd_apply]; rfl) | (show I64 _ = _; congr 1; omega)), (by first | rfl | exact f136 | (simp only [upd_apply]; rfl) | (show I64 _ = _; congr 1; omega)), (by first | rfl | exact f142 | (simp only [upd_apply]; rfl) | (show I64 _ = _; congr 1; omega)), (by first | rfl | exact f143 | (simp only [upd_apply]; rfl) | (show I64 _ = _; congr 1; omega)), (by first | rfl | exact f144 | (simp only [upd_apply]; rfl) | (show I64 _ = _; congr 1; omega)), pp, ls, gC⟩
        have ey : y = p.toNat - 1 := by omega
        subst ey
        have eL : (gen W fun z => if z < c then tb T i z else if z = c ∧ 1 ≤ tb T i c ∧ tb T i c ≤ ((p.toNat - 1 : Nat) : Int) then tb T i c else 0) = gen W fun z => if z < c + 1 then tb T i z else 0 := gen_congr fun z hz => by
          by_cases h2 : z < c
          · rw [if_pos h2, if_pos (by omega)]
          · rw [if_neg h2]
            by_cases h3 : z = c
            · subst h3
              rw [if_pos (show z < z + 1 by omega)]
              by_cases h4 : tb T i z = 0
              · rw [if_neg (by omega), h4]
              · rw [if_pos ⟨rfl, by omega, by omega⟩]
            · rw [if_neg (by omega), if_neg (by omega)]
        rw [eL] at ls
        ((try simp (maxSteps := 3000000) (dsimp := false) (disch := first | omega | (simp only [len_new, len_put, len_kill]; omega)) only [↓ypre, ypost, ↓reduceIte, Nat.reduceEqDiff, Nat.reduceAdd, Nat.reduceSub, Nat.reduceLeDiff, Nat.zero_add, Nat.sub_zero, ynew, f0, f6, f7, f8, f18, f19, f20, f21, f22, f23, f134, f135, f136, f142, f143, f144, decide_eq_false hlty, wrap64_in]); try simp only [yback])
        refine InvQ_go (W - (c + 1)) (by omega) ⟨(c + 1), rfl, by omega, (by first | rfl | exact f0 | (simp only [upd_apply]; rfl) | (show I64 _ = _; congr 1; omega)), (by first | rfl | exact f6 | (simp only [upd_apply]; rfl) | (show I64 _ = _; congr 1; omega)), (by first | rfl | exact f7 | (simp only [upd_apply]; rfl) | (show I64 _ = _; congr 1; omega)), (by first | rfl | exact f8 | (simp only [upd_apply]; rfl) | (show I64 _ = _; congr 1; omega)), (by first | rfl | exact f18 | (simp only [upd_apply]; rfl) | (show I64 _ = _; congr 1; omega)), (by first | rfl | exact f19 | (simp only [upd_apply]; rfl) | (show I64 _ = _; congr 1; omega)), (by first | rfl | exact f20 | (simp only [upd_apply]; rfl) | (show I64 _ = _; congr 1; omega)), (by first | rfl | exact f134 | (simp only [upd_apply]; rfl) | (show I64 _ = _; congr 1; omega)), (by first | rfl | exact f135 | (simp only [upd_apply]; rfl) | (show I64 _ = _; congr 1; omega)), (by first | rfl | exact f136 | (simp only [upd_apply]; rfl) | (show I64 _ = _; congr 1; omega)), (by first | rfl | exact f142 | (simp only [upd_apply]; rfl) | (show I64 _ = _; congr 1; omega)), (by first | rfl | exact f143 | (simp only [upd_apply]; rfl) | (show I64 _ = _; congr 1; omega)), (by first | rfl | exact f144 | (simp only [upd_apply]; rfl) | (show I64 _ = _; congr 1; omega)), pp, ls⟩
      have ec : c = W := by omega
      subst ec
      have eT' : (gen c fun y => if y < c then tb T i y else 0) = T.getD i [] := (gen_ext gw fun z hz => by rw [if_pos hz]; rfl).symm
      rw [eT'] at ls
      have pK5 := pre_len pp
      ((try simp (maxSteps := 3000000) (dsimp := false) (disch := first | omega | (simp only [len_new, len_put, len_kill]; omega)) only [↓ypre, ypost, ↓reduceIte, Nat.reduceEqDiff, Nat.reduceAdd, Nat.reduceSub, Nat.reduceLeDiff, Nat.zero_add, Nat.sub_zero, ynew, f0, f6, f7, f8, f18, f19, f20, f134, f135, f136, f142, f143, f144, decide_eq_false hltc, sl_cells, sl_one]); try simp only [yback])
      rw [← gw]
      have tl5 := tl.pre pp
      refine tl5.app (by omega) (fun j hj => by
        obtain ⟨fu, o⟩ := (tl.rows j hj).2
        have := o.lt
        omega) ls (by omega) (by omega) fun H9 l9 tl9 keep9 pre9 => ?_
      have st9 : StayT H1.length K5 H9 := ⟨by omega, fun h0 hh q => pre9 h0 (Nat.le_trans hh tl.low) q, fun m' b' g q1 q2 => keep9 m' b' (fun e => by
        have g3 := tl5.g
        rw [e, g3] at g
        cases g
        exact q2 rfl) g⟩
      ((try simp (maxSteps := 3000000) (dsimp := false) (disch := first | omega | (simp only [len_new, len_put, len_kill]; omega)) only [↓ypre, ypost, ↓reduceIte, Nat.reduceEqDiff, Nat.reduceAdd, Nat.reduceSub, Nat.reduceLeDiff, Nat.zero_add, Nat.sub_zero, ynew, f0, f6, f7, f8, f18, f19, f20, f134, f135, f136, f142, f143, f144, wrap64_in]); try simp only [yback])
      refine InvQ_go (rows.length - (i + 1)) (by omega) ⟨(i + 1), (K5.length + 1), false, (L ++ [(K4.length, T.getD i [])]), rfl, by omega, (by first | rfl | exact f0 | (simp only [upd_apply]; rfl) | (show I64 _ = _; congr 1; omega)), (by first | rfl | exact f6 | (simp only [upd_apply]; rfl) | (show I64 _ = _; congr 1; omega)), (by first | rfl | exact f7 | (simp only [upd_apply]; rfl) | (show I64 _ = _; congr 1; omega)), (by rw [gw]; exact f8), (by first | rfl | exact f18 | (simp only [upd_apply]; rfl) | (show I64 _ = _; congr 1; omega)), (by first | rfl | exact f134 | (simp only [upd_apply]; rfl) | (show I64 _ = _; congr 1; omega)), (by first | rfl | exact f135 | (simp only [upd_apply]; rfl) | (show I64 _ = _; congr 1; omega)), (by first | rfl | exact f136 | (simp only [upd_apply]; rfl) | (show I64 _ = _; congr 1; omega)), (sy.trans ((StayT.of pp).trans st9)), tl9, (by rw [List.map_append, hL, take_next (d := []) hiT]; rfl)⟩
    have ei : i = rows.length := by omega
    subst ei
    rw [← sl', List.take_of_length_le (Nat.le_refl _)] at hL
    have g7K := sy.get _ _ g7A (by simp) (by simp)
    ((try simp (maxSteps := 3000000) (dsimp := false) (disch := first | omega | (simp only [len_new, len_put, len_kill]; omega)) only [↓ypre, ypost, ↓reduceIte, Nat.reduceEqDiff, Nat.reduceAdd, Nat.reduceSub, Nat.reduceLeDiff, Nat.zero_add, Nat.sub_zero, ynew, f0, f6, f7, f8, f18, f134, f135, f136, decide_eq_false hlt, rdn_of g7K]); try simp only [yback])
    have hrs := tl.rowsS
    rw [hL] at hrs
    have o0 : Way2 K4 H1.length sv (.slice none 0 0) ⟨p, n, st0, []⟩ := ⟨wvA.keep fun m' c' f' _ _ g => sy.get _ _ g (by simp) (by simp), ⟨fun r hr => by simp at hr, .inl ⟨rfl, rfl⟩⟩⟩
    rw [show Value.agg #[I64 p, I64 n, sv, .slice none 0 0] = prgV ⟨p, n, st0, []⟩ sv (.slice none 0 0) from rfl]
    have kA := pre_len hp1A
    refine i_finished hp hn o0 (by omega) hrs (fun i hi => by
      obtain ⟨q1, q2⟩ := gT i hi
      exact ⟨allIn_iff.2 fun j hj => q2 j (by omega), by omega⟩) (by omega) (by show st0.length ≤ 100000; omega) (by simp) fun v' w' H' sy' o' ob' => ?_
    have pH : H1 <+: H' := sy'.pre _ (Nat.le_refl _) (sy.pre _ (Nat.le_refl _) hp1A)
    have g6 := pre_get pH hb1
    have lt6 := get_lt g6
    obtain ⟨ep, en, _, _⟩ := finP_facts (x := ⟨p, n, st0, []⟩) (rows := T) (N := 10000) hp (fun i hi => by
      obtain ⟨q1, q2⟩ := gT i hi
      exact ⟨allIn_iff.2 fun j hj => q2 j (by omega), by omega⟩) hn (i := T.length) (Nat.le_refl _)
    ((try simp (maxSteps := 3000000) (dsimp := false) (disch := first | omega | (simp only [len_new, len_put, len_kill]; omega)) only [↓ypre, ypost, ↓reduceIte, Nat.reduceEqDiff, Nat.reduceAdd, Nat.reduceSub, Nat.reduceLeDiff, Nat.zero_add, Nat.sub_zero, ynew, f0, f6, f7, f8, f18, f134, f135, f136, prgV, o'.st.one, o'.st.cells, o'.out.one, o'.out.cells, wr_of g6]); try simp only [yback])
    have := hQ v' w' _ (pre_put (b := ⟨[I64 (finP ⟨p, n, st0, []⟩ T T.length).p, I64 (finP ⟨p, n, st0, []⟩ T T.length).n, v', w'], 48, false, true⟩) (p1.trans pH) (Nat.le_refl _)) ⟨(o'.st.put_ty g6 (by simp)).mlo (by omega), (o'.out.put_ty g6 (by simp)).mlo (by omega)⟩ (ob' (by omega))
    unfold prgV at this
    exact this
  obtain ⟨b1, b2, b3, b4, _⟩ := bst_ok hp si.gt hT1 (by omega)
  have sg := si.go hp (by omega) (by omega)
  have est : (stepS p s).st = s.st ++ [[((bst p s.T).l : Int), ((bst p s.T).j : Int), ((bst p s.T).r : Int)]] := rfl
  have eT : (stepS p s).T = mvT p (bst p s.T) s.T := rfl
  generalize hbb : bst p s.T = bb at *
  have ct7 := ct.pre p67
  have ixl : ∀ kk : IntKind, ixsV 5 (tv nb (N + s.st.length)) (.int kk (bb.l : Int)) = _ := fun kk => ColT.ix (by omega)
  have ixj : ∀ kk : IntKind, ixsV 5 (tv nb (N + s.st.length)) (.int kk (bb.j : Int)) = _ := fun kk => ColT.ix (by omega)
  have rnl := ct7.rdn (c := bb.l) (by omega)
  have rnj := ct7.rdn (c := bb.j) (by omega)
  have ca := hcol bb.l (by omega)
  have cb := hcol bb.j (by omega)
  generalize hqa : cols.getD bb.l [] = qa at *
  generalize hqb : cols.getD bb.j [] = qb at *
  ((try simp (maxSteps := 3000000) (dsimp := false) (disch := first | omega | (simp only [len_new, len_put, len_kill]; omega)) only [↓ypre, ypost, ↓reduceIte, Nat.reduceEqDiff, Nat.reduceAdd, Nat.reduceSub, Nat.reduceLeDiff, Nat.zero_add, Nat.sub_zero, ynew, f0, f2, f6, f7, f8, decide_eq_true hbm, rd1_of hb7, ixl, rnl, ixj, rnj]); try simp only [yback])
  refine i_rowsWith (qa := qa) (qb := qb) hp si.gt hT30 (i := bb.l) (j := bb.j) (by omega) (by omega) ca cb ⟨b3, b4⟩ fun H8 p8 => ?_
  ((try simp (maxSteps := 3000000) (dsimp := false) (disch := first | omega | (simp only [len_new, len_put, len_kill]; omega)) only [↓ypre, ypost, ↓reduceIte, Nat.reduceEqDiff, Nat.reduceAdd, Nat.reduceSub, Nat.reduceLeDiff, Nat.zero_add, Nat.sub_zero, ynew, f0, f2, f6, f7, f8, cel_all, cel_len, List.length_replicate, cellsL_cel]); try simp only [yback])
  generalize hH9 : AH.new H8 _ = H9
  obtain ⟨hb9, p9, n9⟩ := new_facts hH9
  have p89 := p8.trans p9
  have k8 := pre_len p8
  have ct9 := ct7.pre p89
  have g13 := pre_get p89 hb7
  have g79 := pre_get (p67.trans p89) g7
  have wv9 := wv.pre (p67.trans p89)
  have pp9 := pp.trans (p67.trans p89)
  have lnbK := get_lt ct.g
  obtain ⟨SS', hSS⟩ : ∃ SS' : Nat → Bool, SS' = mvS p bb s.T := ⟨_, rfl⟩
  have eS : mkB p s.T bb.l bb.j bb.r = SS' := by rw [hSS]; rfl
  have lne : bb.l ≠ bb.j := by omega
  rw [eS]
  have ctS : ColT H9 nb fl ((cols.set bb.l (lcol s.T SS' bb.l 0 qa)).set bb.j (lcol s.T SS' bb.j 0 qb)) := by
    rw [lcol_zero ca.1, lcol_zero cb.1]
    have e1 : cols.set bb.l qa = cols := by
      rw [← hqa, List.getD_eq_getElem?_getD, List.getElem?_eq_getElem (by omega)]
      exact List.set_getElem_self (by omega)
    have e2 : cols.set bb.j qb = cols := by
      rw [← hqb, List.getD_eq_getElem?_getD, List.getElem?_eq_getElem (by omega)]
      exact List.set_getElem_self (by omega)
    rw [e1, e2]
    exact ct9
  have gN0 : H9.get H8.length = some ⟨cel .u32 (ncol s.T SS' bb.l 0), 144, false, true⟩ := by
    rw [ncol_zero]
    exact hb9
  refine WC_loop_inv (fun m f K7 => ∃ (c : Nat), m = ((p.toNat - 1)) - c ∧ c ≤ ((p.toNat - 1)) ∧ f 0 = I64 p ∧ f 2 = u ∧ f 6 = .pointer (some ⟨h.length, 0, none⟩) ∧ f 7 = .pointer (some ⟨H2.length, 0, none⟩) ∧ f 8 = tv nb (N + s.st.length) ∧ f 13 = .pointer (some ⟨H6.length, 0, none⟩) ∧ f 15 = U32 (bs s.T.length SS') ∧ f 16 = .pointer (some ⟨H8.length, 0, none⟩) ∧ f 17 = I64 ((c : Int) + 1) ∧ (ColT K7 nb fl ((cols.set bb.l (lcol s.T SS' bb.l c qa)).set bb.j (lcol s.T SS' bb.j c qb))) ∧ (K7.get H8.length = some ⟨cel .u32 (ncol s.T SS' bb.l c), 144, false, true⟩) ∧ (∀ m b, m ≠ nb → m ≠ H8.length → H9.get m = some b → K7.get m = some b) ∧ (K7.length = H9.length) ∧ (H1 <+: K7)) ?_ (((p.toNat - 1)) - 0) _ _ ⟨0, rfl, by omega, (by first | rfl | exact f0 | (simp [upd_apply]; done)), (by first | rfl | exact f2 | (simp [upd_apply]; done)), (by first | rfl | exact f6 | (simp [upd_apply]; done)), (by first | rfl | exact f7 | (simp [upd_apply]; done)), (by first | rfl | exact f8 | (simp [upd_apply]; done)), (by first | rfl | (simp [upd_apply]; done)), (by first | rfl | (simp [upd_apply]; done)), (by first | rfl | (simp [upd_apply]; done)), (by first | rfl | (simp [upd_apply]; done)), ctS, gN0, fun m b _ _ g => g, rfl, pp9⟩
  rintro m f K7 ⟨c, rfl, hc, f0, f2, f6, f7, f8, f13, f15, f16, f17, ctS, gN, hk, lK, pp⟩
  have g13K := hk _ _ (by omega) (by omega) g13
  by_cases hltc : (c : Int) + 1 < p
  · have hc5 : c + 1 < 5 := by omega
    have eI : (c : Int) + 1 = ((c + 1 : Nat) : Int) := by omega
    rw [eI] at f17
    have cl2 : ((cols.set bb.l (lcol s.T SS' bb.l c qa)).set bb.j (lcol s.T SS' bb.j c qb)).length = cols.length := by simp
    have ixa1 := ixa_u (n := nb) (off := bb.l * 5) (len := 5) (kk := .i64) (j := c + 1) hc5
    have ixa2 := ixa_u (n := nb) (off := bb.j * 5) (len := 5) (kk := .i64) (j := c + 1) hc5
    have ixaN := ixa_u (n := H8.length) (off := 0) (len := 5) (kk := .i64) (j := c + 1) hc5
    rw [Nat.zero_add] at ixaN
    have rA := ctS.rd (c := bb.l) (x := c + 1) (by omega) hc5
    rw [get2_l lne (by omega) (by omega), lcol_at ca hc5] at rA
    have rA : K7.rd1 nb (bb.l * 5 + (c + 1)) = some (U32 (bs s.T.length fun k => decide (tb s.T k bb.l = ((c + 1 : Nat) : Int)))) := rA
    have an1 := bin_and (R := s.T.length) (f := fun k => decide (tb s.T k bb.l = ((c + 1 : Nat) : Int))) (g := SS') (by omega)
    have ltN := get_lt gN
    have nl : (ncol s.T SS' bb.l c).length = 5 := gen_len
    have wN : K7.wr H8.length (c + 1) [U32 (bs s.T.length fun k => decide (tb s.T k bb.l = ((c + 1 : Nat) : Int)) && SS' k)] = some (K7.put H8.length ⟨cel .u32 (ncol s.T SS' bb.l (c + 1)), 144, false, true⟩) := by
      rw [wr_of gN, if_pos ⟨rfl, by simp only [cel_len, nl, List.length_singleton]; omega⟩, ← ncol_set hc5]
      unfold U32
      rw [cel_set (by rw [nl]; exact hc5)]
    generalize hKN : K7.put H8.length ⟨cel .u32 (ncol s.T SS' bb.l (c + 1)), 144, false, true⟩ = KN at *
    have gN' : KN.get H8.length = some ⟨cel .u32 (ncol s.T SS' bb.l (c + 1)), 144, false, true⟩ := by rw [← hKN]; exact get_put_same ltN
    have ctN : ColT KN nb fl ((cols.set bb.l (lcol s.T SS' bb.l c qa)).set bb.j (lcol s.T SS' bb.j c qb)) := by rw [← hKN]; exact ctS.put_ne (by omega)
    have hkN : ∀ m b, m ≠ nb → m ≠ H8.length → H9.get m = some b → KN.get m = some b := fun m b h1 h2 g => by rw [← hKN, get_put_ne (fun e => h2 e.symm)]; exact hk m b h1 h2 g
    have g13N := hkN _ _ (by omega) (by omega) g13
    have lKN : KN.length = K7.length := by rw [← hKN, len_put]
    have rA2 := ctN.rd (c := bb.l) (x := c + 1) (by omega) hc5
    rw [get2_l lne (by omega) (by omega), lcol_at ca hc5] at rA2
    have rA2 : KN.rd1 nb (bb.l * 5 + (c + 1)) = some (U32 (bs s.T.length fun k => decide (tb s.T k bb.l = ((c + 1 : Nat) : Int)))) := rA2
    have an2 := bin_andNot (R := s.T.length) (f := fun k => decide (tb s.T k bb.l = ((c + 1 : Nat) : Int))) (g := SS') (by omega)
    obtain ⟨KA, wA, eA, ctA'⟩ := ctN.wr (c := bb.l) (x := c + 1) (v := ((bs s.T.length (fun k => decide (tb s.T k bb.l = ((c + 1 : Nat) : Int)) && !SS' k) : Nat) : Int)) (by omega) hc5
    have wA : KN.wr nb (bb.l * 5 + (c + 1)) [U32 (bs s.T.length (fun k => decide (tb s.T k bb.l = ((c + 1 : Nat) : Int)) && !SS' k))] = some KA := wA
    rw [get2_l lne (by omega) (by omega), lcol_set hc5] at ctA'
    have gN'' : KA.get H8.length = some ⟨cel .u32 (ncol s.T SS' bb.l (c + 1)), 144, false, true⟩ := by rw [eA, get_put_ne (by omega)]; exact gN'
    have hkA : ∀ m b, m ≠ nb → m ≠ H8.length → H9.get m = some b → KA.get m = some b := fun m b h1 h2 g => by rw [eA, get_put_ne (fun e => h1 e.symm)]; exact hkN m b h1 h2 g
    have g13A := hkA _ _ (by omega) (by omega) g13
    have lKA : KA.length = K7.length := by rw [eA, len_put, lKN]
    have cl3 : (((cols.set bb.l (lcol s.T SS' bb.l c qa)).set bb.j (lcol s.T SS' bb.j c qb)).set bb.l (lcol s.T SS' bb.l (c + 1) qa)).length = cols.length := by simp
    have eB : (((cols.set bb.l (lcol s.T SS' bb.l c qa)).set bb.j (lcol s.T SS' bb.j c qb)).set bb.l (lcol s.T SS' bb.l (c + 1) qa)).getD bb.j [] = lcol s.T SS' bb.j c qb := by
      rw [set_getD' (by rw [cl2]; omega), if_neg (fun e => lne e.symm), get2_j (by omega)]
    have rB := ctA'.rd (c := bb.j) (x := c + 1) (by omega) hc5
    rw [eB, lcol_at cb hc5] at rB
    have rB : KA.rd1 nb (bb.j * 5 + (c + 1)) = some (U32 (bs s.T.length fun k => decide (tb s.T k bb.j = ((c + 1 : Nat) : Int)))) := rB
    have an3 := bin_andNot (R := s.T.length) (f := fun k => decide (tb s.T k bb.j = ((c + 1 : Nat) : Int))) (g := SS') (by omega)
    obtain ⟨KB, wB, eKB, ctB'⟩ := ctA'.wr (c := bb.j) (x := c + 1) (v := ((bs s.T.length (fun k => decide (tb s.T k bb.j = ((c + 1 : Nat) : Int)) && !SS' k) : Nat) : Int)) (by omega) hc5
    have wB : KA.wr nb (bb.j * 5 + (c + 1)) [U32 (bs s.T.length (fun k => decide (tb s.T k bb.j = ((c + 1 : Nat) : Int)) && !SS' k))] = some KB := wB
    rw [eB, lcol_set hc5, set2_next lne] at ctB'
    have gNB : KB.get H8.length = some ⟨cel .u32 (ncol s.T SS' bb.l (c + 1)), 144, false, true⟩ := by rw [eKB, get_put_ne (by omega)]; exact gN''
    have hkB : ∀ m b, m ≠ nb → m ≠ H8.length → H9.get m = some b → KB.get m = some b := fun m b h1 h2 g => by rw [eKB, get_put_ne (fun e => h1 e.symm)]; exact hkA m b h1 h2 g
    have lKB : KB.length = K7.length := by rw [eKB, len_put, lKA]
    have ppB : H1 <+: KB := by
      rw [eKB, eA, ← hKN]
      exact pre_put (pre_put (pre_put pp (by have := pre_len pp9; omega)) lnb) lnb
    ((try simp (maxSteps := 3000000) (dsimp := false) (disch := first | omega | (simp only [len_new, len_put, len_kill]; omega)) only [↓ypre, ypost, ↓reduceIte, Nat.reduceEqDiff, Nat.reduceAdd, Nat.reduceSub, Nat.reduceLeDiff, Nat.zero_add, Nat.sub_zero, ynew, f0, f2, f6, f7, f8, f13, f15, f16, f17, decide_eq_true (show ((c + 1 : Nat) : Int) < p by omega), rd1_of g13K, ixl, ixa1, rA, an1, ixaN, U_one, U_cells, wN, rd1_of g13N, rA2, an2, wA, rd1_of g13A, ixj, ixa2, rB, an3, wB, wrap64_in]); try simp only [yback])
    refine InvQ_go (((p.toNat - 1)) - (c + 1)) (by omega) ⟨(c + 1), rfl, by omega, (by first | rfl | exact f0 | (simp only [upd_apply]; rfl) | (show I64 _ = _; congr 1; omega)), (by first | rfl | exact f2 | (simp only [upd_apply]; rfl) | (show I64 _ = _; congr 1; omega)), (by first | rfl | exact f6 | (simp only [upd_apply]; rfl) | (show I64 _ = _; congr 1; omega)), (by first | rfl | exact f7 | (simp only [upd_apply]; rfl) | (show I64 _ = _; congr 1; omega)), (by first | rfl | exact f8 | (simp only [upd_apply]; rfl) | (show I64 _ = _; congr 1; omega)), (by first | rfl | exact f13 | (simp only [upd_apply]; rfl) | (show I64 _ = _; congr 1; omega)), (by first | rfl | exact f15 | (simp only [upd_apply]; rfl) | (show I64 _ = _; congr 1; omega)), (by first | rfl | exact f16 | (simp only [upd_apply]; rfl) | (show I64 _ = _; congr 1; omega)), (by show I64 _ = I64 _; congr 1), ctB', gNB, hkB, (by rw [lKB, lK]), ppB⟩
  have ec : c = p.toNat - 1 := by omega
  subst ec
  have nl : (ncol s.T SS' bb.l (p.toNat - 1)).length = 5 := gen_len
  have tkN : (cel .u32 (ncol s.T SS' bb.l (p.toNat - 1))).take 5 = cel .u32 (ncol s.T SS' bb.l (p.toNat - 1)) := List.take_of_length_le (by rw [cel_len]; omega)
  have spl : splice (cel .u32 (List.replicate 5 0)) 0 (cel .u32 (ncol s.T SS' bb.l (p.toNat - 1))) = cel .u32 (ncol s.T SS' bb.l (p.toNat - 1)) := by
    rw [cel_splice, nl]
    simp
  have cl2 : ((cols.set bb.l (lcol s.T SS' bb.l (p.toNat - 1) qa)).set bb.j (lcol s.T SS' bb.j (p.toNat - 1) qb)).length = N + s.st.length := by simp [hcl]
  have wc : WayX (144) .u32 5 K7 H1.length [] (tv nb (N + s.st.length)) ((cols.set bb.l (lcol s.T SS' bb.l (p.toNat - 1) qa)).set bb.j (lcol s.T SS' bb.j (p.toNat - 1) qb)) := by
    have := ctS.way (ex := []) lnb (by simp)
    rw [cl2] at this
    exact this
  have k19 := pre_len pp9
  ((try simp (maxSteps := 3000000) (dsimp := false) (disch := first | omega | (simp only [len_new, len_put, len_kill]; omega)) only [↓ypre, ypost, ↓reduceIte, Nat.reduceEqDiff, Nat.reduceAdd, Nat.reduceSub, Nat.reduceLeDiff, Nat.zero_add, Nat.sub_zero, ynew, f0, f2, f6, f7, f8, f13, f15, f16, f17, decide_eq_false hltc, rdn_of gN, cel_len, nl, tkN, cel_all, cellsL_cel, List.length_replicate, spl]); try simp only [yback])
  refine wc.appK (q := ncol s.T SS' bb.l (p.toNat - 1)) nl (by rw [cl2]; omega) (by rw [cl2]; omega) (by omega) (by simp) fun cv H10 l10 pre10 keep10 wc10 => ?_
  obtain ⟨nb', fl', rfl, hnb', ct10⟩ := wc10.colT (by simp)
  have g13b := keep10 _ _ (.inr (by simp)) (hk _ _ (by omega) (by omega) g13)
  have g7b := keep10 _ _ (.inr (by simp)) (hk _ _ (by
    rintro rfl
    have := ct9.g
    rw [g79] at this
    have := congrArg (fun b : Option Blk => b.map (·.e)) this
    simp at this) (by omega) g79)
  have wv10 : WayX (96) .i64 3 H10 H1.length [] sv s.st := wv9.keep fun m' c' f' _ _ g => keep10 _ _ (.inr (by simp)) (hk _ _ (by
    rintro rfl
    have := ct9.g
    rw [g] at this
    cases this) (by
    rintro rfl
    rw [hb9] at g
    cases g) g)
  have pp10 : H1 <+: H10 := pre10 _ (Nat.le_refl _) pp
  ((try simp (maxSteps := 3000000) (dsimp := false) (disch := first | omega | (simp only [len_new, len_put, len_kill]; omega)) only [↓ypre, ypost, ↓reduceIte, Nat.reduceEqDiff, Nat.reduceAdd, Nat.reduceSub, Nat.reduceLeDiff, Nat.zero_add, Nat.sub_zero, ynew, f0, f2, f6, f7, f8, f13, f15, f16, f17, rd1_of g7b, rd1_of g13b]); try simp only [yback])
  refine wv10.appK (q := [(bb.l : Int), (bb.j : Int), (bb.r : Int)]) rfl (by omega) (by omega) (by omega) (by simp) fun sv' H11 l11 pre11 keep11 wv11 => ?_
  have g7c := keep11 _ _ (.inr (by simp)) g7b
  have lt7 := get_lt g7c
  have ct11 : ColT H11 nb' fl' (((cols.set bb.l (lcol s.T SS' bb.l (p.toNat - 1) qa)).set bb.j (lcol s.T SS' bb.j (p.toNat - 1) qb)) ++ [ncol s.T SS' bb.l (p.toNat - 1)]) := ⟨keep11 _ _ (.inr (by simp)) ct10.g, ct10.wid⟩
  ((try simp (maxSteps := 3000000) (dsimp := false) (disch := first | omega | (simp only [len_new, len_put, len_kill]; omega)) only [↓ypre, ypost, ↓reduceIte, Nat.reduceEqDiff, Nat.reduceAdd, Nat.reduceSub, Nat.reduceLeDiff, Nat.zero_add, Nat.sub_zero, ynew, f0, f2, f6, f7, f8, f13, f15, f16, f17, wv11.one, wv11.cells, wr_of g7c, wrap64_in]); try simp only [yback])
  have hlt := sg.2
  have lst : (stepS p s).st.length = s.st.length + 1 := by rw [est]; simp
  have sg1 := sg.1
  have f8' : tv nb' (((cols.set bb.l (lcol s.T SS' bb.l (p.toNat - 1) qa)).set bb.j (lcol s.T SS' bb.j (p.toNat - 1) qb)) ++ [ncol s.T SS' bb.l (p.toNat - 1)]).length = tv nb' (N + (stepS p s).st.length) := by rw [List.length_append, cl2, lst]; rfl
  refine InvQ_go (nzT rows - (nzT rows - nzT (stepS p s).T)) (by omega) ⟨nzT rows - nzT (stepS p s).T, stepS p s, sv', nb', fl', _, rfl, by omega, f0, f2, f6, f7, f8', by omega, sg1, pre_put (pre11 _ (Nat.le_refl _) pp10) (by omega), by omega, ct11.put_ne ?_, by rw [List.length_append, cl2, lst]; rfl, fun i hi => ?_, ?_, get_put_same lt7⟩
  · rintro rfl
    have := ct11.g
    rw [g7c] at this
    have := congrArg (fun b : Option Blk => b.map (·.e)) this
    simp at this
  · rw [eT]
    have g := si.gt
    by_cases e1 : i < N + s.st.length
    · rw [getD_app_l (by rw [cl2]; exact e1)]
      by_cases e2 : i = bb.l
      · subst e2
        rw [get2_l lne (by omega) (by omega), hSS]
        exact col_left g hp5 (by omega) (by omega) (.inl rfl) ca
      · by_cases e3 : i = bb.j
        · subst e3
          rw [get2_j (by omega), hSS]
          exact col_left g hp5 (by omega) (by omega) (.inr rfl) cb
        · rw [get2_o e2 e3 (by omega) (by omega)]
          exact col_other g (by omega) (by omega) e1 e2 e3 (hcol i e1)
    · have e2 : i = N + s.st.length := by omega
      subst e2
      rw [getD_app_r (by rw [cl2]; exact Nat.le_refl _), cl2, Nat.sub_self, hSS]
      exact col_new g hp5 (by omega) (by omega)
  · rw [est]
    exact (wv11.put_ty g7c (by simp)).mlo (by omega)
end Go.Proofs.Ytilpnbejpndgpaa.X

/- SharedProgram of both sides. -/
set_option linter.unusedVariables false
set_option linter.unusedSimpArgs false
set_option maxRecDepth 20000
set_option maxHeartbeats 4000000
namespace Go.Proofs.Ytilpnbejpndgpaa.X
open Go Go.RowKit

theorem shP_facts {p n : Int} {rows : List (List Int)} (h : lsOK p n rows = true) : (shP p n rows).st.length ≤ 301000 ∧ (shP p n rows).out.length ≤ 30 ∧ (shP p n rows).p = p ∧ (shP p n rows).n = n := by
  obtain ⟨h1, h2, h3, h4⟩ := lsOK_iff.1 h
  have si := shS_facts h
  obtain ⟨q1, q2, h5, h6⟩ := finP_facts (x := ⟨p, n, (shS p rows).st, []⟩) (rows := (shS p rows).T) (N := 10000) h1 (fun i hi => by
    obtain ⟨g1, g2⟩ := si.gt i hi
    have := si.nz
    exact ⟨allIn_iff.2 fun j hj => g2 j (by omega), by omega⟩) h2 (i := (shS p rows).T.length) (Nat.le_refl _)
  have := si.nz
  have := si.len
  simp only [List.length_nil, Nat.zero_add] at h5 h6
  unfold shP
  refine ⟨?_, ?_, q1, q2⟩
  · have : (shS p rows).T.length * 10000 ≤ 30 * 10000 := Nat.mul_le_mul_right _ (by omega)
    omega
  · omega
theorem shR_small (p n : Int) (rows : List (List Int)) : SmallP (shR p n rows).1 := by
  unfold shR SmallP SmallE
  split
  · rename_i h
    have := shP_facts h
    simp only
    omega
  · simp
end Go.Proofs.Ytilpnbejpndgpaa.X

/- The programs of a scheme: the lists of its forms, plainly; both sides' lists. -/
set_option linter.unusedVariables false
set_option linter.unusedSimpArgs false
set_option maxRecDepth 20000
set_option maxHeartbeats 4000000
namespace Go.Proofs.Ytilpnbejpndgpaa.X
open Go Go.RowKit

/-- So many numbers of one form of each product. -/
def lsF (x : Sch) (i n : Nat) : List (List Int) := x.ps.map fun q => (seg q i).take n
theorem lsF_len {x : Sch} {i n : Nat} : (lsF x i n).length = x.ps.length := by simp [lsF]
theorem lsF_get {x : Sch} {i n j : Nat} (hj : j < x.ps.length) : (lsF x i n).getD j [] = (seg (x.ps.getD j []) i).take n := by
  simp [lsF, List.getD_eq_getElem?_getD, List.getElem?_map, List.getElem?_eq_getElem hj]
def fmX (x : Sch) (i : Nat) : List (List Int) := if i = 2 then trL (lsF x 2 (x.n * x.k).toNat) (x.n * x.k).toNat else lsF x i (pl x i).toNat
def nuX (x : Sch) (i : Nat) : Int := if i = 2 then x.ps.length else pl x i
def pgO (p n : Int) (rows : List (List Int)) (b : Bool) : Prg := if b = true then shP p n rows else finP ⟨p, n, [], []⟩ rows rows.length
def pgX (x : Sch) (b : Bool) (i : Nat) : Prg := pgO x.p (nuX x i) (fmX x i) b
theorem seg_in {x : Sch} {q : List Int} {i j : Nat} (hq : By 27 q) (ho : okProd x q = true) (hi : i < 3) (hj : j < 9) : 0 ≤ (seg q i).getD j 0 ∧ (seg q i).getD j 0 < x.p := by
  have hb := (hq.seg hi).2 j hj
  have hf : okForm x.p (pl x i) (seg q i) = true := by
    unfold okProd at ho
    simp only [Bool.and_eq_true] at ho
    have : i = 0 ∨ i = 1 ∨ i = 2 := by omega
    rcases this with rfl | rfl | rfl
    · exact ho.1.1.1
    · exact ho.1.1.2
    · exact ho.1.2
  unfold okForm at hf
  rw [List.all_eq_true] at hf
  have := hf j (List.mem_range.2 hj)
  unfold okAt at this
  rw [decide_eq_true_eq] at this
  exact ⟨hb.1, this.1⟩
theorem isX_facts {x : Sch} (h : isX x = true) : SZ x ∧ isP x.p = true ∧ x.ps.length ≤ 30 ∧ ∀ j, j < x.ps.length → okProd x (x.ps.getD j []) = true := by
  unfold isX at h
  simp only [Bool.and_eq_true, decide_eq_true_eq] at h
  obtain ⟨⟨h1, h2⟩, h3⟩ := h
  refine ⟨szX_facts h1, ?_, h2, fun j hj => ?_⟩
  · unfold szX at h1
    simp only [Bool.and_eq_true] at h1
    exact h1.1.1.1
  · rw [List.all_eq_true] at h3
    refine h3 _ ?_
    rw [List.getD_eq_getElem?_getD, List.getElem?_eq_getElem hj]
    exact List.getElem_mem hj
theorem take_getD {l : List Int} {n j : Nat} (h : j < n) : (l.take n).getD j 0 = l.getD j 0 := by
  rw [List.getD_eq_getElem?_getD, List.getElem?_take, if_pos h, ← List.getD_eq_getElem?_getD]
theorem fmX_ok {x : Sch} {h : AH} {v : Value} (hv : Prods h v x.ps) (hx : isX x = true) (h0 : 1 ≤ x.ps.length) {i : Nat} (hi : i < 3) : lsOK x.p (nuX x i) (fmX x i) = true := by
  obtain ⟨z, hp, hl, ho⟩ := isX_facts hx
  have zn := z.nm
  have zm := z.mk2
  have zk := z.nk
  have hpl : 1 ≤ pl x i ∧ pl x i ≤ 9 := by
    have : i = 0 ∨ i = 1 ∨ i = 2 := by omega
    rcases this with rfl | rfl | rfl <;> simp [pl] <;> omega
  refine lsOK_iff.2 ⟨hp, ?_, ?_, ?_⟩
  · unfold nuX
    split
    · omega
    · omega
  · unfold fmX
    split
    · rw [trL_len]
      omega
    · rw [lsF_len]
      omega
  · refine isMat_iff.2 fun j hj => ?_
    by_cases h2 : i = 2
    · subst h2
      rw [show fmX x 2 = trL (lsF x 2 (x.n * x.k).toNat) (x.n * x.k).toNat from rfl] at hj ⊢
      rw [show nuX x 2 = (x.ps.length : Int) from rfl]
      rw [trL_len] at hj
      rw [trL_get hj, gen_len, lsF_len]
      refine ⟨rfl, allIn_iff.2 fun c hc => ?_⟩
      rw [gen_len] at hc
      rw [gen_get hc, lsF_get hc, take_getD hj]
      exact seg_in (hv.by hc) (ho c hc) (by omega) (by omega)
    · unfold fmX at hj ⊢
      unfold nuX
      rw [if_neg h2] at hj
      rw [if_neg h2, if_neg h2]
      rw [lsF_len] at hj
      rw [lsF_get hj]
      have sl := ((hv.by hj).seg hi).1
      refine ⟨by rw [List.length_take, sl]; omega, allIn_iff.2 fun c hc => ?_⟩
      rw [List.length_take, sl] at hc
      rw [take_getD (by omega)]
      exact seg_in (hv.by hj) (ho j hj) hi (by omega)

/-! ### The reference's lists -/
theorem s_l07Numbers {q : List Int} {n : Nat} {h : AH} {Q : Value → AH → Prop} (hq : By 9 q) (hn : n ≤ 9) (hQ : ∀ k fu h', h.length ≤ k → h <+: h' → Lst h' k (q.take n) fu → Q (sl k (q.take n).length) h') : WF S 141 [aggV .u8 q, I64 n] h Q := by
  refine WF_fn (fn := c141) rfl rfl ?_
  unfold c141
  ((try simp (maxSteps := 3000000) (dsimp := false) (disch := first | omega | (simp only [len_new, len_put, len_kill]; omega)) only [↓ypre, ypost, ↓reduceIte, Nat.reduceEqDiff, Nat.reduceAdd, Nat.reduceSub, Nat.reduceLeDiff, Nat.zero_add, Nat.sub_zero, ynew, aggV, cel_all, cellsL_cel]); try simp only [yback])
  generalize hH1 : AH.new h _ = H1
  obtain ⟨hb1, p1, n1⟩ := new_facts hH1
  generalize hH2 : AH.new H1 _ = H2
  obtain ⟨hb2, p2, n2⟩ := new_facts hH2
  have l0 : Lst H2 H1.length (q.take 0) true := hb2
  have hq1 := hq.1
  refine WC_loop_inv (fun m f K1 => ∃ (i : Nat) (k : Nat) (fu : Bool), m = n - i ∧ i ≤ n ∧ f 1 = I64 n ∧ f 2 = .pointer (some ⟨h.length, 0, none⟩) ∧ f 5 = sl k (q.take i).length ∧ f 6 = I64 i ∧ (H1 <+: K1) ∧ (Lst K1 k (q.take i) fu) ∧ (H1.length ≤ k)) ?_ (n - 0) _ _ ⟨0, H1.length, true, rfl, by omega, (by first | rfl | (simp [upd_apply]; done)), (by first | rfl | (simp [upd_apply]; done)), (by first | rfl | (simp [upd_apply]; done)), (by first | rfl | (simp [upd_apply]; done)), p2, l0, Nat.le_refl _⟩
  rintro m f K1 ⟨i, k, fu, rfl, hi, f1, f2, f5, f6, pp, lo, hk⟩
  have hb := pre_get pp hb1
  by_cases hlt : (i : Int) < n
  · have hi' : i < n := by omega
    have g1 := cel_get (k := .u8) (q := q) (j := i) (by omega)
    have ixa := ixa_u (n := h.length) (off := 0) (len := 9) (kk := .i64) (j := i) (by omega)
    rw [Nat.zero_add] at ixa
    have b1 := hq.2 i (by omega)
    ((try simp (maxSteps := 3000000) (dsimp := false) (disch := first | omega | (simp only [len_new, len_put, len_kill]; omega)) only [↓ypre, ypost, ↓reduceIte, Nat.reduceEqDiff, Nat.reduceAdd, Nat.reduceSub, Nat.reduceLeDiff, Nat.zero_add, Nat.sub_zero, ynew, f1, f2, f5, f6, decide_eq_true hlt, ixa, rd1_of hb, g1, wrap64_in]); try simp only [yback])
    refine lo.app3 (by rw [List.length_take]; omega) fun H5 l5 pre5 keep5 lo5 => ?_
    have et : q.take i ++ [q.getD i 0] = q.take (i + 1) := (take_next (by omega)).symm
    ((try simp (maxSteps := 3000000) (dsimp := false) (disch := first | omega | (simp only [len_new, len_put, len_kill]; omega)) only [↓ypre, ypost, ↓reduceIte, Nat.reduceEqDiff, Nat.reduceAdd, Nat.reduceSub, Nat.reduceLeDiff, Nat.zero_add, Nat.sub_zero, ynew, f1, f2, f5, f6, wrap64_in]); try simp only [yback])
    refine InvQ_go (n - (i + 1)) (by omega) ⟨(i + 1), (K1.length + 1), false, rfl, by omega, (by first | rfl | exact f1 | (simp only [upd_apply]; rfl) | (show I64 _ = _; congr 1; omega)), (by first | rfl | exact f2 | (simp only [upd_apply]; rfl) | (show I64 _ = _; congr 1; omega)), (by rw [← et]; rfl), (by first | rfl | exact f6 | (simp only [upd_apply]; rfl) | (show I64 _ = _; congr 1; omega)), (pre5 _ hk pp), (by rw [← et]; exact lo5), (by have := pre_len pp; omega)⟩
  have ei : i = n := by omega
  subst ei
  ((try simp (maxSteps := 3000000) (dsimp := false) (disch := first | omega | (simp only [len_new, len_put, len_kill]; omega)) only [↓ypre, ypost, ↓reduceIte, Nat.reduceEqDiff, Nat.reduceAdd, Nat.reduceSub, Nat.reduceLeDiff, Nat.zero_add, Nat.sub_zero, ynew, f1, f2, f5, f6, decide_eq_false hlt]); try simp only [yback])
  exact hQ k fu _ (by omega) (p1.trans pp) lo
theorem s_l07Of {u : Value} {p n : Int} {b : Bool} {rows : List (List Int)} {h : AH} {Q : Value → AH → Prop} (hu : Rows h u rows) (hok : lsOK p n rows = true)
    (hQ : ∀ v' w' h', h <+: h' → Way2 h' h.length v' w' (pgO p n rows b) → OrdB v' w' → Q (prgV (pgO p n rows b) v' w') h') : WF S 142 [I64 p, I64 n, u, .bool b] h Q := by
  refine WF_fn (fn := c142) rfl rfl ?_
  unfold c142
  unfold pgO at hQ
  ((try simp (maxSteps := 3000000) (dsimp := false) (disch := first | omega | (simp only [len_new, len_put, len_kill]; omega)) only [↓ypre, ypost, ↓reduceIte, Nat.reduceEqDiff, Nat.reduceAdd, Nat.reduceSub, Nat.reduceLeDiff, Nat.zero_add, Nat.sub_zero, ynew]); try simp only [yback])
  generalize hH1 : AH.new h _ = H1
  obtain ⟨hb1, p1, n1⟩ := new_facts hH1
  cases b with
  | true =>
    rw [if_pos rfl] at hQ
    ((try simp (maxSteps := 3000000) (dsimp := false) (disch := first | omega | (simp only [len_new, len_put, len_kill]; omega)) only [↓ypre, ypost, ↓reduceIte, Nat.reduceEqDiff, Nat.reduceAdd, Nat.reduceSub, Nat.reduceLeDiff, Nat.zero_add, Nat.sub_zero, ynew]); try simp only [yback])
    refine s_l07Shared (hu.pre p1) hok fun v' w' H' pH o ob => ?_
    have g1 := pre_get pH hb1
    have lt1 := get_lt g1
    ((try simp (maxSteps := 3000000) (dsimp := false) (disch := first | omega | (simp only [len_new, len_put, len_kill]; omega)) only [↓ypre, ypost, ↓reduceIte, Nat.reduceEqDiff, Nat.reduceAdd, Nat.reduceSub, Nat.reduceLeDiff, Nat.zero_add, Nat.sub_zero, ynew, prgV, o.st.one, o.st.cells, o.out.one, o.out.cells, wr_of g1]); try simp only [yback])
    have := hQ v' w' _ (pre_put (b := ⟨[I64 (shP p n rows).p, I64 (shP p n rows).n, v', w'], 48, false, true⟩) (p1.trans pH) (Nat.le_refl _)) ⟨(o.st.put_ty g1 (by simp)).mlo (by omega), (o.out.put_ty g1 (by simp)).mlo (by omega)⟩ ob
    unfold prgV at this
    exact this
  | false =>
    rw [if_neg (by decide)] at hQ
    ((try simp (maxSteps := 3000000) (dsimp := false) (disch := first | omega | (simp only [len_new, len_put, len_kill]; omega)) only [↓ypre, ypost, ↓reduceIte, Nat.reduceEqDiff, Nat.reduceAdd, Nat.reduceSub, Nat.reduceLeDiff, Nat.zero_add, Nat.sub_zero, ynew]); try simp only [yback])
    refine s_Plain (hu.pre p1) hok fun v' w' H' sy o ob => ?_
    have pH : H1 <+: H' := sy.pre _ (Nat.le_refl _) (List.prefix_refl _)
    have g1 := pre_get pH hb1
    have lt1 := get_lt g1
    ((try simp (maxSteps := 3000000) (dsimp := false) (disch := first | omega | (simp only [len_new, len_put, len_kill]; omega)) only [↓ypre, ypost, ↓reduceIte, Nat.reduceEqDiff, Nat.reduceAdd, Nat.reduceSub, Nat.reduceLeDiff, Nat.zero_add, Nat.sub_zero, ynew, prgV, o.st.one, o.st.cells, o.out.one, o.out.cells, wr_of g1]); try simp only [yback])
    have := hQ v' w' _ (pre_put (b := ⟨[I64 (finP ⟨p, n, [], []⟩ rows rows.length).p, I64 (finP ⟨p, n, [], []⟩ rows rows.length).n, v', w'], 48, false, true⟩) (p1.trans pH) (Nat.le_refl _)) ⟨(o.st.put_ty g1 (by simp)).mlo (by omega), (o.out.put_ty g1 (by simp)).mlo (by omega)⟩ ob
    unfold prgV at this
    exact this
end Go.Proofs.Ytilpnbejpndgpaa.X
