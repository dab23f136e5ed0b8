/- Texts of one claim, put together by merge.py: XT8, XT9, XU1, XU2, XU3, XU4, XU5, XW1, XV1. -/
import Derived.Test.YtilpnbejpndgpaaRV8
import Derived.Test.YtilpnbejpndgpaaRV6
/- SharedProgram of the program. -/
set_option linter.unusedVariables false
set_option linter.unusedSimpArgs false
set_option maxRecDepth 20000
set_option maxHeartbeats 4000000
namespace Go.Proofs.Ytilpnbejpndgpaa.X
open Go Go.RowKit

theorem zeros5u : ([.int .u32 0, .int .u32 0, .int .u32 0, .int .u32 0, .int .u32 0] : List Value) = cel .u32 (List.replicate 5 0) := rfl
theorem U_one {n : Nat} : isOne (U32 n) = true := rfl
theorem U_cells {n : Nat} : cellsL (U32 n) = [U32 n] := rfl
theorem set2_next {α : Type} {L : List α} {l j : Nat} {a b a' b' : α} (h : l ≠ j) : (((L.set l a).set j b).set l a').set j b' = (L.set l a').set j b' := by
  rw [List.set_comm b a' h.symm, List.set_set, List.set_set]
theorem get2_l {L : List (List Int)} {l j : Nat} {a b : List Int} (h : l ≠ j) (hl : l < L.length) (hj : j < L.length) : ((L.set l a).set j b).getD l [] = a := by
  rw [set_getD' (by rw [List.length_set]; exact hj), if_neg h, set_getD' hl, if_pos rfl]
theorem get2_j {L : List (List Int)} {l j : Nat} {a b : List Int} (hj : j < L.length) : ((L.set l a).set j b).getD j [] = b := by
  rw [set_getD' (by rw [List.length_set]; exact hj), if_pos rfl]
theorem get2_o {L : List (List Int)} {l j i : Nat} {a b : List Int} (h1 : i ≠ l) (h2 : i ≠ j) (hl : l < L.length) (hj : j < L.length) : ((L.set l a).set j b).getD i [] = L.getD i [] := by
  rw [set_getD' (by rw [List.length_set]; exact hj), if_neg h2, set_getD' hl, if_neg h1]

theorem i_sharedProgram {u : Value} {p n : Int} {rows : List (List Int)} {h : AH} {Q : Value → AH → Prop} (hu : Rows h u rows) (hok : lsOK p n rows = true)
    (hQ : ∀ v' w' h', h <+: h' → Way2 h' h.length v' w' (shP p n rows) → OrdB v' w' → Q (prgV (shP p n rows) v' w') h') : WF S 96 [I64 p, I64 n, u] h Q := by
  refine WF_fn (fn := c96) rfl rfl ?_
  unfold c96
  obtain ⟨hp, hn, hl, hm⟩ := lsOK_iff.1 hok
  have hp5 := isP_in hp
  obtain ⟨N, hN⟩ : ∃ N : Nat, n = N := ⟨n.toNat, by omega⟩
  have hNt : n.toNat = N := by omega
  ((try simp (maxSteps := 3000000) (dsimp := false) (disch := first | omega | (simp only [len_new, len_put, len_kill]; omega)) only [↓ypre, ypost, ↓reduceIte, Nat.reduceEqDiff, Nat.reduceAdd, Nat.reduceSub, Nat.reduceLeDiff, Nat.zero_add, Nat.sub_zero, ynew]); try simp only [yback])
  generalize hH1 : AH.new h _ = H1
  obtain ⟨hb1, p1, n1⟩ := new_facts hH1
  refine ⟨by omega, ?_⟩
  rw [hNt, zeros5u, zrep_cel]
  generalize hH2 : AH.new H1 _ = H2
  obtain ⟨hb2, p2, n2⟩ := new_facts hH2
  ((try simp (maxSteps := 3000000) (dsimp := false) (disch := first | omega | (simp only [len_new, len_put, len_kill]; omega)) only [↓ypre, ypost, ↓reduceIte, Nat.reduceEqDiff, Nat.reduceAdd, Nat.reduceSub, Nat.reduceLeDiff, Nat.zero_add, Nat.sub_zero, ynew]); try simp only [yback])
  generalize hH3 : AH.new H2 _ = H3
  obtain ⟨hb3, p3, n3⟩ := new_facts hH3
  have p23 := p2.trans p3
  obtain ⟨cs, hvS, hcsl, hrS⟩ := (hu.pre p1).stays
  have ct0 : ColT H3 H1.length true (cols0 rows N 0 0) := by
    rw [cols0_zero]
    exact ⟨pre_get p3 hb2, by rw [← cols0_zero (rows := rows)]; exact cols0_wid⟩
  have sy0 : Stay H1.length H1 H3 := Stay.of p23
  ((try simp (maxSteps := 3000000) (dsimp := false) (disch := first | omega | (simp only [len_new, len_put, len_kill]; omega)) only [↓ypre, ypost, ↓reduceIte, Nat.reduceEqDiff, Nat.reduceAdd, Nat.reduceSub, Nat.reduceLeDiff, Nat.zero_add, Nat.sub_zero, ynew, (hvS _ sy0).len, hcsl]); try simp only [yback])
  refine WC_loop_inv (fun m f K1 => ∃ (i : Nat), m = rows.length - i ∧ i ≤ rows.length ∧ f 0 = I64 p ∧ f 2 = u ∧ f 6 = .pointer (some ⟨h.length, 0, none⟩) ∧ f 7 = .pointer (some ⟨H2.length, 0, none⟩) ∧ f 8 = tv H1.length N ∧ f 29 = u ∧ f 30 = I64 rows.length ∧ f 31 = I64 i ∧ (Stay H1.length H1 K1) ∧ (ColT K1 H1.length true (cols0 rows N i 0)) ∧ (K1.get H2.length = some ⟨[I64 p, I64 n, .slice none 0 0, .slice none 0 0], 48, false, true⟩)) ?_ (rows.length - 0) _ _ ⟨0, rfl, by omega, (by first | rfl | (simp [upd_apply]; done)), (by first | rfl | (simp [upd_apply]; done)), (by first | rfl | (simp [upd_apply]; done)), (by first | rfl | (simp [upd_apply]; done)), (by first | rfl | (simp [upd_apply]; done)), (by first | rfl | (simp [upd_apply]; done)), (by first | rfl | (simp [upd_apply]; done)), (by first | rfl | (simp [upd_apply]; done)), sy0, ct0, hb3⟩
  rintro m f K1 ⟨i, rfl, hi, f0, f2, f6, f7, f8, f29, f30, f31, sy, ct, g7⟩
  by_cases hlt : (i : Int) < rows.length
  · have hi' : i < rows.length := by omega
    obtain ⟨hw, ha⟩ := isMat_iff.1 hm i hi'
    have ix := (hvS _ sy).ix (k := .i64) (j := i) (by omega) (by omega)
    have rd := (hvS _ sy).rd (j := i) (by omega) (by omega)
    have hri := hrS i hi'
    rw [Int.toNat_natCast] at rd
    generalize cs.getD i undef = rv at *
    have lnr := (hri _ sy).len
    have rlen : (rows.getD i []).length = N := by omega
    rw [rlen] at lnr
    ((try simp (maxSteps := 3000000) (dsimp := false) (disch := first | omega | (simp only [len_new, len_put, len_kill]; omega)) only [↓ypre, ypost, ↓reduceIte, Nat.reduceEqDiff, Nat.reduceAdd, Nat.reduceSub, Nat.reduceLeDiff, Nat.zero_add, Nat.sub_zero, ynew, f0, f2, f6, f7, f8, f29, f30, f31, decide_eq_true hlt, ix, rd, lnr, wrap64_in]); try simp only [yback])
    refine WC_loop_inv (fun m f K2 => ∃ (c : Nat), m = N - c ∧ c ≤ N ∧ f 0 = I64 p ∧ f 2 = u ∧ f 6 = .pointer (some ⟨h.length, 0, none⟩) ∧ f 7 = .pointer (some ⟨H2.length, 0, none⟩) ∧ f 8 = tv H1.length N ∧ f 9 = I64 i ∧ f 29 = u ∧ f 30 = I64 rows.length ∧ f 31 = I64 i ∧ f 36 = rv ∧ f 37 = I64 N ∧ f 38 = I64 c ∧ (Stay H1.length H1 K2) ∧ (ColT K2 H1.length true (cols0 rows N i c)) ∧ (K2.get H2.length = some ⟨[I64 p, I64 n, .slice none 0 0, .slice none 0 0], 48, false, true⟩)) ?_ (N - 0) _ _ ⟨0, rfl, by omega, (by first | rfl | exact f0 | (simp [upd_apply]; done)), (by first | rfl | exact f2 | (simp [upd_apply]; done)), (by first | rfl | exact f6 | (simp [upd_apply]; done)), (by first | rfl | exact f7 | (simp [upd_apply]; done)), (by first | rfl | exact f8 | (simp [upd_apply]; done)), (by first | rfl | (simp [upd_apply]; done)), (by first | rfl | exact f29 | (simp [upd_apply]; done)), (by first | rfl | exact f30 | (simp [upd_apply]; done)), (by first | rfl | exact f31 | (simp [upd_apply]; done)), (by first | rfl | (simp [upd_apply]; done)), (by first | rfl | (simp [upd_apply]; done)), (by first | rfl | (simp [upd_apply]; done)), sy, ct, g7⟩
    rintro m f K2 ⟨c, rfl, hc, f0, f2, f6, f7, f8, f9, f29, f30, f31, f36, f37, f38, sy, ct, g7⟩
    by_cases hltc : (c : Int) < N
    · have hc' : c < N := by omega
      have hx := hri _ sy
      have ixx := hx.ix (k := .i64) (j := c) (by omega) (by omega)
      have rdx := hx.rd (j := c) (by omega) (by omega)
      simp only [nth, Int.toNat_natCast] at rdx
      have tin := allIn_iff.1 ha c (by omega)
      obtain ⟨xv, hxv⟩ : ∃ xv : Nat, (rows.getD i []).getD c 0 = xv := ⟨_, (Int.toNat_of_nonneg tin.1).symm⟩
      rw [hxv] at rdx tin
      have hxt : tb rows i c = (xv : Int) := hxv
      have cl : (cols0 rows N i c).length = N := cols0_len
      have ixc : ∀ kk : IntKind, ixsV 5 (tv H1.length N) (.int kk (c : Int)) = _ := fun kk => ColT.ix hc'
      have ixa1 := ixa_u (n := H1.length) (off := c * 5) (len := 5) (kk := .i64) (j := xv) (by omega)
      have rd1 := ct.rd (c := c) (x := xv) (by omega) (by omega)
      have e1 : ((cols0 rows N i c).getD c []).getD xv 0 = ((bs rows.length (fl0 rows i c c xv) : Nat) : Int) := by
        rw [cols0_get hc']
        exact gen_get (by omega)
      rw [e1] at rd1
      have rd1 : K2.rd1 H1.length (c * 5 + xv) = some (U32 (bs rows.length (fl0 rows i c c xv))) := rd1
      have sh := bin_shl (R := rows.length) (r := i) hi' (by omega)
      have orr := bin_or (R := rows.length) (f := fl0 rows i c c xv) (g := fun k => k == i) (by omega)
      obtain ⟨H5, w5, e5, ct5⟩ := ct.wr (c := c) (x := xv) (v := ((bs rows.length (fun k => fl0 rows i c c xv k || (k == i)) : Nat) : Int)) (by omega) (by omega)
      have w5 : K2.wr H1.length (c * 5 + xv) [U32 (bs rows.length (fun k => fl0 rows i c c xv k || (k == i)))] = some H5 := w5
      rw [cols0_get hc', cols0_set hc' hi' (by omega) hxt] at ct5
      ((try simp (maxSteps := 3000000) (dsimp := false) (disch := first | omega | (simp only [len_new, len_put, len_kill]; omega)) only [↓ypre, ypost, ↓reduceIte, Nat.reduceEqDiff, Nat.reduceAdd, Nat.reduceSub, Nat.reduceLeDiff, Nat.zero_add, Nat.sub_zero, ynew, f0, f2, f6, f7, f8, f9, f29, f30, f31, f36, f37, f38, decide_eq_true hltc, ixx, rdx, ixc, ixa1, rd1, sh, orr, U_one, U_cells, w5, wrap64_in]); try simp only [yback])
      refine InvQ_go (N - (c + 1)) (by omega) ⟨(c + 1), rfl, by omega, (by first | rfl | exact f0 | (simp only [upd_apply]; rfl) | (show I64 _ = _; congr 1; omega)), (by first | rfl | exact f2 | (simp only [upd_apply]; rfl) | (show I64 _ = _; congr 1; omega)), (by first | rfl | exact f6 | (simp only [upd_apply]; rfl) | (show I64 _ = _; congr 1; omega)), (by first | rfl | exact f7 | (simp only [upd_apply]; rfl) | (show I64 _ = _; congr 1; omega)), (by first | rfl | exact f8 | (simp only [upd_apply]; rfl) | (show I64 _ = _; congr 1; omega)), (by first | rfl | exact f9 | (simp only [upd_apply]; rfl) | (show I64 _ = _; congr 1; omega)), (by first | rfl | exact f29 | (simp only [upd_apply]; rfl) | (show I64 _ = _; congr 1; omega)), (by first | rfl | exact f30 | (simp only [upd_apply]; rfl) | (show I64 _ = _; congr 1; omega)), (by first | rfl | exact f31 | (simp only [upd_apply]; rfl) | (show I64 _ = _; congr 1; omega)), (by first | rfl | exact f36 | (simp only [upd_apply]; rfl) | (show I64 _ = _; congr 1; omega)), (by first | rfl | exact f37 | (simp only [upd_apply]; rfl) | (show I64 _ = _; congr 1; omega)), (by first | rfl | exact f38 | (simp only [upd_apply]; rfl) | (show I64 _ = _; congr 1; omega)), (by rw [e5]; exact sy.put (Nat.le_refl _) (Nat.le_refl _)), ct5, (by rw [e5, get_put_ne (by omega)]; exact g7)⟩
    have ec : c = N := by omega
    subst ec
    rw [cols0_next] at ct
    ((try simp (maxSteps := 3000000) (dsimp := false) (disch := first | omega | (simp only [len_new, len_put, len_kill]; omega)) only [↓ypre, ypost, ↓reduceIte, Nat.reduceEqDiff, Nat.reduceAdd, Nat.reduceSub, Nat.reduceLeDiff, Nat.zero_add, Nat.sub_zero, ynew, f0, f2, f6, f7, f8, f9, f29, f30, f31, f36, f37, f38, decide_eq_false hltc, wrap64_in]); try simp only [yback])
    refine InvQ_go (rows.length - (i + 1)) (by omega) ⟨(i + 1), rfl, by omega, (by first | rfl | exact f0 | (simp only [upd_apply]; rfl) | (show I64 _ = _; congr 1; omega)), (by first | rfl | exact f2 | (simp only [upd_apply]; rfl) | (show I64 _ = _; congr 1; omega)), (by first | rfl | exact f6 | (simp only [upd_apply]; rfl) | (show I64 _ = _; congr 1; omega)), (by first | rfl | exact f7 | (simp only [upd_apply]; rfl) | (show I64 _ = _; congr 1; omega)), (by first | rfl | exact f8 | (simp only [upd_apply]; rfl) | (show I64 _ = _; congr 1; omega)), (by first | rfl | exact f29 | (simp only [upd_apply]; rfl) | (show I64 _ = _; congr 1; omega)), (by first | rfl | exact f30 | (simp only [upd_apply]; rfl) | (show I64 _ = _; congr 1; omega)), (by first | rfl | exact f31 | (simp only [upd_apply]; rfl) | (show I64 _ = _; congr 1; omega)), sy, ct, g7⟩
  have ei : i = rows.length := by omega
  subst ei
  ((try simp (maxSteps := 3000000) (dsimp := false) (disch := first | omega | (simp only [len_new, len_put, len_kill]; omega)) only [↓ypre, ypost, ↓reduceIte, Nat.reduceEqDiff, Nat.reduceAdd, Nat.reduceSub, Nat.reduceLeDiff, Nat.zero_add, Nat.sub_zero, ynew, f0, f2, f6, f7, f8, f29, f30, f31, decide_eq_false hlt]); try simp only [yback])
  have si0 := ShI.start hok
  rw [hNt] at si0
  have hcl0 : (cols0 rows N rows.length 0).length = N + ([] : List (List Int)).length := cols0_len
  have hc0 : ∀ i, i < N + ([] : List (List Int)).length → Col rows i ((cols0 rows N rows.length 0).getD i []) := fun i hi => cols0_col hi
  have pp1 : H1 <+: K1 := sy.pre _ (Nat.le_refl _) (List.prefix_refl _)
  have nz0 : nzT rows = nzT rows - 0 := rfl
  have wv0 : WayX (96) .i64 3 K1 H1.length [] (.slice none 0 0) ([] : List (List Int)) := ⟨fun r hr => by simp at hr, .inl ⟨rfl, rfl⟩⟩
  refine WC_loop_inv (fun m f K3 => ∃ (d : Nat) (s : SS) (sv : Value) (nb : Nat) (fl : Bool) (cols : List (List Int)), m = ((nzT rows)) - d ∧ d ≤ ((nzT rows)) ∧ f 0 = I64 p ∧ f 2 = u ∧ f 6 = .pointer (some ⟨h.length, 0, none⟩) ∧ f 7 = .pointer (some ⟨H2.length, 0, none⟩) ∧ f 8 = tv nb (N + s.st.length) ∧ (nzT s.T = nzT rows - d) ∧ (ShI p N rows s) ∧ (H1 <+: K3) ∧ (H1.length ≤ nb) ∧ (ColT K3 nb fl cols) ∧ (cols.length = N + s.st.length) ∧ (∀ i, i < N + s.st.length → Col s.T i (cols.getD i [])) ∧ (WayX (96) .i64 3 K3 H1.length [] sv s.st) ∧ (K3.get H2.length = some ⟨[I64 p, I64 n, sv, .slice none 0 0], 48, false, true⟩)) ?_ (((nzT rows)) - 0) _ _ ⟨0, ⟨rows, []⟩, .slice none 0 0, H1.length, true, cols0 rows N rows.length 0, rfl, by omega, (by first | rfl | exact f0 | (simp [upd_apply]; done)), (by first | rfl | exact f2 | (simp [upd_apply]; done)), (by first | rfl | exact f6 | (simp [upd_apply]; done)), (by first | rfl | exact f7 | (simp [upd_apply]; done)), (by first | rfl | exact f8 | (simp [upd_apply]; done)), nz0, si0, pp1, Nat.le_refl _, ct, hcl0, hc0, wv0, g7⟩
  rintro m f K3 ⟨d, s, sv, nb, fl, cols, rfl, hd, f0, f2, f6, f7, f8, hz, si, pp, lnb, ct, hcl, hcol, wv, g7⟩
  have nzb := si.nz
  have hT1 : 1 ≤ s.T.length := by rw [si.len]; omega
  have hT30 : s.T.length ≤ 30 := by rw [si.len]; omega
  have elsK := ct.els
  rw [hcl] at elsK
  ((try simp (maxSteps := 3000000) (dsimp := false) (disch := first | omega | (simp only [len_new, len_put, len_kill]; omega)) only [↓ypre, ypost, ↓reduceIte, Nat.reduceEqDiff, Nat.reduceAdd, Nat.reduceSub, Nat.reduceLeDiff, Nat.zero_add, Nat.sub_zero, ynew, f0, f2, f6, f7, f8]); try simp only [yback])
  refine i_mostRows elsK hcl hcol hp si.gt ⟨hT1, hT30⟩ (by omega) fun H6 p6 => ?_
  ((try simp (maxSteps := 3000000) (dsimp := false) (disch := first | omega | (simp only [len_new, len_put, len_kill]; omega)) only [↓ypre, ypost, ↓reduceIte, Nat.reduceEqDiff, Nat.reduceAdd, Nat.reduceSub, Nat.reduceLeDiff, Nat.zero_add, Nat.sub_zero, ynew, f0, f2, f6, f7, f8, wrap64_in]); try simp only [yback])
  generalize hH7 : AH.new H6 _ = H7
  obtain ⟨hb7, p7, n7⟩ := new_facts hH7
  have p67 := p6.trans p7
  have k6 := pre_len p6
  by_cases hbm : (1 : Int) < ((bst p s.T).m : Int)
  case neg =>
    have es := si.stop (by omega)
    have pp7 := pp.trans p67
    have hu7 := hu.pre (p1.trans pp7)
    ((try simp (maxSteps := 3000000) (dsimp := false) (disch := first | omega | (simp only [len_new, len_put, len_kill]; omega)) only [↓ypre, ypost, ↓reduceIte, Nat.reduceEqDiff, Nat.reduceAdd, Nat.reduceSub, Nat.reduceLeDiff, Nat.zero_add, Nat.sub_zero, ynew, f0, f2, f6, f7, f8, decide_eq_false hbm, rd1_new_lt]); try simp only [yback])
    generalize hHA : AH.new H7 _ = HA
    obtain ⟨hbA, pA, nA⟩ := new_facts hHA
    have p6A := p67.trans pA
    have huA := hu7.pre pA
    ((try simp (maxSteps := 3000000) (dsimp := false) (disch := first | omega | (simp only [len_new, len_put, len_kill]; omega)) only [↓ypre, ypost, ↓reduceIte, Nat.reduceEqDiff, Nat.reduceAdd, Nat.reduceSub, Nat.reduceLeDiff, Nat.zero_add, Nat.sub_zero, ynew, f0, f2, f6, f7, f8, huA.len]); try simp only [yback])
    have ctA := ct.pre p6A
    have g7A := pre_get p6A g7
    have wvA := wv.pre p6A
    have gT := si.gt
    have sl' := si.len
    have hp1A := pp7.trans pA
    have eSP : shP p n rows = finP ⟨p, n, s.st, []⟩ s.T s.T.length := by unfold shP; rw [← es]
    rw [eSP] at hQ
    generalize hTT : s.T = T at *
    generalize hst : s.st = st0 at *
    obtain ⟨W, hW⟩ : ∃ W, W = N + st0.length := ⟨_, rfl⟩
    rw [← hW] at f8 hcl hcol gT
    have tl0 : TabL HA H1.length H7.length true [] := ⟨hbA, by have := pre_len pp7; omega, fun i hi => by simp at hi, fun a b ha => by simp at ha⟩
    have k7 := pre_len pp7
    refine WC_loop_inv (fun m f K4 => ∃ (i : Nat) (nr : Nat) (fr : Bool) (L : List (Nat × List Int)), m = rows.length - i ∧ i ≤ rows.length ∧ f 0 = I64 p ∧ f 6 = .pointer (some ⟨h.length, 0, none⟩) ∧ f 7 = .pointer (some ⟨H2.length, 0, none⟩) ∧ f 8 = tv nb W ∧ f 18 = sl nr L.length ∧ f 134 = u ∧ f 135 = I64 rows.length ∧ f 136 = I64 i ∧ (StayT H1.length HA K4) ∧ (TabL K4 H1.length nr fr L) ∧ (L.map Prod.snd = T.take i)) ?_ (rows.length - 0) _ _ ⟨0, H7.length, true, [], rfl, by omega, (by first | rfl | exact f0 | (simp [upd_apply]; done)), (by first | rfl | exact f6 | (simp [upd_apply]; done)), (by first | rfl | exact f7 | (simp [upd_apply]; done)), (by first | rfl | exact f8 | (simp [upd_apply]; done)), (by first | rfl | (simp [upd_apply]; done)), (by first | rfl | (simp [upd_apply]; done)), (by first | rfl | (simp [upd_apply]; done)), (by first | rfl | (simp [upd_apply]; done)), StayT.refl, tl0, (by simp)⟩
    rintro m f K4 ⟨i, nr, fr, L, rfl, hi, f0, f6, f7, f8, f18, f134, f135, f136, sy, tl, hL⟩
    have hLl : L.length = i := by
      have := congrArg List.length hL
      rw [List.length_map, List.length_take] at this
      omega
    have sl4 := sy.len
    by_cases hlt : (i : Int) < rows.length
    · have hi' : i < rows.length := by omega
      have hiT : i < T.length := by omega
      obtain ⟨gw, gi⟩ := gT i hiT
      ((try simp (maxSteps := 3000000) (dsimp := false) (disch := first | omega | (simp only [len_new, len_put, len_kill]; omega)) only [↓ypre, ypost, ↓reduceIte, Nat.reduceEqDiff, Nat.reduceAdd, Nat.reduceSub, Nat.reduceLeDiff, Nat.zero_add, Nat.sub_zero, ynew, f0, f6, f7, f8, f18, f134, f135, f136, decide_eq_true hlt, show lenV (tv nb W) = some (I64 W) from rfl, wrap64_in]); try simp only [yback])
      refine ⟨by omega, ?_⟩
      rw [Int.toNat_natCast, zrep_ints]
      generalize hHB : AH.new K4 _ = HB
      obtain ⟨hbB, pB, nB⟩ := new_facts hHB
      have ls0 : Lst HB K4.length (gen W fun y => if y < 0 then tb T i y else 0) true := by
        have e : gen W (fun y => if y < 0 then tb T i y else 0) = List.replicate W 0 := (gen_ext (by simp) fun y hy => by simp [List.getD_eq_getElem?_getD, List.getElem?_replicate, hy]).symm
        rw [e]
        exact hbB
      rw [show Value.slice (some ⟨K4.length, 0, none⟩) W 1 = sl K4.length W from rfl]
      ((try simp (maxSteps := 3000000) (dsimp := false) (disch := first | omega | (simp only [len_new, len_put, len_kill]; omega)) only [↓ypre, ypost, ↓reduceIte, Nat.reduceEqDiff, Nat.reduceAdd, Nat.reduceSub, Nat.reduceLeDiff, Nat.zero_add, Nat.sub_zero, ynew, f0, f6, f7, f8, f18, f134, f135, f136, show lenV (tv nb W) = some (I64 W) from rfl]); try simp only [yback])
      refine WC_loop_inv (fun m f K5 => ∃ (c : Nat), m = W - c ∧ c ≤ W ∧ f 0 = I64 p ∧ f 6 = .pointer (some ⟨h.length, 0, none⟩) ∧ f 7 = .pointer (some ⟨H2.length, 0, none⟩) ∧ f 8 = tv nb W ∧ f 18 = sl nr L.length ∧ f 19 = I64 i ∧ f 20 = sl K4.length W ∧ f 134 = u ∧ f 135 = I64 rows.length ∧ f 136 = I64 i ∧ f 142 = tv nb W ∧ f 143 = I64 W ∧ f 144 = I64 c ∧ (K4 <+: K5) ∧ (Lst K5 K4.length (gen W fun y => if y < c then tb T i y else 0) true)) ?_ (W - 0) _ _ ⟨0, rfl, by omega, (by first | rfl | exact f0 | (simp [upd_apply]; done)), (by first | rfl | exact f6 | (simp [upd_apply]; done)), (by first | rfl | exact f7 | (simp [upd_apply]; done)), (by first | rfl | exact f8 | (simp [upd_apply]; done)), (by first | rfl | exact f18 | (simp [upd_apply]; done)), (by first | rfl | (simp [upd_apply]; done)), (by first | rfl | (simp [upd_apply]; done)), (by first | rfl | exact f134 | (simp [upd_apply]; done)), (by first | rfl | exact f135 | (simp [upd_apply]; done)), (by first | rfl | exact f136 | (simp [upd_apply]; done)), (by first | rfl | (simp [upd_apply]; done)), (by first | rfl | (simp [upd_apply]; done)), (by first | rfl | (simp [upd_apply]; done)), pB, ls0⟩
      rintro m f K5 ⟨c, rfl, hc, f0, f6, f7, f8, f18, f19, f20, f134, f135, f136, f142, f143, f144, pp, ls⟩
      by_cases hltc : (c : Int) < W
      · have hcW : c < W := by omega
        have ct5 : ColT K5 nb fl cols := ⟨pre_get pp (sy.get _ _ ctA.g (by simp) (by simp)), ctA.wid⟩
        have rnc := ct5.rdn (c := c) (by omega)
        have cq := hcol c hcW
        have wq := cq.1
        have tcb := gi c hcW
        generalize cols.getD c [] = q at *
        have ixc : ∀ kk : IntKind, ixsV 5 (tv nb W) (.int kk (c : Int)) = _ := fun kk => ColT.ix hcW
        have w1 : ∀ (h1 : AH) (e : TypeId), (h1.new ⟨cel .u32 (List.replicate 5 0), e, false, true⟩).wr h1.length 0 (cel .u32 q) = some (h1.new ⟨cel .u32 q, e, false, true⟩) := fun h1 e => wr_all (by rw [cel_len, cel_len, wq]; rfl)
        ((try simp (maxSteps := 3000000) (dsimp := false) (disch := first | omega | (simp only [len_new, len_put, len_kill]; omega)) only [↓ypre, ypost, ↓reduceIte, Nat.reduceEqDiff, Nat.reduceAdd, Nat.reduceSub, Nat.reduceLeDiff, Nat.zero_add, Nat.sub_zero, ynew, f0, f6, f7, f8, f18, f19, f20, f134, f135, f136, f142, f143, f144, decide_eq_true hltc, ixc, rnc, cel_all, cellsL_cel, cel_len, wq, ↓w1, wrap64_in]); try simp only [yback])
        generalize hHC : AH.new K5 _ = HC
        obtain ⟨hbC, pC, nC⟩ := new_facts hHC
        have lsC : Lst HC K4.length (gen W fun z => if z < c then tb T i z else if z = c ∧ 1 ≤ tb T i c ∧ tb T i c ≤ ((0 : Nat) : Int) then tb T i c else 0) true := by
          have e : gen W (fun z => if z < c then tb T i z else if z = c ∧ 1 ≤ tb T i c ∧ tb T i c ≤ ((0 : Nat) : Int) then tb T i c else 0) = gen W (fun y => if y < c then tb T i y else 0) := gen_congr fun z hz => by
            by_cases h1 : z < c
            · rw [if_pos h1, if_pos h1]
            · rw [if_neg h1, if_neg h1, if_neg (by omega)]
          rw [e]
          exact ls.pre pC
        refine WC_loop_inv (fun m f K6 => ∃ (y : Nat), m = ((p.toNat - 1)) - y ∧ y ≤ ((p.toNat - 1)) ∧ f 0 = I64 p ∧ f 6 = .pointer (some ⟨h.length, 0, none⟩) ∧ f 7 = .pointer (some ⟨H2.length, 0, none⟩) ∧ f 8 = tv nb W ∧ f 18 = sl nr L.length ∧ f 19 = I64 i ∧ f 20 = sl K4.length W ∧ f 21 = I64 c ∧ f 22 = .pointer (some ⟨K5.length, 0, none⟩) ∧ f 23 = I64 ((y : Int) + 1) ∧ f 134 = u ∧ f 135 = I64 rows.length ∧ f 136 = I64 i ∧ f 142 = tv nb W ∧ f 143 = I64 W ∧ f 144 = I64 c ∧ (K4 <+: K6) ∧ (Lst K6 K4.length (gen W fun z => if z < c then tb T i z else if z = c ∧ 1 ≤ tb T i c ∧ tb T i c ≤ (y : Int) then tb T i c else 0) true) ∧ (K6.get K5.length = some ⟨cel .u32 q, 144, false, true⟩)) ?_ (((p.toNat - 1)) - 0) _ _ ⟨0, rfl, by omega, (by first | rfl | exact f0 | (simp [upd_apply]; done)), (by first | rfl | exact f6 | (simp [upd_apply]; done)), (by first | rfl | exact f7 | (simp [upd_apply]; done)), (by first | rfl | exact f8 | (simp [upd_apply]; done)), (by first | rfl | exact f18 | (simp [upd_apply]; done)), (by first | rfl | exact f19 | (simp [upd_apply]; done)), (by first | rfl | exact f20 | (simp [upd_apply]; done)), (by first | rfl | (simp [upd_apply]; done)), (by first | rfl | (simp [upd_apply]; done)), (by first | rfl | (simp [upd_apply]; done)), (by first | rfl | exact f134 | (simp [upd_apply]; done)), (by first | rfl | exact f135 | (simp [upd_apply]; done)), (by first | rfl | exact f136 | (simp [upd_apply]; done)), (by first | rfl | exact f142 | (simp [upd_apply]; done)), (by first | rfl | exact f143 | (simp [upd_apply]; done)), (by first | rfl | exact f144 | (simp [upd_apply]; done)), pp.trans pC, lsC, hbC⟩
        rintro m f K6 ⟨y, rfl, hy, f0, f6, f7, f8, f18, f19, f20, f21, f22, f23, f134, f135, f136, f142, f143, f144, pp, ls, gC⟩
        by_cases hlty : (y : Int) + 1 < p
        · have eI : (y : Int) + 1 = ((y + 1 : Nat) : Int) := by omega
          rw [eI] at f23
          have ra := cq.at (x := y + 1) (by omega)
          have ixA := ixa_u (n := K5.length) (off := 0) (len := 5) (kk := .i64) (j := y + 1) (by omega)
          rw [Nat.zero_add] at ixA
          obtain ⟨pk1, pk2⟩ := bin_pick (R := T.length) (f := fun k => decide (tb T k c = ((y + 1 : Nat) : Int))) (r := i) (by omega) hiT
          by_cases e : tb T i c = ((y + 1 : Nat) : Int)
          · rw [if_pos (decide_eq_true e)] at pk2
            have ixl := Lst.ix (n := K4.length) (j := (c : Int)) (len := W) (by omega)
            rw [Int.toNat_natCast] at ixl
            obtain ⟨H9, w9, e9, l9⟩ := ls.wr (j := c) (x := ((y + 1 : Nat) : Int)) (by rw [gen_len]; exact hcW)
            have eL : (gen W fun z => if z < c then tb T i z else if z = c ∧ 1 ≤ tb T i c ∧ tb T i c ≤ (y : Int) then tb T i c else 0).set c ((y + 1 : Nat) : Int) = gen W fun z => if z < c then tb T i z else if z = c ∧ 1 ≤ tb T i c ∧ tb T i c ≤ ((y + 1 : Nat) : Int) then tb T i c else 0 := gen_ext (by rw [List.length_set, gen_len]) fun z hz => by
              rw [set_getD (by rw [gen_len]; exact hcW)]
              by_cases h1 : z = c
              · subst h1
                rw [if_pos rfl, if_neg (by omega), if_pos ⟨rfl, by omega, by omega⟩, e]
              · rw [if_neg h1, gen_get hz]
                by_cases h2 : z < c
                · rw [if_pos h2, if_pos h2]
                · rw [if_neg h2, if_neg h2, if_neg (by omega), if_neg (by omega)]
            rw [eL] at l9
            ((try simp (maxSteps := 3000000) (dsimp := false) (disch := first | omega | (simp only [len_new, len_put, len_kill]; omega)) only [↓ypre, ypost, ↓reduceIte, Nat.reduceEqDiff, Nat.reduceAdd, Nat.reduceSub, Nat.reduceLeDiff, Nat.zero_add, Nat.sub_zero, ynew, f0, f6, f7, f8, f18, f19, f20, f21, f22, f23, f134, f135, f136, f142, f143, f144, decide_eq_true (show ((y + 1 : Nat) : Int) < p by omega), ixA, rd1_of gC, ra, pk1, pk2, decide_eq_true (show (1 : Int) = 1 from rfl), ixl, w9, wrap64_in]); try simp only [yback])
            refine InvQ_go (((p.toNat - 1)) - (y + 1)) (by omega) ⟨(y + 1), rfl, by omega, (by first | rfl | exact f0 | (simp only [upd_apply]; rfl) | (show I64 _ = _; congr 1; omega)), (by first | rfl | exact f6 | (simp only [upd_apply]; rfl) | (show I64 _ = _; congr 1; omega)), (by first | rfl | exact f7 | (simp only [upd_apply]; rfl) | (show I64 _ = _; congr 1; omega)), (by first | rfl | exact f8 | (simp only [upd_apply]; rfl) | (show I64 _ = _; congr 1; omega)), (by first | rfl | exact f18 | (simp only [upd_apply]; rfl) | (show I64 _ = _; congr 1; omega)), (by first | rfl | exact f19 | (simp only [upd_apply]; rfl) | (show I64 _ = _; congr 1; omega)), (by first | rfl | exact f20 | (simp only [upd_apply]; rfl) | (show I64 _ = _; congr 1; omega)), (by first | rfl | exact f21 | (simp only [upd_apply]; rfl) | (show I64 _ = _; congr 1; omega)), (by first | rfl | exact f22 | (simp only [upd_apply]; rfl) | (show I64 _ = _; congr 1; omega)), (by show I64 _ = I64 _; congr 1), (by first | rfl | exact f134 | (simp only [upd_apply]; rfl) | (show I64 _ = _; congr 1; omega)), (by first | rfl | exact f135 | (simp only [upd_apply]; rfl) | (show I64 _ = _; congr 1; omega)), (by first | rfl | exact f136 | (simp only [upd_apply]; rfl) | (show I64 _ = _; congr 1; omega)), (by first | rfl | exact f142 | (simp only [upd_apply]; rfl) | (show I64 _ = _; congr 1; omega)), (by first | rfl | exact f143 | (simp only [upd_apply]; rfl) | (show I64 _ = _; congr 1; omega)), (by first | rfl | exact f144 | (simp only [upd_apply]; rfl) | (show I64 _ = _; congr 1; omega)), (by rw [e9]; exact pre_put pp (Nat.le_refl _)), l9, (by rw [e9, get_put_ne (by have := pre_len (show K4 <+: K5 from by assumption); have := (show Lst K5 K4.length _ true from by assumption).lt; omega)]; exact gC)⟩
          · have ef : (if decide (tb T i c = ((y + 1 : Nat) : Int)) = true then (1 : Int) else 0) = 0 := by rw [decide_eq_false e]; rfl
            rw [ef] at pk2
            have eL : (gen W fun z => if z < c then tb T i z else if z = c ∧ 1 ≤ tb T i c ∧ tb T i c ≤ (y : Int) then tb T i c else 0) = gen W fun z => if z < c then tb T i z else if z = c ∧ 1 ≤ tb T i c ∧ tb T i c ≤ ((y + 1 : Nat) : Int) then tb T i c else 0 := gen_congr fun z hz => by
              by_cases h2 : z < c
              · rw [if_pos h2, if_pos h2]
              · rw [if_neg h2, if_neg h2]
                by_cases h3 : z = c ∧ 1 ≤ tb T i c ∧ tb T i c ≤ (y : Int)
                · rw [if_pos h3, if_pos (by omega)]
                · rw [if_neg h3, if_neg (by omega)]
            rw [eL] at ls
            ((try simp (maxSteps := 3000000) (dsimp := false) (disch := first | omega | (simp only [len_new, len_put, len_kill]; omega)) only [↓ypre, ypost, ↓reduceIte, Nat.reduceEqDiff, Nat.reduceAdd, Nat.reduceSub, Nat.reduceLeDiff, Nat.zero_add, Nat.sub_zero, ynew, f0, f6, f7, f8, f18, f19, f20, f21, f22, f23, f134, f135, f136, f142, f143, f144, decide_eq_true (show ((y + 1 : Nat) : Int) < p by omega), ixA, rd1_of gC, ra, pk1, pk2, decide_eq_false (show ¬ (0 : Int) = 1 by decide), wrap64_in]); try simp only [yback])
            refine InvQ_go (((p.toNat - 1)) - (y + 1)) (by omega) ⟨(y + 1), rfl, by omega, (by first | rfl | exact f0 | (simp only [upd_apply]; rfl) | (show I64 _ = _; congr 1; omega)), (by first | rfl | exact f6 | (simp only [upd_apply]; rfl) | (show I64 _ = _; congr 1; omega)), (by first | rfl | exact f7 | (simp only [upd_apply]; rfl) | (show I64 _ = _; congr 1; omega)), (by first | rfl | exact f8 | (simp only [upd_apply]; rfl) | (show I64 _ = _; congr 1; omega)), (by first | rfl | exact f18 | (simp only [upd_apply]; rfl) | (show I64 _ = _; congr 1; omega)), (by first | rfl | exact f19 | (simp only [upd_apply]; rfl) | (show I64 _ = _; congr 1; omega)), (by first | rfl | exact f20 | (simp only [upd_apply]; rfl) | (show I64 _ = _; congr 1; omega)), (by first | rfl | exact f21 | (simp only [upd_apply]; rfl) | (show I64 _ = _; congr 1; omega)), (by first | rfl | exact f22 | (simp only [upd_apply]; rfl) | (show I64 _ = _; congr 1; omega)), (by show I64 _ = I64 _; congr 1), (by first | rfl | exact f134 | (simp only [upd_apply]; rfl) | (show I64 _ = _; congr 1; omega)), (by first | rfl | exact f135 | (simp only [upd_apply]; rfl) | (show I64 _ = _; congr 1; omega)), (by first | rfl | exact f136 | (simp only [upd_apply]; rfl) | (show I64 _ = _; congr 1; omega)), (by first | rfl | exact f142 | (simp only [upd_apply]; rfl) | (show I64 _ = _; congr 1; omega)), (by first | rfl | exact f143 | (simp only [upd_apply]; rfl) | (show I64 _ = _; congr 1; omega)), (by first | rfl | exact f144 | (simp only [upd_apply]; rfl) | (show I64 _ = _; congr 1; omega)), pp, ls, gC⟩
        have ey : y = p.toNat - 1 := by omega
        subst ey
        have eL : (gen W fun z => if z < c then tb T i z else if z = c ∧ 1 ≤ tb T i c ∧ tb T i c ≤ ((p.toNat - 1 : Nat) : Int) then tb T i c else 0) = gen W fun z => if z < c + 1 then tb T i z else 0 := gen_congr fun z hz => by
          by_cases h2 : z < c
          · rw [if_pos h2, if_pos (by omega)]
          · rw [if_neg h2]
            by_cases h3 : z = c
            · subst h3
              rw [if_pos (show z < z + 1 by omega)]
              by_cases h4 : tb T i z = 0
              · rw [if_neg (by omega), h4]
              · rw [if_pos ⟨rfl, by omega, by omega⟩]
            · rw [if_neg (by omega), if_neg (by omega)]
        rw [eL] at ls
        ((try simp (maxSteps := 3000000) (dsimp := false) (disch := first | omega | (simp only [len_new, len_put, len_kill]; omega)) only [↓ypre, ypost, ↓reduceIte, Nat.reduceEqDiff, Nat.reduceAdd, Nat.reduceSub, Nat.reduceLeDiff, Nat.zero_add, Nat.sub_zero, ynew, f0, f6, f7, f8, f18, f19, f20, f21, f22, f23, f134, f135, f136, f142, f143, f144, decide_eq_false hlty, wrap64_in]); try simp only [yback])
        refine InvQ_go (W - (c + 1)) (by omega) ⟨(c + 1), rfl, by omega, (by first | rfl | exact f0 | (simp only [upd_apply]; rfl) | (show I64 _ = _; congr 1; omega)), (by first | rfl | exact f6 | (simp only [upd_apply]; rfl) | (show I64 _ = _; congr 1; omega)), (by first | rfl | exact f7 | (simp only [upd_apply]; rfl) | (show I64 _ = _; congr 1; omega)), (by first | rfl | exact f8 | (simp only [upd_apply]; rfl) | (show I64 _ = _; congr 1; omega)), (by first | rfl | exact f18 | (simp only [upd_apply]; rfl) | (show I64 _ = _; congr 1; omega)), (by first | rfl | exact f19 | (simp only [upd_apply]; rfl) | (show I64 _ = _; congr 1; omega)), (by first | rfl | exact f20 | (simp only [upd_apply]; rfl) | (show I64 _ = _; congr 1; omega)), (by first | rfl | exact f134 | (simp only [upd_apply]; rfl) | (show I64 _ = _; congr 1; omega)), (by first | rfl | exact f135 | (simp only [upd_apply]; rfl) | (show I64 _ = _; congr 1; omega)), (by first | rfl | exact f136 | (simp only [upd_apply]; rfl) | (show I64 _ = _; congr 1; omega)), (by first | rfl | exact f142 | (simp only [upd_apply]; rfl) | (show I64 _ = _; congr 1; omega)), (by first | rfl | exact f143 | (simp only [upd_apply]; rfl) | (show I64 _ = _; congr 1; omega)), (by first | rfl | exact f144 | (simp only [upd_apply]; rfl) | (show I64 _ = _; congr 1; omega)), pp, ls⟩
      have ec : c = W := by omega
      subst ec
      have eT' : (gen c fun y => if y < c then tb T i y else 0) = T.getD i [] := (gen_ext gw fun z hz => by rw [if_pos hz]; rfl).symm
      rw [eT'] at ls
      have pK5 := pre_len pp
      ((try simp (maxSteps := 3000000) (dsimp := false) (disch := first | omega | (simp only [len_new, len_put, len_kill]; omega)) only [↓ypre, ypost, ↓reduceIte, Nat.reduceEqDiff, Nat.reduceAdd, Nat.reduceSub, Nat.reduceLeDiff, Nat.zero_add, Nat.sub_zero, ynew, f0, f6, f7, f8, f18, f19, f20, f134, f135, f136, f142, f143, f144, decide_eq_false hltc, sl_cells, sl_one]); try simp only [yback])
      rw [← gw]
      have tl5 := tl.pre pp
      refine tl5.app (by omega) (fun j hj => by
        obtain ⟨fu, o⟩ := (tl.rows j hj).2
        have := o.lt
        omega) ls (by omega) (by omega) fun H9 l9 tl9 keep9 pre9 => ?_
      have st9 : StayT H1.length K5 H9 := ⟨by omega, fun h0 hh q => pre9 h0 (Nat.le_trans hh tl.low) q, fun m' b' g q1 q2 => keep9 m' b' (fun e => by
        have g3 := tl5.g
        rw [e, g3] at g
        cases g
        exact q2 rfl) g⟩
      ((try simp (maxSteps := 3000000) (dsimp := false) (disch := first | omega | (simp only [len_new, len_put, len_kill]; omega)) only [↓ypre, ypost, ↓reduceIte, Nat.reduceEqDiff, Nat.reduceAdd, Nat.reduceSub, Nat.reduceLeDiff, Nat.zero_add, Nat.sub_zero, ynew, f0, f6, f7, f8, f18, f19, f20, f134, f135, f136, f142, f143, f144, wrap64_in]); try simp only [yback])
      refine InvQ_go (rows.length - (i + 1)) (by omega) ⟨(i + 1), (K5.length + 1), false, (L ++ [(K4.length, T.getD i [])]), rfl, by omega, (by first | rfl | exact f0 | (simp only [upd_apply]; rfl) | (show I64 _ = _; congr 1; omega)), (by first | rfl | exact f6 | (simp only [upd_apply]; rfl) | (show I64 _ = _; congr 1; omega)), (by first | rfl | exact f7 | (simp only [upd_apply]; rfl) | (show I64 _ = _; congr 1; omega)), (by rw [gw]; exact f8), (by first | rfl | exact f18 | (simp only [upd_apply]; rfl) | (show I64 _ = _; congr 1; omega)), (by first | rfl | exact f134 | (simp only [upd_apply]; rfl) | (show I64 _ = _; congr 1; omega)), (by first | rfl | exact f135 | (simp only [upd_apply]; rfl) | (show I64 _ = _; congr 1; omega)), (by first | rfl | exact f136 | (simp only [upd_apply]; rfl) | (show I64 _ = _; congr 1; omega)), (sy.trans ((StayT.of pp).trans st9)), tl9, (by rw [List.map_append, hL, take_next (d := []) hiT]; rfl)⟩
    have ei : i = rows.length := by omega
    subst ei
    rw [← sl', List.take_of_length_le (Nat.le_refl _)] at hL
    have g7K := sy.get _ _ g7A (by simp) (by simp)
    ((try simp (maxSteps := 3000000) (dsimp := false) (disch := first | omega | (simp only [len_new, len_put, len_kill]; omega)) only [↓ypre, ypost, ↓reduceIte, Nat.reduceEqDiff, Nat.reduceAdd, Nat.reduceSub, Nat.reduceLeDiff, Nat.zero_add, Nat.sub_zero, ynew, f0, f6, f7, f8, f18, f134, f135, f136, decide_eq_false hlt, rdn_of g7K]); try simp only [yback])
    have hrs := tl.rowsS
    rw [hL] at hrs
    have o0 : Way2 K4 H1.length sv (.slice none 0 0) ⟨p, n, st0, []⟩ := ⟨wvA.keep fun m' c' f' _ _ g => sy.get _ _ g (by simp) (by simp), ⟨fun r hr => by simp at hr, .inl ⟨rfl, rfl⟩⟩⟩
    rw [show Value.agg #[I64 p, I64 n, sv, .slice none 0 0] = prgV ⟨p, n, st0, []⟩ sv (.slice none 0 0) from rfl]
    have kA := pre_len hp1A
    refine i_finished hp hn o0 (by omega) hrs (fun i hi => by
      obtain ⟨q1, q2⟩ := gT i hi
      exact ⟨allIn_iff.2 fun j hj => q2 j (by omega), by omega⟩) (by omega) (by show st0.length ≤ 100000; omega) (by simp) fun v' w' H' sy' o' ob' => ?_
    have pH : H1 <+: H' := sy'.pre _ (Nat.le_refl _) (sy.pre _ (Nat.le_refl _) hp1A)
    have g6 := pre_get pH hb1
    have lt6 := get_lt g6
    obtain ⟨ep, en, _, _⟩ := finP_facts (x := ⟨p, n, st0, []⟩) (rows := T) (N := 10000) hp (fun i hi => by
      obtain ⟨q1, q2⟩ := gT i hi
      exact ⟨allIn_iff.2 fun j hj => q2 j (by omega), by omega⟩) hn (i := T.length) (Nat.le_refl _)
    ((try simp (maxSteps := 3000000) (dsimp := false) (disch := first | omega | (simp only [len_new, len_put, len_kill]; omega)) only [↓ypre, ypost, ↓reduceIte, Nat.reduceEqDiff, Nat.reduceAdd, Nat.reduceSub, Nat.reduceLeDiff, Nat.zero_add, Nat.sub_zero, ynew, f0, f6, f7, f8, f18, f134, f135, f136, prgV, o'.st.one, o'.st.cells, o'.out.one, o'.out.cells, wr_of g6]); try simp only [yback])
    have := hQ v' w' _ (pre_put (b := ⟨[I64 (finP ⟨p, n, st0, []⟩ T T.length).p, I64 (finP ⟨p, n, st0, []⟩ T T.length).n, v', w'], 48, false, true⟩) (p1.trans pH) (Nat.le_refl _)) ⟨(o'.st.put_ty g6 (by simp)).mlo (by omega), (o'.out.put_ty g6 (by simp)).mlo (by omega)⟩ (ob' (by omega))
    unfold prgV at this
    exact this
  obtain ⟨b1, b2, b3, b4, _⟩ := bst_ok hp si.gt hT1 (by omega)
  have sg := si.go hp (by omega) (by omega)
  have est : (stepS p s).st = s.st ++ [[((bst p s.T).l : Int), ((bst p s.T).j : Int), ((bst p s.T).r : Int)]] := rfl
  have eT : (stepS p s).T = mvT p (bst p s.T) s.T := rfl
  generalize hbb : bst p s.T = bb at *
  have ct7 := ct.pre p67
  have ixl : ∀ kk : IntKind, ixsV 5 (tv nb (N + s.st.length)) (.int kk (bb.l : Int)) = _ := fun kk => ColT.ix (by omega)
  have ixj : ∀ kk : IntKind, ixsV 5 (tv nb (N + s.st.length)) (.int kk (bb.j : Int)) = _ := fun kk => ColT.ix (by omega)
  have rnl := ct7.rdn (c := bb.l) (by omega)
  have rnj := ct7.rdn (c := bb.j) (by omega)
  have ca := hcol bb.l (by omega)
  have cb := hcol bb.j (by omega)
  generalize hqa : cols.getD bb.l [] = qa at *
  generalize hqb : cols.getD bb.j [] = qb at *
  ((try simp (maxSteps := 3000000) (dsimp := false) (disch := first | omega | (simp only [len_new, len_put, len_kill]; omega)) only [↓ypre, ypost, ↓reduceIte, Nat.reduceEqDiff, Nat.reduceAdd, Nat.reduceSub, Nat.reduceLeDiff, Nat.zero_add, Nat.sub_zero, ynew, f0, f2, f6, f7, f8, decide_eq_true hbm, rd1_of hb7, ixl, rnl, ixj, rnj]); try simp only [yback])
  refine i_rowsWith (qa := qa) (qb := qb) hp si.gt hT30 (i := bb.l) (j := bb.j) (by omega) (by omega) ca cb ⟨b3, b4⟩ fun H8 p8 => ?_
  ((try simp (maxSteps := 3000000) (dsimp := false) (disch := first | omega | (simp only [len_new, len_put, len_kill]; omega)) only [↓ypre, ypost, ↓reduceIte, Nat.reduceEqDiff, Nat.reduceAdd, Nat.reduceSub, Nat.reduceLeDiff, Nat.zero_add, Nat.sub_zero, ynew, f0, f2, f6, f7, f8, cel_all, cel_len, List.length_replicate, cellsL_cel]); try simp only [yback])
  generalize hH9 : AH.new H8 _ = H9
  obtain ⟨hb9, p9, n9⟩ := new_facts hH9
  have p89 := p8.trans p9
  have k8 := pre_len p8
  have ct9 := ct7.pre p89
  have g13 := pre_get p89 hb7
  have g79 := pre_get (p67.trans p89) g7
  have wv9 := wv.pre (p67.trans p89)
  have pp9 := pp.trans (p67.trans p89)
  have lnbK := get_lt ct.g
  obtain ⟨SS', hSS⟩ : ∃ SS' : Nat → Bool, SS' = mvS p bb s.T := ⟨_, rfl⟩
  have eS : mkB p s.T bb.l bb.j bb.r = SS' := by rw [hSS]; rfl
  have lne : bb.l ≠ bb.j := by omega
  rw [eS]
  have ctS : ColT H9 nb fl ((cols.set bb.l (lcol s.T SS' bb.l 0 qa)).set bb.j (lcol s.T SS' bb.j 0 qb)) := by
    rw [lcol_zero ca.1, lcol_zero cb.1]
    have e1 : cols.set bb.l qa = cols := by
      rw [← hqa, List.getD_eq_getElem?_getD, List.getElem?_eq_getElem (by omega)]
      exact List.set_getElem_self (by omega)
    have e2 : cols.set bb.j qb = cols := by
      rw [← hqb, List.getD_eq_getElem?_getD, List.getElem?_eq_getElem (by omega)]
      exact List.set_getElem_self (by omega)
    rw [e1, e2]
    exact ct9
  have gN0 : H9.get H8.length = some ⟨cel .u32 (ncol s.T SS' bb.l 0), 144, false, true⟩ := by
    rw [ncol_zero]
    exact hb9
  refine WC_loop_inv (fun m f K7 => ∃ (c : Nat), m = ((p.toNat - 1)) - c ∧ c ≤ ((p.toNat - 1)) ∧ f 0 = I64 p ∧ f 2 = u ∧ f 6 = .pointer (some ⟨h.length, 0, none⟩) ∧ f 7 = .pointer (some ⟨H2.length, 0, none⟩) ∧ f 8 = tv nb (N + s.st.length) ∧ f 13 = .pointer (some ⟨H6.length, 0, none⟩) ∧ f 15 = U32 (bs s.T.length SS') ∧ f 16 = .pointer (some ⟨H8.length, 0, none⟩) ∧ f 17 = I64 ((c : Int) + 1) ∧ (ColT K7 nb fl ((cols.set bb.l (lcol s.T SS' bb.l c qa)).set bb.j (lcol s.T SS' bb.j c qb))) ∧ (K7.get H8.length = some ⟨cel .u32 (ncol s.T SS' bb.l c), 144, false, true⟩) ∧ (∀ m b, m ≠ nb → m ≠ H8.length → H9.get m = some b → K7.get m = some b) ∧ (K7.length = H9.length) ∧ (H1 <+: K7)) ?_ (((p.toNat - 1)) - 0) _ _ ⟨0, rfl, by omega, (by first | rfl | exact f0 | (simp [upd_apply]; done)), (by first | rfl | exact f2 | (simp [upd_apply]; done)), (by first | rfl | exact f6 | (simp [upd_apply]; done)), (by first | rfl | exact f7 | (simp [upd_apply]; done)), (by first | rfl | exact f8 | (simp [upd_apply]; done)), (by first | rfl | (simp [upd_apply]; done)), (by first | rfl | (simp [upd_apply]; done)), (by first | rfl | (simp [upd_apply]; done)), (by first | rfl | (simp [upd_apply]; done)), ctS, gN0, fun m b _ _ g => g, rfl, pp9⟩
  rintro m f K7 ⟨c, rfl, hc, f0, f2, f6, f7, f8, f13, f15, f16, f17, ctS, gN, hk, lK, pp⟩
  have g13K := hk _ _ (by omega) (by omega) g13
  by_cases hltc : (c : Int) + 1 < p
  · have hc5 : c + 1 < 5 := by omega
    have eI : (c : Int) + 1 = ((c + 1 : Nat) : Int) := by omega
    rw [eI] at f17
    have cl2 : ((cols.set bb.l (lcol s.T SS' bb.l c qa)).set bb.j (lcol s.T SS' bb.j c qb)).length = cols.length := by simp
    have ixa1 := ixa_u (n := nb) (off := bb.l * 5) (len := 5) (kk := .i64) (j := c + 1) hc5
    have ixa2 := ixa_u (n := nb) (off := bb.j * 5) (len := 5) (kk := .i64) (j := c + 1) hc5
    have ixaN := ixa_u (n := H8.length) (off := 0) (len := 5) (kk := .i64) (j := c + 1) hc5
    rw [Nat.zero_add] at ixaN
    have rA := ctS.rd (c := bb.l) (x := c + 1) (by omega) hc5
    rw [get2_l lne (by omega) (by omega), lcol_at ca hc5] at rA
    have rA : K7.rd1 nb (bb.l * 5 + (c + 1)) = some (U32 (bs s.T.length fun k => decide (tb s.T k bb.l = ((c + 1 : Nat) : Int)))) := rA
    have an1 := bin_and (R := s.T.length) (f := fun k => decide (tb s.T k bb.l = ((c + 1 : Nat) : Int))) (g := SS') (by omega)
    have ltN := get_lt gN
    have nl : (ncol s.T SS' bb.l c).length = 5 := gen_len
    have wN : K7.wr H8.length (c + 1) [U32 (bs s.T.length fun k => decide (tb s.T k bb.l = ((c + 1 : Nat) : Int)) && SS' k)] = some (K7.put H8.length ⟨cel .u32 (ncol s.T SS' bb.l (c + 1)), 144, false, true⟩) := by
      rw [wr_of gN, if_pos ⟨rfl, by simp only [cel_len, nl, List.length_singleton]; omega⟩, ← ncol_set hc5]
      unfold U32
      rw [cel_set (by rw [nl]; exact hc5)]
    generalize hKN : K7.put H8.length ⟨cel .u32 (ncol s.T SS' bb.l (c + 1)), 144, false, true⟩ = KN at *
    have gN' : KN.get H8.length = some ⟨cel .u32 (ncol s.T SS' bb.l (c + 1)), 144, false, true⟩ := by rw [← hKN]; exact get_put_same ltN
    have ctN : ColT KN nb fl ((cols.set bb.l (lcol s.T SS' bb.l c qa)).set bb.j (lcol s.T SS' bb.j c qb)) := by rw [← hKN]; exact ctS.put_ne (by omega)
    have hkN : ∀ m b, m ≠ nb → m ≠ H8.length → H9.get m = some b → KN.get m = some b := fun m b h1 h2 g => by rw [← hKN, get_put_ne (fun e => h2 e.symm)]; exact hk m b h1 h2 g
    have g13N := hkN _ _ (by omega) (by omega) g13
    have lKN : KN.length = K7.length := by rw [← hKN, len_put]
    have rA2 := ctN.rd (c := bb.l) (x := c + 1) (by omega) hc5
    rw [get2_l lne (by omega) (by omega), lcol_at ca hc5] at rA2
    have rA2 : KN.rd1 nb (bb.l * 5 + (c + 1)) = some (U32 (bs s.T.length fun k => decide (tb s.T k bb.l = ((c + 1 : Nat) : Int)))) := rA2
    have an2 := bin_andNot (R := s.T.length) (f := fun k => decide (tb s.T k bb.l = ((c + 1 : Nat) : Int))) (g := SS') (by omega)
    obtain ⟨KA, wA, eA, ctA'⟩ := ctN.wr (c := bb.l) (x := c + 1) (v := ((bs s.T.length (fun k => decide (tb s.T k bb.l = ((c + 1 : Nat) : Int)) && !SS' k) : Nat) : Int)) (by omega) hc5
    have wA : KN.wr nb (bb.l * 5 + (c + 1)) [U32 (bs s.T.length (fun k => decide (tb s.T k bb.l = ((c + 1 : Nat) : Int)) && !SS' k))] = some KA := wA
    rw [get2_l lne (by omega) (by omega), lcol_set hc5] at ctA'
    have gN'' : KA.get H8.length = some ⟨cel .u32 (ncol s.T SS' bb.l (c + 1)), 144, false, true⟩ := by rw [eA, get_put_ne (by omega)]; exact gN'
    have hkA : ∀ m b, m ≠ nb → m ≠ H8.length → H9.get m = some b → KA.get m = some b := fun m b h1 h2 g => by rw [eA, get_put_ne (fun e => h1 e.symm)]; exact hkN m b h1 h2 g
    have g13A := hkA _ _ (by omega) (by omega) g13
    have lKA : KA.length = K7.length := by rw [eA, len_put, lKN]
    have cl3 : (((cols.set bb.l (lcol s.T SS' bb.l c qa)).set bb.j (lcol s.T SS' bb.j c qb)).set bb.l (lcol s.T SS' bb.l (c + 1) qa)).length = cols.length := by simp
    have eB : (((cols.set bb.l (lcol s.T SS' bb.l c qa)).set bb.j (lcol s.T SS' bb.j c qb)).set bb.l (lcol s.T SS' bb.l (c + 1) qa)).getD bb.j [] = lcol s.T SS' bb.j c qb := by
      rw [set_getD' (by rw [cl2]; omega), if_neg (fun e => lne e.symm), get2_j (by omega)]
    have rB := ctA'.rd (c := bb.j) (x := c + 1) (by omega) hc5
    rw [eB, lcol_at cb hc5] at rB
    have rB : KA.rd1 nb (bb.j * 5 + (c + 1)) = some (U32 (bs s.T.length fun k => decide (tb s.T k bb.j = ((c + 1 : Nat) : Int)))) := rB
    have an3 := bin_andNot (R := s.T.length) (f := fun k => decide (tb s.T k bb.j = ((c + 1 : Nat) : Int))) (g := SS') (by omega)
    obtain ⟨KB, wB, eKB, ctB'⟩ := ctA'.wr (c := bb.j) (x := c + 1) (v := ((bs s.T.length (fun k => decide (tb s.T k bb.j = ((c + 1 : Nat) : Int)) && !SS' k) : Nat) : Int)) (by omega) hc5
    have wB : KA.wr nb (bb.j * 5 + (c + 1)) [U32 (bs s.T.length (fun k => decide (tb s.T k bb.j = ((c + 1 : Nat) : Int)) && !SS' k))] = some KB := wB
    rw [eB, lcol_set hc5, set2_next lne] at ctB'
    have gNB : KB.get H8.length = some ⟨cel .u32 (ncol s.T SS' bb.l (c + 1)), 144, false, true⟩ := by rw [eKB, get_put_ne (by omega)]; exact gN''
    have hkB : ∀ m b, m ≠ nb → m ≠ H8.length → H9.get m = some b → KB.get m = some b := fun m b h1 h2 g => by rw [eKB, get_put_ne (fun e => h1 e.symm)]; exact hkA m b h1 h2 g
    have lKB : KB.length = K7.length := by rw [eKB, len_put, lKA]
    have ppB : H1 <+: KB := by
      rw [eKB, eA, ← hKN]
      exact pre_put (pre_put (pre_put pp (by have := pre_len pp9; omega)) lnb) lnb
    ((try simp (maxSteps := 3000000) (dsimp := false) (disch := first | omega | (simp only [len_new, len_put, len_kill]; omega)) only [↓ypre, ypost, ↓reduceIte, Nat.reduceEqDiff, Nat.reduceAdd, Nat.reduceSub, Nat.reduceLeDiff, Nat.zero_add, Nat.sub_zero, ynew, f0, f2, f6, f7, f8, f13, f15, f16, f17, decide_eq_true (show ((c + 1 : Nat) : Int) < p by omega), rd1_of g13K, ixl, ixa1, rA, an1, ixaN, U_one, U_cells, wN, rd1_of g13N, rA2, an2, wA, rd1_of g13A, ixj, ixa2, rB, an3, wB, wrap64_in]); try simp only [yback])
    refine InvQ_go (((p.toNat - 1)) - (c + 1)) (by omega) ⟨(c + 1), rfl, by omega, (by first | rfl | exact f0 | (simp only [upd_apply]; rfl) | (show I64 _ = _; congr 1; omega)), (by first | rfl | exact f2 | (simp only [upd_apply]; rfl) | (show I64 _ = _; congr 1; omega)), (by first | rfl | exact f6 | (simp only [upd_apply]; rfl) | (show I64 _ = _; congr 1; omega)), (by first | rfl | exact f7 | (simp only [upd_apply]; rfl) | (show I64 _ = _; congr 1; omega)), (by first | rfl | exact f8 | (simp only [upd_apply]; rfl) | (show I64 _ = _; congr 1; omega)), (by first | rfl | exact f13 | (simp only [upd_apply]; rfl) | (show I64 _ = _; congr 1; omega)), (by first | rfl | exact f15 | (simp only [upd_apply]; rfl) | (show I64 _ = _; congr 1; omega)), (by first | rfl | exact f16 | (simp only [upd_apply]; rfl) | (show I64 _ = _; congr 1; omega)), (by show I64 _ = I64 _; congr 1), ctB', gNB, hkB, (by rw [lKB, lK]), ppB⟩
  have ec : c = p.toNat - 1 := by omega
  subst ec
  have nl : (ncol s.T SS' bb.l (p.toNat - 1)).length = 5 := gen_len
  have tkN : (cel .u32 (ncol s.T SS' bb.l (p.toNat - 1))).take 5 = cel .u32 (ncol s.T SS' bb.l (p.toNat - 1)) := List.take_of_length_le (by rw [cel_len]; omega)
  have spl : splice (cel .u32 (List.replicate 5 0)) 0 (cel .u32 (ncol s.T SS' bb.l (p.toNat - 1))) = cel .u32 (ncol s.T SS' bb.l (p.toNat - 1)) := by
    rw [cel_splice, nl]
    simp
  have cl2 : ((cols.set bb.l (lcol s.T SS' bb.l (p.toNat - 1) qa)).set bb.j (lcol s.T SS' bb.j (p.toNat - 1) qb)).length = N + s.st.length := by simp [hcl]
  have wc : WayX (144) .u32 5 K7 H1.length [] (tv nb (N + s.st.length)) ((cols.set bb.l (lcol s.T SS' bb.l (p.toNat - 1) qa)).set bb.j (lcol s.T SS' bb.j (p.toNat - 1) qb)) := by
    have := ctS.way (ex := []) lnb (by simp)
    rw [cl2] at this
    exact this
  have k19 := pre_len pp9
  ((try simp (maxSteps := 3000000) (dsimp := false) (disch := first | omega | (simp only [len_new, len_put, len_kill]; omega)) only [↓ypre, ypost, ↓reduceIte, Nat.reduceEqDiff, Nat.reduceAdd, Nat.reduceSub, Nat.reduceLeDiff, Nat.zero_add, Nat.sub_zero, ynew, f0, f2, f6, f7, f8, f13, f15, f16, f17, decide_eq_false hltc, rdn_of gN, cel_len, nl, tkN, cel_all, cellsL_cel, List.length_replicate, spl]); try simp only [yback])
  refine wc.appK (q := ncol s.T SS' bb.l (p.toNat - 1)) nl (by rw [cl2]; omega) (by rw [cl2]; omega) (by omega) (by simp) fun cv H10 l10 pre10 keep10 wc10 => ?_
  obtain ⟨nb', fl', rfl, hnb', ct10⟩ := wc10.colT (by simp)
  have g13b := keep10 _ _ (.inr (by simp)) (hk _ _ (by omega) (by omega) g13)
  have g7b := keep10 _ _ (.inr (by simp)) (hk _ _ (by
    rintro rfl
    have := ct9.g
    rw [g79] at this
    have := congrArg (fun b : Option Blk => b.map (·.e)) this
    simp at this) (by omega) g79)
  have wv10 : WayX (96) .i64 3 H10 H1.length [] sv s.st := wv9.keep fun m' c' f' _ _ g => keep10 _ _ (.inr (by simp)) (hk _ _ (by
    rintro rfl
    have := ct9.g
    rw [g] at this
    cases this) (by
    rintro rfl
    rw [hb9] at g
    cases g) g)
  have pp10 : H1 <+: H10 := pre10 _ (Nat.le_refl _) pp
  ((try simp (maxSteps := 3000000) (dsimp := false) (disch := first | omega | (simp only [len_new, len_put, len_kill]; omega)) only [↓ypre, ypost, ↓reduceIte, Nat.reduceEqDiff, Nat.reduceAdd, Nat.reduceSub, Nat.reduceLeDiff, Nat.zero_add, Nat.sub_zero, ynew, f0, f2, f6, f7, f8, f13, f15, f16, f17, rd1_of g7b, rd1_of g13b]); try simp only [yback])
  refine wv10.appK (q := [(bb.l : Int), (bb.j : Int), (bb.r : Int)]) rfl (by omega) (by omega) (by omega) (by simp) fun sv' H11 l11 pre11 keep11 wv11 => ?_
  have g7c := keep11 _ _ (.inr (by simp)) g7b
  have lt7 := get_lt g7c
  have ct11 : ColT H11 nb' fl' (((cols.set bb.l (lcol s.T SS' bb.l (p.toNat - 1) qa)).set bb.j (lcol s.T SS' bb.j (p.toNat - 1) qb)) ++ [ncol s.T SS' bb.l (p.toNat - 1)]) := ⟨keep11 _ _ (.inr (by simp)) ct10.g, ct10.wid⟩
  ((try simp (maxSteps := 3000000) (dsimp := false) (disch := first | omega | (simp only [len_new, len_put, len_kill]; omega)) only [↓ypre, ypost, ↓reduceIte, Nat.reduceEqDiff, Nat.reduceAdd, Nat.reduceSub, Nat.reduceLeDiff, Nat.zero_add, Nat.sub_zero, ynew, f0, f2, f6, f7, f8, f13, f15, f16, f17, wv11.one, wv11.cells, wr_of g7c, wrap64_in]); try simp only [yback])
  have hlt := sg.2
  have lst : (stepS p s).st.length = s.st.length + 1 := by rw [est]; simp
  have sg1 := sg.1
  have f8' : tv nb' (((cols.set bb.l (lcol s.T SS' bb.l (p.toNat - 1) qa)).set bb.j (lcol s.T SS' bb.j (p.toNat - 1) qb)) ++ [ncol s.T SS' bb.l (p.toNat - 1)]).length = tv nb' (N + (stepS p s).st.length) := by rw [List.length_append, cl2, lst]; rfl
  refine InvQ_go (nzT rows - (nzT rows - nzT (stepS p s).T)) (by omega) ⟨nzT rows - nzT (stepS p s).T, stepS p s, sv', nb', fl', _, rfl, by omega, f0, f2, f6, f7, f8', by omega, sg1, pre_put (pre11 _ (Nat.le_refl _) pp10) (by omega), by omega, ct11.put_ne ?_, by rw [List.length_append, cl2, lst]; rfl, fun i hi => ?_, ?_, get_put_same lt7⟩
  · rintro rfl
    have := ct11.g
    rw [g7c] at this
    have := congrArg (fun b : Option Blk => b.map (·.e)) this
    simp at this
  · rw [eT]
    have g := si.gt
    by_cases e1 : i < N + s.st.length
    · rw [getD_app_l (by rw [cl2]; exact e1)]
      by_cases e2 : i = bb.l
      · subst e2
        rw [get2_l lne (by omega) (by omega), hSS]
        exact col_left g hp5 (by omega) (by omega) (.inl rfl) ca
      · by_cases e3 : i = bb.j
        · subst e3
          rw [get2_j (by omega), hSS]
          exact col_left g hp5 (by omega) (by omega) (.inr rfl) cb
        · rw [get2_o e2 e3 (by omega) (by omega)]
          exact col_other g (by omega) (by omega) e1 e2 e3 (hcol i e1)
    · have e2 : i = N + s.st.length := by omega
      subst e2
      rw [getD_app_r (by rw [cl2]; exact Nat.le_refl _), cl2, Nat.sub_self, hSS]
      exact col_new g hp5 (by omega) (by omega)
  · rw [est]
    exact (wv11.put_ty g7c (by simp)).mlo (by omega)
end Go.Proofs.Ytilpnbejpndgpaa.X

/- SharedProgram of both sides. -/
set_option linter.unusedVariables false
set_option linter.unusedSimpArgs false
set_option maxRecDepth 20000
set_option maxHeartbeats 4000000
namespace Go.Proofs.Ytilpnbejpndgpaa.X
open Go Go.RowKit

end Go.Proofs.Ytilpnbejpndgpaa.X

/- The programs of a scheme: the lists of its forms, plainly; both sides' lists. -/
set_option linter.unusedVariables false
set_option linter.unusedSimpArgs false
set_option maxRecDepth 20000
set_option maxHeartbeats 4000000
namespace Go.Proofs.Ytilpnbejpndgpaa.X
open Go Go.RowKit

/-- So many numbers of one form of each product. -/
def lsF (x : Sch) (i n : Nat) : List (List Int) := x.ps.map fun q => (seg q i).take n
theorem lsF_len {x : Sch} {i n : Nat} : (lsF x i n).length = x.ps.length := by simp [lsF]
theorem lsF_get {x : Sch} {i n j : Nat} (hj : j < x.ps.length) : (lsF x i n).getD j [] = (seg (x.ps.getD j []) i).take n := by
  simp [lsF, List.getD_eq_getElem?_getD, List.getElem?_map, List.getElem?_eq_getElem hj]
def fmX (x : Sch) (i : Nat) : List (List Int) := if i = 2 then trL (lsF x 2 (x.n * x.k).toNat) (x.n * x.k).toNat else lsF x i (pl x i).toNat
def nuX (x : Sch) (i : Nat) : Int := if i = 2 then x.ps.length else pl x i
def pgO (p n : Int) (rows : List (List Int)) (b : Bool) : Prg := if b = true then shP p n rows else finP ⟨p, n, [], []⟩ rows rows.length
def pgX (x : Sch) (b : Bool) (i : Nat) : Prg := pgO x.p (nuX x i) (fmX x i) b
theorem seg_in {x : Sch} {q : List Int} {i j : Nat} (hq : By 27 q) (ho : okProd x q = true) (hi : i < 3) (hj : j < 9) : 0 ≤ (seg q i).getD j 0 ∧ (seg q i).getD j 0 < x.p := by
  have hb := (hq.seg hi).2 j hj
  have hf : okForm x.p (pl x i) (seg q i) = true := by
    unfold okProd at ho
    simp only [Bool.and_eq_true] at ho
    have : i = 0 ∨ i = 1 ∨ i = 2 := by omega
    rcases this with rfl | rfl | rfl
    · exact ho.1.1.1
    · exact ho.1.1.2
    · exact ho.1.2
  unfold okForm at hf
  rw [List.all_eq_true] at hf
  have := hf j (List.mem_range.2 hj)
  unfold okAt at this
  rw [decide_eq_true_eq] at this
  exact ⟨hb.1, this.1⟩
theorem isX_facts {x : Sch} (h : isX x = true) : SZ x ∧ isP x.p = true ∧ x.ps.length ≤ 30 ∧ ∀ j, j < x.ps.length → okProd x (x.ps.getD j []) = true := by
  unfold isX at h
  simp only [Bool.and_eq_true, decide_eq_true_eq] at h
  obtain ⟨⟨h1, h2⟩, h3⟩ := h
  refine ⟨szX_facts h1, ?_, h2, fun j hj => ?_⟩
  · unfold szX at h1
    simp only [Bool.and_eq_true] at h1
    exact h1.1.1.1
  · rw [List.all_eq_true] at h3
    refine h3 _ ?_
    rw [List.getD_eq_getElem?_getD, List.getElem?_eq_getElem hj]
    exact List.getElem_mem hj
theorem take_getD {l : List Int} {n j : Nat} (h : j < n) : (l.take n).getD j 0 = l.getD j 0 := by
  rw [List.getD_eq_getElem?_getD, List.getElem?_take, if_pos h, ← List.getD_eq_getElem?_getD]
theorem fmX_ok {x : Sch} {h : AH} {v : Value} (hv : Prods h v x.ps) (hx : isX x = true) (h0 : 1 ≤ x.ps.length) {i : Nat} (hi : i < 3) : lsOK x.p (nuX x i) (fmX x i) = true := by
  obtain ⟨z, hp, hl, ho⟩ := isX_facts hx
  have zn := z.nm
  have zm := z.mk2
  have zk := z.nk
  have hpl : 1 ≤ pl x i ∧ pl x i ≤ 9 := by
    have : i = 0 ∨ i = 1 ∨ i = 2 := by omega
    rcases this with rfl | rfl | rfl <;> simp [pl] <;> omega
  refine lsOK_iff.2 ⟨hp, ?_, ?_, ?_⟩
  · unfold nuX
    split
    · omega
    · omega
  · unfold fmX
    split
    · rw [trL_len]
      omega
    · rw [lsF_len]
      omega
  · refine isMat_iff.2 fun j hj => ?_
    by_cases h2 : i = 2
    · subst h2
      rw [show fmX x 2 = trL (lsF x 2 (x.n * x.k).toNat) (x.n * x.k).toNat from rfl] at hj ⊢
      rw [show nuX x 2 = (x.ps.length : Int) from rfl]
      rw [trL_len] at hj
      rw [trL_get hj, gen_len, lsF_len]
      refine ⟨rfl, allIn_iff.2 fun c hc => ?_⟩
      rw [gen_len] at hc
      rw [gen_get hc, lsF_get hc, take_getD hj]
      exact seg_in (hv.by hc) (ho c hc) (by omega) (by omega)
    · unfold fmX at hj ⊢
      unfold nuX
      rw [if_neg h2] at hj
      rw [if_neg h2, if_neg h2]
      rw [lsF_len] at hj
      rw [lsF_get hj]
      have sl := ((hv.by hj).seg hi).1
      refine ⟨by rw [List.length_take, sl]; omega, allIn_iff.2 fun c hc => ?_⟩
      rw [List.length_take, sl] at hc
      rw [take_getD (by omega)]
      exact seg_in (hv.by hj) (ho j hj) hi (by omega)

/-! ### The reference's lists -/
theorem s_l07Numbers {q : List Int} {n : Nat} {h : AH} {Q : Value → AH → Prop} (hq : By 9 q) (hn : n ≤ 9) (hQ : ∀ k fu h', h.length ≤ k → h <+: h' → Lst h' k (q.take n) fu → Q (sl k (q.take n).length) h') : WF S 141 [aggV .u8 q, I64 n] h Q := by
  refine WF_fn (fn := c141) rfl rfl ?_
  unfold c141
  ((try simp (maxSteps := 3000000) (dsimp := false) (disch := first | omega | (simp only [len_new, len_put, len_kill]; omega)) only [↓ypre, ypost, ↓reduceIte, Nat.reduceEqDiff, Nat.reduceAdd, Nat.reduceSub, Nat.reduceLeDiff, Nat.zero_add, Nat.sub_zero, ynew, aggV, cel_all, cellsL_cel]); try simp only [yback])
  generalize hH1 : AH.new h _ = H1
  obtain ⟨hb1, p1, n1⟩ := new_facts hH1
  generalize hH2 : AH.new H1 _ = H2
  obtain ⟨hb2, p2, n2⟩ := new_facts hH2
  have l0 : Lst H2 H1.length (q.take 0) true := hb2
  have hq1 := hq.1
  refine WC_loop_inv (fun m f K1 => ∃ (i : Nat) (k : Nat) (fu : Bool), m = n - i ∧ i ≤ n ∧ f 1 = I64 n ∧ f 2 = .pointer (some ⟨h.length, 0, none⟩) ∧ f 5 = sl k (q.take i).length ∧ f 6 = I64 i ∧ (H1 <+: K1) ∧ (Lst K1 k (q.take i) fu) ∧ (H1.length ≤ k)) ?_ (n - 0) _ _ ⟨0, H1.length, true, rfl, by omega, (by first | rfl | (simp [upd_apply]; done)), (by first | rfl | (simp [upd_apply]; done)), (by first | rfl | (simp [upd_apply]; done)), (by first | rfl | (simp [upd_apply]; done)), p2, l0, Nat.le_refl _⟩
  rintro m f K1 ⟨i, k, fu, rfl, hi, f1, f2, f5, f6, pp, lo, hk⟩
  have hb := pre_get pp hb1
  by_cases hlt : (i : Int) < n
  · have hi' : i < n := by omega
    have g1 := cel_get (k := .u8) (q := q) (j := i) (by omega)
    have ixa := ixa_u (n := h.length) (off := 0) (len := 9) (kk := .i64) (j := i) (by omega)
    rw [Nat.zero_add] at ixa
    have b1 := hq.2 i (by omega)
    ((try simp (maxSteps := 3000000) (dsimp := false) (disch := first | omega | (simp only [len_new, len_put, len_kill]; omega)) only [↓ypre, ypost, ↓reduceIte, Nat.reduceEqDiff, Nat.reduceAdd, Nat.reduceSub, Nat.reduceLeDiff, Nat.zero_add, Nat.sub_zero, ynew, f1, f2, f5, f6, decide_eq_true hlt, ixa, rd1_of hb, g1, wrap64_in]); try simp only [yback])
    refine lo.app3 (by rw [List.length_take]; omega) fun H5 l5 pre5 keep5 lo5 => ?_
    have et : q.take i ++ [q.getD i 0] = q.take (i + 1) := (take_next (by omega)).symm
    ((try simp (maxSteps := 3000000) (dsimp := false) (disch := first | omega | (simp only [len_new, len_put, len_kill]; omega)) only [↓ypre, ypost, ↓reduceIte, Nat.reduceEqDiff, Nat.reduceAdd, Nat.reduceSub, Nat.reduceLeDiff, Nat.zero_add, Nat.sub_zero, ynew, f1, f2, f5, f6, wrap64_in]); try simp only [yback])
    refine InvQ_go (n - (i + 1)) (by omega) ⟨(i + 1), (K1.length + 1), false, rfl, by omega, (by first | rfl | exact f1 | (simp only [upd_apply]; rfl) | (show I64 _ = _; congr 1; omega)), (by first | rfl | exact f2 | (simp only [upd_apply]; rfl) | (show I64 _ = _; congr 1; omega)), (by rw [← et]; rfl), (by first | rfl | exact f6 | (simp only [upd_apply]; rfl) | (show I64 _ = _; congr 1; omega)), (pre5 _ hk pp), (by rw [← et]; exact lo5), (by have := pre_len pp; omega)⟩
  have ei : i = n := by omega
  subst ei
  ((try simp (maxSteps := 3000000) (dsimp := false) (disch := first | omega | (simp only [len_new, len_put, len_kill]; omega)) only [↓ypre, ypost, ↓reduceIte, Nat.reduceEqDiff, Nat.reduceAdd, Nat.reduceSub, Nat.reduceLeDiff, Nat.zero_add, Nat.sub_zero, ynew, f1, f2, f5, f6, decide_eq_false hlt]); try simp only [yback])
  exact hQ k fu _ (by omega) (p1.trans pp) lo
theorem s_l07Of {u : Value} {p n : Int} {b : Bool} {rows : List (List Int)} {h : AH} {Q : Value → AH → Prop} (hu : Rows h u rows) (hok : lsOK p n rows = true)
    (hQ : ∀ v' w' h', h <+: h' → Way2 h' h.length v' w' (pgO p n rows b) → OrdB v' w' → Q (prgV (pgO p n rows b) v' w') h') : WF S 142 [I64 p, I64 n, u, .bool b] h Q := by
  refine WF_fn (fn := c142) rfl rfl ?_
  unfold c142
  unfold pgO at hQ
  ((try simp (maxSteps := 3000000) (dsimp := false) (disch := first | omega | (simp only [len_new, len_put, len_kill]; omega)) only [↓ypre, ypost, ↓reduceIte, Nat.reduceEqDiff, Nat.reduceAdd, Nat.reduceSub, Nat.reduceLeDiff, Nat.zero_add, Nat.sub_zero, ynew]); try simp only [yback])
  generalize hH1 : AH.new h _ = H1
  obtain ⟨hb1, p1, n1⟩ := new_facts hH1
  cases b with
  | true =>
    rw [if_pos rfl] at hQ
    ((try simp (maxSteps := 3000000) (dsimp := false) (disch := first | omega | (simp only [len_new, len_put, len_kill]; omega)) only [↓ypre, ypost, ↓reduceIte, Nat.reduceEqDiff, Nat.reduceAdd, Nat.reduceSub, Nat.reduceLeDiff, Nat.zero_add, Nat.sub_zero, ynew]); try simp only [yback])
    refine s_l07Shared (hu.pre p1) hok fun v' w' H' pH o ob => ?_
    have g1 := pre_get pH hb1
    have lt1 := get_lt g1
    ((try simp (maxSteps := 3000000) (dsimp := false) (disch := first | omega | (simp only [len_new, len_put, len_kill]; omega)) only [↓ypre, ypost, ↓reduceIte, Nat.reduceEqDiff, Nat.reduceAdd, Nat.reduceSub, Nat.reduceLeDiff, Nat.zero_add, Nat.sub_zero, ynew, prgV, o.st.one, o.st.cells, o.out.one, o.out.cells, wr_of g1]); try simp only [yback])
    have := hQ v' w' _ (pre_put (b := ⟨[I64 (shP p n rows).p, I64 (shP p n rows).n, v', w'], 48, false, true⟩) (p1.trans pH) (Nat.le_refl _)) ⟨(o.st.put_ty g1 (by simp)).mlo (by omega), (o.out.put_ty g1 (by simp)).mlo (by omega)⟩ ob
    unfold prgV at this
    exact this
  | false =>
    rw [if_neg (by decide)] at hQ
    ((try simp (maxSteps := 3000000) (dsimp := false) (disch := first | omega | (simp only [len_new, len_put, len_kill]; omega)) only [↓ypre, ypost, ↓reduceIte, Nat.reduceEqDiff, Nat.reduceAdd, Nat.reduceSub, Nat.reduceLeDiff, Nat.zero_add, Nat.sub_zero, ynew]); try simp only [yback])
    refine s_Plain (hu.pre p1) hok fun v' w' H' sy o ob => ?_
    have pH : H1 <+: H' := sy.pre _ (Nat.le_refl _) (List.prefix_refl _)
    have g1 := pre_get pH hb1
    have lt1 := get_lt g1
    ((try simp (maxSteps := 3000000) (dsimp := false) (disch := first | omega | (simp only [len_new, len_put, len_kill]; omega)) only [↓ypre, ypost, ↓reduceIte, Nat.reduceEqDiff, Nat.reduceAdd, Nat.reduceSub, Nat.reduceLeDiff, Nat.zero_add, Nat.sub_zero, ynew, prgV, o.st.one, o.st.cells, o.out.one, o.out.cells, wr_of g1]); try simp only [yback])
    have := hQ v' w' _ (pre_put (b := ⟨[I64 (finP ⟨p, n, [], []⟩ rows rows.length).p, I64 (finP ⟨p, n, [], []⟩ rows rows.length).n, v', w'], 48, false, true⟩) (p1.trans pH) (Nat.le_refl _)) ⟨(o.st.put_ty g1 (by simp)).mlo (by omega), (o.out.put_ty g1 (by simp)).mlo (by omega)⟩ ob
    unfold prgV at this
    exact this
end Go.Proofs.Ytilpnbejpndgpaa.X

/- The programs of a scheme: the reference. -/
set_option linter.unusedVariables false
set_option linter.unusedSimpArgs false
set_option maxRecDepth 20000
set_option maxHeartbeats 4000000
namespace Go.Proofs.Ytilpnbejpndgpaa.X
open Go Go.RowKit

theorem TabL.keepNe {h h' : AH} {lo nb nb2 : Nat} {full : Bool} {L : List (Nat × List Int)} (s : TabL h lo nb full L) {b2 : Blk} (g2 : h.get nb2 = some b2) (h2 : b2.e = 22) (hne : nb ≠ nb2) (hk : ∀ m b, m ≠ nb2 → h.get m = some b → h'.get m = some b) : TabL h' lo nb full L :=
  ⟨hk _ _ hne s.g, s.low, fun i hi => ⟨(s.rows i hi).1, by
    obtain ⟨fu, o⟩ := (s.rows i hi).2
    refine ⟨fu, hk _ _ ?_ o⟩
    rintro e
    unfold Lst at o
    rw [e, g2] at o
    cases o
    simp at h2⟩, s.dist⟩
def prgC (x : Prg) (v w : Value) : List Value := [I64 x.p, I64 x.n, v, w]
theorem seg_two {q : List Int} {k : Nat} (hk : k < 9) : q.getD (18 + k) 0 = (seg q 2).getD k 0 := by
  unfold seg
  rw [cut_get hk]
theorem s_l07Programs {v : Value} {x : Sch} {b : Bool} {h : AH} {Q : Value → AH → Prop} (hv : Prods h v x.ps) (hx : isX x = true) (h0 : 1 ≤ x.ps.length)
    (hQ : ∀ (nb c1 c2 : Nat) (h' : AH) (v1 w1 v2 w2 v3 w3 : Value), h <+: h' → h'.get nb = some ⟨prgC (pgX x b 0) v1 w1 ++ prgC (pgX x b 1) v2 w2 ++ prgC (pgX x b 2) v3 w3, 48, false, true⟩ → h.length ≤ c1 → InP h.length c1 h' v1 w1 (pgX x b 0) → InP c1 c2 h' v2 w2 (pgX x b 1) → InP c2 nb h' v3 w3 (pgX x b 2) → Q (.slice (some ⟨nb, 0, none⟩) 3 4) h') : WF S 109 [schV x v, .bool b] h Q := by
  refine WF_fn (fn := c109) rfl rfl ?_
  unfold c109
  obtain ⟨z, hp, hl, ho⟩ := isX_facts hx
  have zn := z.nm
  have zm := z.mk2
  have zk := z.nk
  ((try simp (maxSteps := 3000000) (dsimp := false) (disch := first | omega | (simp only [len_new, len_put, len_kill]; omega)) only [↓ypre, ypost, ↓reduceIte, Nat.reduceEqDiff, Nat.reduceAdd, Nat.reduceSub, Nat.reduceLeDiff, Nat.zero_add, Nat.sub_zero, ynew, schV, hv.one]); try simp only [yback])
  generalize hH1 : AH.new h _ = H1
  obtain ⟨hb1, p1, n1⟩ := new_facts hH1
  ((try simp (maxSteps := 3000000) (dsimp := false) (disch := first | omega | (simp only [len_new, len_put, len_kill]; omega)) only [↓ypre, ypost, ↓reduceIte, Nat.reduceEqDiff, Nat.reduceAdd, Nat.reduceSub, Nat.reduceLeDiff, Nat.zero_add, Nat.sub_zero, ynew, rdn_of hb1]); try simp only [yback])
  refine s_l01Lengths (x := x) hv.one z fun H2 p2 => ?_
  ((try simp (maxSteps := 3000000) (dsimp := false) (disch := first | omega | (simp only [len_new, len_put, len_kill]; omega)) only [↓ypre, ypost, ↓reduceIte, Nat.reduceEqDiff, Nat.reduceAdd, Nat.reduceSub, Nat.reduceLeDiff, Nat.zero_add, Nat.sub_zero, ynew]); try simp only [yback])
  generalize hH3 : AH.new H2 _ = H3
  obtain ⟨hb3, p3, n3⟩ := new_facts hH3
  generalize hH4 : AH.new H3 _ = H4
  obtain ⟨hb4, p4, n4⟩ := new_facts hH4
  generalize hH5 : AH.new H4 _ = H5
  obtain ⟨hb5, p5, n5⟩ := new_facts hH5
  have p25 := (p3.trans p4).trans p5
  have nil0 : ∀ {K : AH} {nb : Nat} {fl : Bool}, K.get nb = some ⟨[], 22, false, fl⟩ → H2.length ≤ nb → TabL K H2.length nb fl [] := fun g hn => ⟨g, hn, fun i hi => by simp at hi, fun a b ha => by simp at ha⟩
  have tA0 := nil0 (pre_get (p4.trans p5) hb3) (Nat.le_refl _)
  have tB0 := nil0 (pre_get p5 hb4) (by omega)
  obtain ⟨a, ha⟩ : ∃ a : Nat, x.n * x.m = a := ⟨(x.n * x.m).toNat, by omega⟩
  obtain ⟨b', hb'⟩ : ∃ b' : Nat, x.m * x.k = b' := ⟨(x.m * x.k).toNat, by omega⟩
  obtain ⟨c', hc'⟩ : ∃ c' : Nat, x.n * x.k = c' := ⟨(x.n * x.k).toNat, by omega⟩
  refine WC_loop_inv (fun m f K1 => ∃ (i : Nat) (nA : Nat) (fA : Bool) (LA : List (Nat × List Int)) (nB : Nat) (fB : Bool) (LB : List (Nat × List Int)), m = x.ps.length - i ∧ i ≤ x.ps.length ∧ f 1 = .bool b ∧ f 2 = .pointer (some ⟨h.length, 0, none⟩) ∧ f 5 = I64 (x.n * x.m) ∧ f 6 = I64 (x.m * x.k) ∧ f 7 = I64 (x.n * x.k) ∧ f 8 = sl nA LA.length ∧ f 9 = sl nB LB.length ∧ f 10 = sl H4.length 0 ∧ f 11 = I64 i ∧ (H2 <+: K1) ∧ (TabL K1 H2.length nA fA LA) ∧ (LA.map Prod.snd = (lsF x 0 a).take i) ∧ (TabL K1 H2.length nB fB LB) ∧ (LB.map Prod.snd = (lsF x 1 b').take i) ∧ (K1.get H4.length = some ⟨[], 22, false, true⟩) ∧ (nA ≠ nB ∧ nA ≠ H4.length ∧ nB ≠ H4.length)) ?_ (x.ps.length - 0) _ _ ⟨0, H2.length, true, [], H3.length, true, [], rfl, by omega, (by first | rfl | (simp [upd_apply]; done)), (by first | rfl | (simp [upd_apply]; done)), (by first | rfl | (simp [upd_apply]; done)), (by first | rfl | (simp [upd_apply]; done)), (by first | rfl | (simp [upd_apply]; done)), (by first | rfl | (simp [upd_apply]; done)), (by first | rfl | (simp [upd_apply]; done)), (by first | rfl | (simp [upd_apply]; done)), (by first | rfl | (simp [upd_apply]; done)), p25, tA0, (by simp), tB0, (by simp), hb5, ⟨by omega, by omega, by omega⟩⟩
  rintro m f K1 ⟨i, nA, fA, LA, nB, fB, LB, rfl, hi, f1, f2, f5, f6, f7, f8, f9, f10, f11, pp, tA, hA, tB, hB, gC, hne⟩
  have hLA : LA.length = i := by
    have := congrArg List.length hA
    rw [List.length_map, List.length_take, lsF_len] at this
    omega
  have hLB : LB.length = i := by
    have := congrArg List.length hB
    rw [List.length_map, List.length_take, lsF_len] at this
    omega
  have hbK := pre_get (p2.trans pp) hb1
  have hvK := hv.pre ((p1.trans p2).trans pp)
  have k1 := pre_len pp
  have ltC := get_lt gC
  by_cases hlt : (i : Int) < x.ps.length
  · have hi' : i < x.ps.length := by omega
    obtain ⟨n5', off5, hix, hrn, hr1⟩ := hvK.1.at hi'
    have ra := hrn 0 9 (by omega)
    have hby := hvK.by hi'
    have s0 : List.take 9 (List.drop 0 (x.ps.getD i [])) = seg (x.ps.getD i []) 0 := rfl
    have s1 : List.take 9 (List.drop 9 (x.ps.getD i [])) = seg (x.ps.getD i []) 1 := rfl
    rw [s0] at ra
    rw [ha] at f5
    rw [hb'] at f6
    ((try simp (maxSteps := 3000000) (dsimp := false) (disch := first | omega | (simp only [len_new, len_put, len_kill]; omega)) only [↓ypre, ypost, ↓reduceIte, Nat.reduceEqDiff, Nat.reduceAdd, Nat.reduceSub, Nat.reduceLeDiff, Nat.zero_add, Nat.sub_zero, ynew, f1, f2, f5, f6, f7, f8, f9, f10, f11, rd1_of hbK, hvK.1.len, decide_eq_true hlt, hix, ra]); try simp only [yback])
    refine s_l07Numbers (hby.seg (i := 0) (by omega)) (by omega) fun kn fu H6 hkn p6 l6 => ?_
    have k6 := pre_len p6
    have rowlt : ∀ {LX : List (Nat × List Int)} {nX : Nat} {fX : Bool} {KX : AH}, TabL KX H2.length nX fX LX → ∀ j (hj : j < LX.length), (LX[j]).1 < KX.length := fun s j hj => by
      obtain ⟨fu, o⟩ := (s.rows j hj).2
      exact o.lt
    ((try simp (maxSteps := 3000000) (dsimp := false) (disch := first | omega | (simp only [len_new, len_put, len_kill]; omega)) only [↓ypre, ypost, ↓reduceIte, Nat.reduceEqDiff, Nat.reduceAdd, Nat.reduceSub, Nat.reduceLeDiff, Nat.zero_add, Nat.sub_zero, ynew, f1, f2, f5, f6, f7, f8, f9, f10, f11, sl_cells, sl_one]); try simp only [yback])
    refine (tA.pre p6).app (by omega) (fun j hj => by have := rowlt tA j hj; omega) l6 (by omega) (by omega) fun H7 l7 tA7 keep7 pre7 => ?_
    have tB7 := (tB.pre p6).keepNe (tA.pre p6).g rfl hne.1.symm keep7
    have gC7 := keep7 _ _ hne.2.1.symm (pre_get p6 gC)
    have pp7 := pre7 _ tA.low (pp.trans p6)
    have hb7 := pre_get (p2.trans pp7) hb1
    have hv7 := hv.pre ((p1.trans p2).trans pp7)
    obtain ⟨n7', off7, hix7, hrn7, _⟩ := hv7.1.at hi'
    have rb := hrn7 9 9 (by omega)
    rw [s1] at rb
    ((try simp (maxSteps := 3000000) (dsimp := false) (disch := first | omega | (simp only [len_new, len_put, len_kill]; omega)) only [↓ypre, ypost, ↓reduceIte, Nat.reduceEqDiff, Nat.reduceAdd, Nat.reduceSub, Nat.reduceLeDiff, Nat.zero_add, Nat.sub_zero, ynew, f1, f2, f5, f6, f7, f8, f9, f10, f11, rd1_of hb7, hix7, rb]); try simp only [yback])
    refine s_l07Numbers (hby.seg (i := 1) (by omega)) (by omega) fun kn2 fu2 H8 hkn2 p8 l8 => ?_
    have k8 := pre_len p8
    ((try simp (maxSteps := 3000000) (dsimp := false) (disch := first | omega | (simp only [len_new, len_put, len_kill]; omega)) only [↓ypre, ypost, ↓reduceIte, Nat.reduceEqDiff, Nat.reduceAdd, Nat.reduceSub, Nat.reduceLeDiff, Nat.zero_add, Nat.sub_zero, ynew, f1, f2, f5, f6, f7, f8, f9, f10, f11, sl_cells, sl_one]); try simp only [yback])
    refine (tB7.pre p8).app (by omega) (fun j hj => by have := rowlt tB7 j hj; omega) l8 (by omega) (by omega) fun H9 l9 tB9 keep9 pre9 => ?_
    have tA9 := (tA7.pre p8).keepNe (tB7.pre p8).g rfl (by have := get_lt tB.g; omega) keep9
    have gC9 := keep9 _ _ hne.2.2.symm (pre_get p8 gC7)
    ((try simp (maxSteps := 3000000) (dsimp := false) (disch := first | omega | (simp only [len_new, len_put, len_kill]; omega)) only [↓ypre, ypost, ↓reduceIte, Nat.reduceEqDiff, Nat.reduceAdd, Nat.reduceSub, Nat.reduceLeDiff, Nat.zero_add, Nat.sub_zero, ynew, f1, f2, f5, f6, f7, f8, f9, f10, f11, wrap64_in]); try simp only [yback])
    refine InvQ_go (x.ps.length - (i + 1)) (by omega) ⟨(i + 1), (H6.length + 1), false, (LA ++ [(kn, (seg (x.ps.getD i []) 0).take a)]), (H8.length + 1), false, (LB ++ [(kn2, (seg (x.ps.getD i []) 1).take b')]), rfl, by omega, (by first | rfl | exact f1 | (simp only [upd_apply]; rfl) | (show I64 _ = _; congr 1; omega)), (by first | rfl | exact f2 | (simp only [upd_apply]; rfl) | (show I64 _ = _; congr 1; omega)), (by rw [ha]; exact f5), (by rw [hb']; exact f6), (by first | rfl | exact f7 | (simp only [upd_apply]; rfl) | (show I64 _ = _; congr 1; omega)), (by first | rfl | exact f8 | (simp only [upd_apply]; rfl) | (show I64 _ = _; congr 1; omega)), (by first | rfl | exact f9 | (simp only [upd_apply]; rfl) | (show I64 _ = _; congr 1; omega)), (by first | rfl | exact f10 | (simp only [upd_apply]; rfl) | (show I64 _ = _; congr 1; omega)), (by first | rfl | exact f11 | (simp only [upd_apply]; rfl) | (show I64 _ = _; congr 1; omega)), (pre9 _ tB.low (pp7.trans p8)), tA9, (by rw [List.map_append, hA, take_next (d := []) (by rw [lsF_len]; exact hi'), lsF_get hi']; rfl), tB9, (by rw [List.map_append, hB, take_next (d := []) (by rw [lsF_len]; exact hi'), lsF_get hi']; rfl), gC9, ⟨by omega, by omega, by omega⟩⟩
  have ei : i = x.ps.length := by omega
  subst ei
  rw [List.take_of_length_le (by rw [lsF_len]; exact Nat.le_refl _)] at hA hB
  ((try simp (maxSteps := 3000000) (dsimp := false) (disch := first | omega | (simp only [len_new, len_put, len_kill]; omega)) only [↓ypre, ypost, ↓reduceIte, Nat.reduceEqDiff, Nat.reduceAdd, Nat.reduceSub, Nat.reduceLeDiff, Nat.zero_add, Nat.sub_zero, ynew, f1, f2, f5, f6, f7, f8, f9, f10, f11, rd1_of hbK, hvK.1.len, decide_eq_false hlt]); try simp only [yback])
  rw [hc'] at f7
  have eC : fmX x 2 = trL (lsF x 2 c') c' := by
    show trL (lsF x 2 (x.n * x.k).toNat) (x.n * x.k).toNat = _
    rw [hc', Int.toNat_natCast]
  have lC : (fmX x 2).length = c' := by rw [eC, trL_len]
  have tC0 := nil0 gC (by omega)
  refine WC_loop_inv (fun m f K2 => ∃ (k : Nat) (nC : Nat) (fC : Bool) (LC : List (Nat × List Int)), m = c' - k ∧ k ≤ c' ∧ f 1 = .bool b ∧ f 2 = .pointer (some ⟨h.length, 0, none⟩) ∧ f 5 = I64 (x.n * x.m) ∧ f 6 = I64 (x.m * x.k) ∧ f 7 = I64 c' ∧ f 8 = sl nA LA.length ∧ f 9 = sl nB LB.length ∧ f 10 = sl nC LC.length ∧ f 12 = I64 k ∧ (H2 <+: K2) ∧ (TabL K2 H2.length nA fA LA) ∧ (TabL K2 H2.length nB fB LB) ∧ (TabL K2 H2.length nC fC LC) ∧ (LC.map Prod.snd = (fmX x 2).take k) ∧ (nA ≠ nC ∧ nB ≠ nC)) ?_ (c' - 0) _ _ ⟨0, H4.length, true, [], rfl, by omega, (by first | rfl | exact f1 | (simp [upd_apply]; done)), (by first | rfl | exact f2 | (simp [upd_apply]; done)), (by first | rfl | exact f5 | (simp [upd_apply]; done)), (by first | rfl | exact f6 | (simp [upd_apply]; done)), (by first | rfl | exact f7 | (simp [upd_apply]; done)), (by first | rfl | exact f8 | (simp [upd_apply]; done)), (by first | rfl | exact f9 | (simp [upd_apply]; done)), (by first | rfl | exact f10 | (simp [upd_apply]; done)), (by first | rfl | (simp [upd_apply]; done)), pp, tA, tB, tC0, (by simp), ⟨hne.2.1, hne.2.2⟩⟩
  rintro m f K2 ⟨k, nC, fC, LC, rfl, hk, f1, f2, f5, f6, f7, f8, f9, f10, f12, pp, tA, tB, tC, hC, hne⟩
  have hLC : LC.length = k := by
    have := congrArg List.length hC
    rw [List.length_map, List.length_take, lC] at this
    omega
  have hbK := pre_get (p2.trans pp) hb1
  have hvK := hv.pre ((p1.trans p2).trans pp)
  have k2 := pre_len pp
  by_cases hltk : (k : Int) < c'
  · have hkc : k < c' := by omega
    ((try simp (maxSteps := 3000000) (dsimp := false) (disch := first | omega | (simp only [len_new, len_put, len_kill]; omega)) only [↓ypre, ypost, ↓reduceIte, Nat.reduceEqDiff, Nat.reduceAdd, Nat.reduceSub, Nat.reduceLeDiff, Nat.zero_add, Nat.sub_zero, ynew, f1, f2, f5, f6, f7, f8, f9, f10, f12, decide_eq_true hltk]); try simp only [yback])
    generalize hH6 : AH.new K2 _ = H6
    obtain ⟨hb6, p6, n6⟩ := new_facts hH6
    have l0 : Lst H6 K2.length (gen 0 fun j => (seg (x.ps.getD j []) 2).getD k 0) true := hb6
    refine WC_loop_inv (fun m f K3 => ∃ (i : Nat) (kn : Nat) (fu : Bool), m = x.ps.length - i ∧ i ≤ x.ps.length ∧ f 1 = .bool b ∧ f 2 = .pointer (some ⟨h.length, 0, none⟩) ∧ f 5 = I64 (x.n * x.m) ∧ f 6 = I64 (x.m * x.k) ∧ f 7 = I64 c' ∧ f 8 = sl nA LA.length ∧ f 9 = sl nB LB.length ∧ f 10 = sl nC LC.length ∧ f 12 = I64 k ∧ f 13 = sl kn (gen i fun j => (seg (x.ps.getD j []) 2).getD k 0).length ∧ f 14 = I64 i ∧ (K2 <+: K3) ∧ (Lst K3 kn (gen i fun j => (seg (x.ps.getD j []) 2).getD k 0) fu) ∧ (K2.length ≤ kn)) ?_ (x.ps.length - 0) _ _ ⟨0, K2.length, true, rfl, by omega, (by first | rfl | exact f1 | (simp [upd_apply]; done)), (by first | rfl | exact f2 | (simp [upd_apply]; done)), (by first | rfl | exact f5 | (simp [upd_apply]; done)), (by first | rfl | exact f6 | (simp [upd_apply]; done)), (by first | rfl | exact f7 | (simp [upd_apply]; done)), (by first | rfl | exact f8 | (simp [upd_apply]; done)), (by first | rfl | exact f9 | (simp [upd_apply]; done)), (by first | rfl | exact f10 | (simp [upd_apply]; done)), (by first | rfl | exact f12 | (simp [upd_apply]; done)), (by first | rfl | (simp [upd_apply]; done)), (by first | rfl | (simp [upd_apply]; done)), p6, l0, Nat.le_refl _⟩
    rintro m f K3 ⟨i, kn, fu, rfl, hi, f1, f2, f5, f6, f7, f8, f9, f10, f12, f13, f14, p3x, lo, hkn⟩
    have hb3 := pre_get p3x hbK
    have hv3 := hvK.pre p3x
    have gl := gen_len (N := i) (g := fun j => (seg (x.ps.getD j []) 2).getD k 0)
    by_cases hlti : (i : Int) < x.ps.length
    · have hi' : i < x.ps.length := by omega
      obtain ⟨n5', off5, hix, hrn, hr1⟩ := hv3.1.at hi'
      have rdk := hr1 (18 + k) (by omega)
      rw [seg_two (by omega), ← Nat.add_assoc] at rdk
      have sb := ((hv3.by hi').seg (i := 2) (by omega)).2 k (by omega)
      have ixa := ixa_u (n := n5') (off := off5 + 18) (len := 9) (kk := .i64) (j := k) (by omega)
      ((try simp (maxSteps := 3000000) (dsimp := false) (disch := first | omega | (simp only [len_new, len_put, len_kill]; omega)) only [↓ypre, ypost, ↓reduceIte, Nat.reduceEqDiff, Nat.reduceAdd, Nat.reduceSub, Nat.reduceLeDiff, Nat.zero_add, Nat.sub_zero, ynew, f1, f2, f5, f6, f7, f8, f9, f10, f12, f13, f14, rd1_of hb3, hv3.1.len, decide_eq_true hlti, hix, ixa, rdk, wrap64_in]); try simp only [yback])
      refine lo.app3 (by omega) fun H7 l7 pre7 keep7 lo7 => ?_
      rw [← gen_succ (g := fun j => (seg (x.ps.getD j []) 2).getD k 0)] at lo7
      ((try simp (maxSteps := 3000000) (dsimp := false) (disch := first | omega | (simp only [len_new, len_put, len_kill]; omega)) only [↓ypre, ypost, ↓reduceIte, Nat.reduceEqDiff, Nat.reduceAdd, Nat.reduceSub, Nat.reduceLeDiff, Nat.zero_add, Nat.sub_zero, ynew, f1, f2, f5, f6, f7, f8, f9, f10, f12, f13, f14, wrap64_in]); try simp only [yback])
      refine InvQ_go (x.ps.length - (i + 1)) (by omega) ⟨(i + 1), (K3.length + 1), false, rfl, by omega, (by first | rfl | exact f1 | (simp only [upd_apply]; rfl) | (show I64 _ = _; congr 1; omega)), (by first | rfl | exact f2 | (simp only [upd_apply]; rfl) | (show I64 _ = _; congr 1; omega)), (by first | rfl | exact f5 | (simp only [upd_apply]; rfl) | (show I64 _ = _; congr 1; omega)), (by first | rfl | exact f6 | (simp only [upd_apply]; rfl) | (show I64 _ = _; congr 1; omega)), (by first | rfl | exact f7 | (simp only [upd_apply]; rfl) | (show I64 _ = _; congr 1; omega)), (by first | rfl | exact f8 | (simp only [upd_apply]; rfl) | (show I64 _ = _; congr 1; omega)), (by first | rfl | exact f9 | (simp only [upd_apply]; rfl) | (show I64 _ = _; congr 1; omega)), (by first | rfl | exact f10 | (simp only [upd_apply]; rfl) | (show I64 _ = _; congr 1; omega)), (by first | rfl | exact f12 | (simp only [upd_apply]; rfl) | (show I64 _ = _; congr 1; omega)), (by rw [gen_succ]; rfl), (by first | rfl | exact f14 | (simp only [upd_apply]; rfl) | (show I64 _ = _; congr 1; omega)), (pre7 _ hkn p3x), lo7, (by have := pre_len p3x; omega)⟩
    have ei : i = x.ps.length := by omega
    subst ei
    have eR : (gen x.ps.length fun j => (seg (x.ps.getD j []) 2).getD k 0) = (fmX x 2).getD k [] := by
      rw [eC, trL_get hkc, lsF_len]
      exact gen_congr fun j hj => by rw [lsF_get hj, take_getD hkc]
    ((try simp (maxSteps := 3000000) (dsimp := false) (disch := first | omega | (simp only [len_new, len_put, len_kill]; omega)) only [↓ypre, ypost, ↓reduceIte, Nat.reduceEqDiff, Nat.reduceAdd, Nat.reduceSub, Nat.reduceLeDiff, Nat.zero_add, Nat.sub_zero, ynew, f1, f2, f5, f6, f7, f8, f9, f10, f12, f13, f14, rd1_of hb3, hv3.1.len, decide_eq_false hlti, sl_cells, sl_one]); try simp only [yback])
    have k3 := pre_len p3x
    have rowlt : ∀ j (hj : j < LC.length), (LC[j]).1 < K2.length := fun j hj => by
      obtain ⟨fu, o⟩ := (tC.rows j hj).2
      exact o.lt
    refine (tC.pre p3x).app (by omega) (fun j hj => by have := rowlt j hj; omega) lo (by omega) (by omega) fun H8 l8 tC8 keep8 pre8 => ?_
    have tA8 := (tA.pre p3x).keepNe (tC.pre p3x).g rfl hne.1 keep8
    have tB8 := (tB.pre p3x).keepNe (tC.pre p3x).g rfl hne.2 keep8
    have lA := get_lt tA.g
    have lB := get_lt tB.g
    ((try simp (maxSteps := 3000000) (dsimp := false) (disch := first | omega | (simp only [len_new, len_put, len_kill]; omega)) only [↓ypre, ypost, ↓reduceIte, Nat.reduceEqDiff, Nat.reduceAdd, Nat.reduceSub, Nat.reduceLeDiff, Nat.zero_add, Nat.sub_zero, ynew, f1, f2, f5, f6, f7, f8, f9, f10, f12, f13, f14, wrap64_in]); try simp only [yback])
    refine InvQ_go (c' - (k + 1)) (by omega) ⟨(k + 1), (K3.length + 1), false, (LC ++ [(kn, gen x.ps.length fun j => (seg (x.ps.getD j []) 2).getD k 0)]), rfl, by omega, (by first | rfl | exact f1 | (simp only [upd_apply]; rfl) | (show I64 _ = _; congr 1; omega)), (by first | rfl | exact f2 | (simp only [upd_apply]; rfl) | (show I64 _ = _; congr 1; omega)), (by first | rfl | exact f5 | (simp only [upd_apply]; rfl) | (show I64 _ = _; congr 1; omega)), (by first | rfl | exact f6 | (simp only [upd_apply]; rfl) | (show I64 _ = _; congr 1; omega)), (by first | rfl | exact f7 | (simp only [upd_apply]; rfl) | (show I64 _ = _; congr 1; omega)), (by first | rfl | exact f8 | (simp only [upd_apply]; rfl) | (show I64 _ = _; congr 1; omega)), (by first | rfl | exact f9 | (simp only [upd_apply]; rfl) | (show I64 _ = _; congr 1; omega)), (by first | rfl | exact f10 | (simp only [upd_apply]; rfl) | (show I64 _ = _; congr 1; omega)), (by first | rfl | exact f12 | (simp only [upd_apply]; rfl) | (show I64 _ = _; congr 1; omega)), (pre8 _ tC.low (pp.trans p3x)), tA8, tB8, tC8, (by rw [List.map_append, hC, take_next (d := []) (by rw [lC]; exact hkc), ← eR]; rfl), ⟨by omega, by omega⟩⟩
  have ek : k = c' := by omega
  subst ek
  rw [List.take_of_length_le (by rw [lC]; exact Nat.le_refl _)] at hC
  have rA := tA.rowsR
  have rB := tB.rowsR
  have rC := tC.rowsR
  have eA : fmX x 0 = lsF x 0 a := by
    show lsF x 0 (x.n * x.m).toNat = _
    rw [ha, Int.toNat_natCast]
  have eB : fmX x 1 = lsF x 1 b' := by
    show lsF x 1 (x.m * x.k).toNat = _
    rw [hb', Int.toNat_natCast]
  rw [hA, ← eA] at rA
  rw [hB, ← eB] at rB
  rw [hC] at rC
  have okA : lsOK x.p (x.n * x.m) (fmX x 0) = true := fmX_ok hvK hx h0 (i := 0) (by omega)
  have okB : lsOK x.p (x.m * x.k) (fmX x 1) = true := fmX_ok hvK hx h0 (i := 1) (by omega)
  have okC : lsOK x.p (x.ps.length : Int) (fmX x 2) = true := fmX_ok hvK hx h0 (i := 2) (by omega)
  ((try simp (maxSteps := 3000000) (dsimp := false) (disch := first | omega | (simp only [len_new, len_put, len_kill]; omega)) only [↓ypre, ypost, ↓reduceIte, Nat.reduceEqDiff, Nat.reduceAdd, Nat.reduceSub, Nat.reduceLeDiff, Nat.zero_add, Nat.sub_zero, ynew, f1, f2, f5, f6, f7, f8, f9, f10, f12, decide_eq_false hltk, rd1_of hbK]); try simp only [yback])
  refine s_l07Of (b := b) rA okA fun v1 w1 H10 p10 o1 ob1 => ?_
  have hb10 := pre_get p10 hbK
  have hv10 := hvK.pre p10
  ((try simp (maxSteps := 3000000) (dsimp := false) (disch := first | omega | (simp only [len_new, len_put, len_kill]; omega)) only [↓ypre, ypost, ↓reduceIte, Nat.reduceEqDiff, Nat.reduceAdd, Nat.reduceSub, Nat.reduceLeDiff, Nat.zero_add, Nat.sub_zero, ynew, f1, f2, f5, f6, f7, f8, f9, f10, f12, rd1_of hb10]); try simp only [yback])
  refine ⟨p10, ?_⟩
  refine s_l07Of (b := b) (rB.pre p10) okB fun v2 w2 H11 p11 o2 ob2 => ?_
  have hb11 := pre_get p11 hb10
  have hv11 := hv10.pre p11
  ((try simp (maxSteps := 3000000) (dsimp := false) (disch := first | omega | (simp only [len_new, len_put, len_kill]; omega)) only [↓ypre, ypost, ↓reduceIte, Nat.reduceEqDiff, Nat.reduceAdd, Nat.reduceSub, Nat.reduceLeDiff, Nat.zero_add, Nat.sub_zero, ynew, f1, f2, f5, f6, f7, f8, f9, f10, f12, rd1_of hb11, hv11.1.len]); try simp only [yback])
  refine ⟨p11, ?_⟩
  refine s_l07Of (b := b) ((rC.pre p10).pre p11) okC fun v3 w3 H12 p12 o3 ob3 => ?_
  ((try simp (maxSteps := 3000000) (dsimp := false) (disch := first | omega | (simp only [len_new, len_put, len_kill]; omega)) only [↓ypre, ypost, ↓reduceIte, Nat.reduceEqDiff, Nat.reduceAdd, Nat.reduceSub, Nat.reduceLeDiff, Nat.zero_add, Nat.sub_zero, ynew, f1, f2, f5, f6, f7, f8, f9, f10, f12, prgV, o1.st.one, o1.out.one, o2.st.one, o2.out.one, o3.st.one, o3.out.one, o1.st.cells, o1.out.cells, o2.st.cells, o2.out.cells, o3.st.cells, o3.out.cells, fillL]); try simp only [yback])
  have q1 := pre_len p10
  have q2 := pre_len p11
  have q3 := pre_len p12
  have kh := pre_len ((p1.trans p2).trans pp)
  have pN : ∀ {bl : Blk}, H12 <+: AH.new H12 bl := pre_new (List.prefix_refl _)
  exact hQ H12.length H10.length H11.length _ v1 w1 v2 w2 v3 w3 (((((p1.trans p2).trans pp).trans p10).trans p11).trans (p12.trans pN)) get_new_same (by omega)
    (((o1.inP ob1 q1).pre ((p11.trans p12).trans pN)).mono kh (Nat.le_refl _)) ((o2.inP ob2 q2).pre (p12.trans pN)) ((o3.inP ob3 q3).pre pN)
end Go.Proofs.Ytilpnbejpndgpaa.X

/- StepsOf of the reference; the program's lists. -/
set_option linter.unusedVariables false
set_option linter.unusedSimpArgs false
set_option maxRecDepth 20000
set_option maxHeartbeats 4000000
namespace Go.Proofs.Ytilpnbejpndgpaa.X
open Go Go.RowKit

def cdX (x : Sch) : Int := if isX x = true then (if x.ps.length = 0 then 5 else 0) else 1
theorem s_l07Code {v : Value} {x : Sch} {h : AH} {Q : Value → AH → Prop} (hv : Prods h v x.ps) (hl : SmallX x.ps) (hQ : ∀ h', h <+: h' → Q (I64 (cdX x)) h') : WF S 108 [schV x v] h Q := by
  refine WF_fn (fn := c108) rfl rfl ?_
  unfold c108
  ((try simp (maxSteps := 3000000) (dsimp := false) (disch := first | omega | (simp only [len_new, len_put, len_kill]; omega)) only [↓ypre, ypost, ↓reduceIte, Nat.reduceEqDiff, Nat.reduceAdd, Nat.reduceSub, Nat.reduceLeDiff, Nat.zero_add, Nat.sub_zero, ynew, schV, hv.one]); try simp only [yback])
  generalize hH1 : AH.new h _ = H1
  obtain ⟨hb1, p1, n1⟩ := new_facts hH1
  ((try simp (maxSteps := 3000000) (dsimp := false) (disch := first | omega | (simp only [len_new, len_put, len_kill]; omega)) only [↓ypre, ypost, ↓reduceIte, Nat.reduceEqDiff, Nat.reduceAdd, Nat.reduceSub, Nat.reduceLeDiff, Nat.zero_add, Nat.sub_zero, ynew, rdn_of hb1]); try simp only [yback])
  refine s_l01Is (hv.pre p1) hl fun H2 p2 => ?_
  have hb2 := pre_get p2 hb1
  have hQ2 := hQ _ (p1.trans p2)
  unfold cdX at hQ2
  cases h1 : isX x with
  | false =>
    rw [h1, if_neg (by decide)] at hQ2
    ((try simp (maxSteps := 3000000) (dsimp := false) (disch := first | omega | (simp only [len_new, len_put, len_kill]; omega)) only [↓ypre, ypost, ↓reduceIte, Nat.reduceEqDiff, Nat.reduceAdd, Nat.reduceSub, Nat.reduceLeDiff, Nat.zero_add, Nat.sub_zero, ynew]); try simp only [yback])
    exact hQ2
  | true =>
    rw [h1, if_pos rfl] at hQ2
    by_cases h2 : x.ps.length = 0
    · rw [if_pos h2] at hQ2
      ((try simp (maxSteps := 3000000) (dsimp := false) (disch := first | omega | (simp only [len_new, len_put, len_kill]; omega)) only [↓ypre, ypost, ↓reduceIte, Nat.reduceEqDiff, Nat.reduceAdd, Nat.reduceSub, Nat.reduceLeDiff, Nat.zero_add, Nat.sub_zero, ynew, rd1_of hb2, (hv.pre (p1.trans p2)).1.len, decide_eq_true (show (x.ps.length : Int) = 0 by omega)]); try simp only [yback])
      exact hQ2
    · rw [if_neg h2] at hQ2
      ((try simp (maxSteps := 3000000) (dsimp := false) (disch := first | omega | (simp only [len_new, len_put, len_kill]; omega)) only [↓ypre, ypost, ↓reduceIte, Nat.reduceEqDiff, Nat.reduceAdd, Nat.reduceSub, Nat.reduceLeDiff, Nat.zero_add, Nat.sub_zero, ynew, rd1_of hb2, (hv.pre (p1.trans p2)).1.len, decide_eq_false (show ¬ (x.ps.length : Int) = 0 by omega)]); try simp only [yback])
      exact hQ2
/-- Three programs in one block. -/
structure Pr3 (h : AH) (nb : Nat) (x : Sch) (b : Bool) (v1 w1 v2 w2 v3 w3 : Value) : Prop where
  g : ∃ fl, h.get nb = some ⟨prgC (pgX x b 0) v1 w1 ++ prgC (pgX x b 1) v2 w2 ++ prgC (pgX x b 2) v3 w3, 48, false, fl⟩
  r1 : PrgR h v1 w1 (pgX x b 0)
  r2 : PrgR h v2 w2 (pgX x b 1)
  r3 : PrgR h v3 w3 (pgX x b 2)
section
variable {h h' : AH} {nb : Nat} {x : Sch} {b : Bool} {v1 w1 v2 w2 v3 w3 : Value}
theorem Pr3.pre (o : Pr3 h nb x b v1 w1 v2 w2 v3 w3) (p : h <+: h') : Pr3 h' nb x b v1 w1 v2 w2 v3 w3 :=
  ⟨by obtain ⟨fl, g⟩ := o.g; exact ⟨fl, pre_get p g⟩, o.r1.pre p, o.r2.pre p, o.r3.pre p⟩
theorem Pr3.at (o : Pr3 h nb x b v1 w1 v2 w2 v3 w3) {i : Nat} (hi : i < 3) : ∃ y z, h.rd1 nb (i * 4 + 2) = some y ∧ h.rdn nb (i * 4) 4 = some (prgC (pgX x b i) y z) ∧ PrgR h y z (pgX x b i) := by
  obtain ⟨fl, g⟩ := o.g
  have hc : i = 0 ∨ i = 1 ∨ i = 2 := by omega
  rcases hc with rfl | rfl | rfl
  · exact ⟨v1, w1, by rw [rd1_of g]; rfl, by rw [rdn_of g]; rfl, o.r1⟩
  · exact ⟨v2, w2, by rw [rd1_of g]; rfl, by rw [rdn_of g]; rfl, o.r2⟩
  · exact ⟨v3, w3, by rw [rd1_of g]; rfl, by rw [rdn_of g]; rfl, o.r3⟩
end
theorem ix4 {nb len i : Nat} {kk : IntKind} (hi : i < len) : ixsV 4 (.slice (some ⟨nb, 0, none⟩) len 4) (.int kk (i : Int)) = some (.pointer (some ⟨nb, i * 4, none⟩)) := by
  rw [ixsV_some, if_pos (by omega)]
  simp
/-! ### The program's lists -/
theorem i_matrixOf {q : List Int} {n : Nat} {h : AH} {Q : Value → AH → Prop} (hq : By 9 q) (hn : 1 ≤ n ∧ n ≤ 9) (hQ : ∀ v' h', h <+: h' → OwnRows h h' v' [q.take n] → Q v' h') : WF S 156 [aggV .u8 q, I64 1, I64 n] h Q := by
  refine WF_fn (fn := c156) rfl rfl ?_
  unfold c156
  ((try simp (maxSteps := 3000000) (dsimp := false) (disch := first | omega | (simp only [len_new, len_put, len_kill]; omega)) only [↓ypre, ypost, ↓reduceIte, Nat.reduceEqDiff, Nat.reduceAdd, Nat.reduceSub, Nat.reduceLeDiff, Nat.zero_add, Nat.sub_zero, ynew, aggV, cel_all, cellsL_cel]); try simp only [yback])
  generalize hH1 : AH.new h _ = H1
  obtain ⟨hb1, p1, n1⟩ := new_facts hH1
  generalize hH2 : AH.new H1 _ = H2
  obtain ⟨hb2, p2, n2⟩ := new_facts hH2
  have l0 : Lst H2 H1.length (q.take 0) true := hb2
  have hq1 := hq.1
  ((try simp (maxSteps := 3000000) (dsimp := false) (disch := first | omega | (simp only [len_new, len_put, len_kill]; omega)) only [↓ypre, ypost, ↓reduceIte, Nat.reduceEqDiff, Nat.reduceAdd, Nat.reduceSub, Nat.reduceLeDiff, Nat.zero_add, Nat.sub_zero, ynew, Int.one_mul, wrap64_in]); try simp only [yback])
  refine WC_loop_inv (fun m f K1 => ∃ (i : Nat) (k : Nat) (fu : Bool), m = n - i ∧ i ≤ n ∧ f 2 = I64 n ∧ f 3 = .pointer (some ⟨h.length, 0, none⟩) ∧ f 7 = sl k (q.take i).length ∧ f 12 = I64 n ∧ f 13 = I64 i ∧ (H1 <+: K1) ∧ (Lst K1 k (q.take i) fu) ∧ (H1.length ≤ k)) ?_ (n - 0) _ _ ⟨0, H1.length, true, rfl, by omega, (by first | rfl | (simp [upd_apply]; done)), (by first | rfl | (simp [upd_apply]; done)), (by first | rfl | (simp [upd_apply]; done)), (by first | rfl | (simp [upd_apply]; done)), (by first | rfl | (simp [upd_apply]; done)), p2, l0, Nat.le_refl _⟩
  rintro m f K1 ⟨i, k, fu, rfl, hi, f2, f3, f7, f12, f13, pp, lo, hk⟩
  have hb := pre_get pp hb1
  by_cases hlt : (i : Int) < n
  · have hi' : i < n := by omega
    have g1 := cel_get (k := .u8) (q := q) (j := i) (by omega)
    have ixa := ixa_u (n := h.length) (off := 0) (len := 9) (kk := .i64) (j := i) (by omega)
    rw [Nat.zero_add] at ixa
    have b1 := hq.2 i (by omega)
    ((try simp (maxSteps := 3000000) (dsimp := false) (disch := first | omega | (simp only [len_new, len_put, len_kill]; omega)) only [↓ypre, ypost, ↓reduceIte, Nat.reduceEqDiff, Nat.reduceAdd, Nat.reduceSub, Nat.reduceLeDiff, Nat.zero_add, Nat.sub_zero, ynew, f2, f3, f7, f12, f13, decide_eq_true hlt, ixa, rd1_of hb, g1, wrap64_in]); try simp only [yback])
    refine lo.app3 (by rw [List.length_take]; omega) fun H5 l5 pre5 keep5 lo5 => ?_
    have et : q.take i ++ [q.getD i 0] = q.take (i + 1) := (take_next (by omega)).symm
    ((try simp (maxSteps := 3000000) (dsimp := false) (disch := first | omega | (simp only [len_new, len_put, len_kill]; omega)) only [↓ypre, ypost, ↓reduceIte, Nat.reduceEqDiff, Nat.reduceAdd, Nat.reduceSub, Nat.reduceLeDiff, Nat.zero_add, Nat.sub_zero, ynew, f2, f3, f7, f12, f13, wrap64_in]); try simp only [yback])
    refine InvQ_go (n - (i + 1)) (by omega) ⟨(i + 1), (K1.length + 1), false, rfl, by omega, (by first | rfl | exact f2 | (simp only [upd_apply]; rfl) | (show I64 _ = _; congr 1; omega)), (by first | rfl | exact f3 | (simp only [upd_apply]; rfl) | (show I64 _ = _; congr 1; omega)), (by rw [← et]; rfl), (by first | rfl | exact f12 | (simp only [upd_apply]; rfl) | (show I64 _ = _; congr 1; omega)), (by first | rfl | exact f13 | (simp only [upd_apply]; rfl) | (show I64 _ = _; congr 1; omega)), (pre5 _ hk pp), (by rw [← et]; exact lo5), (by have := pre_len pp; omega)⟩
  have ei : i = n := by omega
  subst ei
  ((try simp (maxSteps := 3000000) (dsimp := false) (disch := first | omega | (simp only [len_new, len_put, len_kill]; omega)) only [↓ypre, ypost, ↓reduceIte, Nat.reduceEqDiff, Nat.reduceAdd, Nat.reduceSub, Nat.reduceLeDiff, Nat.zero_add, Nat.sub_zero, ynew, f2, f3, f7, f12, f13, decide_eq_false hlt]); try simp only [yback])
  have ql : (q.take i).length = i := by rw [List.length_take]; omega
  refine i_parted (w := i) (n := 1) lo.ints (by omega) (by omega) (by omega) fun v' H3 p3 o3 => ?_
  ((try simp (maxSteps := 3000000) (dsimp := false) (disch := first | omega | (simp only [len_new, len_put, len_kill]; omega)) only [↓ypre, ypost, ↓reduceIte, Nat.reduceEqDiff, Nat.reduceAdd, Nat.reduceSub, Nat.reduceLeDiff, Nat.zero_add, Nat.sub_zero, ynew, f2, f3, f7, f12, f13]); try simp only [yback])
  have ep : parts (q.take i) i 1 = [q.take i] := by
    unfold parts
    show [(((q.take i).drop (0 * i)).take i)] = _
    rw [Nat.zero_mul, List.drop_zero, List.take_take, Nat.min_self]
  rw [ep] at o3
  exact hQ _ _ ((p1.trans pp).trans p3) (o3.lo (by have := pre_len (p1.trans pp); omega))
theorem OwnRows.one_row {h0 h : AH} {v : Value} {r : List Int} (o : OwnRows h0 h v [r]) (hr : r ≠ []) : ∃ nb kr fu, ixsV 1 v (I64 0) = some (.pointer (some ⟨nb, 0, none⟩)) ∧ h.rd1 nb 0 = some (sl kr r.length) ∧ h0.length ≤ kr ∧ OwnB h kr (r.map (Value.int .i64)) fu := by
  rcases o with ⟨_, e⟩ | ⟨n, e, full, cs, h1, rfl, h2, h3, h4, _⟩
  · cases e
  · have hl : cs.length = 1 := by simpa using h3
    obtain ⟨q1, _⟩ := h4 0 (by simp)
    have e0 : cs.getD 0 undef = cs.getD 0 undef := rfl
    rcases q1 with ⟨_, e2⟩ | ⟨kb, e2, fu, g1, g2, g3⟩
    · exact absurd e2 hr
    · refine ⟨n, kb, fu, ?_, ?_, g1, e2, g3⟩
      · rw [hl]
        rfl
      · rw [rd1_of h2]
        show cs[0]? = _
        have : cs[0]? = some (cs.getD 0 undef) := by
          rw [List.getD_eq_getElem?_getD, List.getElem?_eq_getElem (by omega)]
          rfl
        rw [this, g2]
        rfl
theorem i_lists {v : Value} {x : Sch} {i n : Nat} {h : AH} {Q : Value → AH → Prop} (hv : Prods h v x.ps) (hl : x.ps.length ≤ 30) (hi : i < 3) (hn : 1 ≤ n ∧ n ≤ 9)
    (hQ : ∀ v' h', h <+: h' → Rows h' v' (lsF x i n) → Q v' h') : WF S 145 [schV x v, I64 i, I64 n] h Q := by
  refine WF_fn (fn := c145) rfl rfl ?_
  unfold c145
  ((try simp (maxSteps := 3000000) (dsimp := false) (disch := first | omega | (simp only [len_new, len_put, len_kill]; omega)) only [↓ypre, ypost, ↓reduceIte, Nat.reduceEqDiff, Nat.reduceAdd, Nat.reduceSub, Nat.reduceLeDiff, Nat.zero_add, Nat.sub_zero, ynew, schV, hv.one]); try simp only [yback])
  generalize hH1 : AH.new h _ = H1
  obtain ⟨hb1, p1, n1⟩ := new_facts hH1
  generalize hH2 : AH.new H1 _ = H2
  obtain ⟨hb2, p2, n2⟩ := new_facts hH2
  ((try simp (maxSteps := 3000000) (dsimp := false) (disch := first | omega | (simp only [len_new, len_put, len_kill]; omega)) only [↓ypre, ypost, ↓reduceIte, Nat.reduceEqDiff, Nat.reduceAdd, Nat.reduceSub, Nat.reduceLeDiff, Nat.zero_add, Nat.sub_zero, ynew, rd1_of (pre_get p2 hb1), (hv.pre (p1.trans p2)).1.len]); try simp only [yback])
  have z27 := zeros27
  refine WC_loop_inv (fun m f K1 => ∃ (j : Nat) (nb : Nat) (fl : Bool) (L : List (Nat × List Int)), m = x.ps.length - j ∧ j ≤ x.ps.length ∧ f 1 = I64 i ∧ f 2 = I64 n ∧ f 3 = .pointer (some ⟨h.length, 0, none⟩) ∧ f 7 = sl nb L.length ∧ f 12 = v ∧ f 13 = I64 x.ps.length ∧ f 14 = I64 j ∧ (TabS H1 K1 nb fl L) ∧ (L.map Prod.snd = (lsF x i n).take j)) ?_ (x.ps.length - 0) _ _ ⟨0, H1.length, true, [], rfl, by omega, (by first | rfl | (simp [upd_apply]; done)), (by first | rfl | (simp [upd_apply]; done)), (by first | rfl | (simp [upd_apply]; done)), (by first | rfl | (simp [upd_apply]; done)), (by first | rfl | (simp [upd_apply]; done)), (by first | rfl | (simp [upd_apply]; done)), (by first | rfl | (simp [upd_apply]; done)), ⟨p2, Nat.le_refl _, hb2, by simp, by simp⟩, (by simp)⟩
  rintro m f K1 ⟨j, nb, fl, L, rfl, hj, f1, f2, f3, f7, f12, f13, f14, st, hL⟩
  have hLl : L.length = j := by
    have := congrArg List.length hL
    rw [List.length_map, List.length_take, lsF_len] at this
    omega
  have lt := st.lt
  have kh := pre_len st.hp
  have hvK := hv.pre (p1.trans st.hp)
  by_cases hlt : (j : Int) < x.ps.length
  · have hj' : j < x.ps.length := by omega
    obtain ⟨n5', off5, hix, hrn, hr1⟩ := hvK.1.at hj'
    have r27 := hrn 0 27 (by omega)
    have wi := hvK.1.wid hj'
    have hby := hvK.by hj'
    have tk : (x.ps.getD j []).take 27 = x.ps.getD j [] := List.take_of_length_le (by omega)
    rw [List.drop_zero, tk, Nat.add_zero] at r27
    have eg := lsF_get (x := x) (i := i) (n := n) hj'
    generalize hq : x.ps.getD j [] = q at *
    have w1 : ∀ (h1 : AH) (e : TypeId), (h1.new ⟨[.int .u8 0, .int .u8 0, .int .u8 0, .int .u8 0, .int .u8 0, .int .u8 0, .int .u8 0, .int .u8 0, .int .u8 0, .int .u8 0, .int .u8 0, .int .u8 0, .int .u8 0, .int .u8 0, .int .u8 0, .int .u8 0, .int .u8 0, .int .u8 0, .int .u8 0, .int .u8 0, .int .u8 0, .int .u8 0, .int .u8 0, .int .u8 0, .int .u8 0, .int .u8 0, .int .u8 0], e, false, true⟩).wr h1.length 0 (cel .u8 q) = some (h1.new ⟨cel .u8 q, e, false, true⟩) := fun h1 e => wr_all (by rw [cel_len, wi]; rfl)
    ((try simp (maxSteps := 3000000) (dsimp := false) (disch := first | omega | (simp only [len_new, len_put, len_kill]; omega)) only [↓ypre, ypost, ↓reduceIte, Nat.reduceEqDiff, Nat.reduceAdd, Nat.reduceSub, Nat.reduceLeDiff, Nat.zero_add, Nat.sub_zero, ynew, f1, f2, f3, f7, f12, f13, f14, decide_eq_true hlt, hix, r27, cel_all, cellsL_cel, cel_len, wi, ↓w1, cel_take, tk, wrap64_in]); try simp only [yback])
    generalize hH3 : AH.new K1 _ = H3
    obtain ⟨hb3, p3, n3⟩ := new_facts hH3
    refine i_factors wi fun H4 p4 => ?_
    have e1 : idxnV 3 9 (aggV .u8 q) (I64 i) = some (.agg (cel .u8 (seg q i)).toArray) := by
      simp only [idxnV, aggV, toL, Int.toNat_natCast, cel_len, wi]
      rw [if_pos ⟨by omega, by omega, by omega⟩]
      simp only [cel_drop, cel_take]
      rfl
    ((try simp (maxSteps := 3000000) (dsimp := false) (disch := first | omega | (simp only [len_new, len_put, len_kill]; omega)) only [↓ypre, ypost, ↓reduceIte, Nat.reduceEqDiff, Nat.reduceAdd, Nat.reduceSub, Nat.reduceLeDiff, Nat.zero_add, Nat.sub_zero, ynew, f1, f2, f3, f7, f12, f13, f14, e1]); try simp only [yback])
    refine i_matrixOf (hby.seg hi) hn fun v5 H5 p5 o5 => ?_
    have p35 := p3.trans (p4.trans p5)
    have k4 := pre_len p4
    have sgl := (hby.seg hi).1
    obtain ⟨nb5, kr, fr, ix0, rd0, hkr, ob⟩ := o5.one_row (by
      intro e
      have := congrArg List.length e
      rw [List.length_take, sgl, List.length_nil] at this
      omega)
    ((try simp (maxSteps := 3000000) (dsimp := false) (disch := first | omega | (simp only [len_new, len_put, len_kill]; omega)) only [↓ypre, ypost, ↓reduceIte, Nat.reduceEqDiff, Nat.reduceAdd, Nat.reduceSub, Nat.reduceLeDiff, Nat.zero_add, Nat.sub_zero, ynew, f1, f2, f3, f7, f12, f13, f14, ix0, rd0, sl_cells, sl_one]); try simp only [yback])
    refine (st.pre p35).app2 ⟨by omega, by omega, fun q hq => by have := lt.2 q hq; omega⟩ ob (by omega) fun nb' H' st' l' e' own' pre' => ?_
    ((try simp (maxSteps := 3000000) (dsimp := false) (disch := first | omega | (simp only [len_new, len_put, len_kill]; omega)) only [↓ypre, ypost, ↓reduceIte, Nat.reduceEqDiff, Nat.reduceAdd, Nat.reduceSub, Nat.reduceLeDiff, Nat.zero_add, Nat.sub_zero, ynew, f1, f2, f3, f7, f12, f13, f14, wrap64_in]); try simp only [yback])
    refine InvQ_go (x.ps.length - (j + 1)) (by omega) ⟨(j + 1), nb', false, (L ++ [(kr, (seg q i).take n)]), rfl, by omega, (by first | rfl | exact f1 | (simp only [upd_apply]; rfl) | (show I64 _ = _; congr 1; omega)), (by first | rfl | exact f2 | (simp only [upd_apply]; rfl) | (show I64 _ = _; congr 1; omega)), (by first | rfl | exact f3 | (simp only [upd_apply]; rfl) | (show I64 _ = _; congr 1; omega)), (by first | rfl | exact f7 | (simp only [upd_apply]; rfl) | (show I64 _ = _; congr 1; omega)), (by first | rfl | exact f12 | (simp only [upd_apply]; rfl) | (show I64 _ = _; congr 1; omega)), (by first | rfl | exact f13 | (simp only [upd_apply]; rfl) | (show I64 _ = _; congr 1; omega)), (by first | rfl | exact f14 | (simp only [upd_apply]; rfl) | (show I64 _ = _; congr 1; omega)), st', (by rw [List.map_append, hL, take_next (d := []) (by rw [lsF_len]; exact hj'), eg]; rfl)⟩
  have ej : j = x.ps.length := by omega
  subst ej
  rw [List.take_of_length_le (by rw [lsF_len]; exact Nat.le_refl _)] at hL
  ((try simp (maxSteps := 3000000) (dsimp := false) (disch := first | omega | (simp only [len_new, len_put, len_kill]; omega)) only [↓ypre, ypost, ↓reduceIte, Nat.reduceEqDiff, Nat.reduceAdd, Nat.reduceSub, Nat.reduceLeDiff, Nat.zero_add, Nat.sub_zero, ynew, f1, f2, f3, f7, f12, f13, f14, decide_eq_false hlt]); try simp only [yback])
  have o := st.own
  rw [hL] at o
  exact hQ _ _ (p1.trans st.hp) o.rows
end Go.Proofs.Ytilpnbejpndgpaa.X

/- The programs of a scheme, and StepsOf: the program. -/
set_option linter.unusedVariables false
set_option linter.unusedSimpArgs false
set_option maxRecDepth 20000
set_option maxHeartbeats 4000000
namespace Go.Proofs.Ytilpnbejpndgpaa.X
open Go Go.RowKit

theorem xres_nil {f : Fr} {h : AH} : xres f h [] = some (.tuple #[]) := rfl
theorem InE.move {k : IntKind} {w a b : Nat} {h h' : AH} {v : Value} {L : List (List Int)} (o : InE k w a b h v L) (hk : ∀ m bl, a ≤ m → m < b → h.get m = some bl → h'.get m = some bl) : InE k w a b h' v L := by
  rcases o with o | ⟨m, e, full, h1, rfl, h2, h3⟩
  · exact .inl o
  · exact .inr ⟨m, e, full, h1, rfl, hk _ _ h1.1 h1.2 h2, h3⟩
theorem InP.move {a b : Nat} {h h' : AH} {v w : Value} {x : Prg} (o : InP a b h v w x) (hk : ∀ m bl, a ≤ m → m < b → h.get m = some bl → h'.get m = some bl) : InP a b h' v w x := by
  obtain ⟨c, h1, h2, h3, h4⟩ := o
  exact ⟨c, h1, h2, h3.move fun m bl q1 q2 g => hk m bl q1 (by omega) g, h4.move fun m bl q1 q2 g => hk m bl (by omega) q2 g⟩
theorem i_made {u : Value} {p n xn xm xk : Int} {xv : Value} {b : Bool} {rows : List (List Int)} {ms mo mx nb k : Nat} {eS eX eO : TypeId} {fl : Bool} {c : List Value} {h : AH} {Q : Value → AH → Prop} (hu : Rows h u rows) (hok : lsOK p n rows = true)
    (gS : h.get ms = some ⟨[.bool b], eS, false, true⟩) (gX : h.get mx = some ⟨[I64 p, I64 xn, I64 xm, I64 xk, xv], eX, false, true⟩) (gO : h.get mo = some ⟨[.slice (some ⟨nb, 0, none⟩) k 4], eO, false, true⟩) (gB : h.get nb = some ⟨c, 48, false, fl⟩) (hc : c.length = k * 4) (hk : k ≤ 3) (hne : mo ≠ nb)
    (hQ : ∀ (val : Value) (nb' : Nat) (v' w' : Value) (h' : AH), h.length ≤ nb' → nb' < h'.length → h'.get nb' = some ⟨c ++ prgC (pgO p n rows b) v' w', 48, false, false⟩ → h'.get mo = some ⟨[.slice (some ⟨nb', 0, none⟩) (k + 1) 4], eO, false, true⟩ → InP h.length nb' h' v' w' (pgO p n rows b) → (∀ m bl, m ≠ nb → m ≠ mo → h.get m = some bl → h'.get m = some bl) → (∀ h0 : AH, h0.length ≤ nb → h0.length ≤ mo → h0 <+: h → h0 <+: h') → Q val h') : WF S 144 [I64 n, u, .pointer (some ⟨ms, 0, none⟩), .pointer (some ⟨mo, 0, none⟩), .pointer (some ⟨mx, 0, none⟩)] h Q := by
  refine WF_fn (fn := c144) rfl rfl ?_
  unfold c144
  have hlen := hok
  have ltO := get_lt gO
  have ltB := get_lt gB
  have tail : ∀ (P : Prg) (v' w' : Value) (H : AH), h <+: H → ∃ H2 : AH, appV (48) 4 64 (.slice (some ⟨nb, 0, none⟩) k 4) (.slice (some ⟨H.length, 0, none⟩) 1 4) (H.new ⟨[I64 P.p, I64 P.n, v', w'], 48, false, true⟩) = some (.slice (some ⟨H.length + 1, 0, none⟩) (k + 1) 4, H2) ∧
      H2.length = H.length + 2 ∧ H2.get (H.length + 1) = some ⟨c ++ prgC P v' w', 48, false, false⟩ ∧ (∀ m bl, m ≠ nb → H.get m = some bl → H2.get m = some bl) ∧ (∀ h0 : AH, h0.length ≤ nb → h0 <+: H → h0 <+: H2) := by
    intro P v' w' H pH
    have hr : (H.new ⟨[I64 P.p, I64 P.n, v', w'], 48, false, true⟩).rdn H.length 0 4 = some [I64 P.p, I64 P.n, v', w'] := by
      rw [rdn_of get_new_same]
      rfl
    have hkk : (H.new ⟨[I64 P.p, I64 P.n, v', w'], 48, false, true⟩).get nb = some ⟨c, 48, false, fl⟩ := get_new_any (pre_get pH gB)
    refine ⟨((H.new ⟨[I64 P.p, I64 P.n, v', w'], 48, false, true⟩).kill nb).new ⟨c ++ [I64 P.p, I64 P.n, v', w'], 48, false, false⟩, ?_, ?_, ?_, ?_, ?_⟩
    · rw [app_ownW hkk hc hr (by omega), len_new]
    · rw [len_new, len_kill, len_new]
    · rw [get_new_eq (by rw [len_kill, len_new])]
      rfl
    · intro m bl hm g
      exact get_new_any (by rw [get_kill_ne (fun e => hm e.symm)]; exact get_new_any g)
    · intro h0 hh q
      exact pre_new (pre_kill (pre_new q) hh)
  unfold pgO at hQ
  cases b with
  | true =>
    rw [if_pos rfl] at hQ
    ((try simp (maxSteps := 3000000) (dsimp := false) (disch := first | omega | (simp only [len_new, len_put, len_kill]; omega)) only [↓ypre, ypost, ↓reduceIte, Nat.reduceEqDiff, Nat.reduceAdd, Nat.reduceSub, Nat.reduceLeDiff, Nat.zero_add, Nat.sub_zero, ynew, rd1_of gS, rd1_of gO, rd1_of gX]); try simp only [yback])
    refine i_sharedProgram hu hok fun v' w' H' pH o ob => ?_
    obtain ⟨H2, e2, l2, g2, k2, pre2⟩ := tail (shP p n rows) v' w' H' pH
    have gO2 := k2 _ _ hne (pre_get pH gO)
    have lh := pre_len pH
    have lt2 := get_lt gO2
    ((try simp (maxSteps := 3000000) (dsimp := false) (disch := first | omega | (simp only [len_new, len_put, len_kill]; omega)) only [↓ypre, ypost, ↓reduceIte, Nat.reduceEqDiff, Nat.reduceAdd, Nat.reduceSub, Nat.reduceLeDiff, Nat.zero_add, Nat.sub_zero, ynew, prgV, o.st.one, o.st.cells, o.out.one, o.out.cells, fillL]); try simp only [yback])
    refine ⟨pH, ?_⟩
    ((try simp (maxSteps := 3000000) (dsimp := false) (disch := first | omega | (simp only [len_new, len_put, len_kill]; omega)) only [↓ypre, ypost, ↓reduceIte, Nat.reduceEqDiff, Nat.reduceAdd, Nat.reduceSub, Nat.reduceLeDiff, Nat.zero_add, Nat.sub_zero, ynew, e2, wr_of gO2, xres_nil]); try simp only [yback])
    refine hQ _ (H'.length + 1) v' w' _ (by omega) (by rw [len_put]; omega) (by rw [get_put_ne (by omega)]; exact g2) (get_put_same lt2) (((o.inP ob lh).mono (Nat.le_refl _) (by omega)).move fun m bl q1 q2 g => ?_) (fun m bl q1 q2 g => by rw [get_put_ne (fun e => q2 e.symm)]; exact k2 m bl q1 (pre_get pH g)) (fun h0 q1 q2 q => pre_put (pre2 h0 q1 (q.trans pH)) q2)
    rw [get_put_ne (by omega)]
    exact k2 m bl (by omega) g
  | false =>
    rw [if_neg (by decide)] at hQ
    obtain ⟨hp, hn, hl, hmm⟩ := lsOK_iff.1 hok
    ((try simp (maxSteps := 3000000) (dsimp := false) (disch := first | omega | (simp only [len_new, len_put, len_kill]; omega)) only [↓ypre, ypost, ↓reduceIte, Nat.reduceEqDiff, Nat.reduceAdd, Nat.reduceSub, Nat.reduceLeDiff, Nat.zero_add, Nat.sub_zero, ynew, rd1_of gS, rd1_of gO, rd1_of gX]); try simp only [yback])
    have o0 : Way2 h h.length (.slice none 0 0) (.slice none 0 0) ⟨p, n, [], []⟩ := ⟨⟨fun r hr => by simp at hr, .inl ⟨rfl, rfl⟩⟩, ⟨fun r hr => by simp at hr, .inl ⟨rfl, rfl⟩⟩⟩
    rw [show Value.agg #[I64 p, I64 n, .slice none 0 0, .slice none 0 0] = prgV ⟨p, n, [], []⟩ (.slice none 0 0) (.slice none 0 0) from rfl]
    refine i_finished hp hn o0 (Nat.le_refl _) hu.stays (fun i hi => ⟨(isMat_iff.1 hmm i hi).2, by have := (isMat_iff.1 hmm i hi).1; omega⟩) (by omega) (by simp) (by simp) fun v' w' H' sy o ob => ?_
    have pH : h <+: H' := sy.pre _ (Nat.le_refl _) (List.prefix_refl _)
    have ob := ob (by omega)
    obtain ⟨H2, e2, l2, g2, k2, pre2⟩ := tail (finP ⟨p, n, [], []⟩ rows rows.length) v' w' H' pH
    have gO2 := k2 _ _ hne (pre_get pH gO)
    have lh := pre_len pH
    have lt2 := get_lt gO2
    ((try simp (maxSteps := 3000000) (dsimp := false) (disch := first | omega | (simp only [len_new, len_put, len_kill]; omega)) only [↓ypre, ypost, ↓reduceIte, Nat.reduceEqDiff, Nat.reduceAdd, Nat.reduceSub, Nat.reduceLeDiff, Nat.zero_add, Nat.sub_zero, ynew, prgV, o.st.one, o.st.cells, o.out.one, o.out.cells, fillL]); try simp only [yback])
    refine ⟨pH, ?_⟩
    ((try simp (maxSteps := 3000000) (dsimp := false) (disch := first | omega | (simp only [len_new, len_put, len_kill]; omega)) only [↓ypre, ypost, ↓reduceIte, Nat.reduceEqDiff, Nat.reduceAdd, Nat.reduceSub, Nat.reduceLeDiff, Nat.zero_add, Nat.sub_zero, ynew, e2, wr_of gO2, xres_nil]); try simp only [yback])
    refine hQ _ (H'.length + 1) v' w' _ (by omega) (by rw [len_put]; omega) (by rw [get_put_ne (by omega)]; exact g2) (get_put_same lt2) (((o.inP ob lh).mono (Nat.le_refl _) (by omega)).move fun m bl q1 q2 g => ?_) (fun m bl q1 q2 g => by rw [get_put_ne (fun e => q2 e.symm)]; exact k2 m bl q1 (pre_get pH g)) (fun h0 q1 q2 q => pre_put (pre2 h0 q1 (q.trans pH)) q2)
    rw [get_put_ne (by omega)]
    exact k2 m bl (by omega) g
theorem i_programsOf {v : Value} {x : Sch} {b : Bool} {h : AH} {Q : Value → AH → Prop} (hv : Prods h v x.ps) (hx : isX x = true) (h0 : 1 ≤ x.ps.length)
    (hQ : ∀ (nb c1 c2 : Nat) (h' : AH) (v1 w1 v2 w2 v3 w3 : Value), h <+: h' → (∃ fl, h'.get nb = some ⟨prgC (pgX x b 0) v1 w1 ++ prgC (pgX x b 1) v2 w2 ++ prgC (pgX x b 2) v3 w3, 48, false, fl⟩) → h.length ≤ c1 → InP h.length c1 h' v1 w1 (pgX x b 0) → InP c1 c2 h' v2 w2 (pgX x b 1) → InP c2 nb h' v3 w3 (pgX x b 2) → Q (.slice (some ⟨nb, 0, none⟩) 3 4) h') : WF S 111 [schV x v, .bool b] h Q := by
  refine WF_fn (fn := c111) rfl rfl ?_
  unfold c111
  obtain ⟨z, hp, hl, ho⟩ := isX_facts hx
  have zn := z.nm
  have zm := z.mk2
  have zk := z.nk
  ((try simp (maxSteps := 3000000) (dsimp := false) (disch := first | omega | (simp only [len_new, len_put, len_kill]; omega)) only [↓ypre, ypost, ↓reduceIte, Nat.reduceEqDiff, Nat.reduceAdd, Nat.reduceSub, Nat.reduceLeDiff, Nat.zero_add, Nat.sub_zero, ynew, schV, hv.one]); try simp only [yback])
  generalize hH1 : AH.new h _ = H1
  obtain ⟨hb1, p1, n1⟩ := new_facts hH1
  generalize hH2 : AH.new H1 _ = H2
  obtain ⟨hb2, p2, n2⟩ := new_facts hH2
  ((try simp (maxSteps := 3000000) (dsimp := false) (disch := first | omega | (simp only [len_new, len_put, len_kill]; omega)) only [↓ypre, ypost, ↓reduceIte, Nat.reduceEqDiff, Nat.reduceAdd, Nat.reduceSub, Nat.reduceLeDiff, Nat.zero_add, Nat.sub_zero, ynew, rdn_of (pre_get p2 hb1)]); try simp only [yback])
  refine i_placesOf (x := x) hv.one z fun H3 p3 => ?_
  ((try simp (maxSteps := 3000000) (dsimp := false) (disch := first | omega | (simp only [len_new, len_put, len_kill]; omega)) only [↓ypre, ypost, ↓reduceIte, Nat.reduceEqDiff, Nat.reduceAdd, Nat.reduceSub, Nat.reduceLeDiff, Nat.zero_add, Nat.sub_zero]); try simp only [yback])
  generalize hH4 : AH.new H3 _ = H4
  obtain ⟨hb4, p4, n4⟩ := new_facts hH4
  generalize hH5 : AH.new H4 _ = H5
  obtain ⟨hb5, p5, n5⟩ := new_facts hH5
  ((try simp (maxSteps := 3000000) (dsimp := false) (disch := first | omega | (simp only [len_new, len_put, len_kill]; omega)) only [↓ypre, ypost, ↓reduceIte, Nat.reduceEqDiff, Nat.reduceAdd, Nat.reduceSub, Nat.reduceLeDiff, Nat.zero_add, Nat.sub_zero, wr_of hb5]); try simp only [yback])
  generalize hHP : AH.put H5 _ _ = HP
  have lP : HP.length = H5.length := by rw [← hHP, len_put]
  rw [← lP]
  obtain ⟨e5, g5⟩ : ∃ e5, HP.get H4.length = some ⟨[I64 (x.n * x.m), I64 (x.m * x.k), I64 (x.n * x.k)], e5, false, true⟩ := ⟨_, by rw [← hHP]; exact get_put_same (get_lt hb5)⟩
  have g4 : HP.get H3.length = some ⟨[], 48, false, true⟩ := by rw [← hHP, get_put_ne (by omega)]; exact pre_get p5 hb4
  have pP : H3 <+: HP := by rw [← hHP]; exact pre_put (p4.trans p5) (by omega)
  obtain ⟨a, ha⟩ : ∃ a : Nat, x.n * x.m = a := ⟨(x.n * x.m).toNat, by omega⟩
  obtain ⟨b', hb'⟩ : ∃ b' : Nat, x.m * x.k = b' := ⟨(x.m * x.k).toNat, by omega⟩
  obtain ⟨c', hc'⟩ : ∃ c' : Nat, x.n * x.k = c' := ⟨(x.n * x.k).toNat, by omega⟩
  have eA : fmX x 0 = lsF x 0 a := by
    show lsF x 0 (x.n * x.m).toNat = _
    rw [ha, Int.toNat_natCast]
  have eB : fmX x 1 = lsF x 1 b' := by
    show lsF x 1 (x.m * x.k).toNat = _
    rw [hb', Int.toNat_natCast]
  have eC : fmX x 2 = trL (lsF x 2 c') c' := by
    show trL (lsF x 2 (x.n * x.k).toNat) (x.n * x.k).toNat = _
    rw [hc', Int.toNat_natCast]
  have okA : lsOK x.p (x.n * x.m) (fmX x 0) = true := fmX_ok hv hx h0 (i := 0) (by omega)
  have okB : lsOK x.p (x.m * x.k) (fmX x 1) = true := fmX_ok hv hx h0 (i := 1) (by omega)
  have okC : lsOK x.p (x.ps.length : Int) (fmX x 2) = true := fmX_ok hv hx h0 (i := 2) (by omega)
  rw [ha] at g5 okA
  rw [hb'] at g5 okB
  rw [hc'] at g5
  rw [eA] at okA
  rw [eB] at okB
  have ia0 : ixaV 3 1 (.pointer (some ⟨H4.length, 0, none⟩)) (I64 0) = some (.pointer (some ⟨H4.length, 0, none⟩)) := by
    have := ixa_u (n := H4.length) (off := 0) (len := 3) (kk := .i64) (j := 0) (by omega)
    simpa using this
  have ia1 : ixaV 3 1 (.pointer (some ⟨H4.length, 0, none⟩)) (I64 1) = some (.pointer (some ⟨H4.length, 1, none⟩)) := by
    have := ixa_u (n := H4.length) (off := 0) (len := 3) (kk := .i64) (j := 1) (by omega)
    simpa using this
  have ia2 : ixaV 3 1 (.pointer (some ⟨H4.length, 0, none⟩)) (I64 2) = some (.pointer (some ⟨H4.length, 2, none⟩)) := by
    have := ixa_u (n := H4.length) (off := 0) (len := 3) (kk := .i64) (j := 2) (by omega)
    simpa using this
  ((try simp (maxSteps := 3000000) (dsimp := false) (disch := first | omega | (simp only [len_new, len_put, len_kill]; omega)) only [↓ypre, ypost, ↓reduceIte, Nat.reduceEqDiff, Nat.reduceAdd, Nat.reduceSub, Nat.reduceLeDiff, Nat.zero_add, Nat.sub_zero, ynew]); try simp only [yback])
  generalize hH6 : AH.new HP _ = H6
  obtain ⟨hb6, p6, n6⟩ := new_facts hH6
  have p13 := ((p1.trans p2).trans p3).trans (pP.trans p6)
  have x6 := pre_get (p2.trans (p3.trans (pP.trans p6))) hb1
  have s6 := pre_get (p3.trans (pP.trans p6)) hb2
  have g56 := pre_get p6 g5
  have g46 := pre_get p6 g4
  have hv6 := hv.pre p13
  have k3 := pre_len p3
  ((try simp (maxSteps := 3000000) (dsimp := false) (disch := first | omega | (simp only [len_new, len_put, len_kill]; omega)) only [↓ypre, ypost, ↓reduceIte, Nat.reduceEqDiff, Nat.reduceAdd, Nat.reduceSub, Nat.reduceLeDiff, Nat.zero_add, Nat.sub_zero, ynew, ia0, rd1_of g56, rdn_of x6]); try simp only [yback])
  refine i_lists (x := x) (i := 0) (n := a) hv6 hl (by omega) (by omega) fun u1 H7 p7 r1 => ?_
  ((try simp (maxSteps := 3000000) (dsimp := false) (disch := first | omega | (simp only [len_new, len_put, len_kill]; omega)) only [↓ypre, ypost, ↓reduceIte, Nat.reduceEqDiff, Nat.reduceAdd, Nat.reduceSub, Nat.reduceLeDiff, Nat.zero_add, Nat.sub_zero, ynew, WK_func]); try simp only [yback])
  have k7 := pre_len p7
  have l3 := get_lt hb4
  have nP := pre_len pP
  have pP3 : H3 <+: H6 := pP.trans p6
  refine ⟨p7, ?_⟩
  refine i_made (p := x.p) (n := a) (rows := lsF x 0 a) (k := 0) (c := []) (ms := H1.length) (mx := h.length) (mo := HP.length) (nb := H3.length) (b := b) r1 okA (pre_get p7 s6) (pre_get p7 x6) (pre_get p7 hb6) (pre_get p7 g46) rfl (by omega) (by omega) fun val1 nb1 v1 w1 H8 ln8 lt8 g8 gO8 i8 keep8 pre8 => ?_
  have q38 : H3 <+: H8 := pre8 H3 (Nat.le_refl _) (by omega) (pP3.trans p7)
  have g58 := keep8 _ _ (by omega) (by omega) (pre_get p7 g56)
  have x3 := pre_get (p2.trans p3) hb1
  have s3 := pre_get p3 hb2
  have x8 := pre_get q38 x3
  have hv8 := hv6.pre (h' := H6) (List.prefix_refl _)
  have p3h := (p1.trans p2).trans p3
  ((try simp (maxSteps := 3000000) (dsimp := false) (disch := first | omega | (simp only [len_new, len_put, len_kill]; omega)) only [↓ypre, ypost, ↓reduceIte, Nat.reduceEqDiff, Nat.reduceAdd, Nat.reduceSub, Nat.reduceLeDiff, Nat.zero_add, Nat.sub_zero, ynew, ia1, rd1_of g58, rdn_of x8]); try simp only [yback])
  refine i_lists (x := x) (i := 1) (n := b') (hv.pre (p3h.trans q38)) hl (by omega) (by omega) fun u2 H9 p9 r2 => ?_
  ((try simp (maxSteps := 3000000) (dsimp := false) (disch := first | omega | (simp only [len_new, len_put, len_kill]; omega)) only [↓ypre, ypost, ↓reduceIte, Nat.reduceEqDiff, Nat.reduceAdd, Nat.reduceSub, Nat.reduceLeDiff, Nat.zero_add, Nat.sub_zero, ynew, WK_func]); try simp only [yback])
  refine ⟨p9, ?_⟩
  have k9 := pre_len p9
  have h3lt := pre_len p3h
  have x9 := pre_get p9 x8
  have s9 := pre_get (q38.trans p9) s3
  have ltx := get_lt hb1
  have lts := get_lt hb2
  have ka := pre_len p1
  have kb := pre_len p2
  refine i_made (p := x.p) (n := b') (rows := lsF x 1 b') (k := 1) (ms := H1.length) (mx := h.length) (mo := HP.length) (nb := nb1) (b := b) r2 okB s9 x9 (pre_get p9 gO8) (pre_get p9 g8) rfl (by omega) (by omega) fun val2 nb2 v2 w2 H10 ln10 lt10 g10 gO10 i10 keep10 pre10 => ?_
  have q310 : H3 <+: H10 := pre10 H3 (by omega) (by omega) (q38.trans p9)
  have g510 := keep10 _ _ (by omega) (by omega) (pre_get p9 g58)
  have x10 := pre_get q310 x3
  have i8' := (i8.pre p9).move (h' := H10) fun m bl e1 e2 g => keep10 m bl (by omega) (by omega) g
  ((try simp (maxSteps := 3000000) (dsimp := false) (disch := first | omega | (simp only [len_new, len_put, len_kill]; omega)) only [↓ypre, ypost, ↓reduceIte, Nat.reduceEqDiff, Nat.reduceAdd, Nat.reduceSub, Nat.reduceLeDiff, Nat.zero_add, Nat.sub_zero, ynew, rd1_of x10, rdn_of x10, ia2, rd1_of g510, (hv.pre (p3h.trans q310)).1.len]); try simp only [yback])
  refine i_lists (x := x) (i := 2) (n := c') (hv.pre (p3h.trans q310)) hl (by omega) (by omega) fun u3 H11 p11 r3 => ?_
  ((try simp (maxSteps := 3000000) (dsimp := false) (disch := first | omega | (simp only [len_new, len_put, len_kill]; omega)) only [↓ypre, ypost, ↓reduceIte, Nat.reduceEqDiff, Nat.reduceAdd, Nat.reduceSub, Nat.reduceLeDiff, Nat.zero_add, Nat.sub_zero, ynew]); try simp only [yback])
  refine ⟨p11, ?_⟩
  refine i_transposed (rows := lsF x 2 c') (w := c') r3 (by rw [lsF_len]; omega) (by rw [lsF_len]; omega) (fun i hi => ?_) (by omega) fun u4 H12 p12 r4 => ?_
  · rw [lsF_len] at hi
    rw [lsF_get hi, List.length_take, ((hv.by hi).seg (by omega)).1]
    omega
  rw [← eC] at r4
  have p1012 := p11.trans p12
  have k12 := pre_len p1012
  refine ⟨p12, ?_⟩
  ((try simp (maxSteps := 3000000) (dsimp := false) (disch := first | omega | (simp only [len_new, len_put, len_kill]; omega)) only [↓ypre, ypost, ↓reduceIte, Nat.reduceEqDiff, Nat.reduceAdd, Nat.reduceSub, Nat.reduceLeDiff, Nat.zero_add, Nat.sub_zero, ynew, WK_func]); try simp only [yback])
  refine i_made (p := x.p) (n := (x.ps.length : Int)) (rows := fmX x 2) (k := 2) (ms := H1.length) (mx := h.length) (mo := HP.length) (nb := nb2) (b := b) r4.rows okC (pre_get (q310.trans p1012) s3) (pre_get p1012 x10) (pre_get p1012 gO10) (pre_get p1012 g10) rfl (by omega) (by omega) fun val3 nb3 v3 w3 H13 ln13 lt13 g13 gO13 i13 keep13 pre13 => ?_
  have q313 : H3 <+: H13 := pre13 H3 (by omega) (by omega) (q310.trans p1012)
  have i8'' := (i8'.pre p1012).move (h' := H13) fun m bl e1 e2 g => keep13 m bl (by omega) (by omega) g
  have i10' := (i10.pre p1012).move (h' := H13) fun m bl e1 e2 g => keep13 m bl (by omega) (by omega) g
  ((try simp (maxSteps := 3000000) (dsimp := false) (disch := first | omega | (simp only [len_new, len_put, len_kill]; omega)) only [↓ypre, ypost, ↓reduceIte, Nat.reduceEqDiff, Nat.reduceAdd, Nat.reduceSub, Nat.reduceLeDiff, Nat.zero_add, Nat.sub_zero, ynew, rd1_of gO13]); try simp only [yback])
  have E0 : pgO x.p (a : Int) (lsF x 0 a) b = pgX x b 0 := by
    rw [← ha, ← eA]
    rfl
  have E1 : pgO x.p (b' : Int) (lsF x 1 b') b = pgX x b 1 := by
    rw [← hb', ← eB]
    rfl
  have E2 : pgO x.p (x.ps.length : Int) (fmX x 2) b = pgX x b 2 := rfl
  rw [E0, E1, E2, List.nil_append] at g13
  rw [E0] at i8''
  rw [E1] at i10'
  rw [E2] at i13
  exact hQ nb3 nb1 nb2 _ v1 w1 v2 w2 v3 w3 (p3h.trans q313) ⟨_, g13⟩ (by omega) (i8''.mono (by omega) (Nat.le_refl _)) (i10'.mono (by omega) (Nat.le_refl _)) (i13.mono (by omega) (Nat.le_refl _))
end Go.Proofs.Ytilpnbejpndgpaa.X

/- StepsOf: the program. -/
set_option linter.unusedVariables false
set_option linter.unusedSimpArgs false
set_option maxRecDepth 20000
set_option maxHeartbeats 4000000
namespace Go.Proofs.Ytilpnbejpndgpaa.X
open Go Go.RowKit

end Go.Proofs.Ytilpnbejpndgpaa.X

/- The programs that are made of lists are programs. -/
set_option linter.unusedVariables false
set_option linter.unusedSimpArgs false
set_option maxRecDepth 20000
set_option maxHeartbeats 4000000
namespace Go.Proofs.Ytilpnbejpndgpaa.X
open Go Go.RowKit

def StV (p n : Int) (st : List (List Int)) : Prop := ∀ i, i < st.length → okStep p (n + (i : Nat)) (st.getD i []) = true
def OuV (p m : Int) (out : List (List Int)) : Prop := ∀ i, i < out.length → ∃ a b, out.getD i [] = [a, b] ∧ 0 ≤ a ∧ a < m ∧ 0 ≤ b ∧ b < p ∧ ¬ (b = 0 ∧ a ≠ 0)
theorem OuV.mono {p m m' : Int} {out : List (List Int)} (o : OuV p m out) (h : m ≤ m') : OuV p m' out := fun i hi => by
  obtain ⟨a, b, e, h1, h2, h3⟩ := o i hi
  exact ⟨a, b, e, h1, by omega, h3⟩
theorem StV.app {p n : Int} {st : List (List Int)} {q : List Int} (o : StV p n st) (hq : okStep p (n + (st.length : Nat)) q = true) : StV p n (st ++ [q]) := fun i hi => by
  rw [List.length_append, List.length_singleton] at hi
  by_cases e : i = st.length
  · subst e
    rw [getD_app_r (Nat.le_refl _), Nat.sub_self]
    exact hq
  · rw [getD_app_l (by omega)]
    exact o i (by omega)
theorem OuV.app {p m a b : Int} {out : List (List Int)} (o : OuV p m out) (h : 0 ≤ a ∧ a < m ∧ 0 ≤ b ∧ b < p ∧ ¬ (b = 0 ∧ a ≠ 0)) : OuV p m (out ++ [[a, b]]) := fun i hi => by
  rw [List.length_append, List.length_singleton] at hi
  by_cases e : i = out.length
  · subst e
    rw [getD_app_r (Nat.le_refl _), Nat.sub_self]
    exact ⟨a, b, rfl, h⟩
  · rw [getD_app_l (by omega)]
    exact o i (by omega)
structure RSV (p n : Int) (st0 : List (List Int)) (row : List Int) (k : Nat) (s : RS) : Prop where
  sv : StV p n s.st
  ge : st0.length ≤ s.st.length
  le : s.st.length ≤ st0.length + cntB (fun i => decide (row.getD i 0 ≠ 0)) k
  fac : 0 ≤ s.fac ∧ s.fac < p
  vf : s.val < 0 ↔ s.fac = 0
  v1 : -1 ≤ s.val ∧ s.val < n + s.st.length
  v2 : s.val < k ∨ (row.length : Int) ≤ s.val
theorem rowSt_valid {p n : Int} {st0 : List (List Int)} {row : List Int} (hp : isP p = true) (hr : allIn p row = true) (hn : 1 ≤ n) (hW : (row.length : Int) ≤ n + st0.length) (hs : StV p n st0) : ∀ {k : Nat}, k ≤ row.length → RSV p n st0 row k (rowSt p n st0 row k)
  | 0, _ => by
    have := isP_in hp
    unfold rowSt
    refine ⟨hs, Nat.le_refl _, by simp [cntB], by simp only; omega, by simp, by simp only; omega, by simp⟩
  | k + 1, hk => by
    have ih := rowSt_valid hp hr hn hW hs (k := k) (by omega)
    have hrk := allIn_iff.1 hr k (by omega)
    unfold rowSt
    simp only
    generalize rowSt p n st0 row k = s at *
    obtain ⟨sv, ge, le, fac, vf, v1, v2⟩ := ih
    have ec : cntB (fun i => decide (row.getD i 0 ≠ 0)) (k + 1) = cntB (fun i => decide (row.getD i 0 ≠ 0)) k + (if decide (row.getD k 0 ≠ 0) = true then 1 else 0) := rfl
    by_cases h0 : row.getD k 0 = 0
    · rw [if_pos h0]
      exact ⟨sv, ge, by rw [ec]; omega, fac, vf, v1, by omega⟩
    rw [if_neg h0]
    rw [if_pos (decide_eq_true h0)] at ec
    by_cases h1 : s.val < 0
    · rw [if_pos h1]
      refine ⟨sv, ge, by rw [ec]; show s.st.length ≤ _; omega, by simp only; omega, by simp only; omega, by simp only; omega, by simp only; omega⟩
    · rw [if_neg h1]
      have hf : s.fac ≠ 0 := fun e => h1 (vf.2 e)
      obtain ⟨w1, w2, _⟩ := invP_is hp (n := s.fac) (by omega)
      have nz := mul_nz hp (a := row.getD k 0) (r := invP p s.fac) (by omega) ⟨w1, w2⟩
      have hok : okStep p (n + (s.st.length : Nat)) [s.val, (k : Int), (row.getD k 0 * invP p s.fac).tmod p] = true := by
        rw [okStep_3, decide_eq_true_eq]
        omega
      refine ⟨sv.app hok, by simp; omega, by rw [ec]; simp only [List.length_append, List.length_singleton]; omega, fac, by simp only [List.length_append, List.length_singleton]; omega, by simp only [List.length_append, List.length_singleton]; omega, ?_⟩
      right
      simp only
      omega
structure FV (p n : Int) (x : Prg) : Prop where
  ep : x.p = p
  en : x.n = n
  sv : StV p n x.st
  ov : OuV p (n + x.st.length) x.out
theorem finP_valid {p n : Int} {x : Prg} {rows : List (List Int)} (hp : isP p = true) (hr : ∀ i, i < rows.length → allIn p (rows.getD i []) = true ∧ ((rows.getD i []).length : Int) ≤ n + x.st.length) (hn : 1 ≤ n) (hx : FV p n x) : ∀ {i : Nat}, i ≤ rows.length →
    FV p n (finP x rows i) ∧ x.st.length ≤ (finP x rows i).st.length ∧ (finP x rows i).st.length ≤ x.st.length + sumN (fun k => nzR (rows.getD k [])) i
  | 0, _ => ⟨hx, Nat.le_refl _, by simp [finP, sumN]⟩
  | i + 1, hi => by
    obtain ⟨⟨e1, e2, sv, ov⟩, g1, g2⟩ := finP_valid hp hr hn hx (i := i) (by omega)
    obtain ⟨r1, r2⟩ := hr i (by omega)
    have v := rowSt_valid (st0 := (finP x rows i).st) (row := rows.getD i []) hp r1 hn (by omega) sv (k := (rows.getD i []).length) (Nat.le_refl _)
    have es : finP x rows (i + 1) = rowP (finP x rows i) (rows.getD i []) := rfl
    rw [es]
    unfold rowP
    rw [e1, e2]
    simp only
    generalize rowSt p n (finP x rows i).st (rows.getD i []) (rows.getD i []).length = s at *
    obtain ⟨v1, v2, v3, v4, v5, v6, v7⟩ := v
    refine ⟨⟨rfl, rfl, v1, ?_⟩, by show x.st.length ≤ s.st.length; omega, ?_⟩
    · refine (ov.mono (by show n + _ ≤ n + (s.st.length : Int); omega)).app ?_
      have hmax : max s.val 0 = if s.val < 0 then 0 else s.val := by
        split <;> omega
      rw [hmax]
      by_cases h : s.val < 0
      · rw [if_pos h]
        show 0 ≤ (0 : Int) ∧ (0 : Int) < n + (s.st.length : Int) ∧ _
        omega
      · rw [if_neg h]
        show 0 ≤ s.val ∧ s.val < n + (s.st.length : Int) ∧ _
        omega
    · have e3 : sumN (fun k => nzR (rows.getD k [])) (i + 1) = sumN (fun k => nzR (rows.getD k [])) i + nzR (rows.getD i []) := rfl
      have e4 : nzR (rows.getD i []) = cntB (fun j => decide ((rows.getD i []).getD j 0 ≠ 0)) (rows.getD i []).length := rfl
      rw [e3, e4]
      show s.st.length ≤ _
      omega
theorem FV.isPrg {p n : Int} {x : Prg} (o : FV p n x) (hp : isP p = true) (hn : 1 ≤ n ∧ n ≤ 30) (hs : x.st.length ≤ 900) (ho : 1 ≤ x.out.length ∧ x.out.length ≤ 30) : isPrg x = true := by
  obtain ⟨rfl, rfl, sv, ov⟩ := o
  refine isPrg_all ?_ sv fun i hi => ?_
  · unfold headP
    rw [hp, Bool.true_and]
    exact decide_eq_true ⟨hn.1, hn.2, hs, ho.1, ho.2⟩
  · obtain ⟨a, b, e, h⟩ := ov i hi
    rw [e, okOut_2, decide_eq_true_eq]
    exact h
theorem finP_isPrg {p n : Int} {rows : List (List Int)} (h : lsOK p n rows = true) : isPrg (finP ⟨p, n, [], []⟩ rows rows.length) = true := by
  obtain ⟨hp, hn, hl, hm⟩ := lsOK_iff.1 h
  have nz := (ShI.start h).nz
  simp only [List.length_nil, Nat.zero_add] at nz
  obtain ⟨v, g1, g2⟩ := finP_valid (x := ⟨p, n, [], []⟩) (rows := rows) hp (fun i hi => ⟨(isMat_iff.1 hm i hi).2, by have := (isMat_iff.1 hm i hi).1; simp only [List.length_nil]; omega⟩) hn.1 ⟨rfl, rfl, fun i hi => by simp at hi, fun i hi => by simp at hi⟩ (i := rows.length) (Nat.le_refl _)
  have hout := (finP_facts (x := ⟨p, n, [], []⟩) (rows := rows) (N := 30) hp (fun i hi => ⟨(isMat_iff.1 hm i hi).2, by have := (isMat_iff.1 hm i hi).1; omega⟩) hn (i := rows.length) (Nat.le_refl _)).2.2.2
  simp only [List.length_nil, Nat.zero_add] at hout g2
  have e : sumN (fun k => nzR (rows.getD k [])) rows.length = nzT rows := rfl
  exact v.isPrg hp hn (by omega) (by omega)
theorem shF_valid {p : Int} {N : Nat} {rows : List (List Int)} (hp : isP p = true) (hT : 1 ≤ rows.length) : ∀ (f : Nat) (s : SS), ShI p N rows s → StV p (N : Int) s.st → StV p (N : Int) (shF p f s).st
  | 0, s, _, hs => hs
  | f + 1, s, i, hs => by
    unfold shF
    by_cases h : 2 ≤ (bst p s.T).m
    · rw [if_pos h]
      have b := bst_ok hp i.gt (by rw [i.len]; exact hT) h
      refine shF_valid hp hT f _ (i.go hp hT h).1 (hs.app ?_)
      rw [okStep_3, decide_eq_true_eq]
      omega
    · rw [if_neg h]
      exact hs
theorem shP_isPrg {p n : Int} {rows : List (List Int)} (h : lsOK p n rows = true) : isPrg (shP p n rows) = true := by
  obtain ⟨hp, hn, hl, hm⟩ := lsOK_iff.1 h
  have si := shS_facts h
  have hN : ((n.toNat : Nat) : Int) = n := by omega
  have sv : StV p ((n.toNat : Nat) : Int) (shS p rows).st := shF_valid hp (by omega) (nzT rows) ⟨rows, []⟩ (ShI.start h) (fun i hi => by simp at hi)
  rw [hN] at sv
  have nz := si.nz
  have len := si.len
  have rr : ∀ i, i < (shS p rows).T.length → allIn p ((shS p rows).T.getD i []) = true ∧ (((shS p rows).T.getD i []).length : Int) ≤ n + (shS p rows).st.length := fun i hi => by
    obtain ⟨g1, g2⟩ := si.gt i hi
    exact ⟨allIn_iff.2 fun j hj => g2 j (by omega), by omega⟩
  obtain ⟨v, g1, g2⟩ := finP_valid (x := ⟨p, n, (shS p rows).st, []⟩) (rows := (shS p rows).T) hp rr hn.1 ⟨rfl, rfl, sv, fun i hi => by simp at hi⟩ (i := (shS p rows).T.length) (Nat.le_refl _)
  have hout := (finP_facts (x := ⟨p, n, (shS p rows).st, []⟩) (rows := (shS p rows).T) (N := 10000) hp (fun i hi => ⟨(rr i hi).1, by have := (rr i hi).2; omega⟩) hn (i := (shS p rows).T.length) (Nat.le_refl _)).2.2.2
  simp only [List.length_nil, Nat.zero_add] at hout g2
  have e : sumN (fun k => nzR ((shS p rows).T.getD k [])) (shS p rows).T.length = nzT (shS p rows).T := rfl
  exact v.isPrg hp hn (by omega) (by omega)
theorem pgX_isPrg {h : AH} {v : Value} {x : Sch} {b : Bool} (hv : Prods h v x.ps) (hx : isX x = true) (h0 : 1 ≤ x.ps.length) {i : Nat} (hi : i < 3) : isPrg (pgX x b i) = true := by
  have ok := fmX_ok hv hx h0 hi
  unfold pgX pgO
  cases b with
  | true => exact shP_isPrg ok
  | false => exact finP_isPrg ok
end Go.Proofs.Ytilpnbejpndgpaa.X

/- MakeProduct: matrices looked at, forms times matrices. -/
set_option linter.unusedVariables false
set_option linter.unusedSimpArgs false
set_option maxRecDepth 20000
set_option maxHeartbeats 4000000
namespace Go.Proofs.Ytilpnbejpndgpaa.X
open Go Go.RowKit

theorem s_l01Matrix {v : Value} {rows : List (List Int)} {p n cols : Int} {h : AH} {Q : Value → AH → Prop} (hv : Rows h v rows) (hm : SmallM rows) (hp : 2 ≤ p ∧ p ≤ 5)
    (hQ : Q (.bool (isMat p cols rows && decide ((rows.length : Int) = n))) h) : WF S 99 [I64 p, v, I64 n, I64 cols] h Q := by
  refine WF_fn (fn := c99) rfl rfl ?_
  unfold c99
  obtain ⟨hm1, hm2⟩ := hm
  ((try simp (maxSteps := 3000000) (dsimp := false) (disch := first | omega | (simp only [len_new, len_put, len_kill]; omega)) only [↓ypre, ypost, ↓reduceIte, Nat.reduceEqDiff, Nat.reduceAdd, Nat.reduceSub, Nat.reduceLeDiff, Nat.zero_add, Nat.sub_zero, ynew, hv.len]); try simp only [yback])
  by_cases h1 : (rows.length : Int) = n
  case neg =>
    ((try simp (maxSteps := 3000000) (dsimp := false) (disch := first | omega | (simp only [len_new, len_put, len_kill]; omega)) only [↓ypre, ypost, ↓reduceIte, Nat.reduceEqDiff, Nat.reduceAdd, Nat.reduceSub, Nat.reduceLeDiff, Nat.zero_add, Nat.sub_zero, ynew, decide_eq_true (show (rows.length : Int) ≠ n from h1)]); try simp only [yback])
    rw [decide_eq_false h1, Bool.and_false] at hQ
    exact hQ
  rw [decide_eq_true h1, Bool.and_true] at hQ
  ((try simp (maxSteps := 3000000) (dsimp := false) (disch := first | omega | (simp only [len_new, len_put, len_kill]; omega)) only [↓ypre, ypost, ↓reduceIte, Nat.reduceEqDiff, Nat.reduceAdd, Nat.reduceSub, Nat.reduceLeDiff, Nat.zero_add, Nat.sub_zero, ynew, decide_eq_false (show ¬ (rows.length : Int) ≠ n from fun y => y h1)]); try simp only [yback])
  refine WC_loop_inv (fun m f K1 => ∃ (i : Nat), m = rows.length - i ∧ i ≤ rows.length ∧ f 0 = I64 p ∧ f 1 = v ∧ f 3 = I64 cols ∧ f 9 = I64 i ∧ (K1 = h) ∧ (∀ j, j < i → ((rows.getD j []).length : Int) = cols ∧ allIn p (rows.getD j []) = true)) ?_ (rows.length - 0) _ _ ⟨0, rfl, by omega, (by first | rfl | (simp [upd_apply]; done)), (by first | rfl | (simp [upd_apply]; done)), (by first | rfl | (simp [upd_apply]; done)), (by first | rfl | (simp [upd_apply]; done)), rfl, (by omega)⟩
  rintro m f K1 ⟨i, rfl, hi, f0, f1, f3, f9, hK, hj⟩
  subst hK
  by_cases hlt : (i : Int) < rows.length
  · have hi' : i < rows.length := by omega
    obtain ⟨n0, off0, x0, hix0, hrd0, i0⟩ := hv.row hi'
    have bl := hm2.1 i hi'
    by_cases h2 : ((rows.getD i []).length : Int) = cols
    case neg =>
      have d2 := decide_eq_true (show ((rows.getD i []).length : Int) ≠ cols from h2)
      ((try simp (maxSteps := 3000000) (dsimp := false) (disch := first | omega | (simp only [len_new, len_put, len_kill]; omega)) only [↓ypre, ypost, ↓reduceIte, Nat.reduceEqDiff, Nat.reduceAdd, Nat.reduceSub, Nat.reduceLeDiff, Nat.zero_add, Nat.sub_zero, ynew, f0, f1, f3, f9, hv.len, decide_eq_true hlt, hix0, hrd0, i0.len, d2]); try simp only [yback])
      rw [isMat_no hi' (fun h => h2 h.1)] at hQ
      exact hQ
    have d2 := decide_eq_false (show ¬ ((rows.getD i []).length : Int) ≠ cols from fun y => y h2)
    ((try simp (maxSteps := 3000000) (dsimp := false) (disch := first | omega | (simp only [len_new, len_put, len_kill]; omega)) only [↓ypre, ypost, ↓reduceIte, Nat.reduceEqDiff, Nat.reduceAdd, Nat.reduceSub, Nat.reduceLeDiff, Nat.zero_add, Nat.sub_zero, ynew, f0, f1, f3, f9, hv.len, decide_eq_true hlt, hix0, hrd0, i0.len, d2]); try simp only [yback])
    refine WC_loop_inv (fun m f K2 => ∃ (k : Nat), m = ((rows.getD i []).length) - k ∧ k ≤ ((rows.getD i []).length) ∧ f 0 = I64 p ∧ f 1 = v ∧ f 3 = I64 cols ∧ f 9 = I64 i ∧ f 10 = I64 k ∧ (K2 = K1) ∧ (∀ j, j < k → 0 ≤ (rows.getD i []).getD j 0 ∧ (rows.getD i []).getD j 0 < p)) ?_ (((rows.getD i []).length) - 0) _ _ ⟨0, rfl, by omega, (by first | rfl | exact f0 | (simp [upd_apply]; done)), (by first | rfl | exact f1 | (simp [upd_apply]; done)), (by first | rfl | exact f3 | (simp [upd_apply]; done)), (by first | rfl | exact f9 | (simp [upd_apply]; done)), (by first | rfl | (simp [upd_apply]; done)), rfl, (by omega)⟩
    rintro m f K2 ⟨k, rfl, hk, f0, f1, f3, f9, f10, hK2, ha⟩
    subst hK2
    by_cases hlk : (k : Int) < (rows.getD i []).length
    · obtain ⟨n1, off1, hix1, hrd1⟩ := i0.cell (j := k) (by omega)
      ((try simp (maxSteps := 3000000) (dsimp := false) (disch := first | omega | (simp only [len_new, len_put, len_kill]; omega)) only [↓ypre, ypost, ↓reduceIte, Nat.reduceEqDiff, Nat.reduceAdd, Nat.reduceSub, Nat.reduceLeDiff, Nat.zero_add, Nat.sub_zero, ynew, f0, f1, f3, f9, f10, hix0, hrd0, i0.len, decide_eq_true hlk, hix1, hrd1, wrap64_in]); try simp only [yback])
      refine s_l01In ?_
      by_cases h5 : 0 ≤ (rows.getD i []).getD k 0 ∧ (rows.getD i []).getD k 0 ≤ p - 1
      · ((try simp (maxSteps := 3000000) (dsimp := false) (disch := first | omega | (simp only [len_new, len_put, len_kill]; omega)) only [↓ypre, ypost, ↓reduceIte, Nat.reduceEqDiff, Nat.reduceAdd, Nat.reduceSub, Nat.reduceLeDiff, Nat.zero_add, Nat.sub_zero, ynew, f0, f1, f3, f9, f10, decide_eq_true h5, wrap64_in]); try simp only [yback])
        have ha' : ∀ j, j < k + 1 → 0 ≤ (rows.getD i []).getD j 0 ∧ (rows.getD i []).getD j 0 < p := fun j hj' => by
          rcases Nat.lt_succ_iff_lt_or_eq.1 hj' with q | rfl
          · exact ha j q
          · omega
        refine InvQ_go (((rows.getD i []).length) - (k + 1)) (by omega) ⟨(k + 1), rfl, by omega, (by first | rfl | exact f0 | (simp only [upd_apply]; rfl) | (show I64 _ = _; congr 1; omega)), (by first | rfl | exact f1 | (simp only [upd_apply]; rfl) | (show I64 _ = _; congr 1; omega)), (by first | rfl | exact f3 | (simp only [upd_apply]; rfl) | (show I64 _ = _; congr 1; omega)), (by first | rfl | exact f9 | (simp only [upd_apply]; rfl) | (show I64 _ = _; congr 1; omega)), (by first | rfl | exact f10 | (simp only [upd_apply]; rfl) | (show I64 _ = _; congr 1; omega)), rfl, ha'⟩
      · ((try simp (maxSteps := 3000000) (dsimp := false) (disch := first | omega | (simp only [len_new, len_put, len_kill]; omega)) only [↓ypre, ypost, ↓reduceIte, Nat.reduceEqDiff, Nat.reduceAdd, Nat.reduceSub, Nat.reduceLeDiff, Nat.zero_add, Nat.sub_zero, ynew, f0, f1, f3, f9, f10, decide_eq_false h5]); try simp only [yback])
        rw [isMat_no hi' (fun h => h5 (by have := allIn_iff.1 h.2 k (by omega); omega))] at hQ
        exact hQ
    have ek : k = (rows.getD i []).length := by omega
    subst ek
    ((try simp (maxSteps := 3000000) (dsimp := false) (disch := first | omega | (simp only [len_new, len_put, len_kill]; omega)) only [↓ypre, ypost, ↓reduceIte, Nat.reduceEqDiff, Nat.reduceAdd, Nat.reduceSub, Nat.reduceLeDiff, Nat.zero_add, Nat.sub_zero, ynew, f0, f1, f3, f9, f10, hix0, hrd0, i0.len, decide_eq_false hlk, wrap64_in]); try simp only [yback])
    have hj2 : ∀ j, j < i + 1 → ((rows.getD j []).length : Int) = cols ∧ allIn p (rows.getD j []) = true := fun j hj' => by
      rcases Nat.lt_succ_iff_lt_or_eq.1 hj' with q | rfl
      · exact hj j q
      · exact ⟨h2, allIn_iff.2 ha⟩
    refine InvQ_go (rows.length - (i + 1)) (by omega) ⟨(i + 1), rfl, by omega, (by first | rfl | exact f0 | (simp only [upd_apply]; rfl) | (show I64 _ = _; congr 1; omega)), (by first | rfl | exact f1 | (simp only [upd_apply]; rfl) | (show I64 _ = _; congr 1; omega)), (by first | rfl | exact f3 | (simp only [upd_apply]; rfl) | (show I64 _ = _; congr 1; omega)), (by first | rfl | exact f9 | (simp only [upd_apply]; rfl) | (show I64 _ = _; congr 1; omega)), rfl, hj2⟩
  have ei : i = rows.length := by omega
  subst ei
  ((try simp (maxSteps := 3000000) (dsimp := false) (disch := first | omega | (simp only [len_new, len_put, len_kill]; omega)) only [↓ypre, ypost, ↓reduceIte, Nat.reduceEqDiff, Nat.reduceAdd, Nat.reduceSub, Nat.reduceLeDiff, Nat.zero_add, Nat.sub_zero, ynew, f0, f1, f3, f9, hv.len, decide_eq_false hlt]); try simp only [yback])
  rw [isMat_iff.2 hj] at hQ
  exact hQ

def dot (q ns : List Int) : Nat → Int
  | 0 => 0
  | j + 1 => dot q ns j + q.getD j 0 * ns.getD j 0
@[simp] theorem dot_0 {q ns : List Int} : dot q ns 0 = 0 := rfl
theorem allIn_flat {w : Nat} {p : Int} {L : List (List Int)} (hm : isMat p w L = true) : allIn p L.flatten = true := by
  simp only [allIn, List.all_eq_true, List.mem_flatten]
  rintro x ⟨r, hr, hx⟩
  simp only [isMat, List.all_eq_true, Bool.and_eq_true] at hm
  have := (hm r hr).2
  simp only [allIn, List.all_eq_true] at this
  exact this x hx
theorem isMat_wid {w : Nat} {p : Int} {L : List (List Int)} (hm : isMat p w L = true) : Wid w L := wid_of fun i hi => by
  have := (isMat_iff.1 hm i hi).1
  omega
end Go.Proofs.Ytilpnbejpndgpaa.X
