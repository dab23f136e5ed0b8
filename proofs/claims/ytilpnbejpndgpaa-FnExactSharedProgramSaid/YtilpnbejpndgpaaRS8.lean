/- Texts of one claim, put together by merge.py: XT8, XT9, XLSP, XArgs, XA2, XHSP. -/
import Derived.Test.YtilpnbejpndgpaaRS7
import Derived.Test.YtilpnbejpndgpaaRS5
import Derived.Test.YtilpnbejpndgpaaRS6
import Derived.Test.YtilpnbejpndgpaaRS3
import Derived.Deep.Slices
import Derived.WideKeyArgs
import Derived.ChangeOld
import Derived.ChangeArms
import Derived.OpenShut
import Derived.Test.YtilpnbejpndgpaaRows
import Derived.ProofKit
import Derived.ShutString
import Derived.Below
import Derived.SizedLaws
/- SharedProgram of the program. -/
set_option linter.unusedVariables false
set_option linter.unusedSimpArgs false
set_option maxRecDepth 20000
set_option maxHeartbeats 4000000
namespace Go.Proofs.Ytilpnbejpndgpaa.X
open Go Go.RowKit

theorem zeros5u : ([.int .u32 0, .int .u32 0, .int .u32 0, .int .u32 0, .int .u32 0] : List Value) = cel .u32 (List.replicate 5 0) := rfl
theorem U_one {n : Nat} : isOne (U32 n) = true := rfl
theorem U_cells {n : Nat} : cellsL (U32 n) = [U32 n] := rfl
theorem set2_next {α : Type} {L : List α} {l j : Nat} {a b a' b' : α} (h : l ≠ j) : (((L.set l a).set j b).set l a').set j b' = (L.set l a').set j b' := by
  rw [List.set_comm b a' h.symm, List.set_set, List.set_set]
theorem get2_l {L : List (List Int)} {l j : Nat} {a b : List Int} (h : l ≠ j) (hl : l < L.length) (hj : j < L.length) : ((L.set l a).set j b).getD l [] = a := by
  rw [set_getD' (by rw [List.length_set]; exact hj), if_neg h, set_getD' hl, if_pos rfl]
theorem get2_j {L : List (List Int)} {l j : Nat} {a b : List Int} (hj : j < L.length) : ((L.set l a).set j b).getD j [] = b := by
  rw [set_getD' (by rw [List.length_set]; exact hj), if_pos rfl]
theorem get2_o {L : List (List Int)} {l j i : Nat} {a b : List Int} (h1 : i ≠ l) (h2 : i ≠ j) (hl : l < L.length) (hj : j < L.length) : ((L.set l a).set j b).getD i [] = L.getD i [] := by
  rw [set_getD' (by rw [List.length_set]; exact hj), if_neg h2, set_getD' hl, if_neg h1]

theorem i_sharedProgram {u : Value} {p n : Int} {rows : List (List Int)} {h : AH} {Q : Value → AH → Prop} (hu : Rows h u rows) (hok : lsOK p n rows = true)
    (hQ : ∀ v' w' h', h <+: h' → Way2 h' h.length v' w' (shP p n rows) → OrdB v' w' → Q (prgV (shP p n rows) v' w') h') : WF S 96 [I64 p, I64 n, u] h Q := by
  refine WF_fn (fn := c96) rfl rfl ?_
  unfold c96
  obtain ⟨hp, hn, hl, hm⟩ := lsOK_iff.1 hok
  have hp5 := isP_in hp
  obtain ⟨N, hN⟩ : ∃ N : Nat, n = N := ⟨n.toNat, by omega⟩
  have hNt : n.toNat = N := by omega
  ((try simp (maxSteps := 3000000) (dsimp := false) (disch := first | omega | (simp only [len_new, len_put, len_kill]; omega)) only [↓ypre, ypost, ↓reduceIte, Nat.reduceEqDiff, Nat.reduceAdd, Nat.reduceSub, Nat.reduceLeDiff, Nat.zero_add, Nat.sub_zero, ynew]); try simp only [yback])
  generalize hH1 : AH.new h _ = H1
  obtain ⟨hb1, p1, n1⟩ := new_facts hH1
  refine ⟨by omega, ?_⟩
  rw [hNt, zeros5u, zrep_cel]
  generalize hH2 : AH.new H1 _ = H2
  obtain ⟨hb2, p2, n2⟩ := new_facts hH2
  ((try simp (maxSteps := 3000000) (dsimp := false) (disch := first | omega | (simp only [len_new, len_put, len_kill]; omega)) only [↓ypre, ypost, ↓reduceIte, Nat.reduceEqDiff, Nat.reduceAdd, Nat.reduceSub, Nat.reduceLeDiff, Nat.zero_add, Nat.sub_zero, ynew]); try simp only [yback])
  generalize hH3 : AH.new H2 _ = H3
  obtain ⟨hb3, p3, n3⟩ := new_facts hH3
  have p23 := p2.trans p3
  obtain ⟨cs, hvS, hcsl, hrS⟩ := (hu.pre p1).stays
  have ct0 : ColT H3 H1.length true (cols0 rows N 0 0) := by
    rw [cols0_zero]
    exact ⟨pre_get p3 hb2, by rw [← cols0_zero (rows := rows)]; exact cols0_wid⟩
  have sy0 : Stay H1.length H1 H3 := Stay.of p23
  ((try simp (maxSteps := 3000000) (dsimp := false) (disch := first | omega | (simp only [len_new, len_put, len_kill]; omega)) only [↓ypre, ypost, ↓reduceIte, Nat.reduceEqDiff, Nat.reduceAdd, Nat.reduceSub, Nat.reduceLeDiff, Nat.zero_add, Nat.sub_zero, ynew, (hvS _ sy0).len, hcsl]); try simp only [yback])
  refine WC_loop_inv (fun m f K1 => ∃ (i : Nat), m = rows.length - i ∧ i ≤ rows.length ∧ f 0 = I64 p ∧ f 2 = u ∧ f 6 = .pointer (some ⟨h.length, 0, none⟩) ∧ f 7 = .pointer (some ⟨H2.length, 0, none⟩) ∧ f 8 = tv H1.length N ∧ f 29 = u ∧ f 30 = I64 rows.length ∧ f 31 = I64 i ∧ (Stay H1.length H1 K1) ∧ (ColT K1 H1.length true (cols0 rows N i 0)) ∧ (K1.get H2.length = some ⟨[I64 p, I64 n, .slice none 0 0, .slice none 0 0], 48, false, true⟩)) ?_ (rows.length - 0) _ _ ⟨0, rfl, by omega, (by first | rfl | (simp [upd_apply]; done)), (by first | rfl | (simp [upd_apply]; done)), (by first | rfl | (simp [upd_apply]; done)), (by first | rfl | (simp [upd_apply]; done)), (by first | rfl | (simp [upd_apply]; done)), (by first | rfl | (simp [upd_apply]; done)), (by first | rfl | (simp [upd_apply]; done)), (by first | rfl | (simp [upd_apply]; done)), sy0, ct0, hb3⟩
  rintro m f K1 ⟨i, rfl, hi, f0, f2, f6, f7, f8, f29, f30, f31, sy, ct, g7⟩
  by_cases hlt : (i : Int) < rows.length
  · have hi' : i < rows.length := by omega
    obtain ⟨hw, ha⟩ := isMat_iff.1 hm i hi'
    have ix := (hvS _ sy).ix (k := .i64) (j := i) (by omega) (by omega)
    have rd := (hvS _ sy).rd (j := i) (by omega) (by omega)
    have hri := hrS i hi'
    rw [Int.toNat_natCast] at rd
    generalize cs.getD i undef = rv at *
    have lnr := (hri _ sy).len
    have rlen : (rows.getD i []).length = N := by omega
    rw [rlen] at lnr
    ((try simp (maxSteps := 3000000) (dsimp := false) (disch := first | omega | (simp only [len_new, len_put, len_kill]; omega)) only [↓ypre, ypost, ↓reduceIte, Nat.reduceEqDiff, Nat.reduceAdd, Nat.reduceSub, Nat.reduceLeDiff, Nat.zero_add, Nat.sub_zero, ynew, f0, f2, f6, f7, f8, f29, f30, f31, decide_eq_true hlt, ix, rd, lnr, wrap64_in]); try simp only [yback])
    refine WC_loop_inv (fun m f K2 => ∃ (c : Nat), m = N - c ∧ c ≤ N ∧ f 0 = I64 p ∧ f 2 = u ∧ f 6 = .pointer (some ⟨h.length, 0, none⟩) ∧ f 7 = .pointer (some ⟨H2.length, 0, none⟩) ∧ f 8 = tv H1.length N ∧ f 9 = I64 i ∧ f 29 = u ∧ f 30 = I64 rows.length ∧ f 31 = I64 i ∧ f 36 = rv ∧ f 37 = I64 N ∧ f 38 = I64 c ∧ (Stay H1.length H1 K2) ∧ (ColT K2 H1.length true (cols0 rows N i c)) ∧ (K2.get H2.length = some ⟨[I64 p, I64 n, .slice none 0 0, .slice none 0 0], 48, false, true⟩)) ?_ (N - 0) _ _ ⟨0, rfl, by omega, (by first | rfl | exact f0 | (simp [upd_apply]; done)), (by first | rfl | exact f2 | (simp [upd_apply]; done)), (by first | rfl | exact f6 | (simp [upd_apply]; done)), (by first | rfl | exact f7 | (simp [upd_apply]; done)), (by first | rfl | exact f8 | (simp [upd_apply]; done)), (by first | rfl | (simp [upd_apply]; done)), (by first | rfl | exact f29 | (simp [upd_apply]; done)), (by first | rfl | exact f30 | (simp [upd_apply]; done)), (by first | rfl | exact f31 | (simp [upd_apply]; done)), (by first | rfl | (simp [upd_apply]; done)), (by first | rfl | (simp [upd_apply]; done)), (by first | rfl | (simp [upd_apply]; done)), sy, ct, g7⟩
    rintro m f K2 ⟨c, rfl, hc, f0, f2, f6, f7, f8, f9, f29, f30, f31, f36, f37, f38, sy, ct, g7⟩
    by_cases hltc : (c : Int) < N
    · have hc' : c < N := by omega
      have hx := hri _ sy
      have ixx := hx.ix (k := .i64) (j := c) (by omega) (by omega)
      have rdx := hx.rd (j := c) (by omega) (by omega)
      simp only [nth, Int.toNat_natCast] at rdx
      have tin := allIn_iff.1 ha c (by omega)
      obtain ⟨xv, hxv⟩ : ∃ xv : Nat, (rows.getD i []).getD c 0 = xv := ⟨_, (Int.toNat_of_nonneg tin.1).symm⟩
      rw [hxv] at rdx tin
      have hxt : tb rows i c = (xv : Int) := hxv
      have cl : (cols0 rows N i c).length = N := cols0_len
      have ixc : ∀ kk : IntKind, ixsV 5 (tv H1.length N) (.int kk (c : Int)) = _ := fun kk => ColT.ix hc'
      have ixa1 := ixa_u (n := H1.length) (off := c * 5) (len := 5) (kk := .i64) (j := xv) (by omega)
      have rd1 := ct.rd (c := c) (x := xv) (by omega) (by omega)
      have e1 : ((cols0 rows N i c).getD c []).getD xv 0 = ((bs rows.length (fl0 rows i c c xv) : Nat) : Int) := by
        rw [cols0_get hc']
        exact gen_get (by omega)
      rw [e1] at rd1
      have rd1 : K2.rd1 H1.length (c * 5 + xv) = some (U32 (bs rows.length (fl0 rows i c c xv))) := rd1
      have sh := bin_shl (R := rows.length) (r := i) hi' (by omega)
      have orr := bin_or (R := rows.length) (f := fl0 rows i c c xv) (g := fun k => k == i) (by omega)
      obtain ⟨H5, w5, e5, ct5⟩ := ct.wr (c := c) (x := xv) (v := ((bs rows.length (fun k => fl0 rows i c c xv k || (k == i)) : Nat) : Int)) (by omega) (by omega)
      have w5 : K2.wr H1.length (c * 5 + xv) [U32 (bs rows.length (fun k => fl0 rows i c c xv k || (k == i)))] = some H5 := w5
      rw [cols0_get hc', cols0_set hc' hi' (by omega) hxt] at ct5
      ((try simp (maxSteps := 3000000) (dsimp := false) (disch := first | omega | (simp only [len_new, len_put, len_kill]; omega)) only [↓ypre, ypost, ↓reduceIte, Nat.reduceEqDiff, Nat.reduceAdd, Nat.reduceSub, Nat.reduceLeDiff, Nat.zero_add, Nat.sub_zero, ynew, f0, f2, f6, f7, f8, f9, f29, f30, f31, f36, f37, f38, decide_eq_true hltc, ixx, rdx, ixc, ixa1, rd1, sh, orr, U_one, U_cells, w5, wrap64_in]); try simp only [yback])
      refine InvQ_go (N - (c + 1)) (by omega) ⟨(c + 1), rfl, by omega, (by first | rfl | exact f0 | (simp only [upd_apply]; rfl) | (show I64 _ = _; congr 1; omega)), (by first | rfl | exact f2 | (simp only [upd_apply]; rfl) | (show I64 _ = _; congr 1; omega)), (by first | rfl | exact f6 | (simp only [upd_apply]; rfl) | (show I64 _ = _; congr 1; omega)), (by first | rfl | exact f7 | (simp only [upd_apply]; rfl) | (show I64 _ = _; congr 1; omega)), (by first | rfl | exact f8 | (simp only [upd_apply]; rfl) | (show I64 _ = _; congr 1; omega)), (by first | rfl | exact f9 | (simp only [upd_apply]; rfl) | (show I64 _ = _; congr 1; omega)), (by first | rfl | exact f29 | (simp only [upd_apply]; rfl) | (show I64 _ = _; congr 1; omega)), (by first | rfl | exact f30 | (simp only [upd_apply]; rfl) | (show I64 _ = _; congr 1; omega)), (by first | rfl | exact f31 | (simp only [upd_apply]; rfl) | (show I64 _ = _; congr 1; omega)), (by first | rfl | exact f36 | (simp only [upd_apply]; rfl) | (show I64 _ = _; congr 1; omega)), (by first | rfl | exact f37 | (simp only [upd_apply]; rfl) | (show I64 _ = _; congr 1; omega)), (by first | rfl | exact f38 | (simp only [upd_apply]; rfl) | (show I64 _ = _; congr 1; omega)), (by rw [e5]; exact sy.put (Nat.le_refl _) (Nat.le_refl _)), ct5, (by rw [e5, get_put_ne (by omega)]; exact g7)⟩
    have ec : c = N := by omega
    subst ec
    rw [cols0_next] at ct
    ((try simp (maxSteps := 3000000) (dsimp := false) (disch := first | omega | (simp only [len_new, len_put, len_kill]; omega)) only [↓ypre, ypost, ↓reduceIte, Nat.reduceEqDiff, Nat.reduceAdd, Nat.reduceSub, Nat.reduceLeDiff, Nat.zero_add, Nat.sub_zero, ynew, f0, f2, f6, f7, f8, f9, f29, f30, f31, f36, f37, f38, decide_eq_false hltc, wrap64_in]); try simp only [yback])
    refine InvQ_go (rows.length - (i + 1)) (by omega) ⟨(i + 1), rfl, by omega, (by first | rfl | exact f0 | (simp only [upd_apply]; rfl) | (show I64 _ = _; congr 1; omega)), (by first | rfl | exact f2 | (simp only [upd_apply]; rfl) | (show I64 _ = _; congr 1; omega)), (by first | rfl | exact f6 | (simp only [upd_apply]; rfl) | (show I64 _ = _; congr 1; omega)), (by first | rfl | exact f7 | (simp only [upd_apply]; rfl) | (show I64 _ = _; congr 1; omega)), (by first | rfl | exact f8 | (simp only [upd_apply]; rfl) | (show I64 _ = _; congr 1; omega)), (by first | rfl | exact f29 | (simp only [upd_apply]; rfl) | (show I64 _ = _; congr 1; omega)), (by first | rfl | exact f30 | (simp only [upd_apply]; rfl) | (show I64 _ = _; congr 1; omega)), (by first | rfl | exact f31 | (simp only [upd_apply]; rfl) | (show I64 _ = _; congr 1; omega)), sy, ct, g7⟩
  have ei : i = rows.length := by omega
  subst ei
  ((try simp (maxSteps := 3000000) (dsimp := false) (disch := first | omega | (simp only [len_new, len_put, len_kill]; omega)) only [↓ypre, ypost, ↓reduceIte, Nat.reduceEqDiff, Nat.reduceAdd, Nat.reduceSub, Nat.reduceLeDiff, Nat.zero_add, Nat.sub_zero, ynew, f0, f2, f6, f7, f8, f29, f30, f31, decide_eq_false hlt]); try simp only [yback])
  have si0 := ShI.start hok
  rw [hNt] at si0
  have hcl0 : (cols0 rows N rows.length 0).length = N + ([] : List (List Int)).length := cols0_len
  have hc0 : ∀ i, i < N + ([] : List (List Int)).length → Col rows i ((cols0 rows N rows.length 0).getD i []) := fun i hi => cols0_col hi
  have pp1 : H1 <+: K1 := sy.pre _ (Nat.le_refl _) (List.prefix_refl _)
  have nz0 : nzT rows = nzT rows - 0 := rfl
  have wv0 : WayX (96) .i64 3 K1 H1.length [] (.slice none 0 0) ([] : List (List Int)) := ⟨fun r hr => by simp at hr, .inl ⟨rfl, rfl⟩⟩
  refine WC_loop_inv (fun m f K3 => ∃ (d : Nat) (s : SS) (sv : Value) (nb : Nat) (fl : Bool) (cols : List (List Int)), m = ((nzT rows)) - d ∧ d ≤ ((nzT rows)) ∧ f 0 = I64 p ∧ f 2 = u ∧ f 6 = .pointer (some ⟨h.length, 0, none⟩) ∧ f 7 = .pointer (some ⟨H2.length, 0, none⟩) ∧ f 8 = tv nb (N + s.st.length) ∧ (nzT s.T = nzT rows - d) ∧ (ShI p N rows s) ∧ (H1 <+: K3) ∧ (H1.length ≤ nb) ∧ (ColT K3 nb fl cols) ∧ (cols.length = N + s.st.length) ∧ (∀ i, i < N + s.st.length → Col s.T i (cols.getD i [])) ∧ (WayX (96) .i64 3 K3 H1.length [] sv s.st) ∧ (K3.get H2.length = some ⟨[I64 p, I64 n, sv, .slice none 0 0], 48, false, true⟩)) ?_ (((nzT rows)) - 0) _ _ ⟨0, ⟨rows, []⟩, .slice none 0 0, H1.length, true, cols0 rows N rows.length 0, rfl, by omega, (by first | rfl | exact f0 | (simp [upd_apply]; done)), (by first | rfl | exact f2 | (simp [upd_apply]; done)), (by first | rfl | exact f6 | (simp [upd_apply]; done)), (by first | rfl | exact f7 | (simp [upd_apply]; done)), (by first | rfl | exact f8 | (simp [upd_apply]; done)), nz0, si0, pp1, Nat.le_refl _, ct, hcl0, hc0, wv0, g7⟩
  rintro m f K3 ⟨d, s, sv, nb, fl, cols, rfl, hd, f0, f2, f6, f7, f8, hz, si, pp, lnb, ct, hcl, hcol, wv, g7⟩
  have nzb := si.nz
  have hT1 : 1 ≤ s.T.length := by rw [si.len]; omega
  have hT30 : s.T.length ≤ 30 := by rw [si.len]; omega
  have elsK := ct.els
  rw [hcl] at elsK
  ((try simp (maxSteps := 3000000) (dsimp := false) (disch := first | omega | (simp only [len_new, len_put, len_kill]; omega)) only [↓ypre, ypost, ↓reduceIte, Nat.reduceEqDiff, Nat.reduceAdd, Nat.reduceSub, Nat.reduceLeDiff, Nat.zero_add, Nat.sub_zero, ynew, f0, f2, f6, f7, f8]); try simp only [yback])
  refine i_mostRows elsK hcl hcol hp si.gt ⟨hT1, hT30⟩ (by omega) fun H6 p6 => ?_
  ((try simp (maxSteps := 3000000) (dsimp := false) (disch := first | omega | (simp only [len_new, len_put, len_kill]; omega)) only [↓ypre, ypost, ↓reduceIte, Nat.reduceEqDiff, Nat.reduceAdd, Nat.reduceSub, Nat.reduceLeDiff, Nat.zero_add, Nat.sub_zero, ynew, f0, f2, f6, f7, f8, wrap64_in]); try simp only [yback])
  generalize hH7 : AH.new H6 _ = H7
  obtain ⟨hb7, p7, n7⟩ := new_facts hH7
  have p67 := p6.trans p7
  have k6 := pre_len p6
  by_cases hbm : (1 : Int) < ((bst p s.T).m : Int)
  case neg =>
    have es := si.stop (by omega)
    have pp7 := pp.trans p67
    have hu7 := hu.pre (p1.trans pp7)
    ((try simp (maxSteps := 3000000) (dsimp := false) (disch := first | omega | (simp only [len_new, len_put, len_kill]; omega)) only [↓ypre, ypost, ↓reduceIte, Nat.reduceEqDiff, Nat.reduceAdd, Nat.reduceSub, Nat.reduceLeDiff, Nat.zero_add, Nat.sub_zero, ynew, f0, f2, f6, f7, f8, decide_eq_false hbm, rd1_new_lt]); try simp only [yback])
    generalize hHA : AH.new H7 _ = HA
    obtain ⟨hbA, pA, nA⟩ := new_facts hHA
    have p6A := p67.trans pA
    have huA := hu7.pre pA
    ((try simp (maxSteps := 3000000) (dsimp := false) (disch := first | omega | (simp only [len_new, len_put, len_kill]; omega)) only [↓ypre, ypost, ↓reduceIte, Nat.reduceEqDiff, Nat.reduceAdd, Nat.reduceSub, Nat.reduceLeDiff, Nat.zero_add, Nat.sub_zero, ynew, f0, f2, f6, f7, f8, huA.len]); try simp only [yback])
    have ctA := ct.pre p6A
    have g7A := pre_get p6A g7
    have wvA := wv.pre p6A
    have gT := si.gt
    have sl' := si.len
    have hp1A := pp7.trans pA
    have eSP : shP p n rows = finP ⟨p, n, s.st, []⟩ s.T s.T.length := by unfold shP; rw [← es]
    rw [eSP] at hQ
    generalize hTT : s.T = T at *
    generalize hst : s.st = st0 at *
    obtain ⟨W, hW⟩ : ∃ W, W = N + st0.length := ⟨_, rfl⟩
    rw [← hW] at f8 hcl hcol gT
    have tl0 : TabL HA H1.length H7.length true [] := ⟨hbA, by have := pre_len pp7; omega, fun i hi => by simp at hi, fun a b ha => by simp at ha⟩
    have k7 := pre_len pp7
    refine WC_loop_inv (fun m f K4 => ∃ (i : Nat) (nr : Nat) (fr : Bool) (L : List (Nat × List Int)), m = rows.length - i ∧ i ≤ rows.length ∧ f 0 = I64 p ∧ f 6 = .pointer (some ⟨h.length, 0, none⟩) ∧ f 7 = .pointer (some ⟨H2.length, 0, none⟩) ∧ f 8 = tv nb W ∧ f 18 = sl nr L.length ∧ f 134 = u ∧ f 135 = I64 rows.length ∧ f 136 = I64 i ∧ (StayT H1.length HA K4) ∧ (TabL K4 H1.length nr fr L) ∧ (L.map Prod.snd = T.take i)) ?_ (rows.length - 0) _ _ ⟨0, H7.length, true, [], rfl, by omega, (by first | rfl | exact f0 | (simp [upd_apply]; done)), (by first | rfl | exact f6 | (simp [upd_apply]; done)), (by first | rfl | exact f7 | (simp [upd_apply]; done)), (by first | rfl | exact f8 | (simp [upd_apply]; done)), (by first | rfl | (simp [upd_apply]; done)), (by first | rfl | (simp [upd_apply]; done)), (by first | rfl | (simp [upd_apply]; done)), (by first | rfl | (simp [upd_apply]; done)), StayT.refl, tl0, (by simp)⟩
    rintro m f K4 ⟨i, nr, fr, L, rfl, hi, f0, f6, f7, f8, f18, f134, f135, f136, sy, tl, hL⟩
    have hLl : L.length = i := by
      have := congrArg List.length hL
      rw [List.length_map, List.length_take] at this
      omega
    have sl4 := sy.len
    by_cases hlt : (i : Int) < rows.length
    · have hi' : i < rows.length := by omega
      have hiT : i < T.length := by omega
      obtain ⟨gw, gi⟩ := gT i hiT
      ((try simp (maxSteps := 3000000) (dsimp := false) (disch := first | omega | (simp only [len_new, len_put, len_kill]; omega)) only [↓ypre, ypost, ↓reduceIte, Nat.reduceEqDiff, Nat.reduceAdd, Nat.reduceSub, Nat.reduceLeDiff, Nat.zero_add, Nat.sub_zero, ynew, f0, f6, f7, f8, f18, f134, f135, f136, decide_eq_true hlt, show lenV (tv nb W) = some (I64 W) from rfl, wrap64_in]); try simp only [yback])
      refine ⟨by omega, ?_⟩
      rw [Int.toNat_natCast, zrep_ints]
      generalize hHB : AH.new K4 _ = HB
      obtain ⟨hbB, pB, nB⟩ := new_facts hHB
      have ls0 : Lst HB K4.length (gen W fun y => if y < 0 then tb T i y else 0) true := by
        have e : gen W (fun y => if y < 0 then tb T i y else 0) = List.replicate W 0 := (gen_ext (by simp) fun y hy => by simp [List.getD_eq_getElem?_getD, List.getElem?_replicate, hy]).symm
        rw [e]
        exact hbB
      rw [show Value.slice (some ⟨K4.length, 0, none⟩) W 1 = sl K4.length W from rfl]
      ((try simp (maxSteps := 3000000) (dsimp := false) (disch := first | omega | (simp only [len_new, len_put, len_kill]; omega)) only [↓ypre, ypost, ↓reduceIte, Nat.reduceEqDiff, Nat.reduceAdd, Nat.reduceSub, Nat.reduceLeDiff, Nat.zero_add, Nat.sub_zero, ynew, f0, f6, f7, f8, f18, f134, f135, f136, show lenV (tv nb W) = some (I64 W) from rfl]); try simp only [yback])
      refine WC_loop_inv (fun m f K5 => ∃ (c : Nat), m = W - c ∧ c ≤ W ∧ f 0 = I64 p ∧ f 6 = .pointer (some ⟨h.length, 0, none⟩) ∧ f 7 = .pointer (some ⟨H2.length, 0, none⟩) ∧ f 8 = tv nb W ∧ f 18 = sl nr L.length ∧ f 19 = I64 i ∧ f 20 = sl K4.length W ∧ f 134 = u ∧ f 135 = I64 rows.length ∧ f 136 = I64 i ∧ f 142 = tv nb W ∧ f 143 = I64 W ∧ f 144 = I64 c ∧ (K4 <+: K5) ∧ (Lst K5 K4.length (gen W fun y => if y < c then tb T i y else 0) true)) ?_ (W - 0) _ _ ⟨0, rfl, by omega, (by first | rfl | exact f0 | (simp [upd_apply]; done)), (by first | rfl | exact f6 | (simp [upd_apply]; done)), (by first | rfl | exact f7 | (simp [upd_apply]; done)), (by first | rfl | exact f8 | (simp [upd_apply]; done)), (by first | rfl | exact f18 | (simp [upd_apply]; done)), (by first | rfl | (simp [upd_apply]; done)), (by first | rfl | (simp [upd_apply]; done)), (by first | rfl | exact f134 | (simp [upd_apply]; done)), (by first | rfl | exact f135 | (simp [upd_apply]; done)), (by first | rfl | exact f136 | (simp [upd_apply]; done)), (by first | rfl | (simp [upd_apply]; done)), (by first | rfl | (simp [upd_apply]; done)), (by first | rfl | (simp [upd_apply]; done)), pB, ls0⟩
      rintro m f K5 ⟨c, rfl, hc, f0, f6, f7, f8, f18, f19, f20, f134, f135, f136, f142, f143, f144, pp, ls⟩
      by_cases hltc : (c : Int) < W
      · have hcW : c < W := by omega
        have ct5 : ColT K5 nb fl cols := ⟨pre_get pp (sy.get _ _ ctA.g (by simp) (by simp)), ctA.wid⟩
        have rnc := ct5.rdn (c := c) (by omega)
        have cq := hcol c hcW
        have wq := cq.1
        have tcb := gi c hcW
        generalize cols.getD c [] = q at *
        have ixc : ∀ kk : IntKind, ixsV 5 (tv nb W) (.int kk (c : Int)) = _ := fun kk => ColT.ix hcW
        have w1 : ∀ (h1 : AH) (e : TypeId), (h1.new ⟨cel .u32 (List.replicate 5 0), e, false, true⟩).wr h1.length 0 (cel .u32 q) = some (h1.new ⟨cel .u32 q, e, false, true⟩) := fun h1 e => wr_all (by rw [cel_len, cel_len, wq]; rfl)
        ((try simp (maxSteps := 3000000) (dsimp := false) (disch := first | omega | (simp only [len_new, len_put, len_kill]; omega)) only [↓ypre, ypost, ↓reduceIte, Nat.reduceEqDiff, Nat.reduceAdd, Nat.reduceSub, Nat.reduceLeDiff, Nat.zero_add, Nat.sub_zero, ynew, f0, f6, f7, f8, f18, f19, f20, f134, f135, f136, f142, f143, f144, decide_eq_true hltc, ixc, rnc, cel_all, cellsL_cel, cel_len, wq, ↓w1, wrap64_in]); try simp only [yback])
        generalize hHC : AH.new K5 _ = HC
        obtain ⟨hbC, pC, nC⟩ := new_facts hHC
        have lsC : Lst HC K4.length (gen W fun z => if z < c then tb T i z else if z = c ∧ 1 ≤ tb T i c ∧ tb T i c ≤ ((0 : Nat) : Int) then tb T i c else 0) true := by
          have e : gen W (fun z => if z < c then tb T i z else if z = c ∧ 1 ≤ tb T i c ∧ tb T i c ≤ ((0 : Nat) : Int) then tb T i c else 0) = gen W (fun y => if y < c then tb T i y else 0) := gen_congr fun z hz => by
            by_cases h1 : z < c
            · rw [if_pos h1, if_pos h1]
            · rw [if_neg h1, if_neg h1, if_neg (by omega)]
          rw [e]
          exact ls.pre pC
        refine WC_loop_inv (fun m f K6 => ∃ (y : Nat), m = ((p.toNat - 1)) - y ∧ y ≤ ((p.toNat - 1)) ∧ f 0 = I64 p ∧ f 6 = .pointer (some ⟨h.length, 0, none⟩) ∧ f 7 = .pointer (some ⟨H2.length, 0, none⟩) ∧ f 8 = tv nb W ∧ f 18 = sl nr L.length ∧ f 19 = I64 i ∧ f 20 = sl K4.length W ∧ f 21 = I64 c ∧ f 22 = .pointer (some ⟨K5.length, 0, none⟩) ∧ f 23 = I64 ((y : Int) + 1) ∧ f 134 = u ∧ f 135 = I64 rows.length ∧ f 136 = I64 i ∧ f 142 = tv nb W ∧ f 143 = I64 W ∧ f 144 = I64 c ∧ (K4 <+: K6) ∧ (Lst K6 K4.length (gen W fun z => if z < c then tb T i z else if z = c ∧ 1 ≤ tb T i c ∧ tb T i c ≤ (y : Int) then tb T i c else 0) true) ∧ (K6.get K5.length = some ⟨cel .u32 q, 144, false, true⟩)) ?_ (((p.toNat - 1)) - 0) _ _ ⟨0, rfl, by omega, (by first | rfl | exact f0 | (simp [upd_apply]; done)), (by first | rfl | exact f6 | (simp [upd_apply]; done)), (by first | rfl | exact f7 | (simp [upd_apply]; done)), (by first | rfl | exact f8 | (simp [upd_apply]; done)), (by first | rfl | exact f18 | (simp [upd_apply]; done)), (by first | rfl | exact f19 | (simp [upd_apply]; done)), (by first | rfl | exact f20 | (simp [upd_apply]; done)), (by first | rfl | (simp [upd_apply]; done)), (by first | rfl | (simp [upd_apply]; done)), (by first | rfl | (simp [upd_apply]; done)), (by first | rfl | exact f134 | (simp [upd_apply]; done)), (by first | rfl | exact f135 | (simp [upd_apply]; done)), (by first | rfl | exact f136 | (simp [upd_apply]; done)), (by first | rfl | exact f142 | (simp [upd_apply]; done)), (by first | rfl | exact f143 | (simp [upd_apply]; done)), (by first | rfl | exact f144 | (simp [upd_apply]; done)), pp.trans pC, lsC, hbC⟩
        rintro m f K6 ⟨y, rfl, hy, f0, f6, f7, f8, f18, f19, f20, f21, f22, f23, f134, f135, f136, f142, f143, f144, pp, ls, gC⟩
        by_cases hlty : (y : Int) + 1 < p
        · have eI : (y : Int) + 1 = ((y + 1 : Nat) : Int) := by omega
          rw [eI] at f23
          have ra := cq.at (x := y + 1) (by omega)
          have ixA := ixa_u (n := K5.length) (off := 0) (len := 5) (kk := .i64) (j := y + 1) (by omega)
          rw [Nat.zero_add] at ixA
          obtain ⟨pk1, pk2⟩ := bin_pick (R := T.length) (f := fun k => decide (tb T k c = ((y + 1 : Nat) : Int))) (r := i) (by omega) hiT
          by_cases e : tb T i c = ((y + 1 : Nat) : Int)
          · rw [if_pos (decide_eq_true e)] at pk2
            have ixl := Lst.ix (n := K4.length) (j := (c : Int)) (len := W) (by omega)
            rw [Int.toNat_natCast] at ixl
            obtain ⟨H9, w9, e9, l9⟩ := ls.wr (j := c) (x := ((y + 1 : Nat) : Int)) (by rw [gen_len]; exact hcW)
            have eL : (gen W fun z => if z < c then tb T i z else if z = c ∧ 1 ≤ tb T i c ∧ tb T i c ≤ (y : Int) then tb T i c else 0).set c ((y + 1 : Nat) : Int) = gen W fun z => if z < c then tb T i z else if z = c ∧ 1 ≤ tb T i c ∧ tb T i c ≤ ((y + 1 : Nat) : Int) then tb T i c else 0 := gen_ext (by rw [List.length_set, gen_len]) fun z hz => by
              rw [set_getD (by rw [gen_len]; exact hcW)]
              by_cases h1 : z = c
              · subst h1
                rw [if_pos rfl, if_neg (by omega), if_pos ⟨rfl, by omega, by omega⟩, e]
              · rw [if_neg h1, gen_get hz]
                by_cases h2 : z < c
                · rw [if_pos h2, if_pos h2]
                · rw [if_neg h2, if_neg h2, if_neg (by omega), if_neg (by omega)]
            rw [eL] at l9
            ((try simp (maxSteps := 3000000) (dsimp := false) (disch := first | omega | (simp only [len_new, len_put, len_kill]; omega)) only [↓ypre, ypost, ↓reduceIte, Nat.reduceEqDiff, Nat.reduceAdd, Nat.reduceSub, Nat.reduceLeDiff, Nat.zero_add, Nat.sub_zero, ynew, f0, f6, f7, f8, f18, f19, f20, f21, f22, f23, f134, f135, f136, f142, f143, f144, decide_eq_true (show ((y + 1 : Nat) : Int) < p by omega), ixA, rd1_of gC, ra, pk1, pk2, decide_eq_true (show (1 : Int) = 1 from rfl), ixl, w9, wrap64_in]); try simp only [yback])
            refine InvQ_go (((p.toNat - 1)) - (y + 1)) (by omega) ⟨(y + 1), rfl, by omega, (by first | rfl | exact f0 | (simp only [upd_apply]; rfl) | (show I64 _ = _; congr 1; omega)), (by first | rfl | exact f6 | (simp only [upd_apply]; rfl) | (show I64 _ = _; congr 1; omega)), (by first | rfl | exact f7 | (simp only [upd_apply]; rfl) | (show I64 _ = _; congr 1; omega)), (by first | rfl | exact f8 | (simp only [upd_apply]; rfl) | (show I64 _ = _; congr 1; omega)), (by first | rfl | exact f18 | (simp only [upd_apply]; rfl) | (show I64 _ = _; congr 1; omega)), (by first | rfl | exact f19 | (simp only [upd_apply]; rfl) | (show I64 _ = _; congr 1; omega)), (by first | rfl | exact f20 | (simp only [upd_apply]; rfl) | (show I64 _ = _; congr 1; omega)), (by first | rfl | exact f21 | (simp only [upd_apply]; rfl) | (show I64 _ = _; congr 1; omega)), (by first | rfl | exact f22 | (simp only [upd_apply]; rfl) | (show I64 _ = _; congr 1; omega)), (by show I64 _ = I64 _; congr 1), (by first | rfl | exact f134 | (simp only [upd_apply]; rfl) | (show I64 _ = _; congr 1; omega)), (by first | rfl | exact f135 | (simp only [upd_apply]; rfl) | (show I64 _ = _; congr 1; omega)), (by first | rfl | exact f136 | (simp only [upd_apply]; rfl) | (show I64 _ = _; congr 1; omega)), (by first | rfl | exact f142 | (simp only [upd_apply]; rfl) | (show I64 _ = _; congr 1; omega)), (by first | rfl | exact f143 | (simp only [upd_apply]; rfl) | (show I64 _ = _; congr 1; omega)), (by first | rfl | exact f144 | (simp only [upd_apply]; rfl) | (show I64 _ = _; congr 1; omega)), (by rw [e9]; exact pre_put pp (Nat.le_refl _)), l9, (by rw [e9, get_put_ne (by have := pre_len (show K4 <+: K5 from by assumption); have := (show Lst K5 K4.length _ true from by assumption).lt; omega)]; exact gC)⟩
          · have ef : (if decide (tb T i c = ((y + 1 : Nat) : Int)) = true then (1 : Int) else 0) = 0 := by rw [decide_eq_false e]; rfl
            rw [ef] at pk2
            have eL : (gen W fun z => if z < c then tb T i z else if z = c ∧ 1 ≤ tb T i c ∧ tb T i c ≤ (y : Int) then tb T i c else 0) = gen W fun z => if z < c then tb T i z else if z = c ∧ 1 ≤ tb T i c ∧ tb T i c ≤ ((y + 1 : Nat) : Int) then tb T i c else 0 := gen_congr fun z hz => by
              by_cases h2 : z < c
              · rw [if_pos h2, if_pos h2]
              · rw [if_neg h2, if_neg h2]
                by_cases h3 : z = c ∧ 1 ≤ tb T i c ∧ tb T i c ≤ (y : Int)
                · rw [if_pos h3, if_pos (by omega)]
                · rw [if_neg h3, if_neg (by omega)]
            rw [eL] at ls
            ((try simp (maxSteps := 3000000) (dsimp := false) (disch := first | omega | (simp only [len_new, len_put, len_kill]; omega)) only [↓ypre, ypost, ↓reduceIte, Nat.reduceEqDiff, Nat.reduceAdd, Nat.reduceSub, Nat.reduceLeDiff, Nat.zero_add, Nat.sub_zero, ynew, f0, f6, f7, f8, f18, f19, f20, f21, f22, f23, f134, f135, f136, f142, f143, f144, decide_eq_true (show ((y + 1 : Nat) : Int) < p by omega), ixA, rd1_of gC, ra, pk1, pk2, decide_eq_false (show ¬ (0 : Int) = 1 by decide), wrap64_in]); try simp only [yback])
            refine InvQ_go (((p.toNat - 1)) - (y + 1)) (by omega) ⟨(y + 1), rfl, by omega, (by first | rfl | exact f0 | (simp only [upd_apply]; rfl) | (show I64 _ = _; congr 1; omega)), (by first | rfl | exact f6 | (simp only [upd_apply]; rfl) | (show I64 _ = _; congr 1; omega)), (by first | rfl | exact f7 | (simp only [upd_apply]; rfl) | (show I64 _ = _; congr 1; omega)), (by first | rfl | exact f8 | (simp only [upd_apply]; rfl) | (show I64 _ = _; congr 1; omega)), (by first | rfl | exact f18 | (simp only [upd_apply]; rfl) | (show I64 _ = _; congr 1; omega)), (by first | rfl | exact f19 | (simp only [upd_apply]; rfl) | (show I64 _ = _; congr 1; omega)), (by first | rfl | exact f20 | (simp only [upd_apply]; rfl) | (show I64 _ = _; congr 1; omega)), (by first | rfl | exact f21 | (simp only [upd_apply]; rfl) | (show I64 _ = _; congr 1; omega)), (by first | rfl | exact f22 | (simp only [upd_apply]; rfl) | (show I64 _ = _; congr 1; omega)), (by show I64 _ = I64 _; congr 1), (by first | rfl | exact f134 | (simp only [upd_apply]; rfl) | (show I64 _ = _; congr 1; omega)), (by first | rfl | exact f135 | (simp only [upd_apply]; rfl) | (show I64 _ = _; congr 1; omega)), (by first | rfl | exact f136 | (simp only [upd_apply]; rfl) | (show I64 _ = _; congr 1; omega)), (by first | rfl | exact f142 | (simp only [upd_apply]; rfl) | (show I64 _ = _; congr 1; omega)), (by first | rfl | exact f143 | (simp only [upd_apply]; rfl) | (show I64 _ = _; congr 1; omega)), (by first | rfl | exact f144 | (simp only [upd_apply]; rfl) | (show I64 _ = _; congr 1; omega)), pp, ls, gC⟩
        have ey : y = p.toNat - 1 := by omega
        subst ey
        have eL : (gen W fun z => if z < c then tb T i z else if z = c ∧ 1 ≤ tb T i c ∧ tb T i c ≤ ((p.toNat - 1 : Nat) : Int) then tb T i c else 0) = gen W fun z => if z < c + 1 then tb T i z else 0 := gen_congr fun z hz => by
          by_cases h2 : z < c
          · rw [if_pos h2, if_pos (by omega)]
          · rw [if_neg h2]
            by_cases h3 : z = c
            · subst h3
              rw [if_pos (show z < z + 1 by omega)]
              by_cases h4 : tb T i z = 0
              · rw [if_neg (by omega), h4]
              · rw [if_pos ⟨rfl, by omega, by omega⟩]
            · rw [if_neg (by omega), if_neg (by omega)]
        rw [eL] at ls
        ((try simp (maxSteps := 3000000) (dsimp := false) (disch := first | omega | (simp only [len_new, len_put, len_kill]; omega)) only [↓ypre, ypost, ↓reduceIte, Nat.reduceEqDiff, Nat.reduceAdd, Nat.reduceSub, Nat.reduceLeDiff, Nat.zero_add, Nat.sub_zero, ynew, f0, f6, f7, f8, f18, f19, f20, f21, f22, f23, f134, f135, f136, f142, f143, f144, decide_eq_false hlty, wrap64_in]); try simp only [yback])
        refine InvQ_go (W - (c + 1)) (by omega) ⟨(c + 1), rfl, by omega, (by first | rfl | exact f0 | (simp only [upd_apply]; rfl) | (show I64 _ = _; congr 1; omega)), (by first | rfl | exact f6 | (simp only [upd_apply]; rfl) | (show I64 _ = _; congr 1; omega)), (by first | rfl | exact f7 | (simp only [upd_apply]; rfl) | (show I64 _ = _; congr 1; omega)), (by first | rfl | exact f8 | (simp only [upd_apply]; rfl) | (show I64 _ = _; congr 1; omega)), (by first | rfl | exact f18 | (simp only [upd_apply]; rfl) | (show I64 _ = _; congr 1; omega)), (by first | rfl | exact f19 | (simp only [upd_apply]; rfl) | (show I64 _ = _; congr 1; omega)), (by first | rfl | exact f20 | (simp only [upd_apply]; rfl) | (show I64 _ = _; congr 1; omega)), (by first | rfl | exact f134 | (simp only [upd_apply]; rfl) | (show I64 _ = _; congr 1; omega)), (by first | rfl | exact f135 | (simp only [upd_apply]; rfl) | (show I64 _ = _; congr 1; omega)), (by first | rfl | exact f136 | (simp only [upd_apply]; rfl) | (show I64 _ = _; congr 1; omega)), (by first | rfl | exact f142 | (simp only [upd_apply]; rfl) | (show I64 _ = _; congr 1; omega)), (by first | rfl | exact f143 | (simp only [upd_apply]; rfl) | (show I64 _ = _; congr 1; omega)), (by first | rfl | exact f144 | (simp only [upd_apply]; rfl) | (show I64 _ = _; congr 1; omega)), pp, ls⟩
      have ec : c = W := by omega
      subst ec
      have eT' : (gen c fun y => if y < c then tb T i y else 0) = T.getD i [] := (gen_ext gw fun z hz => by rw [if_pos hz]; rfl).symm
      rw [eT'] at ls
      have pK5 := pre_len pp
      ((try simp (maxSteps := 3000000) (dsimp := false) (disch := first | omega | (simp only [len_new, len_put, len_kill]; omega)) only [↓ypre, ypost, ↓reduceIte, Nat.reduceEqDiff, Nat.reduceAdd, Nat.reduceSub, Nat.reduceLeDiff, Nat.zero_add, Nat.sub_zero, ynew, f0, f6, f7, f8, f18, f19, f20, f134, f135, f136, f142, f143, f144, decide_eq_false hltc, sl_cells, sl_one]); try simp only [yback])
      rw [← gw]
      have tl5 := tl.pre pp
      refine tl5.app (by omega) (fun j hj => by
        obtain ⟨fu, o⟩ := (tl.rows j hj).2
        have := o.lt
        omega) ls (by omega) (by omega) fun H9 l9 tl9 keep9 pre9 => ?_
      have st9 : StayT H1.length K5 H9 := ⟨by omega, fun h0 hh q => pre9 h0 (Nat.le_trans hh tl.low) q, fun m' b' g q1 q2 => keep9 m' b' (fun e => by
        have g3 := tl5.g
        rw [e, g3] at g
        cases g
        exact q2 rfl) g⟩
      ((try simp (maxSteps := 3000000) (dsimp := false) (disch := first | omega | (simp only [len_new, len_put, len_kill]; omega)) only [↓ypre, ypost, ↓reduceIte, Nat.reduceEqDiff, Nat.reduceAdd, Nat.reduceSub, Nat.reduceLeDiff, Nat.zero_add, Nat.sub_zero, ynew, f0, f6, f7, f8, f18, f19, f20, f134, f135, f136, f142, f143, f144, wrap64_in]); try simp only [yback])
      refine InvQ_go (rows.length - (i + 1)) (by omega) ⟨(i + 1), (K5.length + 1), false, (L ++ [(K4.length, T.getD i [])]), rfl, by omega, (by first | rfl | exact f0 | (simp only [upd_apply]; rfl) | (show I64 _ = _; congr 1; omega)), (by first | rfl | exact f6 | (simp only [upd_apply]; rfl) | (show I64 _ = _; congr 1; omega)), (by first | rfl | exact f7 | (simp only [upd_apply]; rfl) | (show I64 _ = _; congr 1; omega)), (by rw [gw]; exact f8), (by first | rfl | exact f18 | (simp only [upd_apply]; rfl) | (show I64 _ = _; congr 1; omega)), (by first | rfl | exact f134 | (simp only [upd_apply]; rfl) | (show I64 _ = _; congr 1; omega)), (by first | rfl | exact f135 | (simp only [upd_apply]; rfl) | (show I64 _ = _; congr 1; omega)), (by first | rfl | exact f136 | (simp only [upd_apply]; rfl) | (show I64 _ = _; congr 1; omega)), (sy.trans ((StayT.of pp).trans st9)), tl9, (by rw [List.map_append, hL, take_next (d := []) hiT]; rfl)⟩
    have ei : i = rows.length := by omega
    subst ei
    rw [← sl', List.take_of_length_le (Nat.le_refl _)] at hL
    have g7K := sy.get _ _ g7A (by simp) (by simp)
    ((try simp (maxSteps := 3000000) (dsimp := false) (disch := first | omega | (simp only [len_new, len_put, len_kill]; omega)) only [↓ypre, ypost, ↓reduceIte, Nat.reduceEqDiff, Nat.reduceAdd, Nat.reduceSub, Nat.reduceLeDiff, Nat.zero_add, Nat.sub_zero, ynew, f0, f6, f7, f8, f18, f134, f135, f136, decide_eq_false hlt, rdn_of g7K]); try simp only [yback])
    have hrs := tl.rowsS
    rw [hL] at hrs
    have o0 : Way2 K4 H1.length sv (.slice none 0 0) ⟨p, n, st0, []⟩ := ⟨wvA.keep fun m' c' f' _ _ g => sy.get _ _ g (by simp) (by simp), ⟨fun r hr => by simp at hr, .inl ⟨rfl, rfl⟩⟩⟩
    rw [show Value.agg #[I64 p, I64 n, sv, .slice none 0 0] = prgV ⟨p, n, st0, []⟩ sv (.slice none 0 0) from rfl]
    have kA := pre_len hp1A
    refine i_finished hp hn o0 (by omega) hrs (fun i hi => by
      obtain ⟨q1, q2⟩ := gT i hi
      exact ⟨allIn_iff.2 fun j hj => q2 j (by omega), by omega⟩) (by omega) (by show st0.length ≤ 100000; omega) (by simp) fun v' w' H' sy' o' ob' => ?_
    have pH : H1 <+: H' := sy'.pre _ (Nat.le_refl _) (sy.pre _ (Nat.le_refl _) hp1A)
    have g6 := pre_get pH hb1
    have lt6 := get_lt g6
    obtain ⟨ep, en, _, _⟩ := finP_facts (x := ⟨p, n, st0, []⟩) (rows := T) (N := 10000) hp (fun i hi => by
      obtain ⟨q1, q2⟩ := gT i hi
      exact ⟨allIn_iff.2 fun j hj => q2 j (by omega), by omega⟩) hn (i := T.length) (Nat.le_refl _)
    ((try simp (maxSteps := 3000000) (dsimp := false) (disch := first | omega | (simp only [len_new, len_put, len_kill]; omega)) only [↓ypre, ypost, ↓reduceIte, Nat.reduceEqDiff, Nat.reduceAdd, Nat.reduceSub, Nat.reduceLeDiff, Nat.zero_add, Nat.sub_zero, ynew, f0, f6, f7, f8, f18, f134, f135, f136, prgV, o'.st.one, o'.st.cells, o'.out.one, o'.out.cells, wr_of g6]); try simp only [yback])
    have := hQ v' w' _ (pre_put (b := ⟨[I64 (finP ⟨p, n, st0, []⟩ T T.length).p, I64 (finP ⟨p, n, st0, []⟩ T T.length).n, v', w'], 48, false, true⟩) (p1.trans pH) (Nat.le_refl _)) ⟨(o'.st.put_ty g6 (by simp)).mlo (by omega), (o'.out.put_ty g6 (by simp)).mlo (by omega)⟩ (ob' (by omega))
    unfold prgV at this
    exact this
  obtain ⟨b1, b2, b3, b4, _⟩ := bst_ok hp si.gt hT1 (by omega)
  have sg := si.go hp (by omega) (by omega)
  have est : (stepS p s).st = s.st ++ [[((bst p s.T).l : Int), ((bst p s.T).j : Int), ((bst p s.T).r : Int)]] := rfl
  have eT : (stepS p s).T = mvT p (bst p s.T) s.T := rfl
  generalize hbb : bst p s.T = bb at *
  have ct7 := ct.pre p67
  have ixl : ∀ kk : IntKind, ixsV 5 (tv nb (N + s.st.length)) (.int kk (bb.l : Int)) = _ := fun kk => ColT.ix (by omega)
  have ixj : ∀ kk : IntKind, ixsV 5 (tv nb (N + s.st.length)) (.int kk (bb.j : Int)) = _ := fun kk => ColT.ix (by omega)
  have rnl := ct7.rdn (c := bb.l) (by omega)
  have rnj := ct7.rdn (c := bb.j) (by omega)
  have ca := hcol bb.l (by omega)
  have cb := hcol bb.j (by omega)
  generalize hqa : cols.getD bb.l [] = qa at *
  generalize hqb : cols.getD bb.j [] = qb at *
  ((try simp (maxSteps := 3000000) (dsimp := false) (disch := first | omega | (simp only [len_new, len_put, len_kill]; omega)) only [↓ypre, ypost, ↓reduceIte, Nat.reduceEqDiff, Nat.reduceAdd, Nat.reduceSub, Nat.reduceLeDiff, Nat.zero_add, Nat.sub_zero, ynew, f0, f2, f6, f7, f8, decide_eq_true hbm, rd1_of hb7, ixl, rnl, ixj, rnj]); try simp only [yback])
  refine i_rowsWith (qa := qa) (qb := qb) hp si.gt hT30 (i := bb.l) (j := bb.j) (by omega) (by omega) ca cb ⟨b3, b4⟩ fun H8 p8 => ?_
  ((try simp (maxSteps := 3000000) (dsimp := false) (disch := first | omega | (simp only [len_new, len_put, len_kill]; omega)) only [↓ypre, ypost, ↓reduceIte, Nat.reduceEqDiff, Nat.reduceAdd, Nat.reduceSub, Nat.reduceLeDiff, Nat.zero_add, Nat.sub_zero, ynew, f0, f2, f6, f7, f8, cel_all, cel_len, List.length_replicate, cellsL_cel]); try simp only [yback])
  generalize hH9 : AH.new H8 _ = H9
  obtain ⟨hb9, p9, n9⟩ := new_facts hH9
  have p89 := p8.trans p9
  have k8 := pre_len p8
  have ct9 := ct7.pre p89
  have g13 := pre_get p89 hb7
  have g79 := pre_get (p67.trans p89) g7
  have wv9 := wv.pre (p67.trans p89)
  have pp9 := pp.trans (p67.trans p89)
  have lnbK := get_lt ct.g
  obtain ⟨SS', hSS⟩ : ∃ SS' : Nat → Bool, SS' = mvS p bb s.T := ⟨_, rfl⟩
  have eS : mkB p s.T bb.l bb.j bb.r = SS' := by rw [hSS]; rfl
  have lne : bb.l ≠ bb.j := by omega
  rw [eS]
  have ctS : ColT H9 nb fl ((cols.set bb.l (lcol s.T SS' bb.l 0 qa)).set bb.j (lcol s.T SS' bb.j 0 qb)) := by
    rw [lcol_zero ca.1, lcol_zero cb.1]
    have e1 : cols.set bb.l qa = cols := by
      rw [← hqa, List.getD_eq_getElem?_getD, List.getElem?_eq_getElem (by omega)]
      exact List.set_getElem_self (by omega)
    have e2 : cols.set bb.j qb = cols := by
      rw [← hqb, List.getD_eq_getElem?_getD, List.getElem?_eq_getElem (by omega)]
      exact List.set_getElem_self (by omega)
    rw [e1, e2]
    exact ct9
  have gN0 : H9.get H8.length = some ⟨cel .u32 (ncol s.T SS' bb.l 0), 144, false, true⟩ := by
    rw [ncol_zero]
    exact hb9
  refine WC_loop_inv (fun m f K7 => ∃ (c : Nat), m = ((p.toNat - 1)) - c ∧ c ≤ ((p.toNat - 1)) ∧ f 0 = I64 p ∧ f 2 = u ∧ f 6 = .pointer (some ⟨h.length, 0, none⟩) ∧ f 7 = .pointer (some ⟨H2.length, 0, none⟩) ∧ f 8 = tv nb (N + s.st.length) ∧ f 13 = .pointer (some ⟨H6.length, 0, none⟩) ∧ f 15 = U32 (bs s.T.length SS') ∧ f 16 = .pointer (some ⟨H8.length, 0, none⟩) ∧ f 17 = I64 ((c : Int) + 1) ∧ (ColT K7 nb fl ((cols.set bb.l (lcol s.T SS' bb.l c qa)).set bb.j (lcol s.T SS' bb.j c qb))) ∧ (K7.get H8.length = some ⟨cel .u32 (ncol s.T SS' bb.l c), 144, false, true⟩) ∧ (∀ m b, m ≠ nb → m ≠ H8.length → H9.get m = some b → K7.get m = some b) ∧ (K7.length = H9.length) ∧ (H1 <+: K7)) ?_ (((p.toNat - 1)) - 0) _ _ ⟨0, rfl, by omega, (by first | rfl | exact f0 | (simp [upd_apply]; done)), (by first | rfl | exact f2 | (simp [upd_apply]; done)), (by first | rfl | exact f6 | (simp [upd_apply]; done)), (by first | rfl | exact f7 | (simp [upd_apply]; done)), (by first | rfl | exact f8 | (simp [upd_apply]; done)), (by first | rfl | (simp [upd_apply]; done)), (by first | rfl | (simp [upd_apply]; done)), (by first | rfl | (simp [upd_apply]; done)), (by first | rfl | (simp [upd_apply]; done)), ctS, gN0, fun m b _ _ g => g, rfl, pp9⟩
  rintro m f K7 ⟨c, rfl, hc, f0, f2, f6, f7, f8, f13, f15, f16, f17, ctS, gN, hk, lK, pp⟩
  have g13K := hk _ _ (by omega) (by omega) g13
  by_cases hltc : (c : Int) + 1 < p
  · have hc5 : c + 1 < 5 := by omega
    have eI : (c : Int) + 1 = ((c + 1 : Nat) : Int) := by omega
    rw [eI] at f17
    have cl2 : ((cols.set bb.l (lcol s.T SS' bb.l c qa)).set bb.j (lcol s.T SS' bb.j c qb)).length = cols.length := by simp
    have ixa1 := ixa_u (n := nb) (off := bb.l * 5) (len := 5) (kk := .i64) (j := c + 1) hc5
    have ixa2 := ixa_u (n := nb) (off := bb.j * 5) (len := 5) (kk := .i64) (j := c + 1) hc5
    have ixaN := ixa_u (n := H8.length) (off := 0) (len := 5) (kk := .i64) (j := c + 1) hc5
    rw [Nat.zero_add] at ixaN
    have rA := ctS.rd (c := bb.l) (x := c + 1) (by omega) hc5
    rw [get2_l lne (by omega) (by omega), lcol_at ca hc5] at rA
    have rA : K7.rd1 nb (bb.l * 5 + (c + 1)) = some (U32 (bs s.T.length fun k => decide (tb s.T k bb.l = ((c + 1 : Nat) : Int)))) := rA
    have an1 := bin_and (R := s.T.length) (f := fun k => decide (tb s.T k bb.l = ((c + 1 : Nat) : Int))) (g := SS') (by omega)
    have ltN := get_lt gN
    have nl : (ncol s.T SS' bb.l c).length = 5 := gen_len
    have wN : K7.wr H8.length (c + 1) [U32 (bs s.T.length fun k => decide (tb s.T k bb.l = ((c + 1 : Nat) : Int)) && SS' k)] = some (K7.put H8.length ⟨cel .u32 (ncol s.T SS' bb.l (c + 1)), 144, false, true⟩) := by
      rw [wr_of gN, if_pos ⟨rfl, by simp only [cel_len, nl, List.length_singleton]; omega⟩, ← ncol_set hc5]
      unfold U32
      rw [cel_set (by rw [nl]; exact hc5)]
    generalize hKN : K7.put H8.length ⟨cel .u32 (ncol s.T SS' bb.l (c + 1)), 144, false, true⟩ = KN at *
    have gN' : KN.get H8.length = some ⟨cel .u32 (ncol s.T SS' bb.l (c + 1)), 144, false, true⟩ := by rw [← hKN]; exact get_put_same ltN
    have ctN : ColT KN nb fl ((cols.set bb.l (lcol s.T SS' bb.l c qa)).set bb.j (lcol s.T SS' bb.j c qb)) := by rw [← hKN]; exact ctS.put_ne (by omega)
    have hkN : ∀ m b, m ≠ nb → m ≠ H8.length → H9.get m = some b → KN.get m = some b := fun m b h1 h2 g => by rw [← hKN, get_put_ne (fun e => h2 e.symm)]; exact hk m b h1 h2 g
    have g13N := hkN _ _ (by omega) (by omega) g13
    have lKN : KN.length = K7.length := by rw [← hKN, len_put]
    have rA2 := ctN.rd (c := bb.l) (x := c + 1) (by omega) hc5
    rw [get2_l lne (by omega) (by omega), lcol_at ca hc5] at rA2
    have rA2 : KN.rd1 nb (bb.l * 5 + (c + 1)) = some (U32 (bs s.T.length fun k => decide (tb s.T k bb.l = ((c + 1 : Nat) : Int)))) := rA2
    have an2 := bin_andNot (R := s.T.length) (f := fun k => decide (tb s.T k bb.l = ((c + 1 : Nat) : Int))) (g := SS') (by omega)
    obtain ⟨KA, wA, eA, ctA'⟩ := ctN.wr (c := bb.l) (x := c + 1) (v := ((bs s.T.length (fun k => decide (tb s.T k bb.l = ((c + 1 : Nat) : Int)) && !SS' k) : Nat) : Int)) (by omega) hc5
    have wA : KN.wr nb (bb.l * 5 + (c + 1)) [U32 (bs s.T.length (fun k => decide (tb s.T k bb.l = ((c + 1 : Nat) : Int)) && !SS' k))] = some KA := wA
    rw [get2_l lne (by omega) (by omega), lcol_set hc5] at ctA'
    have gN'' : KA.get H8.length = some ⟨cel .u32 (ncol s.T SS' bb.l (c + 1)), 144, false, true⟩ := by rw [eA, get_put_ne (by omega)]; exact gN'
    have hkA : ∀ m b, m ≠ nb → m ≠ H8.length → H9.get m = some b → KA.get m = some b := fun m b h1 h2 g => by rw [eA, get_put_ne (fun e => h1 e.symm)]; exact hkN m b h1 h2 g
    have g13A := hkA _ _ (by omega) (by omega) g13
    have lKA : KA.length = K7.length := by rw [eA, len_put, lKN]
    have cl3 : (((cols.set bb.l (lcol s.T SS' bb.l c qa)).set bb.j (lcol s.T SS' bb.j c qb)).set bb.l (lcol s.T SS' bb.l (c + 1) qa)).length = cols.length := by simp
    have eB : (((cols.set bb.l (lcol s.T SS' bb.l c qa)).set bb.j (lcol s.T SS' bb.j c qb)).set bb.l (lcol s.T SS' bb.l (c + 1) qa)).getD bb.j [] = lcol s.T SS' bb.j c qb := by
      rw [set_getD' (by rw [cl2]; omega), if_neg (fun e => lne e.symm), get2_j (by omega)]
    have rB := ctA'.rd (c := bb.j) (x := c + 1) (by omega) hc5
    rw [eB, lcol_at cb hc5] at rB
    have rB : KA.rd1 nb (bb.j * 5 + (c + 1)) = some (U32 (bs s.T.length fun k => decide (tb s.T k bb.j = ((c + 1 : Nat) : Int)))) := rB
    have an3 := bin_andNot (R := s.T.length) (f := fun k => decide (tb s.T k bb.j = ((c + 1 : Nat) : Int))) (g := SS') (by omega)
    obtain ⟨KB, wB, eKB, ctB'⟩ := ctA'.wr (c := bb.j) (x := c + 1) (v := ((bs s.T.length (fun k => decide (tb s.T k bb.j = ((c + 1 : Nat) : Int)) && !SS' k) : Nat) : Int)) (by omega) hc5
    have wB : KA.wr nb (bb.j * 5 + (c + 1)) [U32 (bs s.T.length (fun k => decide (tb s.T k bb.j = ((c + 1 : Nat) : Int)) && !SS' k))] = some KB := wB
    rw [eB, lcol_set hc5, set2_next lne] at ctB'
    have gNB : KB.get H8.length = some ⟨cel .u32 (ncol s.T SS' bb.l (c + 1)), 144, false, true⟩ := by rw [eKB, get_put_ne (by omega)]; exact gN''
    have hkB : ∀ m b, m ≠ nb → m ≠ H8.length → H9.get m = some b → KB.get m = some b := fun m b h1 h2 g => by rw [eKB, get_put_ne (fun e => h1 e.symm)]; exact hkA m b h1 h2 g
    have lKB : KB.length = K7.length := by rw [eKB, len_put, lKA]
    have ppB : H1 <+: KB := by
      rw [eKB, eA, ← hKN]
      exact pre_put (pre_put (pre_put pp (by have := pre_len pp9; omega)) lnb) lnb
    ((try simp (maxSteps := 3000000) (dsimp := false) (disch := first | omega | (simp only [len_new, len_put, len_kill]; omega)) only [↓ypre, ypost, ↓reduceIte, Nat.reduceEqDiff, Nat.reduceAdd, Nat.reduceSub, Nat.reduceLeDiff, Nat.zero_add, Nat.sub_zero, ynew, f0, f2, f6, f7, f8, f13, f15, f16, f17, decide_eq_true (show ((c + 1 : Nat) : Int) < p by omega), rd1_of g13K, ixl, ixa1, rA, an1, ixaN, U_one, U_cells, wN, rd1_of g13N, rA2, an2, wA, rd1_of g13A, ixj, ixa2, rB, an3, wB, wrap64_in]); try simp only [yback])
    refine InvQ_go (((p.toNat - 1)) - (c + 1)) (by omega) ⟨(c + 1), rfl, by omega, (by first | rfl | exact f0 | (simp only [upd_apply]; rfl) | (show I64 _ = _; congr 1; omega)), (by first | rfl | exact f2 | (simp only [upd_apply]; rfl) | (show I64 _ = _; congr 1; omega)), (by first | rfl | exact f6 | (simp only [upd_apply]; rfl) | (show I64 _ = _; congr 1; omega)), (by first | rfl | exact f7 | (simp only [upd_apply]; rfl) | (show I64 _ = _; congr 1; omega)), (by first | rfl | exact f8 | (simp only [upd_apply]; rfl) | (show I64 _ = _; congr 1; omega)), (by first | rfl | exact f13 | (simp only [upd_apply]; rfl) | (show I64 _ = _; congr 1; omega)), (by first | rfl | exact f15 | (simp only [upd_apply]; rfl) | (show I64 _ = _; congr 1; omega)), (by first | rfl | exact f16 | (simp only [upd_apply]; rfl) | (show I64 _ = _; congr 1; omega)), (by show I64 _ = I64 _; congr 1), ctB', gNB, hkB, (by rw [lKB, lK]), ppB⟩
  have ec : c = p.toNat - 1 := by omega
  subst ec
  have nl : (ncol s.T SS' bb.l (p.toNat - 1)).length = 5 := gen_len
  have tkN : (cel .u32 (ncol s.T SS' bb.l (p.toNat - 1))).take 5 = cel .u32 (ncol s.T SS' bb.l (p.toNat - 1)) := List.take_of_length_le (by rw [cel_len]; omega)
  have spl : splice (cel .u32 (List.replicate 5 0)) 0 (cel .u32 (ncol s.T SS' bb.l (p.toNat - 1))) = cel .u32 (ncol s.T SS' bb.l (p.toNat - 1)) := by
    rw [cel_splice, nl]
    simp
  have cl2 : ((cols.set bb.l (lcol s.T SS' bb.l (p.toNat - 1) qa)).set bb.j (lcol s.T SS' bb.j (p.toNat - 1) qb)).length = N + s.st.length := by simp [hcl]
  have wc : WayX (144) .u32 5 K7 H1.length [] (tv nb (N + s.st.length)) ((cols.set bb.l (lcol s.T SS' bb.l (p.toNat - 1) qa)).set bb.j (lcol s.T SS' bb.j (p.toNat - 1) qb)) := by
    have := ctS.way (ex := []) lnb (by simp)
    rw [cl2] at this
    exact this
  have k19 := pre_len pp9
  ((try simp (maxSteps := 3000000) (dsimp := false) (disch := first | omega | (simp only [len_new, len_put, len_kill]; omega)) only [↓ypre, ypost, ↓reduceIte, Nat.reduceEqDiff, Nat.reduceAdd, Nat.reduceSub, Nat.reduceLeDiff, Nat.zero_add, Nat.sub_zero, ynew, f0, f2, f6, f7, f8, f13, f15, f16, f17, decide_eq_false hltc, rdn_of gN, cel_len, nl, tkN, cel_all, cellsL_cel, List.length_replicate, spl]); try simp only [yback])
  refine wc.appK (q := ncol s.T SS' bb.l (p.toNat - 1)) nl (by rw [cl2]; omega) (by rw [cl2]; omega) (by omega) (by simp) fun cv H10 l10 pre10 keep10 wc10 => ?_
  obtain ⟨nb', fl', rfl, hnb', ct10⟩ := wc10.colT (by simp)
  have g13b := keep10 _ _ (.inr (by simp)) (hk _ _ (by omega) (by omega) g13)
  have g7b := keep10 _ _ (.inr (by simp)) (hk _ _ (by
    rintro rfl
    have := ct9.g
    rw [g79] at this
    have := congrArg (fun b : Option Blk => b.map (·.e)) this
    simp at this) (by omega) g79)
  have wv10 : WayX (96) .i64 3 H10 H1.length [] sv s.st := wv9.keep fun m' c' f' _ _ g => keep10 _ _ (.inr (by simp)) (hk _ _ (by
    rintro rfl
    have := ct9.g
    rw [g] at this
    cases this) (by
    rintro rfl
    rw [hb9] at g
    cases g) g)
  have pp10 : H1 <+: H10 := pre10 _ (Nat.le_refl _) pp
  ((try simp (maxSteps := 3000000) (dsimp := false) (disch := first | omega | (simp only [len_new, len_put, len_kill]; omega)) only [↓ypre, ypost, ↓reduceIte, Nat.reduceEqDiff, Nat.reduceAdd, Nat.reduceSub, Nat.reduceLeDiff, Nat.zero_add, Nat.sub_zero, ynew, f0, f2, f6, f7, f8, f13, f15, f16, f17, rd1_of g7b, rd1_of g13b]); try simp only [yback])
  refine wv10.appK (q := [(bb.l : Int), (bb.j : Int), (bb.r : Int)]) rfl (by omega) (by omega) (by omega) (by simp) fun sv' H11 l11 pre11 keep11 wv11 => ?_
  have g7c := keep11 _ _ (.inr (by simp)) g7b
  have lt7 := get_lt g7c
  have ct11 : ColT H11 nb' fl' (((cols.set bb.l (lcol s.T SS' bb.l (p.toNat - 1) qa)).set bb.j (lcol s.T SS' bb.j (p.toNat - 1) qb)) ++ [ncol s.T SS' bb.l (p.toNat - 1)]) := ⟨keep11 _ _ (.inr (by simp)) ct10.g, ct10.wid⟩
  ((try simp (maxSteps := 3000000) (dsimp := false) (disch := first | omega | (simp only [len_new, len_put, len_kill]; omega)) only [↓ypre, ypost, ↓reduceIte, Nat.reduceEqDiff, Nat.reduceAdd, Nat.reduceSub, Nat.reduceLeDiff, Nat.zero_add, Nat.sub_zero, ynew, f0, f2, f6, f7, f8, f13, f15, f16, f17, wv11.one, wv11.cells, wr_of g7c, wrap64_in]); try simp only [yback])
  have hlt := sg.2
  have lst : (stepS p s).st.length = s.st.length + 1 := by rw [est]; simp
  have sg1 := sg.1
  have f8' : tv nb' (((cols.set bb.l (lcol s.T SS' bb.l (p.toNat - 1) qa)).set bb.j (lcol s.T SS' bb.j (p.toNat - 1) qb)) ++ [ncol s.T SS' bb.l (p.toNat - 1)]).length = tv nb' (N + (stepS p s).st.length) := by rw [List.length_append, cl2, lst]; rfl
  refine InvQ_go (nzT rows - (nzT rows - nzT (stepS p s).T)) (by omega) ⟨nzT rows - nzT (stepS p s).T, stepS p s, sv', nb', fl', _, rfl, by omega, f0, f2, f6, f7, f8', by omega, sg1, pre_put (pre11 _ (Nat.le_refl _) pp10) (by omega), by omega, ct11.put_ne ?_, by rw [List.length_append, cl2, lst]; rfl, fun i hi => ?_, ?_, get_put_same lt7⟩
  · rintro rfl
    have := ct11.g
    rw [g7c] at this
    have := congrArg (fun b : Option Blk => b.map (·.e)) this
    simp at this
  · rw [eT]
    have g := si.gt
    by_cases e1 : i < N + s.st.length
    · rw [getD_app_l (by rw [cl2]; exact e1)]
      by_cases e2 : i = bb.l
      · subst e2
        rw [get2_l lne (by omega) (by omega), hSS]
        exact col_left g hp5 (by omega) (by omega) (.inl rfl) ca
      · by_cases e3 : i = bb.j
        · subst e3
          rw [get2_j (by omega), hSS]
          exact col_left g hp5 (by omega) (by omega) (.inr rfl) cb
        · rw [get2_o e2 e3 (by omega) (by omega)]
          exact col_other g (by omega) (by omega) e1 e2 e3 (hcol i e1)
    · have e2 : i = N + s.st.length := by omega
      subst e2
      rw [getD_app_r (by rw [cl2]; exact Nat.le_refl _), cl2, Nat.sub_self, hSS]
      exact col_new g hp5 (by omega) (by omega)
  · rw [est]
    exact (wv11.put_ty g7c (by simp)).mlo (by omega)
end Go.Proofs.Ytilpnbejpndgpaa.X

/- SharedProgram of both sides. -/
set_option linter.unusedVariables false
set_option linter.unusedSimpArgs false
set_option maxRecDepth 20000
set_option maxHeartbeats 4000000
namespace Go.Proofs.Ytilpnbejpndgpaa.X
open Go Go.RowKit

theorem shP_facts {p n : Int} {rows : List (List Int)} (h : lsOK p n rows = true) : (shP p n rows).st.length ≤ 301000 ∧ (shP p n rows).out.length ≤ 30 ∧ (shP p n rows).p = p ∧ (shP p n rows).n = n := by
  obtain ⟨h1, h2, h3, h4⟩ := lsOK_iff.1 h
  have si := shS_facts h
  obtain ⟨q1, q2, h5, h6⟩ := finP_facts (x := ⟨p, n, (shS p rows).st, []⟩) (rows := (shS p rows).T) (N := 10000) h1 (fun i hi => by
    obtain ⟨g1, g2⟩ := si.gt i hi
    have := si.nz
    exact ⟨allIn_iff.2 fun j hj => g2 j (by omega), by omega⟩) h2 (i := (shS p rows).T.length) (Nat.le_refl _)
  have := si.nz
  have := si.len
  simp only [List.length_nil, Nat.zero_add] at h5 h6
  unfold shP
  refine ⟨?_, ?_, q1, q2⟩
  · have : (shS p rows).T.length * 10000 ≤ 30 * 10000 := Nat.mul_le_mul_right _ (by omega)
    omega
  · omega
theorem shR_small (p n : Int) (rows : List (List Int)) : SmallP (shR p n rows).1 := by
  unfold shR SmallP SmallE
  split
  · rename_i h
    have := shP_facts h
    simp only
    omega
  · simp
theorem s_SharedProgram {u : Value} {p n : Int} {rows : List (List Int)} {h : AH} {Q : Value → AH → Prop} (hu : Rows h u rows) (hm : SmallM rows)
    (hQ : ∀ v' w' h', h <+: h' → InP h.length h'.length h' v' w' (shR p n rows).1 → Q (.tuple #[prgV (shR p n rows).1 v' w', I64 (shR p n rows).2]) h') : WF S 47 [I64 p, I64 n, u] h Q := by
  refine WF_fn (fn := c47) rfl rfl ?_
  unfold c47
  ((try simp (maxSteps := 3000000) (dsimp := false) (disch := first | omega | (simp only [len_new, len_put, len_kill]; omega)) only [↓ypre, ypost, ↓reduceIte, Nat.reduceEqDiff, Nat.reduceAdd, Nat.reduceSub, Nat.reduceLeDiff, Nat.zero_add, Nat.sub_zero, ynew]); try simp only [yback])
  generalize hH1 : AH.new h _ = H1
  obtain ⟨hb1, p1, n1⟩ := new_facts hH1
  have lt1 := get_lt hb1
  refine s_l07Lists (hu.pre p1) hm ?_
  unfold shR at hQ
  unfold lsC
  cases hok : lsOK p n rows with
  | false =>
    rw [hok, if_neg (by decide)] at hQ
    rw [if_neg (by decide)]
    ((try simp (maxSteps := 3000000) (dsimp := false) (disch := first | omega | (simp only [len_new, len_put, len_kill]; omega)) only [↓ypre, ypost, ↓reduceIte, Nat.reduceEqDiff, Nat.reduceAdd, Nat.reduceSub, Nat.reduceLeDiff, Nat.zero_add, Nat.sub_zero, ynew, decide_eq_true (show (2 : Int) ≠ 0 by decide), wr_of hb1]); try simp only [yback])
    exact hQ (.slice none 0 0) (.slice none 0 0) _ (pre_put p1 (Nat.le_refl _)) ⟨h.length, Nat.le_refl _, by rw [len_put]; omega, .inl ⟨rfl, rfl⟩, .inl ⟨rfl, rfl⟩⟩
  | true =>
    rw [hok, if_pos rfl] at hQ
    rw [if_pos rfl]
    ((try simp (maxSteps := 3000000) (dsimp := false) (disch := first | omega | (simp only [len_new, len_put, len_kill]; omega)) only [↓ypre, ypost, ↓reduceIte, Nat.reduceEqDiff, Nat.reduceAdd, Nat.reduceSub, Nat.reduceLeDiff, Nat.zero_add, Nat.sub_zero, ynew, decide_eq_false (show ¬ (0 : Int) ≠ 0 from fun y => y rfl)]); try simp only [yback])
    refine s_l07Shared (hu.pre p1) hok fun v' w' H' pH o ob => ?_
    have g1 := pre_get pH hb1
    have sl := pre_len pH
    have ip := (o.inP ob sl).putb (n := h.length) (bl := ⟨[I64 (shP p n rows).p, I64 (shP p n rows).n, v', w'], 48, false, true⟩) (by omega)
    ((try simp (maxSteps := 3000000) (dsimp := false) (disch := first | omega | (simp only [len_new, len_put, len_kill]; omega)) only [↓ypre, ypost, ↓reduceIte, Nat.reduceEqDiff, Nat.reduceAdd, Nat.reduceSub, Nat.reduceLeDiff, Nat.zero_add, Nat.sub_zero, ynew, prgV, o.st.one, o.st.cells, o.out.one, o.out.cells, wr_of g1]); try simp only [yback])
    have := hQ v' w' _ (pre_put (p1.trans pH) (Nat.le_refl _)) (ip.mono (by omega) (by rw [len_put]; exact Nat.le_refl _))
    unfold prgV at this
    exact this
theorem i_SharedProgram {u : Value} {p n : Int} {rows : List (List Int)} {h : AH} {Q : Value → AH → Prop} (hu : Rows h u rows) (hm : SmallM rows)
    (hQ : ∀ v' w' h', h <+: h' → InP h.length h'.length h' v' w' (shR p n rows).1 → Q (.tuple #[prgV (shR p n rows).1 v' w', I64 (shR p n rows).2]) h') : WF S 48 [I64 p, I64 n, u] h Q := by
  refine WF_fn (fn := c48) rfl rfl ?_
  unfold c48
  ((try simp (maxSteps := 3000000) (dsimp := false) (disch := first | omega | (simp only [len_new, len_put, len_kill]; omega)) only [↓ypre, ypost, ↓reduceIte, Nat.reduceEqDiff, Nat.reduceAdd, Nat.reduceSub, Nat.reduceLeDiff, Nat.zero_add, Nat.sub_zero, ynew]); try simp only [yback])
  generalize hH1 : AH.new h _ = H1
  obtain ⟨hb1, p1, n1⟩ := new_facts hH1
  have lt1 := get_lt hb1
  refine i_formsCode (hu.pre p1) hm ?_
  unfold shR at hQ
  unfold lsC
  cases hok : lsOK p n rows with
  | false =>
    rw [hok, if_neg (by decide)] at hQ
    rw [if_neg (by decide)]
    ((try simp (maxSteps := 3000000) (dsimp := false) (disch := first | omega | (simp only [len_new, len_put, len_kill]; omega)) only [↓ypre, ypost, ↓reduceIte, Nat.reduceEqDiff, Nat.reduceAdd, Nat.reduceSub, Nat.reduceLeDiff, Nat.zero_add, Nat.sub_zero, ynew, decide_eq_true (show (2 : Int) ≠ 0 by decide), wr_of hb1]); try simp only [yback])
    exact hQ (.slice none 0 0) (.slice none 0 0) _ (pre_put p1 (Nat.le_refl _)) ⟨h.length, Nat.le_refl _, by rw [len_put]; omega, .inl ⟨rfl, rfl⟩, .inl ⟨rfl, rfl⟩⟩
  | true =>
    rw [hok, if_pos rfl] at hQ
    rw [if_pos rfl]
    ((try simp (maxSteps := 3000000) (dsimp := false) (disch := first | omega | (simp only [len_new, len_put, len_kill]; omega)) only [↓ypre, ypost, ↓reduceIte, Nat.reduceEqDiff, Nat.reduceAdd, Nat.reduceSub, Nat.reduceLeDiff, Nat.zero_add, Nat.sub_zero, ynew, decide_eq_false (show ¬ (0 : Int) ≠ 0 from fun y => y rfl)]); try simp only [yback])
    refine i_sharedProgram (hu.pre p1) hok fun v' w' H' pH o ob => ?_
    have g1 := pre_get pH hb1
    have sl := pre_len pH
    have ip := (o.inP ob sl).putb (n := h.length) (bl := ⟨[I64 (shP p n rows).p, I64 (shP p n rows).n, v', w'], 48, false, true⟩) (by omega)
    ((try simp (maxSteps := 3000000) (dsimp := false) (disch := first | omega | (simp only [len_new, len_put, len_kill]; omega)) only [↓ypre, ypost, ↓reduceIte, Nat.reduceEqDiff, Nat.reduceAdd, Nat.reduceSub, Nat.reduceLeDiff, Nat.zero_add, Nat.sub_zero, ynew, prgV, o.st.one, o.st.cells, o.out.one, o.out.cells, wr_of g1]); try simp only [yback])
    have := hQ v' w' _ (pre_put (p1.trans pH) (Nat.le_refl _)) (ip.mono (by omega) (by rw [len_put]; exact Nat.le_refl _))
    unfold prgV at this
    exact this
end Go.Proofs.Ytilpnbejpndgpaa.X

/- The law on SharedProgram, on the abstract machine (printed by lawg.py). -/
set_option linter.unusedVariables false
set_option linter.unusedSimpArgs false
set_option maxRecDepth 20000
set_option maxHeartbeats 4000000
namespace Go.Proofs.Ytilpnbejpndgpaa.X
open Go Go.RowKit

theorem law_SharedProgram {n0 : Int} {n1 : Int} {v2 : Value} {x2 : List (List Int)} {h : AH} (hv2 : Rows h v2 x2) (hl2 : ((x2).length : Int) ≤ 9223372036854775807) (hm2 : ∀ i, i < x2.length → ((x2.getD i []).length : Int) ≤ 9223372036854775807) :
    WF S 10 [I64 n0, I64 n1, v2] h (fun v _ => v = .bool true) := by
  refine WF_fn (fn := c10) rfl rfl ?_
  unfold c10
  have ph : h <+: h := List.prefix_refl h
  try simp (maxSteps := 3000000) (disch := first | omega | (simp only [len_new, len_put, len_kill]; omega)) only [↓xpre, xpost, ↓reduceIte, Nat.reduceEqDiff, Nat.reduceAdd, Nat.reduceSub, Nat.reduceLeDiff, Nat.zero_add, Nat.sub_zero]
  try simp (maxSteps := 3000000) (disch := first | omega | (simp only [len_new, len_put, len_kill]; omega)) only [↓xpre, xpost, ↓reduceIte, Nat.reduceEqDiff, Nat.reduceAdd, Nat.reduceSub, Nat.reduceLeDiff, Nat.zero_add, Nat.sub_zero]
  refine gsz_M (hv2.pre ph) (by omega) hl2 hm2 fun m2 H1 p1 hm2' hs2 => ?_
  have l1 := pre_len p1
  have ph := ph.trans p1
  try simp (maxSteps := 3000000) (disch := first | omega | (simp only [len_new, len_put, len_kill]; omega)) only [↓xpre, xpost, ↓reduceIte, Nat.reduceEqDiff, Nat.reduceAdd, Nat.reduceSub, Nat.reduceLeDiff, Nat.zero_add, Nat.sub_zero, IfW_dec]
  refine ⟨fun _ => trivial, fun hz2 => ?_⟩
  have hs2 := hs2 (by omega)
  have hc2 := cntM_le hs2
  try simp (maxSteps := 3000000) (disch := first | omega | (simp only [len_new, len_put, len_kill]; omega)) only [↓xpre, xpost, ↓reduceIte, Nat.reduceEqDiff, Nat.reduceAdd, Nat.reduceSub, Nat.reduceLeDiff, Nat.zero_add, Nat.sub_zero]
  try refine ⟨p1, ?_⟩
  refine gto_M (hv2.pre ph) hs2 fun vc2 H2 p2 oc2 => ?_
  have l2 := pre_len p2
  have ph := ph.trans p2
  try simp (maxSteps := 3000000) (disch := first | omega | (simp only [len_new, len_put, len_kill]; omega)) only [↓xpre, xpost, ↓reduceIte, Nat.reduceEqDiff, Nat.reduceAdd, Nat.reduceSub, Nat.reduceLeDiff, Nat.zero_add, Nat.sub_zero]
  try refine ⟨p2, ?_⟩
  refine s_SharedProgram oc2.rd hs2 fun vw ww H3 p3 ow => ?_
  have l3 := pre_len p3
  have ph := ph.trans p3
  have oc2 := oc2.pre p3
  have ow := ow.inP
  try simp (maxSteps := 3000000) (disch := first | omega | (simp only [len_new, len_put, len_kill]; omega)) only [↓xpre, xpost, ↓reduceIte, Nat.reduceEqDiff, Nat.reduceAdd, Nat.reduceSub, Nat.reduceLeDiff, Nat.zero_add, Nat.sub_zero, prgV, ow.rd.1.one, ow.rd.2.one]
  generalize hH4 : AH.new H3 _ = H4
  obtain ⟨bw, p4, e4⟩ := new_facts hH4
  have l4 := pre_len p4
  have ph := ph.trans p4
  have oc2 := oc2.pre p4
  have ow := ow.pre p4
  try simp (maxSteps := 3000000) (disch := first | omega | (simp only [len_new, len_put, len_kill]; omega)) only [↓xpre, xpost, ↓reduceIte, Nat.reduceEqDiff, Nat.reduceAdd, Nat.reduceSub, Nat.reduceLeDiff, Nat.zero_add, Nat.sub_zero, rdn_of bw]
  try refine ⟨p4, ?_⟩
  refine gto_M (hv2.pre ph) hs2 fun vx2 H5 p5 ox2 => ?_
  have l5 := pre_len p5
  have ph := ph.trans p5
  have bw := pre_get p5 bw
  have ow := ow.pre p5
  try simp (maxSteps := 3000000) (disch := first | omega | (simp only [len_new, len_put, len_kill]; omega)) only [↓xpre, xpost, ↓reduceIte, Nat.reduceEqDiff, Nat.reduceAdd, Nat.reduceSub, Nat.reduceLeDiff, Nat.zero_add, Nat.sub_zero, rdn_of bw]
  try refine ⟨p5, ?_⟩
  refine i_SharedProgram ox2.rd hs2 fun vg wg H6 p6 og => ?_
  have l6 := pre_len p6
  have ph := ph.trans p6
  have bw := pre_get p6 bw
  have ow := ow.pre p6
  have ox2 := ox2.pre p6
  have og := og.inP
  try simp (maxSteps := 3000000) (disch := first | omega | (simp only [len_new, len_put, len_kill]; omega)) only [↓xpre, xpost, ↓reduceIte, Nat.reduceEqDiff, Nat.reduceAdd, Nat.reduceSub, Nat.reduceLeDiff, Nat.zero_add, Nat.sub_zero, prgV, og.rd.1.one, og.rd.2.one, rdn_of bw]
  generalize hH7 : AH.new H6 _ = H7
  obtain ⟨bg, p7, e7⟩ := new_facts hH7
  have l7 := pre_len p7
  have ph := ph.trans p7
  have bw := pre_get p7 bw
  have ow := ow.pre p7
  have ox2 := ox2.pre p7
  have og := og.pre p7
  have hR : SmallP (shR n0 n1 x2).1 := shR_small n0 n1 x2
  have hcR := cntP_le hR
  try simp (maxSteps := 3000000) (disch := first | omega | (simp only [len_new, len_put, len_kill]; omega)) only [↓xpre, xpost, ↓reduceIte, Nat.reduceEqDiff, Nat.reduceAdd, Nat.reduceSub, Nat.reduceLeDiff, Nat.zero_add, Nat.sub_zero, ne_eq, not_true_eq_false, rdn_of bw, rdn_of bg]
  try refine ⟨p7, ?_⟩
  refine geq_P og.rd ow.rd hR fun  H8 p8 => ?_
  have l8 := pre_len p8
  have ph := ph.trans p8
  have bw := pre_get p8 bw
  have bg := pre_get p8 bg
  have ow := ow.pre p8
  have ox2 := ox2.pre p8
  have og := og.pre p8
  try simp (maxSteps := 3000000) (disch := first | omega | (simp only [len_new, len_put, len_kill]; omega)) only [↓xpre, xpost, ↓reduceIte, Nat.reduceEqDiff, Nat.reduceAdd, Nat.reduceSub, Nat.reduceLeDiff, Nat.zero_add, Nat.sub_zero, ne_eq, not_true_eq_false, rdn_of bw, rdn_of bg]
  try refine ⟨p8, ?_⟩
  try simp (maxSteps := 3000000) (disch := first | omega | (simp only [len_new, len_put, len_kill]; omega)) only [↓xpre, xpost, ↓reduceIte, Nat.reduceEqDiff, Nat.reduceAdd, Nat.reduceSub, Nat.reduceLeDiff, Nat.zero_add, Nat.sub_zero, ne_eq, not_true_eq_false, rdn_of bw, rdn_of bg]
  try refine ⟨p8, ?_⟩
  refine gto_M (hv2.pre ph) hs2 fun ve2 H9 p9 oe2 => ?_
  have l9 := pre_len p9
  have ph := ph.trans p9
  have bw := pre_get p9 bw
  have bg := pre_get p9 bg
  have ow := ow.pre p9
  have ox2 := ox2.pre p9
  have og := og.pre p9
  try simp (maxSteps := 3000000) (disch := first | omega | (simp only [len_new, len_put, len_kill]; omega)) only [↓xpre, xpost, ↓reduceIte, Nat.reduceEqDiff, Nat.reduceAdd, Nat.reduceSub, Nat.reduceLeDiff, Nat.zero_add, Nat.sub_zero, rdn_of bw, rdn_of bg]
  try refine ⟨p9, ?_⟩
  refine geq_M ox2.rd oe2.rd hs2 fun  H10 p10 => ?_
  have l10 := pre_len p10
  have ph := ph.trans p10
  have bw := pre_get p10 bw
  have bg := pre_get p10 bg
  have ow := ow.pre p10
  have ox2 := ox2.pre p10
  have og := og.pre p10
  have oe2 := oe2.pre p10
  try simp (maxSteps := 3000000) (disch := first | omega | (simp only [len_new, len_put, len_kill]; omega)) only [↓xpre, xpost, ↓reduceIte, Nat.reduceEqDiff, Nat.reduceAdd, Nat.reduceSub, Nat.reduceLeDiff, Nat.zero_add, Nat.sub_zero, rdn_of bw, rdn_of bg]
  try simp (maxSteps := 3000000) (disch := first | omega | (simp only [len_new, len_put, len_kill]; omega)) only [↓xpre, xpost, ↓reduceIte, Nat.reduceEqDiff, Nat.reduceAdd, Nat.reduceSub, Nat.reduceLeDiff, Nat.zero_add, Nat.sub_zero, rdn_of bw, rdn_of bg]
  refine gmark_M ox2 hs2 (by omega) fun J11 H11 p11 w11 q11 => ?_
  have l11 := pre_len p11
  have ll11 := w11.len
  have ph := ph.trans p11
  have bw := pre_get p11 bw
  have bg := pre_get p11 bg
  have ow := ow.pre p11
  have og := og.pre p11
  have ph := w11.pre ph (by omega)
  have bw := w11.get' bw (by omega)
  have bg := w11.get' bg (by omega)
  have ow := ow.only w11 (by omega)
  have og := og.only w11 (by omega)
  have ox2 := q11
  try simp (maxSteps := 3000000) (disch := first | omega | (simp only [len_new, len_put, len_kill]; omega)) only [↓xpre, xpost, ↓reduceIte, Nat.reduceEqDiff, Nat.reduceAdd, Nat.reduceSub, Nat.reduceLeDiff, Nat.zero_add, Nat.sub_zero, rdn_of bw, rdn_of bg, IfW_dec]
  rw [decide_eq_false (by omega)]
  try simp (maxSteps := 3000000) (disch := first | omega | (simp only [len_new, len_put, len_kill]; omega)) only [↓xpre, xpost, ↓reduceIte, Nat.reduceEqDiff, Nat.reduceAdd, Nat.reduceSub, Nat.reduceLeDiff, Nat.zero_add, Nat.sub_zero, ne_eq, not_true_eq_false, rdn_of bw, rdn_of bg]
  try refine ⟨p11, ?_⟩
  refine geq_P og.rd ow.rd hR fun  H12 p12 => ?_
  have l12 := pre_len p12
  have ph := ph.trans p12
  have bw := pre_get p12 bw
  have bg := pre_get p12 bg
  have ow := ow.pre p12
  have og := og.pre p12
  try simp (maxSteps := 3000000) (disch := first | omega | (simp only [len_new, len_put, len_kill]; omega)) only [↓xpre, xpost, ↓reduceIte, Nat.reduceEqDiff, Nat.reduceAdd, Nat.reduceSub, Nat.reduceLeDiff, Nat.zero_add, Nat.sub_zero, ne_eq, not_true_eq_false, rdn_of bw, rdn_of bg]
  try refine ⟨p12, ?_⟩
  try simp (maxSteps := 3000000) (disch := first | omega | (simp only [len_new, len_put, len_kill]; omega)) only [↓xpre, xpost, ↓reduceIte, Nat.reduceEqDiff, Nat.reduceAdd, Nat.reduceSub, Nat.reduceLeDiff, Nat.zero_add, Nat.sub_zero, ne_eq, not_true_eq_false, rdn_of bw, rdn_of bg]
  refine gmark_P og hR (by omega) fun J13 H13 p13 w13 q13 => ?_
  have l13 := pre_len p13
  have ll13 := w13.len
  have ph := ph.trans p13
  have bw := pre_get p13 bw
  have bg := pre_get p13 bg
  have ow := ow.pre p13
  have ph := w13.pre ph (by omega)
  have bw := w13.get' bw (by omega)
  have bg := w13.get' bg (by omega)
  have ow := ow.only w13 (by omega)
  have og := q13
  try simp (maxSteps := 3000000) (disch := first | omega | (simp only [len_new, len_put, len_kill]; omega)) only [↓xpre, xpost, ↓reduceIte, Nat.reduceEqDiff, Nat.reduceAdd, Nat.reduceSub, Nat.reduceLeDiff, Nat.zero_add, Nat.sub_zero, ne_eq, not_true_eq_false, rdn_of bw, rdn_of bg]
  refine gheld_P og.rd hR (by omega) fun  H14 p14 => ?_
  have l14 := pre_len p14
  have ph := ph.trans p14
  have bw := pre_get p14 bw
  have bg := pre_get p14 bg
  have ow := ow.pre p14
  have og := og.pre p14
  try simp (maxSteps := 3000000) (disch := first | omega | (simp only [len_new, len_put, len_kill]; omega)) only [↓xpre, xpost, ↓reduceIte, Nat.reduceEqDiff, Nat.reduceAdd, Nat.reduceSub, Nat.reduceLeDiff, Nat.zero_add, Nat.sub_zero, IfW_dec, ne_eq, not_true_eq_false, rdn_of bw, rdn_of bg]
  refine ⟨fun hlt => by omega, fun _ => ?_⟩
  try simp (maxSteps := 3000000) (disch := first | omega | (simp only [len_new, len_put, len_kill]; omega)) only [↓xpre, xpost, ↓reduceIte, Nat.reduceEqDiff, Nat.reduceAdd, Nat.reduceSub, Nat.reduceLeDiff, Nat.zero_add, Nat.sub_zero, rdn_of bw, rdn_of bg]
  try refine ⟨p14, ?_⟩
  refine gto_M (hv2.pre ph) hs2 fun vd2 H15 p15 od2 => ?_
  have l15 := pre_len p15
  have ph := ph.trans p15
  have bw := pre_get p15 bw
  have bg := pre_get p15 bg
  have ow := ow.pre p15
  have og := og.pre p15
  try simp (maxSteps := 3000000) (disch := first | omega | (simp only [len_new, len_put, len_kill]; omega)) only [↓xpre, xpost, ↓reduceIte, Nat.reduceEqDiff, Nat.reduceAdd, Nat.reduceSub, Nat.reduceLeDiff, Nat.zero_add, Nat.sub_zero, rdn_of bw, rdn_of bg]
  try refine ⟨p15, ?_⟩
  refine i_SharedProgram od2.rd hs2 fun vh wh H16 p16 oh => ?_
  have l16 := pre_len p16
  have ph := ph.trans p16
  have bw := pre_get p16 bw
  have bg := pre_get p16 bg
  have ow := ow.pre p16
  have od2 := od2.pre p16
  have og := og.pre p16
  have oh := oh.inP
  try simp (maxSteps := 3000000) (disch := first | omega | (simp only [len_new, len_put, len_kill]; omega)) only [↓xpre, xpost, ↓reduceIte, Nat.reduceEqDiff, Nat.reduceAdd, Nat.reduceSub, Nat.reduceLeDiff, Nat.zero_add, Nat.sub_zero, prgV, oh.rd.1.one, oh.rd.2.one, rdn_of bw, rdn_of bg]
  generalize hH17 : AH.new H16 _ = H17
  obtain ⟨bh, p17, e17⟩ := new_facts hH17
  have l17 := pre_len p17
  have ph := ph.trans p17
  have bw := pre_get p17 bw
  have bg := pre_get p17 bg
  have ow := ow.pre p17
  have oh := oh.pre p17
  have og := og.pre p17
  try simp (maxSteps := 3000000) (disch := first | omega | (simp only [len_new, len_put, len_kill]; omega)) only [↓xpre, xpost, ↓reduceIte, Nat.reduceEqDiff, Nat.reduceAdd, Nat.reduceSub, Nat.reduceLeDiff, Nat.zero_add, Nat.sub_zero, ne_eq, not_true_eq_false, rdn_of bw, rdn_of bg, rdn_of bh]
  try refine ⟨p17, ?_⟩
  refine geq_P oh.rd ow.rd hR fun  H18 p18 => ?_
  have l18 := pre_len p18
  have ph := ph.trans p18
  have bw := pre_get p18 bw
  have bg := pre_get p18 bg
  have bh := pre_get p18 bh
  have ow := ow.pre p18
  have oh := oh.pre p18
  have og := og.pre p18
  try simp (maxSteps := 3000000) (disch := first | omega | (simp only [len_new, len_put, len_kill]; omega)) only [↓xpre, xpost, ↓reduceIte, Nat.reduceEqDiff, Nat.reduceAdd, Nat.reduceSub, Nat.reduceLeDiff, Nat.zero_add, Nat.sub_zero, ne_eq, not_true_eq_false, rdn_of bw, rdn_of bg, rdn_of bh]
  try refine ⟨p18, ?_⟩
  try simp (maxSteps := 3000000) (disch := first | omega | (simp only [len_new, len_put, len_kill]; omega)) only [↓xpre, xpost, ↓reduceIte, Nat.reduceEqDiff, Nat.reduceAdd, Nat.reduceSub, Nat.reduceLeDiff, Nat.zero_add, Nat.sub_zero, ne_eq, not_true_eq_false, rdn_of bw, rdn_of bg, rdn_of bh]
  refine gheld_P og.rd hR (by omega) fun H19 p19 => ?_
  try simp (maxSteps := 3000000) (disch := first | omega | (simp only [len_new, len_put, len_kill]; omega)) only [↓xpre, xpost, ↓reduceIte, Nat.reduceEqDiff, Nat.reduceAdd, Nat.reduceSub, Nat.reduceLeDiff, Nat.zero_add, Nat.sub_zero, IfW_dec, ne_eq, not_true_eq_false, rdn_of bw, rdn_of bg, rdn_of bh]
  refine ⟨fun hlt => by omega, fun _ => ?_⟩
  trivial

end Go.Proofs.Ytilpnbejpndgpaa.X

/- From the readings of a row's arguments to the abstract machine's first heap, and back to the row. -/
set_option linter.unusedVariables false
set_option linter.unusedSimpArgs false
namespace Go.Proofs.Ytilpnbejpndgpaa.X
open Go Go.RowKit Go.ChangeShapes Go.WideShapes Go.Deep

/-- A heap of blocks that are read only, each in the world's memory. -/
structure Adm (P : Program) (W : World) (γ : List G) (h : AH) : Prop where
  rel : Rel P W.heap.size γ h W
  ro : ∀ n b, h.get n = some b → b.ro = true

theorem Adm.nil (P : Program) (W : World) : Adm P W [] [] where
  rel := {
    len := rfl
    cell := fun n b g h => by simp [AH.get] at h
    rw := fun n b g h => by simp [AH.get] at h
    ro := fun n b g h => by simp [AH.get] at h
    inj := fun n m bn bm g g' h => by simp [AH.get] at h
    base := Nat.le_refl _ }
  ro := fun n b h => by simp [AH.get] at h

theorem Adm.new {P : Program} {W : World} {γ : List G} {h : AH} (A : Adm P W γ h) {g : G} {cs : List Value} {e : TypeId} (hb : g.b < W.heap.size)
    (hc : ∀ j v, cs[j]? = some v → isOne v = true ∧ ∃ v', W.cell? ⟨g.b, g.o + j, none⟩ = some v' ∧ VR γ v v') : Adm P W (γ ++ [g]) (h.new ⟨cs, e, true, false⟩) := by
  have hl := A.rel.len
  have hp : γ <+: γ ++ [g] := List.prefix_append _ _
  have old : ∀ {n : Nat} {g' : G}, n < h.length → (γ ++ [g])[n]? = some g' → γ[n]? = some g' := fun hn hg => by
    rw [List.getElem?_append_left (by omega)] at hg
    exact hg
  have new : ∀ {g' : G}, (γ ++ [g])[h.length]? = some g' → g' = g := fun hg => by
    rw [← hl] at hg
    simpa using hg.symm
  refine ⟨⟨by simp [len_new, hl], ?_, ?_, ?_, ?_, Nat.le_refl _⟩, ?_⟩
  · intro n b g' hb' hg' j v hv
    rcases get_new_cases hb' with hb' | ⟨rfl, rfl⟩
    · obtain ⟨q1, v', q2, q3⟩ := A.rel.cell n b g' hb' (old (get_lt hb') hg') j v hv
      exact ⟨q1, v', q2, q3.mono hp⟩
    · obtain rfl := new hg'
      obtain ⟨q1, v', q2, q3⟩ := hc j v hv
      exact ⟨q1, v', q2, q3.mono hp⟩
  · intro n b g' hb' hg' hro
    rcases get_new_cases hb' with hb' | ⟨rfl, rfl⟩
    · rw [A.ro n b hb'] at hro
      cases hro
    · cases hro
  · intro n b g' hb' hg' hro
    rcases get_new_cases hb' with hb' | ⟨rfl, rfl⟩
    · exact A.rel.ro n b g' hb' (old (get_lt hb') hg') hro
    · obtain rfl := new hg'
      exact hb
  · intro n m bn bm g1 g2 h1 h2 h3 h4 hro
    rcases get_new_cases h1 with hb' | ⟨rfl, rfl⟩
    · rw [A.ro n bn hb'] at hro
      cases hro
    · cases hro
  · intro n b hb'
    rcases get_new_cases hb' with hb' | ⟨rfl, rfl⟩
    · exact A.ro n b hb'
    · rfl

section
variable {H : Type} {enc : TypeId × Value → H} {P : Program} {W : World}

theorem add_off (a : Addr) (ha : a.spot = none) (i : Nat) : a.add i = ⟨a.block, a.off + i, none⟩ := by
  unfold Addr.add
  split
  · rename_i h0
    subst h0
    obtain ⟨b, o, s⟩ := a
    simp at ha
    subst ha
    rfl
  · rfl

theorem adm_ints {γ : List G} {h : AH} (A : Adm P W γ h) {t e : TypeId} {n : Nat} {cs : List Value} {x : DataW H × List MemPlace} (ht : P.underlying t = some (.slice e)) (he : P.underlying e = some (.int .i64))
    (hc : P.cellsOf e = 1) (hx : DataW.trod enc P W 0 (fun _ => true) true n t cs = some x) :
    ∃ v' v ns γ' h', cs = [v'] ∧ γ <+: γ' ∧ h <+: h' ∧ Adm P W γ' h' ∧ VR γ' v v' ∧ Ints h' v ns ∧ ns.length ≤ maxLen := by
  rcases open_slice1 ht hc hx with ⟨rfl, _⟩ | ⟨a, len, cap, m, n', V, D, Pl, rfl, hb, hl, hm, hmm, _, hcell⟩
  · exact ⟨_, .slice none 0 0, [], γ, h, rfl, List.prefix_refl _, List.prefix_refl _, A, .nils, .inl ⟨rfl, 0, by omega, rfl⟩, Nat.zero_le _⟩
  · by_cases h0 : len = 0
    · subst h0
      exact ⟨_, .slice none 0 1, [], γ, h, rfl, List.prefix_refl _, List.prefix_refl _, A, .emp _ _, .inl ⟨rfl, 1, by omega, rfl⟩, Nat.zero_le _⟩
    · have hcell : ∀ i, i < cap → W.cell? (a.add i) = some (V i) ∧ DataW.trod enc P W 0 (fun _ => true) true n' e [V i] = some (D i, Pl i) := fun i hi => hcell i (by rw [show m = cap from hmm]; exact hi)
      have hz := (hcell 0 (by omega)).1
      have hsp : a.spot = none := by
        simp only [Addr.add, if_true] at hz
        unfold World.cell? at hz
        split at hz
        · split at hz
          · cases hz
          · rename_i hs
            simpa using hs
        · cases hz
      have hbl : a.block < W.heap.size := by
        have := World.block_lt_of_cell? W _ hz
        simpa [Addr.add] using this
      have hV : ∀ i, i < len → ∃ k, V i = .int .i64 k := fun i hi => by
        obtain ⟨k, hk, _⟩ := DataW.trod_int he (hcell i (by omega)).2
        exact ⟨k, by simpa using hk⟩
      let ns : List Int := (List.range len).map fun i => match V i with
        | .int _ k => k
        | _ => 0
      have hns : ns.length = len := by simp [ns]
      have hget : ∀ i, i < len → ns.getD i 0 = (match V i with
        | .int _ k => k
        | _ => 0) := fun i hi => by simp [ns, List.getD_eq_getElem?_getD, List.getElem?_map, List.getElem?_range hi]
      refine ⟨_, .slice (some ⟨h.length, 0, none⟩) ns.length 1, ns, γ ++ [⟨a.block, a.off, cap⟩], h.new ⟨ns.map (Value.int .i64), e, true, false⟩, rfl, List.prefix_append _ _, pre_new (List.prefix_refl _), ?_, ?_,
        Ints.own get_new_same rfl, by rw [hns]; omega⟩
      · refine A.new hbl fun j v hv => ?_
        rw [List.getElem?_map] at hv
        obtain ⟨k, hk, rfl⟩ := Option.map_eq_some_iff.1 hv
        have hj : j < len := by rw [← hns]; exact (List.getElem?_eq_some_iff.1 hk).1
        obtain ⟨k', hk'⟩ := hV j hj
        have hg := hget j hj
        rw [List.getD_eq_getElem?_getD, hk, hk'] at hg
        simp only [Option.getD_some] at hg
        subst hg
        refine ⟨rfl, _, ?_, .int _ _⟩
        have := (hcell j (by omega)).1
        rw [add_off a hsp, hk'] at this
        exact this
      · have := VR.slc (γ := γ ++ [⟨a.block, a.off, cap⟩]) h.length 0 ns.length 1 ⟨a.block, a.off, cap⟩ (by rw [← A.rel.len]; simp) (by omega) (by simp only; omega)
        have e1 : (some a : Option Addr) = some ⟨a.block, a.off + 0, none⟩ := by
          obtain ⟨b, o, s⟩ := a
          simp at hsp
          subst hsp
          rfl
        rw [e1]
        have e2 : (cap - 0) / 1 = cap := by simp
        rw [← hns, show (Value.slice (some ⟨a.block, a.off + 0, none⟩) ns.length cap) = Value.slice (some ⟨a.block, a.off + 0, none⟩) ns.length ((cap - 0) / 1) by rw [e2]]
        exact this

theorem trod_field {t : TypeId} {fs : Array Field} {n : Nat} {cs : List Value} {x : DataW H × List MemPlace} (hs : P.underlying t = some (.struct fs)) (hx : DataW.trod enc P W 0 (fun _ => true) true n t cs = some x)
    {i : Nat} {f : Field} (hf : fs[i]? = some f) : ∃ m y, DataW.trod enc P W 0 (fun _ => true) true m f.type ((cs.drop f.offset).take (P.cellsOf f.type)) = some y := by
  obtain ⟨xs, m, _, _, _, hl, hall⟩ := DataW.trod_struct hs hx
  have hi : i < xs.length := by
    rw [hl]
    exact (Array.getElem?_eq_some_iff.1 hf).1
  exact ⟨m, xs[i], by rw [hall i f hf, List.getElem?_eq_getElem hi]⟩
theorem trod_cells {t : TypeId} {fs : Array Field} {n : Nat} {cs : List Value} {x : DataW H × List MemPlace} (hs : P.underlying t = some (.struct fs)) (hx : DataW.trod enc P W 0 (fun _ => true) true n t cs = some x) : cs.length = P.cellsOf t := by
  obtain ⟨xs, m, _, _, hl, _, _⟩ := DataW.trod_struct hs hx
  exact hl
theorem trod_field_int {t : TypeId} {fs : Array Field} {n : Nat} {cs : List Value} {x : DataW H × List MemPlace} (hs : P.underlying t = some (.struct fs)) (hx : DataW.trod enc P W 0 (fun _ => true) true n t cs = some x)
    {i : Nat} {f : Field} (hf : fs[i]? = some f) (ht : P.underlying f.type = some (.int .i64)) : ∃ k, (cs.drop f.offset).take (P.cellsOf f.type) = [I64 k] ∧ (Lit.int .i64 k).wf = true := by
  obtain ⟨m, y, hy⟩ := trod_field hs hx hf
  obtain ⟨k, h1, _, h2⟩ := DataW.trod_int ht hy
  exact ⟨k, h1, h2⟩
theorem agg_of_cells {v : Value} {l : List Value} (h : v.cells.toList = l) (h2 : 2 ≤ l.length) : v = .agg l.toArray := by
  cases v with
  | agg cs =>
    simp only [Value.cells] at h
    rw [← h]
  | _ =>
    simp only [Value.cells] at h
    rw [← h] at h2
    simp at h2

/-- Four whole numbers and a list of them, side by side. -/
theorem adm_ints4 {γ : List G} {h : AH} (A : Adm P W γ h) {t e : TypeId} {f0 f1 f2 f3 f4 : Field} {v : Value} {d : DataW H} {ps : List MemPlace} (hs : P.underlying t = some (.struct #[f0, f1, f2, f3, f4]))
    (hct : P.cellsOf t = 5) (ho : f0.offset = 0 ∧ f1.offset = 1 ∧ f2.offset = 2 ∧ f3.offset = 3 ∧ f4.offset = 4)
    (hi : P.underlying f0.type = some (.int .i64) ∧ P.underlying f1.type = some (.int .i64) ∧ P.underlying f2.type = some (.int .i64) ∧ P.underlying f3.type = some (.int .i64))
    (hc : P.cellsOf f0.type = 1 ∧ P.cellsOf f1.type = 1 ∧ P.cellsOf f2.type = 1 ∧ P.cellsOf f3.type = 1 ∧ P.cellsOf f4.type = 1)
    (ht : P.underlying f4.type = some (.slice e)) (he : P.underlying e = some (.int .i64)) (hce : P.cellsOf e = 1) (hx : DataW.Trod enc P W 0 (fun _ => true) true t v d ps) :
    ∃ a b c d ns v' γ' h', γ <+: γ' ∧ h <+: h' ∧ Adm P W γ' h' ∧ VR γ' (.agg #[I64 a, I64 b, I64 c, I64 d, v']) v ∧ Ints h' v' ns ∧ ns.length ≤ maxLen := by
  obtain ⟨n, hx⟩ := hx
  have hl := trod_cells hs hx
  rw [hct] at hl
  obtain ⟨a, ha, _⟩ := trod_field_int hs hx (i := 0) (f := f0) rfl hi.1
  obtain ⟨b, hb, _⟩ := trod_field_int hs hx (i := 1) (f := f1) rfl hi.2.1
  obtain ⟨c, hcc, _⟩ := trod_field_int hs hx (i := 2) (f := f2) rfl hi.2.2.1
  obtain ⟨d, hd, _⟩ := trod_field_int hs hx (i := 3) (f := f3) rfl hi.2.2.2
  obtain ⟨m, y, hy⟩ := trod_field hs hx (i := 4) (f := f4) rfl
  obtain ⟨v', u, ns, γ', h', e1, q1, q2, q3, q4, q5, q6⟩ := adm_ints A ht he hce hy
  generalize hcs : v.cells.toList = cs at *
  rw [ho.1, hc.1] at ha
  rw [ho.2.1, hc.2.1] at hb
  rw [ho.2.2.1, hc.2.2.1] at hcc
  rw [ho.2.2.2.1, hc.2.2.2.1] at hd
  rw [ho.2.2.2.2, hc.2.2.2.2] at e1
  obtain ⟨c0, c1, c2, c3, c4, rfl⟩ : ∃ c0 c1 c2 c3 c4, cs = [c0, c1, c2, c3, c4] := by
    match cs, hl with
    | [c0, c1, c2, c3, c4], _ => exact ⟨_, _, _, _, _, rfl⟩
  simp at ha hb hcc hd e1
  subst ha hb hcc hd e1
  refine ⟨a, b, c, d, ns, u, γ', h', q1, q2, q3, ?_, q5, q6⟩
  rw [agg_of_cells hcs (by simp)]
  exact VR.aggL (VRL.cons (.int _ _) (VRL.cons (.int _ _) (VRL.cons (.int _ _) (VRL.cons (.int _ _) (VRL.cons q4 (VRL.nil _))))))

def tyInt (P : Program) (t : TypeId) : Bool := match P.underlying t with
  | some (.int .i64) => true
  | _ => false
def tySlice (P : Program) (t e : TypeId) : Bool := match P.underlying t with
  | some (.slice e') => e' == e
  | _ => false
theorem tyInt_eq {t : TypeId} (h : tyInt P t = true) : P.underlying t = some (.int .i64) := by
  unfold tyInt at h
  split at h
  · assumption
  · cases h
theorem tySlice_eq {t e : TypeId} (h : tySlice P t e = true) : P.underlying t = some (.slice e) := by
  unfold tySlice at h
  split at h
  · rename_i e' he
    have : e' = e := by simpa using h
    rw [he, this]
  · cases h
/-- .. the shape looked up by the kernel. -/
def isInts4 (P : Program) (t e : TypeId) : Bool := match P.underlying t with
  | some (.struct fs) => match fs.toList with
    | [f0, f1, f2, f3, f4] => P.cellsOf t == 5 && f0.offset == 0 && f1.offset == 1 && f2.offset == 2 && f3.offset == 3 && f4.offset == 4 &&
        [f0, f1, f2, f3].all (fun f => tyInt P f.type && P.cellsOf f.type == 1) && P.cellsOf f4.type == 1 && tySlice P f4.type e &&
        tyInt P e && P.cellsOf e == 1
    | _ => false
  | _ => false
theorem adm_tensor {γ : List G} {h : AH} (A : Adm P W γ h) {t : TypeId} (e : TypeId) (hk : isInts4 P t e = true) {v : Value} {d : DataW H} {ps : List MemPlace} (hx : DataW.Trod enc P W 0 (fun _ => true) true t v d ps) :
    ∃ a b c d ns v' γ' h', γ <+: γ' ∧ h <+: h' ∧ Adm P W γ' h' ∧ VR γ' (.agg #[I64 a, I64 b, I64 c, I64 d, v']) v ∧ Ints h' v' ns ∧ ns.length ≤ maxLen := by
  unfold isInts4 at hk
  split at hk
  · rename_i fs hs
    split at hk
    · rename_i f0 f1 f2 f3 f4 hf
      have hfs : fs = #[f0, f1, f2, f3, f4] := by
        rw [← hf]
      subst hfs
      simp only [List.all_cons, List.all_nil, Bool.and_true, Bool.and_eq_true, beq_iff_eq] at hk
      obtain ⟨⟨⟨⟨⟨⟨⟨⟨⟨⟨k0, k1⟩, k2⟩, k3⟩, k4⟩, k5⟩, ⟨i0, c0⟩, ⟨i1, c1⟩, ⟨i2, c2⟩, ⟨i3, c3⟩⟩, c4⟩, s4⟩, ie⟩, ce⟩ := hk
      exact adm_ints4 A hs k0 ⟨k1, k2, k3, k4, k5⟩ ⟨tyInt_eq i0, tyInt_eq i1, tyInt_eq i2, tyInt_eq i3⟩ ⟨c0, c1, c2, c3, c4⟩ (tySlice_eq s4) (tyInt_eq ie) ce hx
    · cases hk
  · cases hk

/-- Arguments read again in a world that kept what lay below. -/
theorem stays_all (hl : laidOutB P = true) {W W' : World} (bel : Below W.heap.size W W') : ∀ {ts : List TypeId} {vs : List Value} {ds : List (DataW H)} {ps : List MemPlace},
    (∀ t ∈ ts, P.readableRec t = true ∧ t < P.types.size) → DataW.TrodAll enc P W 0 (fun _ => true) true ts vs ds ps → DataW.TrodAll enc P W' 0 (fun b => decide (b < W.heap.size)) true ts vs ds ps
  | [], [], [], _, _, h => h
  | _ :: _, _ :: _, _ :: _, _, ht, ⟨p, q, h1, h2, e⟩ => by
    have hlt : ∀ r ∈ p, r.block < W.heap.size := by
      have hall : DataW.TrodAll enc P W 0 (fun _ => true) true [_] [_] [_] p := trodAll_mk1 h1
      exact hall.lt
    refine ⟨p, q, Go.WideElems.Trod_stays hl (ht _ (List.mem_cons.2 (.inl rfl))).1 (ht _ (List.mem_cons.2 (.inl rfl))).2 h1 (fun r hr => bel.same (hlt r hr)) (fun r hr => by simpa using hlt r hr), ?_, e⟩
    exact stays_all hl bel (fun t ht' => ht t (List.mem_cons.2 (.inr ht'))) h2

/-- What the abstract machine reaches, the program reaches. -/
theorem calls_of_WF {S : XS} (hm : P.follows .mixedOrders = true) (hE : ESound P S.E) (hT : TSound P S.T) {g : FuncId} {args args' : List Value} {γ : List G} {h : AH} {W : World} {Q : Value → AH → Prop}
    (A : Adm P W γ h) (hv : VRL γ args args') (hw : WF S g args h Q) :
    Calls P g args'.toArray W (fun e W' => ∃ v v' γ' h', e = .returned v' ∧ VR γ' v v' ∧ Q v h' ∧ Below W.heap.size W W') := by
  obtain ⟨k, v, h', h1, h2⟩ := hw
  have := (xcall_sound hm hE hT k g args h v h' h1).2 W.heap.size γ W args' A.rel hv
  refine this.mono fun e W' ⟨γ', v', q1, q2, q3⟩ => ⟨v, v', γ', h', q1, q2, h2, ?_⟩
  refine ⟨q3.os, q3.tape, q3.output, q3.size, fun b hb => q3.frame b hb fun ⟨n, blk, g, o1, o2, o3, o4⟩ => ?_⟩
  rw [A.ro n blk o1] at o3
  cases o3
end
end Go.Proofs.Ytilpnbejpndgpaa.X

/- From the readings of lists, and of lists of lists, to the first heap. -/
set_option linter.unusedVariables false
set_option linter.unusedSimpArgs false
namespace Go.Proofs.Ytilpnbejpndgpaa.X
open Go Go.RowKit Go.ChangeShapes Go.WideShapes Go.Deep

section
variable {H : Type} {enc : TypeId × Value → H} {P : Program} {W : World}

theorem cells_of_slice {t e : TypeId} {v : Value} {r : Reach} {base : Nat} (ht : P.underlying t = some (.slice e)) (hval : Value.okWide P W r base t v) : v.cells.toList = [v] := by
  cases v with
  | agg cs => simp [Value.okWide, ht, Cell.okWide, Cell.ok] at hval
  | _ => rfl

def isIntS (P : Program) (t e : TypeId) : Bool := tySlice P t e && tyInt P e && P.cellsOf e == 1
def isIntSS (P : Program) (t s e : TypeId) : Bool := tySlice P t s && P.cellsOf s == 1 && isIntS P s e

theorem getD_snoc {α : Type} {l : List α} {x d : α} {j : Nat} : (l ++ [x]).getD j d = if j < l.length then l.getD j d else if j = l.length then x else d := by
  rw [List.getD_eq_getElem?_getD, List.getD_eq_getElem?_getD]
  by_cases h : j < l.length
  · rw [List.getElem?_append_left h, if_pos h]
  · rw [List.getElem?_append_right (by omega), if_neg h]
    split
    · rename_i e
      simp [e]
    · rw [List.getElem?_eq_none (by simp; omega)]
      rfl

theorem adm_many {γ : List G} {h : AH} (A : Adm P W γ h) {e e' : TypeId} (he : isIntS P e e' = true) {V : Nat → Value} {len n : Nat} (hr : ∀ i, i < len → ∃ x : DataW H × List MemPlace, DataW.trod enc P W 0 (fun _ => true) true n e [V i] = some x) :
    ∀ k, k ≤ len → ∃ (γ' : List G) (h' : AH) (cs : List Value) (rows : List (List Int)), γ <+: γ' ∧ h <+: h' ∧ Adm P W γ' h' ∧ cs.length = k ∧ rows.length = k ∧
      ∀ j, j < k → VR γ' (cs.getD j undef) (V j) ∧ Ints h' (cs.getD j undef) (rows.getD j []) ∧ (rows.getD j []).length ≤ maxLen
  | 0, _ => ⟨γ, h, [], [], List.prefix_refl _, List.prefix_refl _, A, rfl, rfl, fun j hj => by omega⟩
  | k + 1, hk => by
    obtain ⟨γ1, h1, cs, rows, q1, q2, q3, q4, q5, q6⟩ := adm_many A he hr k (by omega)
    have he' := he
    simp only [isIntS, Bool.and_eq_true, beq_iff_eq] at he'
    obtain ⟨⟨k1, k2⟩, k3⟩ := he'
    obtain ⟨x, hx⟩ := hr k (by omega)
    obtain ⟨v', u, ns, γ2, h2, e1, r1, r2, r3, r4, r5, r6⟩ := adm_ints q3 (tySlice_eq k1) (tyInt_eq k2) k3 hx
    have e1 : V k = v' := by simpa using e1
    subst e1
    refine ⟨γ2, h2, cs ++ [u], rows ++ [ns], q1.trans r1, q2.trans r2, r3, by simp [q4], by simp [q5], fun j hj => ?_⟩
    rw [getD_snoc, getD_snoc, q4, q5]
    by_cases hjk : j < k
    · rw [if_pos hjk, if_pos hjk]
      obtain ⟨a1, a2, a3⟩ := q6 j hjk
      exact ⟨a1.mono r1, a2.pre r2, a3⟩
    · have : j = k := by omega
      subst this
      rw [if_neg hjk, if_neg hjk, if_pos rfl, if_pos rfl]
      exact ⟨r4, r5, r6⟩

theorem adm_rows {γ : List G} {h : AH} (A : Adm P W γ h) {t : TypeId} (s e : TypeId) (hk : isIntSS P t s e = true) {v : Value} {d : DataW H} {ps : List MemPlace} {r : Reach} {base : Nat} (hval : Value.okWide P W r base t v)
    (hx : DataW.Trod enc P W 0 (fun _ => true) true t v d ps) :
    ∃ (rows : List (List Int)) (u : Value) (γ' : List G) (h' : AH), γ <+: γ' ∧ h <+: h' ∧ Adm P W γ' h' ∧ VR γ' u v ∧ Rows h' u rows ∧ rows.length ≤ maxLen ∧ ∀ i, i < rows.length → (rows.getD i []).length ≤ maxLen := by
  simp only [isIntSS, Bool.and_eq_true, beq_iff_eq] at hk
  obtain ⟨⟨k1, k2⟩, k3⟩ := hk
  obtain ⟨n, hx⟩ := hx
  have hcl := cells_of_slice (tySlice_eq k1) hval
  rcases open_slice1 (tySlice_eq k1) k2 hx with ⟨hv, _⟩ | ⟨a, len, cap, m, n', V, D, Pl, hv, hb, hl, hm, hmm, _, hcell⟩
  · rw [hcl] at hv
    have hv : v = .slice none 0 0 := by simpa using hv
    subst hv
    exact ⟨[], .slice none 0 0, γ, h, List.prefix_refl _, List.prefix_refl _, A, .nils, ⟨[], .inl ⟨rfl, 0, by omega, rfl⟩, rfl, fun i hi => by simp at hi⟩, Nat.zero_le _, fun i hi => by simp at hi⟩
  · rw [hcl] at hv
    have hv : v = .slice (some a) len cap := by simpa using hv
    subst hv
    by_cases h0 : len = 0
    · subst h0
      exact ⟨[], .slice none 0 1, γ, h, List.prefix_refl _, List.prefix_refl _, A, .emp _ _, ⟨[], .inl ⟨rfl, 1, by omega, rfl⟩, rfl, fun i hi => by simp at hi⟩, Nat.zero_le _, fun i hi => by simp at hi⟩
    · have hcell : ∀ i, i < cap → W.cell? (a.add i) = some (V i) ∧ DataW.trod enc P W 0 (fun _ => true) true n' s [V i] = some (D i, Pl i) := fun i hi => hcell i (by rw [show m = cap from hmm]; exact hi)
      have hz := (hcell 0 (by omega)).1
      have hsp : a.spot = none := by
        simp only [Addr.add, if_true] at hz
        unfold World.cell? at hz
        split at hz
        · split at hz
          · cases hz
          · rename_i hs
            simpa using hs
        · cases hz
      have hbl : a.block < W.heap.size := by
        have := World.block_lt_of_cell? W _ hz
        simpa [Addr.add] using this
      obtain ⟨γ1, h1, cs, rows, q1, q2, q3, q4, q5, q6⟩ := adm_many A k3 (V := V) (len := len) (n := n') (fun i hi => ⟨_, (hcell i (by omega)).2⟩) len (Nat.le_refl _)
      have hget : ∀ (j : Nat) (x : Value), cs[j]? = some x → j < len ∧ cs.getD j undef = x := fun j x hx => by
        refine ⟨by rw [← q4]; exact (List.getElem?_eq_some_iff.1 hx).1, ?_⟩
        rw [List.getD_eq_getElem?_getD, hx]
        rfl
      refine ⟨rows, .slice (some ⟨h1.length, 0, none⟩) cs.length 1, γ1 ++ [⟨a.block, a.off, cap⟩], h1.new ⟨cs, s, true, false⟩, q1.trans (List.prefix_append _ _), q2.trans (pre_new (List.prefix_refl _)), ?_, ?_, ?_, by rw [q5]; omega, fun i hi => (q6 i (by omega)).2.2⟩
      · refine q3.new hbl fun j x hx => ?_
        obtain ⟨hj, hxx⟩ := hget j x hx
        obtain ⟨a1, a2, _⟩ := q6 j hj
        rw [hxx] at a1 a2
        refine ⟨a2.one, V j, ?_, a1⟩
        have := (hcell j (by omega)).1
        rw [add_off a hsp] at this
        exact this
      · have := VR.slc (γ := γ1 ++ [⟨a.block, a.off, cap⟩]) h1.length 0 cs.length 1 ⟨a.block, a.off, cap⟩ (by rw [← q3.rel.len]; simp) (by omega) (by simp only; omega)
        have e1 : (some a : Option Addr) = some ⟨a.block, a.off + 0, none⟩ := by
          obtain ⟨b, o, s⟩ := a
          simp at hsp
          subst hsp
          rfl
        rw [e1]
        have e2 : (cap - 0) / 1 = cap := by simp
        rw [show (Value.slice (some ⟨a.block, a.off + 0, none⟩) len cap) = Value.slice (some ⟨a.block, a.off + 0, none⟩) cs.length ((cap - 0) / 1) by rw [e2, q4]]
        exact this
      · refine ⟨cs, .inr ⟨h1.length, 0, _, rfl, get_new_same, by simp, fun i hi => ?_⟩, by omega, fun i hi => ((q6 i (by omega)).2.1).pre (pre_new (List.prefix_refl _))⟩
        rw [Nat.zero_add, List.getD_eq_getElem?_getD, List.getElem?_eq_getElem hi]
        rfl
end
end Go.Proofs.Ytilpnbejpndgpaa.X

/- The row of SharedProgram (printed by row.py). -/
namespace Go.Proofs.Ytilpnbejpndgpaa.fnExactSharedProgram
open Go Go.ChangeShapes Go.WideShapes Go.ChangeAt Go.RowKit Go.Proofs.Ytilpnbejpndgpaa.X
set_option linter.unusedVariables false
theorem own : ownKnob Try.prog.godebug = none := by kernel_rfl
theorem laid : laidOutB Try.prog = true := by kernel_rfl
theorem shapeS : isIntS Try.prog 22 2 = true := by kernel_rfl
theorem shapeM : isIntSS Try.prog 32 22 2 = true := by kernel_rfl
theorem readable0 : Try.prog.readableRec 2 = true := by kernel_rfl
theorem intable0 : 2 < Try.prog.types.size := of_decide_eq_true (by kernel_rfl)
theorem readable1 : Try.prog.readableRec 32 = true := by kernel_rfl
theorem intable1 : 32 < Try.prog.types.size := of_decide_eq_true (by kernel_rfl)
theorem isbool : Try.prog.underlying 4 = some .bool := by kernel_rfl
theorem isint : Try.prog.underlying 2 = some (.int .i64) := by kernel_rfl
set_option maxRecDepth 100000 in
theorem lifted (os : Os) (started : os.Started) (H : Type) (enc : TypeId × Value → H) :
    ReturnsInHanded {} Try.checked os 10 .any (Rows.fnExactSharedProgramSpec.pre6 enc Try.prog Try.f10 Rows.fnExactSharedProgramRow.domain false) (Rows.fnExactSharedProgramSpec.post enc Try.prog Try.f10 false true false false) := by
  refine returnsInHanded_of_change_sized (C := Try.checked) own started (by kernel_rfl) Try.func10
    (ChangeSpec.witness6 (enc := enc) (C := Try.checked) false ⟨#[], #[.int .i64 0, .int .i64 0, .slice none 0 0], []⟩ 8 (by kernel_rfl) (by kernel_rfl) (by kernel_rfl) (by kernel_rfl)) ?_
  intro W base args ds gs before hval0 hW hcnd hsz0 _
  have hval : ∀ (j : Nat) t v, Try.f10.params[j]? = some t → args[j]? = some v → Value.okWide Try.prog W .any base t v := hval0
  have hW' := hW
  obtain ⟨p, q, hA0, hV, rfl, hfz, hnd⟩ := hW
  have hA : DataW.TrodAll enc Try.prog W 0 (fun _ => true) true Try.f10.params.toList args.toList ds p := hA0
  rw [Try.params10] at hA hval
  obtain ⟨v0, vs0, d0, ds0, p0, q0, hargs0, rfl, rfl, h0, r0⟩ := trodAll_cons hA
  obtain ⟨v1, vs1, d1, ds1, p1, q1, hargs1, rfl, rfl, h1, r1⟩ := trodAll_cons r0
  obtain ⟨v2, vs2, d2, ds2, p2, q2, hargs2, rfl, rfl, h2, r2⟩ := trodAll_cons r1
  obtain ⟨rfl, rfl, rfl⟩ := trodAll_nil r2
  obtain rfl : args = #[v0, v1, v2] := by cases args; simp_all
  obtain ⟨rfl, rfl⟩ := trodVars_none hV
  obtain ⟨n0, rfl, rfl, rfl, wf0⟩ := open_int isint (hval 0 2 v0 rfl rfl) h0
  obtain ⟨n1, rfl, rfl, rfl, wf1⟩ := open_int isint (hval 1 2 v1 rfl rfl) h1
  obtain ⟨ns2, u2, γ2, g2, pg2, ph2, A2, hv2, hi2, hl2, hm2⟩ := adm_rows (Adm.nil Try.prog W) 22 2 shapeM (hval 2 _ v2 rfl rfl) h2
  have hl2' : (ns2.length : Int) ≤ 9223372036854775807 := by
    have : ns2.length ≤ 2 ^ 63 - 1 := hl2
    omega
  have hm2' : ∀ i, i < ns2.length → ((ns2.getD i []).length : Int) ≤ 9223372036854775807 := fun i hi => by
    have : (ns2.getD i []).length ≤ 2 ^ 63 - 1 := hm2 i hi
    omega
  have hi2' := hi2
  have key := law_SharedProgram (n0 := n0) (n1 := n1) hi2' hl2' hm2'
  refine (calls_of_WF (S := S) orders esound tsound A2 (VRL.cons (.int _ _) (VRL.cons (.int _ _) (VRL.cons hv2 (VRL.nil _)))) key).mono fun e W' ⟨v, u, γ1, h1, he, hvr, hb, bel⟩ => ?_
  subst hb
  obtain rfl := hvr.bool_inv
  subst he
  have st := stays_all laid bel (ts := [2, 2, 32]) (fun t ht => by
    simp only [List.mem_cons, List.not_mem_nil, or_false] at ht
    rcases ht with rfl | rfl | rfl
    · exact ⟨readable0, intable0⟩
    · exact ⟨readable0, intable0⟩
    · exact ⟨readable1, intable1⟩) hA
  exact ⟨_, rfl, _, _, _, [], _, [], hW', trodAll_mk1 (shut_bool isbool _), st, rfl, bel.frame _, fun h => by cases h⟩
theorem over : Rows.fnExactSharedProgramRow.holds Try.pinned (OpenSpec.ofChange Rows.fnExactSharedProgramSpec) :=
  OpenClaim.holds_of_wide 10 Try.f10 rfl rfl rfl rfl rfl rfl rfl ⟨rfl, rfl, rfl, rfl, rfl⟩ rfl rfl rfl rfl rfl (by kernel_rfl) Try.func10 (by kernel_rfl)
    (of_decide_eq_true (by kernel_rfl)) (by unfold Func.isWrapper; first | (rw [if_pos (by decide +kernel)]; kernel_rfl) | (rw [if_neg (by decide +kernel)]; exact ⟨rfl, rfl⟩))
    (fun os started H enc _ => lifted os started H enc)
end Go.Proofs.Ytilpnbejpndgpaa.fnExactSharedProgram
namespace Go.Proofs.Ytilpnbejpndgpaa
theorem fnExactSharedProgram_holds : Rows.FnExactSharedProgramSaid := fnExactSharedProgram.over
end Go.Proofs.Ytilpnbejpndgpaa
