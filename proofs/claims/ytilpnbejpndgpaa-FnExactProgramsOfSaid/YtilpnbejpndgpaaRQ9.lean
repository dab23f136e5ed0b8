/- Texts of one claim, put together by merge.py: XU2, XU3, XU4, XU6, XU7, XLPO, XArgs, XA3, XHPO. -/
import Derived.Test.YtilpnbejpndgpaaRQ8
import Derived.Test.YtilpnbejpndgpaaRQ6
import Derived.Test.YtilpnbejpndgpaaRQ7
import Derived.Test.YtilpnbejpndgpaaRQ5
import Derived.Test.YtilpnbejpndgpaaRQ3
import Derived.Deep.Slices
import Derived.WideKeyArgs
import Derived.ChangeOld
import Derived.ChangeArms
import Derived.OpenShut
import Derived.Test.YtilpnbejpndgpaaRows
import Derived.ProofKit
import Derived.ShutString
import Derived.Below
import Derived.SizedLaws
/- The programs of a scheme: the reference. -/
set_option linter.unusedVariables false
set_option linter.unusedSimpArgs false
set_option maxRecDepth 20000
set_option maxHeartbeats 4000000
namespace Go.Proofs.Ytilpnbejpndgpaa.X
open Go Go.RowKit

theorem TabL.keepNe {h h' : AH} {lo nb nb2 : Nat} {full : Bool} {L : List (Nat × List Int)} (s : TabL h lo nb full L) {b2 : Blk} (g2 : h.get nb2 = some b2) (h2 : b2.e = 22) (hne : nb ≠ nb2) (hk : ∀ m b, m ≠ nb2 → h.get m = some b → h'.get m = some b) : TabL h' lo nb full L :=
  ⟨hk _ _ hne s.g, s.low, fun i hi => ⟨(s.rows i hi).1, by
    obtain ⟨fu, o⟩ := (s.rows i hi).2
    refine ⟨fu, hk _ _ ?_ o⟩
    rintro e
    unfold Lst at o
    rw [e, g2] at o
    cases o
    simp at h2⟩, s.dist⟩
def prgC (x : Prg) (v w : Value) : List Value := [I64 x.p, I64 x.n, v, w]
theorem seg_two {q : List Int} {k : Nat} (hk : k < 9) : q.getD (18 + k) 0 = (seg q 2).getD k 0 := by
  unfold seg
  rw [cut_get hk]
theorem s_l07Programs {v : Value} {x : Sch} {b : Bool} {h : AH} {Q : Value → AH → Prop} (hv : Prods h v x.ps) (hx : isX x = true) (h0 : 1 ≤ x.ps.length)
    (hQ : ∀ (nb c1 c2 : Nat) (h' : AH) (v1 w1 v2 w2 v3 w3 : Value), h <+: h' → h'.get nb = some ⟨prgC (pgX x b 0) v1 w1 ++ prgC (pgX x b 1) v2 w2 ++ prgC (pgX x b 2) v3 w3, 48, false, true⟩ → h.length ≤ c1 → InP h.length c1 h' v1 w1 (pgX x b 0) → InP c1 c2 h' v2 w2 (pgX x b 1) → InP c2 nb h' v3 w3 (pgX x b 2) → Q (.slice (some ⟨nb, 0, none⟩) 3 4) h') : WF S 109 [schV x v, .bool b] h Q := by
  refine WF_fn (fn := c109) rfl rfl ?_
  unfold c109
  obtain ⟨z, hp, hl, ho⟩ := isX_facts hx
  have zn := z.nm
  have zm := z.mk2
  have zk := z.nk
  ((try simp (maxSteps := 3000000) (dsimp := false) (disch := first | omega | (simp only [len_new, len_put, len_kill]; omega)) only [↓ypre, ypost, ↓reduceIte, Nat.reduceEqDiff, Nat.reduceAdd, Nat.reduceSub, Nat.reduceLeDiff, Nat.zero_add, Nat.sub_zero, ynew, schV, hv.one]); try simp only [yback])
  generalize hH1 : AH.new h _ = H1
  obtain ⟨hb1, p1, n1⟩ := new_facts hH1
  ((try simp (maxSteps := 3000000) (dsimp := false) (disch := first | omega | (simp only [len_new, len_put, len_kill]; omega)) only [↓ypre, ypost, ↓reduceIte, Nat.reduceEqDiff, Nat.reduceAdd, Nat.reduceSub, Nat.reduceLeDiff, Nat.zero_add, Nat.sub_zero, ynew, rdn_of hb1]); try simp only [yback])
  refine s_l01Lengths (x := x) hv.one z fun H2 p2 => ?_
  ((try simp (maxSteps := 3000000) (dsimp := false) (disch := first | omega | (simp only [len_new, len_put, len_kill]; omega)) only [↓ypre, ypost, ↓reduceIte, Nat.reduceEqDiff, Nat.reduceAdd, Nat.reduceSub, Nat.reduceLeDiff, Nat.zero_add, Nat.sub_zero, ynew]); try simp only [yback])
  generalize hH3 : AH.new H2 _ = H3
  obtain ⟨hb3, p3, n3⟩ := new_facts hH3
  generalize hH4 : AH.new H3 _ = H4
  obtain ⟨hb4, p4, n4⟩ := new_facts hH4
  generalize hH5 : AH.new H4 _ = H5
  obtain ⟨hb5, p5, n5⟩ := new_facts hH5
  have p25 := (p3.trans p4).trans p5
  have nil0 : ∀ {K : AH} {nb : Nat} {fl : Bool}, K.get nb = some ⟨[], 22, false, fl⟩ → H2.length ≤ nb → TabL K H2.length nb fl [] := fun g hn => ⟨g, hn, fun i hi => by simp at hi, fun a b ha => by simp at ha⟩
  have tA0 := nil0 (pre_get (p4.trans p5) hb3) (Nat.le_refl _)
  have tB0 := nil0 (pre_get p5 hb4) (by omega)
  obtain ⟨a, ha⟩ : ∃ a : Nat, x.n * x.m = a := ⟨(x.n * x.m).toNat, by omega⟩
  obtain ⟨b', hb'⟩ : ∃ b' : Nat, x.m * x.k = b' := ⟨(x.m * x.k).toNat, by omega⟩
  obtain ⟨c', hc'⟩ : ∃ c' : Nat, x.n * x.k = c' := ⟨(x.n * x.k).toNat, by omega⟩
  refine WC_loop_inv (fun m f K1 => ∃ (i : Nat) (nA : Nat) (fA : Bool) (LA : List (Nat × List Int)) (nB : Nat) (fB : Bool) (LB : List (Nat × List Int)), m = x.ps.length - i ∧ i ≤ x.ps.length ∧ f 1 = .bool b ∧ f 2 = .pointer (some ⟨h.length, 0, none⟩) ∧ f 5 = I64 (x.n * x.m) ∧ f 6 = I64 (x.m * x.k) ∧ f 7 = I64 (x.n * x.k) ∧ f 8 = sl nA LA.length ∧ f 9 = sl nB LB.length ∧ f 10 = sl H4.length 0 ∧ f 11 = I64 i ∧ (H2 <+: K1) ∧ (TabL K1 H2.length nA fA LA) ∧ (LA.map Prod.snd = (lsF x 0 a).take i) ∧ (TabL K1 H2.length nB fB LB) ∧ (LB.map Prod.snd = (lsF x 1 b').take i) ∧ (K1.get H4.length = some ⟨[], 22, false, true⟩) ∧ (nA ≠ nB ∧ nA ≠ H4.length ∧ nB ≠ H4.length)) ?_ (x.ps.length - 0) _ _ ⟨0, H2.length, true, [], H3.length, true, [], rfl, by omega, (by first | rfl | (simp [upd_apply]; done)), (by first | rfl | (simp [upd_apply]; done)), (by first | rfl | (simp [upd_apply]; done)), (by first | rfl | (simp [upd_apply]; done)), (by first | rfl | (simp [upd_apply]; done)), (by first | rfl | (simp [upd_apply]; done)), (by first | rfl | (simp [upd_apply]; done)), (by first | rfl | (simp [upd_apply]; done)), (by first | rfl | (simp [upd_apply]; done)), p25, tA0, (by simp), tB0, (by simp), hb5, ⟨by omega, by omega, by omega⟩⟩
  rintro m f K1 ⟨i, nA, fA, LA, nB, fB, LB, rfl, hi, f1, f2, f5, f6, f7, f8, f9, f10, f11, pp, tA, hA, tB, hB, gC, hne⟩
  have hLA : LA.length = i := by
    have := congrArg List.length hA
    rw [List.length_map, List.length_take, lsF_len] at this
    omega
  have hLB : LB.length = i := by
    have := congrArg List.length hB
    rw [List.length_map, List.length_take, lsF_len] at this
    omega
  have hbK := pre_get (p2.trans pp) hb1
  have hvK := hv.pre ((p1.trans p2).trans pp)
  have k1 := pre_len pp
  have ltC := get_lt gC
  by_cases hlt : (i : Int) < x.ps.length
  · have hi' : i < x.ps.length := by omega
    obtain ⟨n5', off5, hix, hrn, hr1⟩ := hvK.1.at hi'
    have ra := hrn 0 9 (by omega)
    have hby := hvK.by hi'
    have s0 : List.take 9 (List.drop 0 (x.ps.getD i [])) = seg (x.ps.getD i []) 0 := rfl
    have s1 : List.take 9 (List.drop 9 (x.ps.getD i [])) = seg (x.ps.getD i []) 1 := rfl
    rw [s0] at ra
    rw [ha] at f5
    rw [hb'] at f6
    ((try simp (maxSteps := 3000000) (dsimp := false) (disch := first | omega | (simp only [len_new, len_put, len_kill]; omega)) only [↓ypre, ypost, ↓reduceIte, Nat.reduceEqDiff, Nat.reduceAdd, Nat.reduceSub, Nat.reduceLeDiff, Nat.zero_add, Nat.sub_zero, ynew, f1, f2, f5, f6, f7, f8, f9, f10, f11, rd1_of hbK, hvK.1.len, decide_eq_true hlt, hix, ra]); try simp only [yback])
    refine s_l07Numbers (hby.seg (i := 0) (by omega)) (by omega) fun kn fu H6 hkn p6 l6 => ?_
    have k6 := pre_len p6
    have rowlt : ∀ {LX : List (Nat × List Int)} {nX : Nat} {fX : Bool} {KX : AH}, TabL KX H2.length nX fX LX → ∀ j (hj : j < LX.length), (LX[j]).1 < KX.length := fun s j hj => by
      obtain ⟨fu, o⟩ := (s.rows j hj).2
      exact o.lt
    ((try simp (maxSteps := 3000000) (dsimp := false) (disch := first | omega | (simp only [len_new, len_put, len_kill]; omega)) only [↓ypre, ypost, ↓reduceIte, Nat.reduceEqDiff, Nat.reduceAdd, Nat.reduceSub, Nat.reduceLeDiff, Nat.zero_add, Nat.sub_zero, ynew, f1, f2, f5, f6, f7, f8, f9, f10, f11, sl_cells, sl_one]); try simp only [yback])
    refine (tA.pre p6).app (by omega) (fun j hj => by have := rowlt tA j hj; omega) l6 (by omega) (by omega) fun H7 l7 tA7 keep7 pre7 => ?_
    have tB7 := (tB.pre p6).keepNe (tA.pre p6).g rfl hne.1.symm keep7
    have gC7 := keep7 _ _ hne.2.1.symm (pre_get p6 gC)
    have pp7 := pre7 _ tA.low (pp.trans p6)
    have hb7 := pre_get (p2.trans pp7) hb1
    have hv7 := hv.pre ((p1.trans p2).trans pp7)
    obtain ⟨n7', off7, hix7, hrn7, _⟩ := hv7.1.at hi'
    have rb := hrn7 9 9 (by omega)
    rw [s1] at rb
    ((try simp (maxSteps := 3000000) (dsimp := false) (disch := first | omega | (simp only [len_new, len_put, len_kill]; omega)) only [↓ypre, ypost, ↓reduceIte, Nat.reduceEqDiff, Nat.reduceAdd, Nat.reduceSub, Nat.reduceLeDiff, Nat.zero_add, Nat.sub_zero, ynew, f1, f2, f5, f6, f7, f8, f9, f10, f11, rd1_of hb7, hix7, rb]); try simp only [yback])
    refine s_l07Numbers (hby.seg (i := 1) (by omega)) (by omega) fun kn2 fu2 H8 hkn2 p8 l8 => ?_
    have k8 := pre_len p8
    ((try simp (maxSteps := 3000000) (dsimp := false) (disch := first | omega | (simp only [len_new, len_put, len_kill]; omega)) only [↓ypre, ypost, ↓reduceIte, Nat.reduceEqDiff, Nat.reduceAdd, Nat.reduceSub, Nat.reduceLeDiff, Nat.zero_add, Nat.sub_zero, ynew, f1, f2, f5, f6, f7, f8, f9, f10, f11, sl_cells, sl_one]); try simp only [yback])
    refine (tB7.pre p8).app (by omega) (fun j hj => by have := rowlt tB7 j hj; omega) l8 (by omega) (by omega) fun H9 l9 tB9 keep9 pre9 => ?_
    have tA9 := (tA7.pre p8).keepNe (tB7.pre p8).g rfl (by have := get_lt tB.g; omega) keep9
    have gC9 := keep9 _ _ hne.2.2.symm (pre_get p8 gC7)
    ((try simp (maxSteps := 3000000) (dsimp := false) (disch := first | omega | (simp only [len_new, len_put, len_kill]; omega)) only [↓ypre, ypost, ↓reduceIte, Nat.reduceEqDiff, Nat.reduceAdd, Nat.reduceSub, Nat.reduceLeDiff, Nat.zero_add, Nat.sub_zero, ynew, f1, f2, f5, f6, f7, f8, f9, f10, f11, wrap64_in]); try simp only [yback])
    refine InvQ_go (x.ps.length - (i + 1)) (by omega) ⟨(i + 1), (H6.length + 1), false, (LA ++ [(kn, (seg (x.ps.getD i []) 0).take a)]), (H8.length + 1), false, (LB ++ [(kn2, (seg (x.ps.getD i []) 1).take b')]), rfl, by omega, (by first | rfl | exact f1 | (simp only [upd_apply]; rfl) | (show I64 _ = _; congr 1; omega)), (by first | rfl | exact f2 | (simp only [upd_apply]; rfl) | (show I64 _ = _; congr 1; omega)), (by rw [ha]; exact f5), (by rw [hb']; exact f6), (by first | rfl | exact f7 | (simp only [upd_apply]; rfl) | (show I64 _ = _; congr 1; omega)), (by first | rfl | exact f8 | (simp only [upd_apply]; rfl) | (show I64 _ = _; congr 1; omega)), (by first | rfl | exact f9 | (simp only [upd_apply]; rfl) | (show I64 _ = _; congr 1; omega)), (by first | rfl | exact f10 | (simp only [upd_apply]; rfl) | (show I64 _ = _; congr 1; omega)), (by first | rfl | exact f11 | (simp only [upd_apply]; rfl) | (show I64 _ = _; congr 1; omega)), (pre9 _ tB.low (pp7.trans p8)), tA9, (by rw [List.map_append, hA, take_next (d := []) (by rw [lsF_len]; exact hi'), lsF_get hi']; rfl), tB9, (by rw [List.map_append, hB, take_next (d := []) (by rw [lsF_len]; exact hi'), lsF_get hi']; rfl), gC9, ⟨by omega, by omega, by omega⟩⟩
  have ei : i = x.ps.length := by omega
  subst ei
  rw [List.take_of_length_le (by rw [lsF_len]; exact Nat.le_refl _)] at hA hB
  ((try simp (maxSteps := 3000000) (dsimp := false) (disch := first | omega | (simp only [len_new, len_put, len_kill]; omega)) only [↓ypre, ypost, ↓reduceIte, Nat.reduceEqDiff, Nat.reduceAdd, Nat.reduceSub, Nat.reduceLeDiff, Nat.zero_add, Nat.sub_zero, ynew, f1, f2, f5, f6, f7, f8, f9, f10, f11, rd1_of hbK, hvK.1.len, decide_eq_false hlt]); try simp only [yback])
  rw [hc'] at f7
  have eC : fmX x 2 = trL (lsF x 2 c') c' := by
    show trL (lsF x 2 (x.n * x.k).toNat) (x.n * x.k).toNat = _
    rw [hc', Int.toNat_natCast]
  have lC : (fmX x 2).length = c' := by rw [eC, trL_len]
  have tC0 := nil0 gC (by omega)
  refine WC_loop_inv (fun m f K2 => ∃ (k : Nat) (nC : Nat) (fC : Bool) (LC : List (Nat × List Int)), m = c' - k ∧ k ≤ c' ∧ f 1 = .bool b ∧ f 2 = .pointer (some ⟨h.length, 0, none⟩) ∧ f 5 = I64 (x.n * x.m) ∧ f 6 = I64 (x.m * x.k) ∧ f 7 = I64 c' ∧ f 8 = sl nA LA.length ∧ f 9 = sl nB LB.length ∧ f 10 = sl nC LC.length ∧ f 12 = I64 k ∧ (H2 <+: K2) ∧ (TabL K2 H2.length nA fA LA) ∧ (TabL K2 H2.length nB fB LB) ∧ (TabL K2 H2.length nC fC LC) ∧ (LC.map Prod.snd = (fmX x 2).take k) ∧ (nA ≠ nC ∧ nB ≠ nC)) ?_ (c' - 0) _ _ ⟨0, H4.length, true, [], rfl, by omega, (by first | rfl | exact f1 | (simp [upd_apply]; done)), (by first | rfl | exact f2 | (simp [upd_apply]; done)), (by first | rfl | exact f5 | (simp [upd_apply]; done)), (by first | rfl | exact f6 | (simp [upd_apply]; done)), (by first | rfl | exact f7 | (simp [upd_apply]; done)), (by first | rfl | exact f8 | (simp [upd_apply]; done)), (by first | rfl | exact f9 | (simp [upd_apply]; done)), (by first | rfl | exact f10 | (simp [upd_apply]; done)), (by first | rfl | (simp [upd_apply]; done)), pp, tA, tB, tC0, (by simp), ⟨hne.2.1, hne.2.2⟩⟩
  rintro m f K2 ⟨k, nC, fC, LC, rfl, hk, f1, f2, f5, f6, f7, f8, f9, f10, f12, pp, tA, tB, tC, hC, hne⟩
  have hLC : LC.length = k := by
    have := congrArg List.length hC
    rw [List.length_map, List.length_take, lC] at this
    omega
  have hbK := pre_get (p2.trans pp) hb1
  have hvK := hv.pre ((p1.trans p2).trans pp)
  have k2 := pre_len pp
  by_cases hltk : (k : Int) < c'
  · have hkc : k < c' := by omega
    ((try simp (maxSteps := 3000000) (dsimp := false) (disch := first | omega | (simp only [len_new, len_put, len_kill]; omega)) only [↓ypre, ypost, ↓reduceIte, Nat.reduceEqDiff, Nat.reduceAdd, Nat.reduceSub, Nat.reduceLeDiff, Nat.zero_add, Nat.sub_zero, ynew, f1, f2, f5, f6, f7, f8, f9, f10, f12, decide_eq_true hltk]); try simp only [yback])
    generalize hH6 : AH.new K2 _ = H6
    obtain ⟨hb6, p6, n6⟩ := new_facts hH6
    have l0 : Lst H6 K2.length (gen 0 fun j => (seg (x.ps.getD j []) 2).getD k 0) true := hb6
    refine WC_loop_inv (fun m f K3 => ∃ (i : Nat) (kn : Nat) (fu : Bool), m = x.ps.length - i ∧ i ≤ x.ps.length ∧ f 1 = .bool b ∧ f 2 = .pointer (some ⟨h.length, 0, none⟩) ∧ f 5 = I64 (x.n * x.m) ∧ f 6 = I64 (x.m * x.k) ∧ f 7 = I64 c' ∧ f 8 = sl nA LA.length ∧ f 9 = sl nB LB.length ∧ f 10 = sl nC LC.length ∧ f 12 = I64 k ∧ f 13 = sl kn (gen i fun j => (seg (x.ps.getD j []) 2).getD k 0).length ∧ f 14 = I64 i ∧ (K2 <+: K3) ∧ (Lst K3 kn (gen i fun j => (seg (x.ps.getD j []) 2).getD k 0) fu) ∧ (K2.length ≤ kn)) ?_ (x.ps.length - 0) _ _ ⟨0, K2.length, true, rfl, by omega, (by first | rfl | exact f1 | (simp [upd_apply]; done)), (by first | rfl | exact f2 | (simp [upd_apply]; done)), (by first | rfl | exact f5 | (simp [upd_apply]; done)), (by first | rfl | exact f6 | (simp [upd_apply]; done)), (by first | rfl | exact f7 | (simp [upd_apply]; done)), (by first | rfl | exact f8 | (simp [upd_apply]; done)), (by first | rfl | exact f9 | (simp [upd_apply]; done)), (by first | rfl | exact f10 | (simp [upd_apply]; done)), (by first | rfl | exact f12 | (simp [upd_apply]; done)), (by first | rfl | (simp [upd_apply]; done)), (by first | rfl | (simp [upd_apply]; done)), p6, l0, Nat.le_refl _⟩
    rintro m f K3 ⟨i, kn, fu, rfl, hi, f1, f2, f5, f6, f7, f8, f9, f10, f12, f13, f14, p3x, lo, hkn⟩
    have hb3 := pre_get p3x hbK
    have hv3 := hvK.pre p3x
    have gl := gen_len (N := i) (g := fun j => (seg (x.ps.getD j []) 2).getD k 0)
    by_cases hlti : (i : Int) < x.ps.length
    · have hi' : i < x.ps.length := by omega
      obtain ⟨n5', off5, hix, hrn, hr1⟩ := hv3.1.at hi'
      have rdk := hr1 (18 + k) (by omega)
      rw [seg_two (by omega), ← Nat.add_assoc] at rdk
      have sb := ((hv3.by hi').seg (i := 2) (by omega)).2 k (by omega)
      have ixa := ixa_u (n := n5') (off := off5 + 18) (len := 9) (kk := .i64) (j := k) (by omega)
      ((try simp (maxSteps := 3000000) (dsimp := false) (disch := first | omega | (simp only [len_new, len_put, len_kill]; omega)) only [↓ypre, ypost, ↓reduceIte, Nat.reduceEqDiff, Nat.reduceAdd, Nat.reduceSub, Nat.reduceLeDiff, Nat.zero_add, Nat.sub_zero, ynew, f1, f2, f5, f6, f7, f8, f9, f10, f12, f13, f14, rd1_of hb3, hv3.1.len, decide_eq_true hlti, hix, ixa, rdk, wrap64_in]); try simp only [yback])
      refine lo.app3 (by omega) fun H7 l7 pre7 keep7 lo7 => ?_
      rw [← gen_succ (g := fun j => (seg (x.ps.getD j []) 2).getD k 0)] at lo7
      ((try simp (maxSteps := 3000000) (dsimp := false) (disch := first | omega | (simp only [len_new, len_put, len_kill]; omega)) only [↓ypre, ypost, ↓reduceIte, Nat.reduceEqDiff, Nat.reduceAdd, Nat.reduceSub, Nat.reduceLeDiff, Nat.zero_add, Nat.sub_zero, ynew, f1, f2, f5, f6, f7, f8, f9, f10, f12, f13, f14, wrap64_in]); try simp only [yback])
      refine InvQ_go (x.ps.length - (i + 1)) (by omega) ⟨(i + 1), (K3.length + 1), false, rfl, by omega, (by first | rfl | exact f1 | (simp only [upd_apply]; rfl) | (show I64 _ = _; congr 1; omega)), (by first | rfl | exact f2 | (simp only [upd_apply]; rfl) | (show I64 _ = _; congr 1; omega)), (by first | rfl | exact f5 | (simp only [upd_apply]; rfl) | (show I64 _ = _; congr 1; omega)), (by first | rfl | exact f6 | (simp only [upd_apply]; rfl) | (show I64 _ = _; congr 1; omega)), (by first | rfl | exact f7 | (simp only [upd_apply]; rfl) | (show I64 _ = _; congr 1; omega)), (by first | rfl | exact f8 | (simp only [upd_apply]; rfl) | (show I64 _ = _; congr 1; omega)), (by first | rfl | exact f9 | (simp only [upd_apply]; rfl) | (show I64 _ = _; congr 1; omega)), (by first | rfl | exact f10 | (simp only [upd_apply]; rfl) | (show I64 _ = _; congr 1; omega)), (by first | rfl | exact f12 | (simp only [upd_apply]; rfl) | (show I64 _ = _; congr 1; omega)), (by rw [gen_succ]; rfl), (by first | rfl | exact f14 | (simp only [upd_apply]; rfl) | (show I64 _ = _; congr 1; omega)), (pre7 _ hkn p3x), lo7, (by have := pre_len p3x; omega)⟩
    have ei : i = x.ps.length := by omega
    subst ei
    have eR : (gen x.ps.length fun j => (seg (x.ps.getD j []) 2).getD k 0) = (fmX x 2).getD k [] := by
      rw [eC, trL_get hkc, lsF_len]
      exact gen_congr fun j hj => by rw [lsF_get hj, take_getD hkc]
    ((try simp (maxSteps := 3000000) (dsimp := false) (disch := first | omega | (simp only [len_new, len_put, len_kill]; omega)) only [↓ypre, ypost, ↓reduceIte, Nat.reduceEqDiff, Nat.reduceAdd, Nat.reduceSub, Nat.reduceLeDiff, Nat.zero_add, Nat.sub_zero, ynew, f1, f2, f5, f6, f7, f8, f9, f10, f12, f13, f14, rd1_of hb3, hv3.1.len, decide_eq_false hlti, sl_cells, sl_one]); try simp only [yback])
    have k3 := pre_len p3x
    have rowlt : ∀ j (hj : j < LC.length), (LC[j]).1 < K2.length := fun j hj => by
      obtain ⟨fu, o⟩ := (tC.rows j hj).2
      exact o.lt
    refine (tC.pre p3x).app (by omega) (fun j hj => by have := rowlt j hj; omega) lo (by omega) (by omega) fun H8 l8 tC8 keep8 pre8 => ?_
    have tA8 := (tA.pre p3x).keepNe (tC.pre p3x).g rfl hne.1 keep8
    have tB8 := (tB.pre p3x).keepNe (tC.pre p3x).g rfl hne.2 keep8
    have lA := get_lt tA.g
    have lB := get_lt tB.g
    ((try simp (maxSteps := 3000000) (dsimp := false) (disch := first | omega | (simp only [len_new, len_put, len_kill]; omega)) only [↓ypre, ypost, ↓reduceIte, Nat.reduceEqDiff, Nat.reduceAdd, Nat.reduceSub, Nat.reduceLeDiff, Nat.zero_add, Nat.sub_zero, ynew, f1, f2, f5, f6, f7, f8, f9, f10, f12, f13, f14, wrap64_in]); try simp only [yback])
    refine InvQ_go (c' - (k + 1)) (by omega) ⟨(k + 1), (K3.length + 1), false, (LC ++ [(kn, gen x.ps.length fun j => (seg (x.ps.getD j []) 2).getD k 0)]), rfl, by omega, (by first | rfl | exact f1 | (simp only [upd_apply]; rfl) | (show I64 _ = _; congr 1; omega)), (by first | rfl | exact f2 | (simp only [upd_apply]; rfl) | (show I64 _ = _; congr 1; omega)), (by first | rfl | exact f5 | (simp only [upd_apply]; rfl) | (show I64 _ = _; congr 1; omega)), (by first | rfl | exact f6 | (simp only [upd_apply]; rfl) | (show I64 _ = _; congr 1; omega)), (by first | rfl | exact f7 | (simp only [upd_apply]; rfl) | (show I64 _ = _; congr 1; omega)), (by first | rfl | exact f8 | (simp only [upd_apply]; rfl) | (show I64 _ = _; congr 1; omega)), (by first | rfl | exact f9 | (simp only [upd_apply]; rfl) | (show I64 _ = _; congr 1; omega)), (by first | rfl | exact f10 | (simp only [upd_apply]; rfl) | (show I64 _ = _; congr 1; omega)), (by first | rfl | exact f12 | (simp only [upd_apply]; rfl) | (show I64 _ = _; congr 1; omega)), (pre8 _ tC.low (pp.trans p3x)), tA8, tB8, tC8, (by rw [List.map_append, hC, take_next (d := []) (by rw [lC]; exact hkc), ← eR]; rfl), ⟨by omega, by omega⟩⟩
  have ek : k = c' := by omega
  subst ek
  rw [List.take_of_length_le (by rw [lC]; exact Nat.le_refl _)] at hC
  have rA := tA.rowsR
  have rB := tB.rowsR
  have rC := tC.rowsR
  have eA : fmX x 0 = lsF x 0 a := by
    show lsF x 0 (x.n * x.m).toNat = _
    rw [ha, Int.toNat_natCast]
  have eB : fmX x 1 = lsF x 1 b' := by
    show lsF x 1 (x.m * x.k).toNat = _
    rw [hb', Int.toNat_natCast]
  rw [hA, ← eA] at rA
  rw [hB, ← eB] at rB
  rw [hC] at rC
  have okA : lsOK x.p (x.n * x.m) (fmX x 0) = true := fmX_ok hvK hx h0 (i := 0) (by omega)
  have okB : lsOK x.p (x.m * x.k) (fmX x 1) = true := fmX_ok hvK hx h0 (i := 1) (by omega)
  have okC : lsOK x.p (x.ps.length : Int) (fmX x 2) = true := fmX_ok hvK hx h0 (i := 2) (by omega)
  ((try simp (maxSteps := 3000000) (dsimp := false) (disch := first | omega | (simp only [len_new, len_put, len_kill]; omega)) only [↓ypre, ypost, ↓reduceIte, Nat.reduceEqDiff, Nat.reduceAdd, Nat.reduceSub, Nat.reduceLeDiff, Nat.zero_add, Nat.sub_zero, ynew, f1, f2, f5, f6, f7, f8, f9, f10, f12, decide_eq_false hltk, rd1_of hbK]); try simp only [yback])
  refine s_l07Of (b := b) rA okA fun v1 w1 H10 p10 o1 ob1 => ?_
  have hb10 := pre_get p10 hbK
  have hv10 := hvK.pre p10
  ((try simp (maxSteps := 3000000) (dsimp := false) (disch := first | omega | (simp only [len_new, len_put, len_kill]; omega)) only [↓ypre, ypost, ↓reduceIte, Nat.reduceEqDiff, Nat.reduceAdd, Nat.reduceSub, Nat.reduceLeDiff, Nat.zero_add, Nat.sub_zero, ynew, f1, f2, f5, f6, f7, f8, f9, f10, f12, rd1_of hb10]); try simp only [yback])
  refine ⟨p10, ?_⟩
  refine s_l07Of (b := b) (rB.pre p10) okB fun v2 w2 H11 p11 o2 ob2 => ?_
  have hb11 := pre_get p11 hb10
  have hv11 := hv10.pre p11
  ((try simp (maxSteps := 3000000) (dsimp := false) (disch := first | omega | (simp only [len_new, len_put, len_kill]; omega)) only [↓ypre, ypost, ↓reduceIte, Nat.reduceEqDiff, Nat.reduceAdd, Nat.reduceSub, Nat.reduceLeDiff, Nat.zero_add, Nat.sub_zero, ynew, f1, f2, f5, f6, f7, f8, f9, f10, f12, rd1_of hb11, hv11.1.len]); try simp only [yback])
  refine ⟨p11, ?_⟩
  refine s_l07Of (b := b) ((rC.pre p10).pre p11) okC fun v3 w3 H12 p12 o3 ob3 => ?_
  ((try simp (maxSteps := 3000000) (dsimp := false) (disch := first | omega | (simp only [len_new, len_put, len_kill]; omega)) only [↓ypre, ypost, ↓reduceIte, Nat.reduceEqDiff, Nat.reduceAdd, Nat.reduceSub, Nat.reduceLeDiff, Nat.zero_add, Nat.sub_zero, ynew, f1, f2, f5, f6, f7, f8, f9, f10, f12, prgV, o1.st.one, o1.out.one, o2.st.one, o2.out.one, o3.st.one, o3.out.one, o1.st.cells, o1.out.cells, o2.st.cells, o2.out.cells, o3.st.cells, o3.out.cells, fillL]); try simp only [yback])
  have q1 := pre_len p10
  have q2 := pre_len p11
  have q3 := pre_len p12
  have kh := pre_len ((p1.trans p2).trans pp)
  have pN : ∀ {bl : Blk}, H12 <+: AH.new H12 bl := pre_new (List.prefix_refl _)
  exact hQ H12.length H10.length H11.length _ v1 w1 v2 w2 v3 w3 (((((p1.trans p2).trans pp).trans p10).trans p11).trans (p12.trans pN)) get_new_same (by omega)
    (((o1.inP ob1 q1).pre ((p11.trans p12).trans pN)).mono kh (Nat.le_refl _)) ((o2.inP ob2 q2).pre (p12.trans pN)) ((o3.inP ob3 q3).pre pN)
end Go.Proofs.Ytilpnbejpndgpaa.X

/- StepsOf of the reference; the program's lists. -/
set_option linter.unusedVariables false
set_option linter.unusedSimpArgs false
set_option maxRecDepth 20000
set_option maxHeartbeats 4000000
namespace Go.Proofs.Ytilpnbejpndgpaa.X
open Go Go.RowKit

def cdX (x : Sch) : Int := if isX x = true then (if x.ps.length = 0 then 5 else 0) else 1
theorem cdX_0 {x : Sch} (h : cdX x = 0) : isX x = true ∧ 1 ≤ x.ps.length := by
  unfold cdX at h
  split at h
  · rename_i h1
    split at h
    · omega
    · exact ⟨h1, by omega⟩
  · omega
theorem s_l07Code {v : Value} {x : Sch} {h : AH} {Q : Value → AH → Prop} (hv : Prods h v x.ps) (hl : SmallX x.ps) (hQ : ∀ h', h <+: h' → Q (I64 (cdX x)) h') : WF S 108 [schV x v] h Q := by
  refine WF_fn (fn := c108) rfl rfl ?_
  unfold c108
  ((try simp (maxSteps := 3000000) (dsimp := false) (disch := first | omega | (simp only [len_new, len_put, len_kill]; omega)) only [↓ypre, ypost, ↓reduceIte, Nat.reduceEqDiff, Nat.reduceAdd, Nat.reduceSub, Nat.reduceLeDiff, Nat.zero_add, Nat.sub_zero, ynew, schV, hv.one]); try simp only [yback])
  generalize hH1 : AH.new h _ = H1
  obtain ⟨hb1, p1, n1⟩ := new_facts hH1
  ((try simp (maxSteps := 3000000) (dsimp := false) (disch := first | omega | (simp only [len_new, len_put, len_kill]; omega)) only [↓ypre, ypost, ↓reduceIte, Nat.reduceEqDiff, Nat.reduceAdd, Nat.reduceSub, Nat.reduceLeDiff, Nat.zero_add, Nat.sub_zero, ynew, rdn_of hb1]); try simp only [yback])
  refine s_l01Is (hv.pre p1) hl fun H2 p2 => ?_
  have hb2 := pre_get p2 hb1
  have hQ2 := hQ _ (p1.trans p2)
  unfold cdX at hQ2
  cases h1 : isX x with
  | false =>
    rw [h1, if_neg (by decide)] at hQ2
    ((try simp (maxSteps := 3000000) (dsimp := false) (disch := first | omega | (simp only [len_new, len_put, len_kill]; omega)) only [↓ypre, ypost, ↓reduceIte, Nat.reduceEqDiff, Nat.reduceAdd, Nat.reduceSub, Nat.reduceLeDiff, Nat.zero_add, Nat.sub_zero, ynew]); try simp only [yback])
    exact hQ2
  | true =>
    rw [h1, if_pos rfl] at hQ2
    by_cases h2 : x.ps.length = 0
    · rw [if_pos h2] at hQ2
      ((try simp (maxSteps := 3000000) (dsimp := false) (disch := first | omega | (simp only [len_new, len_put, len_kill]; omega)) only [↓ypre, ypost, ↓reduceIte, Nat.reduceEqDiff, Nat.reduceAdd, Nat.reduceSub, Nat.reduceLeDiff, Nat.zero_add, Nat.sub_zero, ynew, rd1_of hb2, (hv.pre (p1.trans p2)).1.len, decide_eq_true (show (x.ps.length : Int) = 0 by omega)]); try simp only [yback])
      exact hQ2
    · rw [if_neg h2] at hQ2
      ((try simp (maxSteps := 3000000) (dsimp := false) (disch := first | omega | (simp only [len_new, len_put, len_kill]; omega)) only [↓ypre, ypost, ↓reduceIte, Nat.reduceEqDiff, Nat.reduceAdd, Nat.reduceSub, Nat.reduceLeDiff, Nat.zero_add, Nat.sub_zero, ynew, rd1_of hb2, (hv.pre (p1.trans p2)).1.len, decide_eq_false (show ¬ (x.ps.length : Int) = 0 by omega)]); try simp only [yback])
      exact hQ2
theorem i_productsCode {v : Value} {x : Sch} {h : AH} {Q : Value → AH → Prop} (hv : Prods h v x.ps) (hl : SmallX x.ps) (hQ : ∀ h', h <+: h' → Q (I64 (cdX x)) h') : WF S 110 [schV x v] h Q := by
  refine WF_fn (fn := c110) rfl rfl ?_
  unfold c110
  ((try simp (maxSteps := 3000000) (dsimp := false) (disch := first | omega | (simp only [len_new, len_put, len_kill]; omega)) only [↓ypre, ypost, ↓reduceIte, Nat.reduceEqDiff, Nat.reduceAdd, Nat.reduceSub, Nat.reduceLeDiff, Nat.zero_add, Nat.sub_zero, ynew, schV, hv.one]); try simp only [yback])
  generalize hH1 : AH.new h _ = H1
  obtain ⟨hb1, p1, n1⟩ := new_facts hH1
  ((try simp (maxSteps := 3000000) (dsimp := false) (disch := first | omega | (simp only [len_new, len_put, len_kill]; omega)) only [↓ypre, ypost, ↓reduceIte, Nat.reduceEqDiff, Nat.reduceAdd, Nat.reduceSub, Nat.reduceLeDiff, Nat.zero_add, Nat.sub_zero, ynew, rdn_of hb1]); try simp only [yback])
  refine i_IsScheme (hv.pre p1) hl fun H2 p2 => ?_
  have hb2 := pre_get p2 hb1
  have hQ2 := hQ _ (p1.trans p2)
  unfold cdX at hQ2
  cases h1 : isX x with
  | false =>
    rw [h1, if_neg (by decide)] at hQ2
    ((try simp (maxSteps := 3000000) (dsimp := false) (disch := first | omega | (simp only [len_new, len_put, len_kill]; omega)) only [↓ypre, ypost, ↓reduceIte, Nat.reduceEqDiff, Nat.reduceAdd, Nat.reduceSub, Nat.reduceLeDiff, Nat.zero_add, Nat.sub_zero, ynew]); try simp only [yback])
    exact hQ2
  | true =>
    rw [h1, if_pos rfl] at hQ2
    by_cases h2 : x.ps.length = 0
    · rw [if_pos h2] at hQ2
      ((try simp (maxSteps := 3000000) (dsimp := false) (disch := first | omega | (simp only [len_new, len_put, len_kill]; omega)) only [↓ypre, ypost, ↓reduceIte, Nat.reduceEqDiff, Nat.reduceAdd, Nat.reduceSub, Nat.reduceLeDiff, Nat.zero_add, Nat.sub_zero, ynew, rd1_of hb2, (hv.pre (p1.trans p2)).1.len, decide_eq_true (show (x.ps.length : Int) = 0 by omega)]); try simp only [yback])
      exact hQ2
    · rw [if_neg h2] at hQ2
      ((try simp (maxSteps := 3000000) (dsimp := false) (disch := first | omega | (simp only [len_new, len_put, len_kill]; omega)) only [↓ypre, ypost, ↓reduceIte, Nat.reduceEqDiff, Nat.reduceAdd, Nat.reduceSub, Nat.reduceLeDiff, Nat.zero_add, Nat.sub_zero, ynew, rd1_of hb2, (hv.pre (p1.trans p2)).1.len, decide_eq_false (show ¬ (x.ps.length : Int) = 0 by omega)]); try simp only [yback])
      exact hQ2
/-- Three programs in one block. -/
structure Pr3 (h : AH) (nb : Nat) (x : Sch) (b : Bool) (v1 w1 v2 w2 v3 w3 : Value) : Prop where
  g : ∃ fl, h.get nb = some ⟨prgC (pgX x b 0) v1 w1 ++ prgC (pgX x b 1) v2 w2 ++ prgC (pgX x b 2) v3 w3, 48, false, fl⟩
  r1 : PrgR h v1 w1 (pgX x b 0)
  r2 : PrgR h v2 w2 (pgX x b 1)
  r3 : PrgR h v3 w3 (pgX x b 2)
section
variable {h h' : AH} {nb : Nat} {x : Sch} {b : Bool} {v1 w1 v2 w2 v3 w3 : Value}
theorem Pr3.pre (o : Pr3 h nb x b v1 w1 v2 w2 v3 w3) (p : h <+: h') : Pr3 h' nb x b v1 w1 v2 w2 v3 w3 :=
  ⟨by obtain ⟨fl, g⟩ := o.g; exact ⟨fl, pre_get p g⟩, o.r1.pre p, o.r2.pre p, o.r3.pre p⟩
theorem Pr3.at (o : Pr3 h nb x b v1 w1 v2 w2 v3 w3) {i : Nat} (hi : i < 3) : ∃ y z, h.rd1 nb (i * 4 + 2) = some y ∧ h.rdn nb (i * 4) 4 = some (prgC (pgX x b i) y z) ∧ PrgR h y z (pgX x b i) := by
  obtain ⟨fl, g⟩ := o.g
  have hc : i = 0 ∨ i = 1 ∨ i = 2 := by omega
  rcases hc with rfl | rfl | rfl
  · exact ⟨v1, w1, by rw [rd1_of g]; rfl, by rw [rdn_of g]; rfl, o.r1⟩
  · exact ⟨v2, w2, by rw [rd1_of g]; rfl, by rw [rdn_of g]; rfl, o.r2⟩
  · exact ⟨v3, w3, by rw [rd1_of g]; rfl, by rw [rdn_of g]; rfl, o.r3⟩
end
/-! ### The program's lists -/
theorem i_matrixOf {q : List Int} {n : Nat} {h : AH} {Q : Value → AH → Prop} (hq : By 9 q) (hn : 1 ≤ n ∧ n ≤ 9) (hQ : ∀ v' h', h <+: h' → OwnRows h h' v' [q.take n] → Q v' h') : WF S 156 [aggV .u8 q, I64 1, I64 n] h Q := by
  refine WF_fn (fn := c156) rfl rfl ?_
  unfold c156
  ((try simp (maxSteps := 3000000) (dsimp := false) (disch := first | omega | (simp only [len_new, len_put, len_kill]; omega)) only [↓ypre, ypost, ↓reduceIte, Nat.reduceEqDiff, Nat.reduceAdd, Nat.reduceSub, Nat.reduceLeDiff, Nat.zero_add, Nat.sub_zero, ynew, aggV, cel_all, cellsL_cel]); try simp only [yback])
  generalize hH1 : AH.new h _ = H1
  obtain ⟨hb1, p1, n1⟩ := new_facts hH1
  generalize hH2 : AH.new H1 _ = H2
  obtain ⟨hb2, p2, n2⟩ := new_facts hH2
  have l0 : Lst H2 H1.length (q.take 0) true := hb2
  have hq1 := hq.1
  ((try simp (maxSteps := 3000000) (dsimp := false) (disch := first | omega | (simp only [len_new, len_put, len_kill]; omega)) only [↓ypre, ypost, ↓reduceIte, Nat.reduceEqDiff, Nat.reduceAdd, Nat.reduceSub, Nat.reduceLeDiff, Nat.zero_add, Nat.sub_zero, ynew, Int.one_mul, wrap64_in]); try simp only [yback])
  refine WC_loop_inv (fun m f K1 => ∃ (i : Nat) (k : Nat) (fu : Bool), m = n - i ∧ i ≤ n ∧ f 2 = I64 n ∧ f 3 = .pointer (some ⟨h.length, 0, none⟩) ∧ f 7 = sl k (q.take i).length ∧ f 12 = I64 n ∧ f 13 = I64 i ∧ (H1 <+: K1) ∧ (Lst K1 k (q.take i) fu) ∧ (H1.length ≤ k)) ?_ (n - 0) _ _ ⟨0, H1.length, true, rfl, by omega, (by first | rfl | (simp [upd_apply]; done)), (by first | rfl | (simp [upd_apply]; done)), (by first | rfl | (simp [upd_apply]; done)), (by first | rfl | (simp [upd_apply]; done)), (by first | rfl | (simp [upd_apply]; done)), p2, l0, Nat.le_refl _⟩
  rintro m f K1 ⟨i, k, fu, rfl, hi, f2, f3, f7, f12, f13, pp, lo, hk⟩
  have hb := pre_get pp hb1
  by_cases hlt : (i : Int) < n
  · have hi' : i < n := by omega
    have g1 := cel_get (k := .u8) (q := q) (j := i) (by omega)
    have ixa := ixa_u (n := h.length) (off := 0) (len := 9) (kk := .i64) (j := i) (by omega)
    rw [Nat.zero_add] at ixa
    have b1 := hq.2 i (by omega)
    ((try simp (maxSteps := 3000000) (dsimp := false) (disch := first | omega | (simp only [len_new, len_put, len_kill]; omega)) only [↓ypre, ypost, ↓reduceIte, Nat.reduceEqDiff, Nat.reduceAdd, Nat.reduceSub, Nat.reduceLeDiff, Nat.zero_add, Nat.sub_zero, ynew, f2, f3, f7, f12, f13, decide_eq_true hlt, ixa, rd1_of hb, g1, wrap64_in]); try simp only [yback])
    refine lo.app3 (by rw [List.length_take]; omega) fun H5 l5 pre5 keep5 lo5 => ?_
    have et : q.take i ++ [q.getD i 0] = q.take (i + 1) := (take_next (by omega)).symm
    ((try simp (maxSteps := 3000000) (dsimp := false) (disch := first | omega | (simp only [len_new, len_put, len_kill]; omega)) only [↓ypre, ypost, ↓reduceIte, Nat.reduceEqDiff, Nat.reduceAdd, Nat.reduceSub, Nat.reduceLeDiff, Nat.zero_add, Nat.sub_zero, ynew, f2, f3, f7, f12, f13, wrap64_in]); try simp only [yback])
    refine InvQ_go (n - (i + 1)) (by omega) ⟨(i + 1), (K1.length + 1), false, rfl, by omega, (by first | rfl | exact f2 | (simp only [upd_apply]; rfl) | (show I64 _ = _; congr 1; omega)), (by first | rfl | exact f3 | (simp only [upd_apply]; rfl) | (show I64 _ = _; congr 1; omega)), (by rw [← et]; rfl), (by first | rfl | exact f12 | (simp only [upd_apply]; rfl) | (show I64 _ = _; congr 1; omega)), (by first | rfl | exact f13 | (simp only [upd_apply]; rfl) | (show I64 _ = _; congr 1; omega)), (pre5 _ hk pp), (by rw [← et]; exact lo5), (by have := pre_len pp; omega)⟩
  have ei : i = n := by omega
  subst ei
  ((try simp (maxSteps := 3000000) (dsimp := false) (disch := first | omega | (simp only [len_new, len_put, len_kill]; omega)) only [↓ypre, ypost, ↓reduceIte, Nat.reduceEqDiff, Nat.reduceAdd, Nat.reduceSub, Nat.reduceLeDiff, Nat.zero_add, Nat.sub_zero, ynew, f2, f3, f7, f12, f13, decide_eq_false hlt]); try simp only [yback])
  have ql : (q.take i).length = i := by rw [List.length_take]; omega
  refine i_parted (w := i) (n := 1) lo.ints (by omega) (by omega) (by omega) fun v' H3 p3 o3 => ?_
  ((try simp (maxSteps := 3000000) (dsimp := false) (disch := first | omega | (simp only [len_new, len_put, len_kill]; omega)) only [↓ypre, ypost, ↓reduceIte, Nat.reduceEqDiff, Nat.reduceAdd, Nat.reduceSub, Nat.reduceLeDiff, Nat.zero_add, Nat.sub_zero, ynew, f2, f3, f7, f12, f13]); try simp only [yback])
  have ep : parts (q.take i) i 1 = [q.take i] := by
    unfold parts
    show [(((q.take i).drop (0 * i)).take i)] = _
    rw [Nat.zero_mul, List.drop_zero, List.take_take, Nat.min_self]
  rw [ep] at o3
  exact hQ _ _ ((p1.trans pp).trans p3) (o3.lo (by have := pre_len (p1.trans pp); omega))
theorem OwnRows.one_row {h0 h : AH} {v : Value} {r : List Int} (o : OwnRows h0 h v [r]) (hr : r ≠ []) : ∃ nb kr fu, ixsV 1 v (I64 0) = some (.pointer (some ⟨nb, 0, none⟩)) ∧ h.rd1 nb 0 = some (sl kr r.length) ∧ h0.length ≤ kr ∧ OwnB h kr (r.map (Value.int .i64)) fu := by
  rcases o with ⟨_, e⟩ | ⟨n, e, full, cs, h1, rfl, h2, h3, h4, _⟩
  · cases e
  · have hl : cs.length = 1 := by simpa using h3
    obtain ⟨q1, _⟩ := h4 0 (by simp)
    have e0 : cs.getD 0 undef = cs.getD 0 undef := rfl
    rcases q1 with ⟨_, e2⟩ | ⟨kb, e2, fu, g1, g2, g3⟩
    · exact absurd e2 hr
    · refine ⟨n, kb, fu, ?_, ?_, g1, e2, g3⟩
      · rw [hl]
        rfl
      · rw [rd1_of h2]
        show cs[0]? = _
        have : cs[0]? = some (cs.getD 0 undef) := by
          rw [List.getD_eq_getElem?_getD, List.getElem?_eq_getElem (by omega)]
          rfl
        rw [this, g2]
        rfl
theorem i_lists {v : Value} {x : Sch} {i n : Nat} {h : AH} {Q : Value → AH → Prop} (hv : Prods h v x.ps) (hl : x.ps.length ≤ 30) (hi : i < 3) (hn : 1 ≤ n ∧ n ≤ 9)
    (hQ : ∀ v' h', h <+: h' → Rows h' v' (lsF x i n) → Q v' h') : WF S 145 [schV x v, I64 i, I64 n] h Q := by
  refine WF_fn (fn := c145) rfl rfl ?_
  unfold c145
  ((try simp (maxSteps := 3000000) (dsimp := false) (disch := first | omega | (simp only [len_new, len_put, len_kill]; omega)) only [↓ypre, ypost, ↓reduceIte, Nat.reduceEqDiff, Nat.reduceAdd, Nat.reduceSub, Nat.reduceLeDiff, Nat.zero_add, Nat.sub_zero, ynew, schV, hv.one]); try simp only [yback])
  generalize hH1 : AH.new h _ = H1
  obtain ⟨hb1, p1, n1⟩ := new_facts hH1
  generalize hH2 : AH.new H1 _ = H2
  obtain ⟨hb2, p2, n2⟩ := new_facts hH2
  ((try simp (maxSteps := 3000000) (dsimp := false) (disch := first | omega | (simp only [len_new, len_put, len_kill]; omega)) only [↓ypre, ypost, ↓reduceIte, Nat.reduceEqDiff, Nat.reduceAdd, Nat.reduceSub, Nat.reduceLeDiff, Nat.zero_add, Nat.sub_zero, ynew, rd1_of (pre_get p2 hb1), (hv.pre (p1.trans p2)).1.len]); try simp only [yback])
  have z27 := zeros27
  refine WC_loop_inv (fun m f K1 => ∃ (j : Nat) (nb : Nat) (fl : Bool) (L : List (Nat × List Int)), m = x.ps.length - j ∧ j ≤ x.ps.length ∧ f 1 = I64 i ∧ f 2 = I64 n ∧ f 3 = .pointer (some ⟨h.length, 0, none⟩) ∧ f 7 = sl nb L.length ∧ f 12 = v ∧ f 13 = I64 x.ps.length ∧ f 14 = I64 j ∧ (TabS H1 K1 nb fl L) ∧ (L.map Prod.snd = (lsF x i n).take j)) ?_ (x.ps.length - 0) _ _ ⟨0, H1.length, true, [], rfl, by omega, (by first | rfl | (simp [upd_apply]; done)), (by first | rfl | (simp [upd_apply]; done)), (by first | rfl | (simp [upd_apply]; done)), (by first | rfl | (simp [upd_apply]; done)), (by first | rfl | (simp [upd_apply]; done)), (by first | rfl | (simp [upd_apply]; done)), (by first | rfl | (simp [upd_apply]; done)), ⟨p2, Nat.le_refl _, hb2, by simp, by simp⟩, (by simp)⟩
  rintro m f K1 ⟨j, nb, fl, L, rfl, hj, f1, f2, f3, f7, f12, f13, f14, st, hL⟩
  have hLl : L.length = j := by
    have := congrArg List.length hL
    rw [List.length_map, List.length_take, lsF_len] at this
    omega
  have lt := st.lt
  have kh := pre_len st.hp
  have hvK := hv.pre (p1.trans st.hp)
  by_cases hlt : (j : Int) < x.ps.length
  · have hj' : j < x.ps.length := by omega
    obtain ⟨n5', off5, hix, hrn, hr1⟩ := hvK.1.at hj'
    have r27 := hrn 0 27 (by omega)
    have wi := hvK.1.wid hj'
    have hby := hvK.by hj'
    have tk : (x.ps.getD j []).take 27 = x.ps.getD j [] := List.take_of_length_le (by omega)
    rw [List.drop_zero, tk, Nat.add_zero] at r27
    have eg := lsF_get (x := x) (i := i) (n := n) hj'
    generalize hq : x.ps.getD j [] = q at *
    have w1 : ∀ (h1 : AH) (e : TypeId), (h1.new ⟨[.int .u8 0, .int .u8 0, .int .u8 0, .int .u8 0, .int .u8 0, .int .u8 0, .int .u8 0, .int .u8 0, .int .u8 0, .int .u8 0, .int .u8 0, .int .u8 0, .int .u8 0, .int .u8 0, .int .u8 0, .int .u8 0, .int .u8 0, .int .u8 0, .int .u8 0, .int .u8 0, .int .u8 0, .int .u8 0, .int .u8 0, .int .u8 0, .int .u8 0, .int .u8 0, .int .u8 0], e, false, true⟩).wr h1.length 0 (cel .u8 q) = some (h1.new ⟨cel .u8 q, e, false, true⟩) := fun h1 e => wr_all (by rw [cel_len, wi]; rfl)
    ((try simp (maxSteps := 3000000) (dsimp := false) (disch := first | omega | (simp only [len_new, len_put, len_kill]; omega)) only [↓ypre, ypost, ↓reduceIte, Nat.reduceEqDiff, Nat.reduceAdd, Nat.reduceSub, Nat.reduceLeDiff, Nat.zero_add, Nat.sub_zero, ynew, f1, f2, f3, f7, f12, f13, f14, decide_eq_true hlt, hix, r27, cel_all, cellsL_cel, cel_len, wi, ↓w1, cel_take, tk, wrap64_in]); try simp only [yback])
    generalize hH3 : AH.new K1 _ = H3
    obtain ⟨hb3, p3, n3⟩ := new_facts hH3
    refine i_factors wi fun H4 p4 => ?_
    have e1 : idxnV 3 9 (aggV .u8 q) (I64 i) = some (.agg (cel .u8 (seg q i)).toArray) := by
      simp only [idxnV, aggV, toL, Int.toNat_natCast, cel_len, wi]
      rw [if_pos ⟨by omega, by omega, by omega⟩]
      simp only [cel_drop, cel_take]
      rfl
    ((try simp (maxSteps := 3000000) (dsimp := false) (disch := first | omega | (simp only [len_new, len_put, len_kill]; omega)) only [↓ypre, ypost, ↓reduceIte, Nat.reduceEqDiff, Nat.reduceAdd, Nat.reduceSub, Nat.reduceLeDiff, Nat.zero_add, Nat.sub_zero, ynew, f1, f2, f3, f7, f12, f13, f14, e1]); try simp only [yback])
    refine i_matrixOf (hby.seg hi) hn fun v5 H5 p5 o5 => ?_
    have p35 := p3.trans (p4.trans p5)
    have k4 := pre_len p4
    have sgl := (hby.seg hi).1
    obtain ⟨nb5, kr, fr, ix0, rd0, hkr, ob⟩ := o5.one_row (by
      intro e
      have := congrArg List.length e
      rw [List.length_take, sgl, List.length_nil] at this
      omega)
    ((try simp (maxSteps := 3000000) (dsimp := false) (disch := first | omega | (simp only [len_new, len_put, len_kill]; omega)) only [↓ypre, ypost, ↓reduceIte, Nat.reduceEqDiff, Nat.reduceAdd, Nat.reduceSub, Nat.reduceLeDiff, Nat.zero_add, Nat.sub_zero, ynew, f1, f2, f3, f7, f12, f13, f14, ix0, rd0, sl_cells, sl_one]); try simp only [yback])
    refine (st.pre p35).app2 ⟨by omega, by omega, fun q hq => by have := lt.2 q hq; omega⟩ ob (by omega) fun nb' H' st' l' e' own' pre' => ?_
    ((try simp (maxSteps := 3000000) (dsimp := false) (disch := first | omega | (simp only [len_new, len_put, len_kill]; omega)) only [↓ypre, ypost, ↓reduceIte, Nat.reduceEqDiff, Nat.reduceAdd, Nat.reduceSub, Nat.reduceLeDiff, Nat.zero_add, Nat.sub_zero, ynew, f1, f2, f3, f7, f12, f13, f14, wrap64_in]); try simp only [yback])
    refine InvQ_go (x.ps.length - (j + 1)) (by omega) ⟨(j + 1), nb', false, (L ++ [(kr, (seg q i).take n)]), rfl, by omega, (by first | rfl | exact f1 | (simp only [upd_apply]; rfl) | (show I64 _ = _; congr 1; omega)), (by first | rfl | exact f2 | (simp only [upd_apply]; rfl) | (show I64 _ = _; congr 1; omega)), (by first | rfl | exact f3 | (simp only [upd_apply]; rfl) | (show I64 _ = _; congr 1; omega)), (by first | rfl | exact f7 | (simp only [upd_apply]; rfl) | (show I64 _ = _; congr 1; omega)), (by first | rfl | exact f12 | (simp only [upd_apply]; rfl) | (show I64 _ = _; congr 1; omega)), (by first | rfl | exact f13 | (simp only [upd_apply]; rfl) | (show I64 _ = _; congr 1; omega)), (by first | rfl | exact f14 | (simp only [upd_apply]; rfl) | (show I64 _ = _; congr 1; omega)), st', (by rw [List.map_append, hL, take_next (d := []) (by rw [lsF_len]; exact hj'), eg]; rfl)⟩
  have ej : j = x.ps.length := by omega
  subst ej
  rw [List.take_of_length_le (by rw [lsF_len]; exact Nat.le_refl _)] at hL
  ((try simp (maxSteps := 3000000) (dsimp := false) (disch := first | omega | (simp only [len_new, len_put, len_kill]; omega)) only [↓ypre, ypost, ↓reduceIte, Nat.reduceEqDiff, Nat.reduceAdd, Nat.reduceSub, Nat.reduceLeDiff, Nat.zero_add, Nat.sub_zero, ynew, f1, f2, f3, f7, f12, f13, f14, decide_eq_false hlt]); try simp only [yback])
  have o := st.own
  rw [hL] at o
  exact hQ _ _ (p1.trans st.hp) o.rows
end Go.Proofs.Ytilpnbejpndgpaa.X

/- The programs of a scheme, and StepsOf: the program. -/
set_option linter.unusedVariables false
set_option linter.unusedSimpArgs false
set_option maxRecDepth 20000
set_option maxHeartbeats 4000000
namespace Go.Proofs.Ytilpnbejpndgpaa.X
open Go Go.RowKit

theorem xres_nil {f : Fr} {h : AH} : xres f h [] = some (.tuple #[]) := rfl
theorem InE.move {k : IntKind} {w a b : Nat} {h h' : AH} {v : Value} {L : List (List Int)} (o : InE k w a b h v L) (hk : ∀ m bl, a ≤ m → m < b → h.get m = some bl → h'.get m = some bl) : InE k w a b h' v L := by
  rcases o with o | ⟨m, e, full, h1, rfl, h2, h3⟩
  · exact .inl o
  · exact .inr ⟨m, e, full, h1, rfl, hk _ _ h1.1 h1.2 h2, h3⟩
theorem InP.move {a b : Nat} {h h' : AH} {v w : Value} {x : Prg} (o : InP a b h v w x) (hk : ∀ m bl, a ≤ m → m < b → h.get m = some bl → h'.get m = some bl) : InP a b h' v w x := by
  obtain ⟨c, h1, h2, h3, h4⟩ := o
  exact ⟨c, h1, h2, h3.move fun m bl q1 q2 g => hk m bl q1 (by omega) g, h4.move fun m bl q1 q2 g => hk m bl (by omega) q2 g⟩
theorem i_made {u : Value} {p n xn xm xk : Int} {xv : Value} {b : Bool} {rows : List (List Int)} {ms mo mx nb k : Nat} {eS eX eO : TypeId} {fl : Bool} {c : List Value} {h : AH} {Q : Value → AH → Prop} (hu : Rows h u rows) (hok : lsOK p n rows = true)
    (gS : h.get ms = some ⟨[.bool b], eS, false, true⟩) (gX : h.get mx = some ⟨[I64 p, I64 xn, I64 xm, I64 xk, xv], eX, false, true⟩) (gO : h.get mo = some ⟨[.slice (some ⟨nb, 0, none⟩) k 4], eO, false, true⟩) (gB : h.get nb = some ⟨c, 48, false, fl⟩) (hc : c.length = k * 4) (hk : k ≤ 3) (hne : mo ≠ nb)
    (hQ : ∀ (val : Value) (nb' : Nat) (v' w' : Value) (h' : AH), h.length ≤ nb' → nb' < h'.length → h'.get nb' = some ⟨c ++ prgC (pgO p n rows b) v' w', 48, false, false⟩ → h'.get mo = some ⟨[.slice (some ⟨nb', 0, none⟩) (k + 1) 4], eO, false, true⟩ → InP h.length nb' h' v' w' (pgO p n rows b) → (∀ m bl, m ≠ nb → m ≠ mo → h.get m = some bl → h'.get m = some bl) → (∀ h0 : AH, h0.length ≤ nb → h0.length ≤ mo → h0 <+: h → h0 <+: h') → Q val h') : WF S 144 [I64 n, u, .pointer (some ⟨ms, 0, none⟩), .pointer (some ⟨mo, 0, none⟩), .pointer (some ⟨mx, 0, none⟩)] h Q := by
  refine WF_fn (fn := c144) rfl rfl ?_
  unfold c144
  have hlen := hok
  have ltO := get_lt gO
  have ltB := get_lt gB
  have tail : ∀ (P : Prg) (v' w' : Value) (H : AH), h <+: H → ∃ H2 : AH, appV (48) 4 64 (.slice (some ⟨nb, 0, none⟩) k 4) (.slice (some ⟨H.length, 0, none⟩) 1 4) (H.new ⟨[I64 P.p, I64 P.n, v', w'], 48, false, true⟩) = some (.slice (some ⟨H.length + 1, 0, none⟩) (k + 1) 4, H2) ∧
      H2.length = H.length + 2 ∧ H2.get (H.length + 1) = some ⟨c ++ prgC P v' w', 48, false, false⟩ ∧ (∀ m bl, m ≠ nb → H.get m = some bl → H2.get m = some bl) ∧ (∀ h0 : AH, h0.length ≤ nb → h0 <+: H → h0 <+: H2) := by
    intro P v' w' H pH
    have hr : (H.new ⟨[I64 P.p, I64 P.n, v', w'], 48, false, true⟩).rdn H.length 0 4 = some [I64 P.p, I64 P.n, v', w'] := by
      rw [rdn_of get_new_same]
      rfl
    have hkk : (H.new ⟨[I64 P.p, I64 P.n, v', w'], 48, false, true⟩).get nb = some ⟨c, 48, false, fl⟩ := get_new_any (pre_get pH gB)
    refine ⟨((H.new ⟨[I64 P.p, I64 P.n, v', w'], 48, false, true⟩).kill nb).new ⟨c ++ [I64 P.p, I64 P.n, v', w'], 48, false, false⟩, ?_, ?_, ?_, ?_, ?_⟩
    · rw [app_ownW hkk hc hr (by omega), len_new]
    · rw [len_new, len_kill, len_new]
    · rw [get_new_eq (by rw [len_kill, len_new])]
      rfl
    · intro m bl hm g
      exact get_new_any (by rw [get_kill_ne (fun e => hm e.symm)]; exact get_new_any g)
    · intro h0 hh q
      exact pre_new (pre_kill (pre_new q) hh)
  unfold pgO at hQ
  cases b with
  | true =>
    rw [if_pos rfl] at hQ
    ((try simp (maxSteps := 3000000) (dsimp := false) (disch := first | omega | (simp only [len_new, len_put, len_kill]; omega)) only [↓ypre, ypost, ↓reduceIte, Nat.reduceEqDiff, Nat.reduceAdd, Nat.reduceSub, Nat.reduceLeDiff, Nat.zero_add, Nat.sub_zero, ynew, rd1_of gS, rd1_of gO, rd1_of gX]); try simp only [yback])
    refine i_sharedProgram hu hok fun v' w' H' pH o ob => ?_
    obtain ⟨H2, e2, l2, g2, k2, pre2⟩ := tail (shP p n rows) v' w' H' pH
    have gO2 := k2 _ _ hne (pre_get pH gO)
    have lh := pre_len pH
    have lt2 := get_lt gO2
    ((try simp (maxSteps := 3000000) (dsimp := false) (disch := first | omega | (simp only [len_new, len_put, len_kill]; omega)) only [↓ypre, ypost, ↓reduceIte, Nat.reduceEqDiff, Nat.reduceAdd, Nat.reduceSub, Nat.reduceLeDiff, Nat.zero_add, Nat.sub_zero, ynew, prgV, o.st.one, o.st.cells, o.out.one, o.out.cells, fillL]); try simp only [yback])
    refine ⟨pH, ?_⟩
    ((try simp (maxSteps := 3000000) (dsimp := false) (disch := first | omega | (simp only [len_new, len_put, len_kill]; omega)) only [↓ypre, ypost, ↓reduceIte, Nat.reduceEqDiff, Nat.reduceAdd, Nat.reduceSub, Nat.reduceLeDiff, Nat.zero_add, Nat.sub_zero, ynew, e2, wr_of gO2, xres_nil]); try simp only [yback])
    refine hQ _ (H'.length + 1) v' w' _ (by omega) (by rw [len_put]; omega) (by rw [get_put_ne (by omega)]; exact g2) (get_put_same lt2) (((o.inP ob lh).mono (Nat.le_refl _) (by omega)).move fun m bl q1 q2 g => ?_) (fun m bl q1 q2 g => by rw [get_put_ne (fun e => q2 e.symm)]; exact k2 m bl q1 (pre_get pH g)) (fun h0 q1 q2 q => pre_put (pre2 h0 q1 (q.trans pH)) q2)
    rw [get_put_ne (by omega)]
    exact k2 m bl (by omega) g
  | false =>
    rw [if_neg (by decide)] at hQ
    obtain ⟨hp, hn, hl, hmm⟩ := lsOK_iff.1 hok
    ((try simp (maxSteps := 3000000) (dsimp := false) (disch := first | omega | (simp only [len_new, len_put, len_kill]; omega)) only [↓ypre, ypost, ↓reduceIte, Nat.reduceEqDiff, Nat.reduceAdd, Nat.reduceSub, Nat.reduceLeDiff, Nat.zero_add, Nat.sub_zero, ynew, rd1_of gS, rd1_of gO, rd1_of gX]); try simp only [yback])
    have o0 : Way2 h h.length (.slice none 0 0) (.slice none 0 0) ⟨p, n, [], []⟩ := ⟨⟨fun r hr => by simp at hr, .inl ⟨rfl, rfl⟩⟩, ⟨fun r hr => by simp at hr, .inl ⟨rfl, rfl⟩⟩⟩
    rw [show Value.agg #[I64 p, I64 n, .slice none 0 0, .slice none 0 0] = prgV ⟨p, n, [], []⟩ (.slice none 0 0) (.slice none 0 0) from rfl]
    refine i_finished hp hn o0 (Nat.le_refl _) hu.stays (fun i hi => ⟨(isMat_iff.1 hmm i hi).2, by have := (isMat_iff.1 hmm i hi).1; omega⟩) (by omega) (by simp) (by simp) fun v' w' H' sy o ob => ?_
    have pH : h <+: H' := sy.pre _ (Nat.le_refl _) (List.prefix_refl _)
    have ob := ob (by omega)
    obtain ⟨H2, e2, l2, g2, k2, pre2⟩ := tail (finP ⟨p, n, [], []⟩ rows rows.length) v' w' H' pH
    have gO2 := k2 _ _ hne (pre_get pH gO)
    have lh := pre_len pH
    have lt2 := get_lt gO2
    ((try simp (maxSteps := 3000000) (dsimp := false) (disch := first | omega | (simp only [len_new, len_put, len_kill]; omega)) only [↓ypre, ypost, ↓reduceIte, Nat.reduceEqDiff, Nat.reduceAdd, Nat.reduceSub, Nat.reduceLeDiff, Nat.zero_add, Nat.sub_zero, ynew, prgV, o.st.one, o.st.cells, o.out.one, o.out.cells, fillL]); try simp only [yback])
    refine ⟨pH, ?_⟩
    ((try simp (maxSteps := 3000000) (dsimp := false) (disch := first | omega | (simp only [len_new, len_put, len_kill]; omega)) only [↓ypre, ypost, ↓reduceIte, Nat.reduceEqDiff, Nat.reduceAdd, Nat.reduceSub, Nat.reduceLeDiff, Nat.zero_add, Nat.sub_zero, ynew, e2, wr_of gO2, xres_nil]); try simp only [yback])
    refine hQ _ (H'.length + 1) v' w' _ (by omega) (by rw [len_put]; omega) (by rw [get_put_ne (by omega)]; exact g2) (get_put_same lt2) (((o.inP ob lh).mono (Nat.le_refl _) (by omega)).move fun m bl q1 q2 g => ?_) (fun m bl q1 q2 g => by rw [get_put_ne (fun e => q2 e.symm)]; exact k2 m bl q1 (pre_get pH g)) (fun h0 q1 q2 q => pre_put (pre2 h0 q1 (q.trans pH)) q2)
    rw [get_put_ne (by omega)]
    exact k2 m bl (by omega) g
theorem i_programsOf {v : Value} {x : Sch} {b : Bool} {h : AH} {Q : Value → AH → Prop} (hv : Prods h v x.ps) (hx : isX x = true) (h0 : 1 ≤ x.ps.length)
    (hQ : ∀ (nb c1 c2 : Nat) (h' : AH) (v1 w1 v2 w2 v3 w3 : Value), h <+: h' → (∃ fl, h'.get nb = some ⟨prgC (pgX x b 0) v1 w1 ++ prgC (pgX x b 1) v2 w2 ++ prgC (pgX x b 2) v3 w3, 48, false, fl⟩) → h.length ≤ c1 → InP h.length c1 h' v1 w1 (pgX x b 0) → InP c1 c2 h' v2 w2 (pgX x b 1) → InP c2 nb h' v3 w3 (pgX x b 2) → Q (.slice (some ⟨nb, 0, none⟩) 3 4) h') : WF S 111 [schV x v, .bool b] h Q := by
  refine WF_fn (fn := c111) rfl rfl ?_
  unfold c111
  obtain ⟨z, hp, hl, ho⟩ := isX_facts hx
  have zn := z.nm
  have zm := z.mk2
  have zk := z.nk
  ((try simp (maxSteps := 3000000) (dsimp := false) (disch := first | omega | (simp only [len_new, len_put, len_kill]; omega)) only [↓ypre, ypost, ↓reduceIte, Nat.reduceEqDiff, Nat.reduceAdd, Nat.reduceSub, Nat.reduceLeDiff, Nat.zero_add, Nat.sub_zero, ynew, schV, hv.one]); try simp only [yback])
  generalize hH1 : AH.new h _ = H1
  obtain ⟨hb1, p1, n1⟩ := new_facts hH1
  generalize hH2 : AH.new H1 _ = H2
  obtain ⟨hb2, p2, n2⟩ := new_facts hH2
  ((try simp (maxSteps := 3000000) (dsimp := false) (disch := first | omega | (simp only [len_new, len_put, len_kill]; omega)) only [↓ypre, ypost, ↓reduceIte, Nat.reduceEqDiff, Nat.reduceAdd, Nat.reduceSub, Nat.reduceLeDiff, Nat.zero_add, Nat.sub_zero, ynew, rdn_of (pre_get p2 hb1)]); try simp only [yback])
  refine i_placesOf (x := x) hv.one z fun H3 p3 => ?_
  ((try simp (maxSteps := 3000000) (dsimp := false) (disch := first | omega | (simp only [len_new, len_put, len_kill]; omega)) only [↓ypre, ypost, ↓reduceIte, Nat.reduceEqDiff, Nat.reduceAdd, Nat.reduceSub, Nat.reduceLeDiff, Nat.zero_add, Nat.sub_zero]); try simp only [yback])
  generalize hH4 : AH.new H3 _ = H4
  obtain ⟨hb4, p4, n4⟩ := new_facts hH4
  generalize hH5 : AH.new H4 _ = H5
  obtain ⟨hb5, p5, n5⟩ := new_facts hH5
  ((try simp (maxSteps := 3000000) (dsimp := false) (disch := first | omega | (simp only [len_new, len_put, len_kill]; omega)) only [↓ypre, ypost, ↓reduceIte, Nat.reduceEqDiff, Nat.reduceAdd, Nat.reduceSub, Nat.reduceLeDiff, Nat.zero_add, Nat.sub_zero, wr_of hb5]); try simp only [yback])
  generalize hHP : AH.put H5 _ _ = HP
  have lP : HP.length = H5.length := by rw [← hHP, len_put]
  rw [← lP]
  obtain ⟨e5, g5⟩ : ∃ e5, HP.get H4.length = some ⟨[I64 (x.n * x.m), I64 (x.m * x.k), I64 (x.n * x.k)], e5, false, true⟩ := ⟨_, by rw [← hHP]; exact get_put_same (get_lt hb5)⟩
  have g4 : HP.get H3.length = some ⟨[], 48, false, true⟩ := by rw [← hHP, get_put_ne (by omega)]; exact pre_get p5 hb4
  have pP : H3 <+: HP := by rw [← hHP]; exact pre_put (p4.trans p5) (by omega)
  obtain ⟨a, ha⟩ : ∃ a : Nat, x.n * x.m = a := ⟨(x.n * x.m).toNat, by omega⟩
  obtain ⟨b', hb'⟩ : ∃ b' : Nat, x.m * x.k = b' := ⟨(x.m * x.k).toNat, by omega⟩
  obtain ⟨c', hc'⟩ : ∃ c' : Nat, x.n * x.k = c' := ⟨(x.n * x.k).toNat, by omega⟩
  have eA : fmX x 0 = lsF x 0 a := by
    show lsF x 0 (x.n * x.m).toNat = _
    rw [ha, Int.toNat_natCast]
  have eB : fmX x 1 = lsF x 1 b' := by
    show lsF x 1 (x.m * x.k).toNat = _
    rw [hb', Int.toNat_natCast]
  have eC : fmX x 2 = trL (lsF x 2 c') c' := by
    show trL (lsF x 2 (x.n * x.k).toNat) (x.n * x.k).toNat = _
    rw [hc', Int.toNat_natCast]
  have okA : lsOK x.p (x.n * x.m) (fmX x 0) = true := fmX_ok hv hx h0 (i := 0) (by omega)
  have okB : lsOK x.p (x.m * x.k) (fmX x 1) = true := fmX_ok hv hx h0 (i := 1) (by omega)
  have okC : lsOK x.p (x.ps.length : Int) (fmX x 2) = true := fmX_ok hv hx h0 (i := 2) (by omega)
  rw [ha] at g5 okA
  rw [hb'] at g5 okB
  rw [hc'] at g5
  rw [eA] at okA
  rw [eB] at okB
  have ia0 : ixaV 3 1 (.pointer (some ⟨H4.length, 0, none⟩)) (I64 0) = some (.pointer (some ⟨H4.length, 0, none⟩)) := by
    have := ixa_u (n := H4.length) (off := 0) (len := 3) (kk := .i64) (j := 0) (by omega)
    simpa using this
  have ia1 : ixaV 3 1 (.pointer (some ⟨H4.length, 0, none⟩)) (I64 1) = some (.pointer (some ⟨H4.length, 1, none⟩)) := by
    have := ixa_u (n := H4.length) (off := 0) (len := 3) (kk := .i64) (j := 1) (by omega)
    simpa using this
  have ia2 : ixaV 3 1 (.pointer (some ⟨H4.length, 0, none⟩)) (I64 2) = some (.pointer (some ⟨H4.length, 2, none⟩)) := by
    have := ixa_u (n := H4.length) (off := 0) (len := 3) (kk := .i64) (j := 2) (by omega)
    simpa using this
  ((try simp (maxSteps := 3000000) (dsimp := false) (disch := first | omega | (simp only [len_new, len_put, len_kill]; omega)) only [↓ypre, ypost, ↓reduceIte, Nat.reduceEqDiff, Nat.reduceAdd, Nat.reduceSub, Nat.reduceLeDiff, Nat.zero_add, Nat.sub_zero, ynew]); try simp only [yback])
  generalize hH6 : AH.new HP _ = H6
  obtain ⟨hb6, p6, n6⟩ := new_facts hH6
  have p13 := ((p1.trans p2).trans p3).trans (pP.trans p6)
  have x6 := pre_get (p2.trans (p3.trans (pP.trans p6))) hb1
  have s6 := pre_get (p3.trans (pP.trans p6)) hb2
  have g56 := pre_get p6 g5
  have g46 := pre_get p6 g4
  have hv6 := hv.pre p13
  have k3 := pre_len p3
  ((try simp (maxSteps := 3000000) (dsimp := false) (disch := first | omega | (simp only [len_new, len_put, len_kill]; omega)) only [↓ypre, ypost, ↓reduceIte, Nat.reduceEqDiff, Nat.reduceAdd, Nat.reduceSub, Nat.reduceLeDiff, Nat.zero_add, Nat.sub_zero, ynew, ia0, rd1_of g56, rdn_of x6]); try simp only [yback])
  refine i_lists (x := x) (i := 0) (n := a) hv6 hl (by omega) (by omega) fun u1 H7 p7 r1 => ?_
  ((try simp (maxSteps := 3000000) (dsimp := false) (disch := first | omega | (simp only [len_new, len_put, len_kill]; omega)) only [↓ypre, ypost, ↓reduceIte, Nat.reduceEqDiff, Nat.reduceAdd, Nat.reduceSub, Nat.reduceLeDiff, Nat.zero_add, Nat.sub_zero, ynew, WK_func]); try simp only [yback])
  have k7 := pre_len p7
  have l3 := get_lt hb4
  have nP := pre_len pP
  have pP3 : H3 <+: H6 := pP.trans p6
  refine ⟨p7, ?_⟩
  refine i_made (p := x.p) (n := a) (rows := lsF x 0 a) (k := 0) (c := []) (ms := H1.length) (mx := h.length) (mo := HP.length) (nb := H3.length) (b := b) r1 okA (pre_get p7 s6) (pre_get p7 x6) (pre_get p7 hb6) (pre_get p7 g46) rfl (by omega) (by omega) fun val1 nb1 v1 w1 H8 ln8 lt8 g8 gO8 i8 keep8 pre8 => ?_
  have q38 : H3 <+: H8 := pre8 H3 (Nat.le_refl _) (by omega) (pP3.trans p7)
  have g58 := keep8 _ _ (by omega) (by omega) (pre_get p7 g56)
  have x3 := pre_get (p2.trans p3) hb1
  have s3 := pre_get p3 hb2
  have x8 := pre_get q38 x3
  have hv8 := hv6.pre (h' := H6) (List.prefix_refl _)
  have p3h := (p1.trans p2).trans p3
  ((try simp (maxSteps := 3000000) (dsimp := false) (disch := first | omega | (simp only [len_new, len_put, len_kill]; omega)) only [↓ypre, ypost, ↓reduceIte, Nat.reduceEqDiff, Nat.reduceAdd, Nat.reduceSub, Nat.reduceLeDiff, Nat.zero_add, Nat.sub_zero, ynew, ia1, rd1_of g58, rdn_of x8]); try simp only [yback])
  refine i_lists (x := x) (i := 1) (n := b') (hv.pre (p3h.trans q38)) hl (by omega) (by omega) fun u2 H9 p9 r2 => ?_
  ((try simp (maxSteps := 3000000) (dsimp := false) (disch := first | omega | (simp only [len_new, len_put, len_kill]; omega)) only [↓ypre, ypost, ↓reduceIte, Nat.reduceEqDiff, Nat.reduceAdd, Nat.reduceSub, Nat.reduceLeDiff, Nat.zero_add, Nat.sub_zero, ynew, WK_func]); try simp only [yback])
  refine ⟨p9, ?_⟩
  have k9 := pre_len p9
  have h3lt := pre_len p3h
  have x9 := pre_get p9 x8
  have s9 := pre_get (q38.trans p9) s3
  have ltx := get_lt hb1
  have lts := get_lt hb2
  have ka := pre_len p1
  have kb := pre_len p2
  refine i_made (p := x.p) (n := b') (rows := lsF x 1 b') (k := 1) (ms := H1.length) (mx := h.length) (mo := HP.length) (nb := nb1) (b := b) r2 okB s9 x9 (pre_get p9 gO8) (pre_get p9 g8) rfl (by omega) (by omega) fun val2 nb2 v2 w2 H10 ln10 lt10 g10 gO10 i10 keep10 pre10 => ?_
  have q310 : H3 <+: H10 := pre10 H3 (by omega) (by omega) (q38.trans p9)
  have g510 := keep10 _ _ (by omega) (by omega) (pre_get p9 g58)
  have x10 := pre_get q310 x3
  have i8' := (i8.pre p9).move (h' := H10) fun m bl e1 e2 g => keep10 m bl (by omega) (by omega) g
  ((try simp (maxSteps := 3000000) (dsimp := false) (disch := first | omega | (simp only [len_new, len_put, len_kill]; omega)) only [↓ypre, ypost, ↓reduceIte, Nat.reduceEqDiff, Nat.reduceAdd, Nat.reduceSub, Nat.reduceLeDiff, Nat.zero_add, Nat.sub_zero, ynew, rd1_of x10, rdn_of x10, ia2, rd1_of g510, (hv.pre (p3h.trans q310)).1.len]); try simp only [yback])
  refine i_lists (x := x) (i := 2) (n := c') (hv.pre (p3h.trans q310)) hl (by omega) (by omega) fun u3 H11 p11 r3 => ?_
  ((try simp (maxSteps := 3000000) (dsimp := false) (disch := first | omega | (simp only [len_new, len_put, len_kill]; omega)) only [↓ypre, ypost, ↓reduceIte, Nat.reduceEqDiff, Nat.reduceAdd, Nat.reduceSub, Nat.reduceLeDiff, Nat.zero_add, Nat.sub_zero, ynew]); try simp only [yback])
  refine ⟨p11, ?_⟩
  refine i_transposed (rows := lsF x 2 c') (w := c') r3 (by rw [lsF_len]; omega) (by rw [lsF_len]; omega) (fun i hi => ?_) (by omega) fun u4 H12 p12 r4 => ?_
  · rw [lsF_len] at hi
    rw [lsF_get hi, List.length_take, ((hv.by hi).seg (by omega)).1]
    omega
  rw [← eC] at r4
  have p1012 := p11.trans p12
  have k12 := pre_len p1012
  refine ⟨p12, ?_⟩
  ((try simp (maxSteps := 3000000) (dsimp := false) (disch := first | omega | (simp only [len_new, len_put, len_kill]; omega)) only [↓ypre, ypost, ↓reduceIte, Nat.reduceEqDiff, Nat.reduceAdd, Nat.reduceSub, Nat.reduceLeDiff, Nat.zero_add, Nat.sub_zero, ynew, WK_func]); try simp only [yback])
  refine i_made (p := x.p) (n := (x.ps.length : Int)) (rows := fmX x 2) (k := 2) (ms := H1.length) (mx := h.length) (mo := HP.length) (nb := nb2) (b := b) r4.rows okC (pre_get (q310.trans p1012) s3) (pre_get p1012 x10) (pre_get p1012 gO10) (pre_get p1012 g10) rfl (by omega) (by omega) fun val3 nb3 v3 w3 H13 ln13 lt13 g13 gO13 i13 keep13 pre13 => ?_
  have q313 : H3 <+: H13 := pre13 H3 (by omega) (by omega) (q310.trans p1012)
  have i8'' := (i8'.pre p1012).move (h' := H13) fun m bl e1 e2 g => keep13 m bl (by omega) (by omega) g
  have i10' := (i10.pre p1012).move (h' := H13) fun m bl e1 e2 g => keep13 m bl (by omega) (by omega) g
  ((try simp (maxSteps := 3000000) (dsimp := false) (disch := first | omega | (simp only [len_new, len_put, len_kill]; omega)) only [↓ypre, ypost, ↓reduceIte, Nat.reduceEqDiff, Nat.reduceAdd, Nat.reduceSub, Nat.reduceLeDiff, Nat.zero_add, Nat.sub_zero, ynew, rd1_of gO13]); try simp only [yback])
  have E0 : pgO x.p (a : Int) (lsF x 0 a) b = pgX x b 0 := by
    rw [← ha, ← eA]
    rfl
  have E1 : pgO x.p (b' : Int) (lsF x 1 b') b = pgX x b 1 := by
    rw [← hb', ← eB]
    rfl
  have E2 : pgO x.p (x.ps.length : Int) (fmX x 2) b = pgX x b 2 := rfl
  rw [E0, E1, E2, List.nil_append] at g13
  rw [E0] at i8''
  rw [E1] at i10'
  rw [E2] at i13
  exact hQ nb3 nb1 nb2 _ v1 w1 v2 w2 v3 w3 (p3h.trans q313) ⟨_, g13⟩ (by omega) (i8''.mono (by omega) (Nat.le_refl _)) (i10'.mono (by omega) (Nat.le_refl _)) (i13.mono (by omega) (Nat.le_refl _))
end Go.Proofs.Ytilpnbejpndgpaa.X

/- Lists of programs: what the law says of them. -/
set_option linter.unusedVariables false
set_option linter.unusedSimpArgs false
set_option maxRecDepth 20000
set_option maxHeartbeats 4000000
namespace Go.Proofs.Ytilpnbejpndgpaa.X
open Go Go.RowKit

/-- A list of programs: how many, and which. -/
structure Pgs where
  N : Nat
  xs : Nat → Prg
def cellG (ps ns : Nat → Int) (vs ws : Nat → Value) (i f : Nat) : Value := if f = 0 then I64 (ps i) else if f = 1 then I64 (ns i) else if f = 2 then vs i else ws i
structure PG (c : List Value) (N : Nat) (ps ns : Nat → Int) (vs ws : Nat → Value) : Prop where
  len : c.length = N * 4
  at4 : ∀ i, i < N → ∀ f, f < 4 → c[i * 4 + f]? = some (cellG ps ns vs ws i f)
section
variable {c : List Value} {N : Nat} {ps ns ps' ns' : Nat → Int} {vs ws : Nat → Value}
theorem PG.congr (o : PG c N ps ns vs ws) (h1 : ∀ i, i < N → ps i = ps' i) (h2 : ∀ i, i < N → ns i = ns' i) : PG c N ps' ns' vs ws := ⟨o.len, fun i hi f hf => by
  rw [o.at4 i hi f hf]
  unfold cellG
  rw [h1 i hi, h2 i hi]⟩
theorem PG.row (o : PG c N ps ns vs ws) {i : Nat} (hi : i < N) : (c.drop (i * 4)).take 4 = [I64 (ps i), I64 (ns i), vs i, ws i] := by
  have hl := o.len
  have hm := mul_row (w := 4) hi
  refine List.ext_getElem? fun j => ?_
  by_cases hj : j < 4
  · rw [List.getElem?_take, if_pos hj, List.getElem?_drop, o.at4 i hi j hj]
    have : j = 0 ∨ j = 1 ∨ j = 2 ∨ j = 3 := by omega
    rcases this with rfl | rfl | rfl | rfl <;> rfl
  · rw [List.getElem?_eq_none (by rw [List.length_take, List.length_drop]; omega), List.getElem?_eq_none (by simp; omega)]
theorem PG.set (o : PG c N ps ns vs ws) {i : Nat} (hi : i < N) (a b : Int) : PG ((c.set (i * 4) (I64 a)).set (i * 4 + 1) (I64 b)) N (fun j => if j = i then a else ps j) (fun j => if j = i then b else ns j) vs ws := by
  have hl := o.len
  have hm := mul_row (w := 4) hi
  refine ⟨by simp only [List.length_set]; exact hl, fun j hj f hf => ?_⟩
  have hmj := mul_row (w := 4) hj
  by_cases e : j = i
  · subst e
    have : f = 0 ∨ f = 1 ∨ f = 2 ∨ f = 3 := by omega
    rcases this with rfl | rfl | rfl | rfl
    · rw [List.getElem?_set_ne (by omega), Nat.add_zero, List.getElem?_set_self (by omega)]
      simp [cellG]
    · rw [List.getElem?_set_self (by rw [List.length_set]; omega)]
      simp [cellG]
    · rw [List.getElem?_set_ne (by omega), List.getElem?_set_ne (by omega), o.at4 j hj 2 (by omega)]
      rfl
    · rw [List.getElem?_set_ne (by omega), List.getElem?_set_ne (by omega), o.at4 j hj 3 (by omega)]
      rfl
  · rw [List.getElem?_set_ne (by omega), List.getElem?_set_ne (by omega), o.at4 j hj f hf]
    unfold cellG
    simp only [if_neg e]
end
/-- The list in the heap: its block and each program. -/
def GR (h : AH) (v : Value) (y : Pgs) : Prop := (v = .slice none 0 0 ∧ y.N = 0) ∨ ∃ nb vs ws, v = .slice (some ⟨nb, 0, none⟩) y.N 4 ∧ (∃ c e fl, h.get nb = some ⟨c, e, false, fl⟩ ∧ PG c y.N (fun i => (y.xs i).p) (fun i => (y.xs i).n) vs ws) ∧ ∀ i, i < y.N → PrgR h (vs i) (ws i) (y.xs i)
def InG (a b : Nat) (h : AH) (v : Value) (y : Pgs) : Prop := (v = .slice none 0 0 ∧ y.N = 0) ∨ ∃ (nb : Nat) (cs : Nat → Nat) (vs ws : Nat → Value), v = .slice (some ⟨nb, 0, none⟩) y.N 4 ∧ a ≤ cs 0 ∧ cs y.N ≤ nb ∧ nb < b ∧ (∃ c e fl, h.get nb = some ⟨c, e, false, fl⟩ ∧ PG c y.N (fun i => (y.xs i).p) (fun i => (y.xs i).n) vs ws) ∧ ∀ i, i < y.N → InP (cs i) (cs (i + 1)) h (vs i) (ws i) (y.xs i)
def SmallG (y : Pgs) : Prop := y.N ≤ 3 ∧ ∀ i, i < y.N → SmallP (y.xs i)
def kkG (xs : Nat → Prg) : Nat → Int
  | 0 => 0
  | i + 1 => kkG xs i + (2 + cntP (xs i))
@[simp] theorem kkG_0 {xs : Nat → Prg} : kkG xs 0 = 0 := rfl
def cntG (y : Pgs) : Int := kkG y.xs y.N
theorem kkG_le {xs : Nat → Prg} {N : Nat} (hs : ∀ i, i < N → SmallP (xs i)) : ∀ {i : Nat}, i ≤ N → 0 ≤ kkG xs i ∧ kkG xs i ≤ i * 5242882
  | 0, _ => by simp [kkG]
  | i + 1, hi => by
    have h1 := kkG_le hs (i := i) (by omega)
    have h2 := cntP_le (hs i (by omega))
    simp only [kkG]
    omega
theorem cntG_le {y : Pgs} (h : SmallG y) : 0 ≤ cntG y ∧ cntG y ≤ 15728646 := by
  have h1 := kkG_le h.2 (i := y.N) (Nat.le_refl _)
  have h2 := h.1
  unfold cntG
  omega
section
variable {a b c d : Nat} {h h' : AH} {v : Value} {y : Pgs}
theorem InP.le {a b : Nat} {h : AH} {v w : Value} {x : Prg} (o : InP a b h v w x) : a ≤ b := by
  obtain ⟨c, e1, e2, _⟩ := o
  omega
theorem mono_cs {cs : Nat → Nat} {N : Nat} (h : ∀ i, i < N → cs i ≤ cs (i + 1)) : ∀ {j i : Nat}, i ≤ j → j ≤ N → cs i ≤ cs j
  | 0, i, h1, _ => by
    have : i = 0 := by omega
    rw [this]
    exact Nat.le_refl _
  | j + 1, i, h1, h2 => by
    by_cases e : i = j + 1
    · rw [e]
      exact Nat.le_refl _
    · exact Nat.le_trans (mono_cs h (by omega) (by omega)) (h j (by omega))
theorem GR.len (o : GR h v y) : lenV v = some (I64 y.N) := by
  rcases o with ⟨rfl, e⟩ | ⟨nb, vs, ws, rfl, _⟩
  · rw [e]
    rfl
  · rfl
theorem GR.pre (o : GR h v y) (p : h <+: h') : GR h' v y := by
  rcases o with o | ⟨nb, vs, ws, h1, ⟨c, e, fl, g, h2⟩, h3⟩
  · exact .inl o
  · exact .inr ⟨nb, vs, ws, h1, ⟨c, e, fl, pre_get p g, h2⟩, fun i hi => (h3 i hi).pre p⟩
theorem InG.rd (o : InG a b h v y) : GR h v y := by
  rcases o with o | ⟨nb, cs, vs, ws, h1, _, _, _, h2, h3⟩
  · exact .inl o
  · exact .inr ⟨nb, vs, ws, h1, h2, fun i hi => (h3 i hi).rd⟩
theorem InG.pre (o : InG a b h v y) (p : h <+: h') : InG a b h' v y := by
  rcases o with o | ⟨nb, cs, vs, ws, h1, e1, e2, e3, ⟨c, e, fl, g, h2⟩, h3⟩
  · exact .inl o
  · exact .inr ⟨nb, cs, vs, ws, h1, e1, e2, e3, ⟨c, e, fl, pre_get p g, h2⟩, fun i hi => (h3 i hi).pre p⟩
theorem InG.inG (o : InG a b h v y) : InG a b h v y := o
theorem InG.only (o : InG a b h v y) (u : OnlyR c d h h') (hd : b ≤ c ∨ d ≤ a) : InG a b h' v y := by
  rcases o with o | ⟨nb, cs, vs, ws, h1, e1, e2, e3, ⟨c', e, fl, g, h2⟩, h3⟩
  · exact .inl o
  · have hm := fun i (hi : i < y.N) => (h3 i hi).le
    have l0 : ∀ i, i ≤ y.N → a ≤ cs i ∧ cs i ≤ nb := fun i hi => ⟨Nat.le_trans e1 (mono_cs hm (Nat.zero_le _) hi), Nat.le_trans (mono_cs hm hi (Nat.le_refl _)) e2⟩
    have l1 := l0 0 (Nat.zero_le _)
    refine .inr ⟨nb, cs, vs, ws, h1, e1, e2, e3, ⟨c', e, fl, u.get' g (by omega), h2⟩, fun i hi => (h3 i hi).only u ?_⟩
    have q1 := l0 i (by omega)
    have q2 := l0 (i + 1) (by omega)
    omega
end
theorem geq_G {v v' : Value} {y : Pgs} {h : AH} {Q : Value → AH → Prop} (hv : GR h v y) (hv' : GR h v' y) (hl : SmallG y)
    (hQ : ∀ h', h <+: h' → Q (.bool true) h') : WF S 59 [v, v'] h Q := by
  refine WF_fn (fn := c59) rfl rfl ?_
  unfold c59
  have hN := hl.1
  ((try simp (maxSteps := 3000000) (dsimp := false) (disch := first | omega | (simp only [len_new, len_put, len_kill]; omega)) only [↓ypre, ypost, ↓reduceIte, Nat.reduceEqDiff, Nat.reduceAdd, Nat.reduceSub, Nat.reduceLeDiff, Nat.zero_add, Nat.sub_zero, ynew, hv.len, hv'.len, ne_eq, not_true_eq_false]); try simp only [yback])
  refine WC_loop_inv (fun m f K1 => ∃ (i : Nat), m = y.N - i ∧ i ≤ y.N ∧ f 0 = v ∧ f 1 = v' ∧ f 5 = I64 i ∧ (h <+: K1)) ?_ (y.N - 0) _ _ ⟨0, rfl, by omega, (by first | rfl | (simp [upd_apply]; done)), (by first | rfl | (simp [upd_apply]; done)), (by first | rfl | (simp [upd_apply]; done)), List.prefix_refl _⟩
  rintro m f K1 ⟨i, rfl, hi, f0, f1, f5, pp⟩
  have e1 := hv.pre pp
  have e2 := hv'.pre pp
  by_cases hlt : (i : Int) < y.N
  · have hi' : i < y.N := by omega
    have hm := mul_row (w := 4) hi'
    rcases e1 with ⟨_, e⟩ | ⟨nb, vs, ws, rfl, ⟨c, e, fl, g, p1⟩, r1⟩
    · omega
    rcases e2 with ⟨_, e⟩ | ⟨nb', vs', ws', rfl, ⟨c', e', fl', g', p1'⟩, r1'⟩
    · omega
    have ix : ∀ m, ixsV 4 (.slice (some ⟨m, 0, none⟩) y.N 4) (.int .i64 (i : Int)) = some (.pointer (some ⟨m, i * 4, none⟩)) := fun m => by
      rw [ixsV_some, if_pos (by omega)]
      simp
    have rr := rdn_of (off := i * 4) (k := 4) g
    rw [if_pos (show i * 4 + 4 ≤ c.length by rw [p1.len]; omega), show (Blk.mk c e false fl).c = c from rfl, p1.row hi'] at rr
    have rr' := rdn_of (off := i * 4) (k := 4) g'
    rw [if_pos (show i * 4 + 4 ≤ c'.length by rw [p1'.len]; omega), show (Blk.mk c' e' false fl').c = c' from rfl, p1'.row hi'] at rr'
    ((try simp (maxSteps := 3000000) (dsimp := false) (disch := first | omega | (simp only [len_new, len_put, len_kill]; omega)) only [↓ypre, ypost, ↓reduceIte, Nat.reduceEqDiff, Nat.reduceAdd, Nat.reduceSub, Nat.reduceLeDiff, Nat.zero_add, Nat.sub_zero, ynew, f0, f1, f5, lenV_slice, decide_eq_true hlt, ix, rr, rr']); try simp only [yback])
    refine geq_P (x := y.xs i) (r1 i hi') (r1' i hi') (hl.2 i hi') fun H2 p2 => ?_
    ((try simp (maxSteps := 3000000) (dsimp := false) (disch := first | omega | (simp only [len_new, len_put, len_kill]; omega)) only [↓ypre, ypost, ↓reduceIte, Nat.reduceEqDiff, Nat.reduceAdd, Nat.reduceSub, Nat.reduceLeDiff, Nat.zero_add, Nat.sub_zero, ynew, f0, f1, f5, wrap64_in]); try simp only [yback])
    refine InvQ_go (y.N - (i + 1)) (by omega) ⟨(i + 1), rfl, by omega, (by first | rfl | exact f0 | (simp only [upd_apply]; rfl) | (show I64 _ = _; congr 1; omega)), (by first | rfl | exact f1 | (simp only [upd_apply]; rfl) | (show I64 _ = _; congr 1; omega)), (by first | rfl | exact f5 | (simp only [upd_apply]; rfl) | (show I64 _ = _; congr 1; omega)), (pp.trans p2)⟩
  · ((try simp (maxSteps := 3000000) (dsimp := false) (disch := first | omega | (simp only [len_new, len_put, len_kill]; omega)) only [↓ypre, ypost, ↓reduceIte, Nat.reduceEqDiff, Nat.reduceAdd, Nat.reduceSub, Nat.reduceLeDiff, Nat.zero_add, Nat.sub_zero, ynew, f0, f1, f5, e1.len, decide_eq_false hlt]); try simp only [yback])
    exact hQ _ pp
def markQ (k : Int) (x : Prg) : Prg := ⟨k, k + 1, mkE 3 (k + 2) x.st.length, mkE 2 (k + 2 + ((x.st.length * 3 : Nat) : Int)) x.out.length⟩
def marksG (k : Int) (y : Pgs) : Pgs := ⟨y.N, fun j => markQ (k + kkG y.xs j) (y.xs j)⟩
theorem OnlyR.put {a b n : Nat} {h : AH} {bl : Blk} (hn : a ≤ n ∧ n < b) : OnlyR a b h (h.put n bl) := ⟨len_put, fun m hm => by
  unfold AH.put
  rw [List.getElem?_set_ne (fun e => hm (by omega))]⟩
theorem gmark_G {v : Value} {y : Pgs} {k : Int} {a b : Nat} {h : AH} {Q : Value → AH → Prop} (o : InG a b h v y) (hl : SmallG y) (hk : 0 ≤ k ∧ k ≤ 274877906944)
    (hQ : ∀ J h', h <+: J → OnlyR a b J h' → InG a b h' v (marksG k y) → Q (I64 (k + cntG y)) h') : WF S 60 [v, I64 k] h Q := by
  refine WF_fn (fn := c60) rfl rfl ?_
  unfold c60
  have hN := hl.1
  rcases o with ⟨rfl, e0⟩ | ⟨nb, cs, vs, ws, rfl, e1, e2, e3, ⟨c0, e, fl, g0, q0⟩, r0⟩
  · ((try simp (maxSteps := 3000000) (dsimp := false) (disch := first | omega | (simp only [len_new, len_put, len_kill]; omega)) only [↓ypre, ypost, ↓reduceIte, Nat.reduceEqDiff, Nat.reduceAdd, Nat.reduceSub, Nat.reduceLeDiff, Nat.zero_add, Nat.sub_zero, ynew]); try simp only [yback])
    refine WC_loop ?_
    ((try simp (maxSteps := 3000000) (dsimp := false) (disch := first | omega | (simp only [len_new, len_put, len_kill]; omega)) only [↓ypre, ypost, ↓reduceIte, Nat.reduceEqDiff, Nat.reduceAdd, Nat.reduceSub, Nat.reduceLeDiff, Nat.zero_add, Nat.sub_zero, ynew, decide_eq_false (show ¬ (0 : Int) < ((0 : Nat) : Int) by decide)]); try simp only [yback])
    have := hQ h h (List.prefix_refl _) (OnlyR.refl _ _ _) (.inl ⟨rfl, e0⟩)
    unfold cntG at this
    rw [e0] at this
    simpa [kkG] using this
  have hm := fun i (hi : i < y.N) => (r0 i hi).le
  have l0 : ∀ i, i ≤ y.N → a ≤ cs i ∧ cs i ≤ nb := fun i hi => ⟨Nat.le_trans e1 (mono_cs hm (Nat.zero_le _) hi), Nat.le_trans (mono_cs hm hi (Nat.le_refl _)) e2⟩
  ((try simp (maxSteps := 3000000) (dsimp := false) (disch := first | omega | (simp only [len_new, len_put, len_kill]; omega)) only [↓ypre, ypost, ↓reduceIte, Nat.reduceEqDiff, Nat.reduceAdd, Nat.reduceSub, Nat.reduceLeDiff, Nat.zero_add, Nat.sub_zero, ynew]); try simp only [yback])
  refine WC_loop_inv (fun m f K1 => ∃ (i : Nat) (c : List Value), m = y.N - i ∧ i ≤ y.N ∧ f 0 = .slice (some ⟨nb, 0, none⟩) y.N 4 ∧ f 1 = I64 (k + kkG y.xs i) ∧ f 5 = I64 i ∧ (K1.get nb = some ⟨c, e, false, fl⟩) ∧ (PG c y.N (fun j => if j < i then k + kkG y.xs j else (y.xs j).p) (fun j => if j < i then k + kkG y.xs j + 1 else (y.xs j).n) vs ws) ∧ (OnlyR a b h K1) ∧ (∀ j, j < y.N → InP (cs j) (cs (j + 1)) K1 (vs j) (ws j) (if j < i then markQ (k + kkG y.xs j) (y.xs j) else y.xs j))) ?_ (y.N - 0) _ _ ⟨0, c0, rfl, by omega, (by first | rfl | (simp [upd_apply]; done)), (by first | rfl | (simp [upd_apply]; done)), (by first | rfl | (simp [upd_apply]; done)), g0, (q0.congr (fun j hj => by rw [if_neg (by omega)]) (fun j hj => by rw [if_neg (by omega)])), OnlyR.refl _ _ _, (fun j hj => by rw [if_neg (by omega)]; exact r0 j hj)⟩
  rintro m f K1 ⟨i, c, rfl, hi, f0, f1, f5, hg, pg, wc, rr⟩
  by_cases hlt : (i : Int) < y.N
  · have hi' : i < y.N := by omega
    have hmi := mul_row (w := 4) hi'
    have hlen := pg.len
    have ltc := get_lt hg
    have kb := kkG_le hl.2 (i := i) (by omega)
    have ixd : ixsV 4 (.slice (some ⟨nb, 0, none⟩) y.N 4) (I64 i) = some (.pointer (some ⟨nb, i * 4, none⟩)) := by
      rw [ixsV_some, if_pos (by omega)]
      simp
    have s1 : ∀ x : Value, splice c (i * 4) [x] = c.set (i * 4) x := fun x => splice_set (by omega)
    have s2 : ∀ x y : Value, splice (c.set (i * 4) x) (i * 4 + 1) [y] = (c.set (i * 4) x).set (i * 4 + 1) y := fun x y => splice_set (by simp only [List.length_set]; omega)
    have pg2 := pg.set hi' (k + kkG y.xs i) (k + kkG y.xs i + 1)
    generalize hc2 : (c.set (i * 4) (I64 (k + kkG y.xs i))).set (i * 4 + 1) (I64 (k + kkG y.xs i + 1)) = c2 at pg2
    have ri := rr i hi'
    rw [if_neg (Nat.lt_irrefl _)] at ri
    obtain ⟨d, z1, z2, o1, o2⟩ := ri
    have c1 := l0 i (by omega)
    have c3 := l0 (i + 1) (by omega)
    have at2 := pg2.at4 i hi' 2 (by omega)
    have at3 := pg2.at4 i hi' 3 (by omega)
    rw [show cellG _ _ vs ws i 2 = vs i from rfl] at at2
    rw [show cellG _ _ vs ws i 3 = ws i from rfl] at at3
    ((try simp (maxSteps := 3000000) (dsimp := false) (disch := first | omega | (simp only [len_new, len_put, len_kill]; omega)) only [↓ypre, ypost, ↓reduceIte, Nat.reduceEqDiff, Nat.reduceAdd, Nat.reduceSub, Nat.reduceLeDiff, Nat.zero_add, Nat.sub_zero, ynew, f0, f1, f5, lenV_slice, decide_eq_true hlt, Nat.add_zero, ixd, wr_of hg, wrap64_in, List.length_set, hlen, s1, s2, hc2]); try simp only [yback])
    refine ⟨by omega, by omega, ?_⟩
    have e11 : k + kkG y.xs i + 1 + 1 = k + kkG y.xs i + 2 := by omega
    ((try simp (maxSteps := 3000000) (dsimp := false) (disch := first | omega | (simp only [len_new, len_put, len_kill]; omega)) only [↓ypre, ypost, ↓reduceIte, Nat.reduceEqDiff, Nat.reduceAdd, Nat.reduceSub, Nat.reduceLeDiff, Nat.zero_add, Nat.sub_zero, ynew, f0, f1, f5, at2, e11, wrap64_in]); try simp only [yback])
    generalize hHp : AH.put K1 _ _ = Hp
    have gp : Hp.get nb = some ⟨c2, e, false, fl⟩ := by rw [← hHp]; exact get_put_same ltc
    have kp : ∀ m bl, m ≠ nb → K1.get m = some bl → Hp.get m = some bl := fun m bl hne g => by
      rw [← hHp, get_put_ne (fun q => hne q.symm)]
      exact g
    have wp : OnlyR a b K1 Hp := by rw [← hHp]; exact OnlyR.put (by omega)
    have o1' := o1.move (h' := Hp) fun m bl q1 q2 g => kp m bl (by omega) g
    have o2' := o2.move (h' := Hp) fun m bl q1 q2 g => kp m bl (by omega) g
    refine l_markStepS o1' (hl.2 i hi').1 (by omega) fun H2 w2 m1 => ?_
    have g2 := w2.get' gp (by omega)
    have hk2 : 0 ≤ k + kkG y.xs i + 2 + (((y.xs i).st.length * 3 : Nat) : Int) ∧ k + kkG y.xs i + 2 + (((y.xs i).st.length * 3 : Nat) : Int) ≤ 549755813888 := by
      have := (hl.2 i hi').1
      unfold SmallE at this
      omega
    ((try simp (maxSteps := 3000000) (dsimp := false) (disch := first | omega | (simp only [len_new, len_put, len_kill]; omega)) only [↓ypre, ypost, ↓reduceIte, Nat.reduceEqDiff, Nat.reduceAdd, Nat.reduceSub, Nat.reduceLeDiff, Nat.zero_add, Nat.sub_zero, ynew, f0, f1, f5, ixd, rd1_of g2, at3]); try simp only [yback])
    refine l_markOutputS (o2'.only w2 (by omega)) (hl.2 i hi').2 hk2 fun H3 w3 m2 => ?_
    have g3 := w3.get' g2 (by omega)
    ((try simp (maxSteps := 3000000) (dsimp := false) (disch := first | omega | (simp only [len_new, len_put, len_kill]; omega)) only [↓ypre, ypost, ↓reduceIte, Nat.reduceEqDiff, Nat.reduceAdd, Nat.reduceSub, Nat.reduceLeDiff, Nat.zero_add, Nat.sub_zero, ynew, f0, f1, f5, wrap64_in]); try simp only [yback])
    have kk1 : k + kkG y.xs i + 2 + (((y.xs i).st.length * 3 : Nat) : Int) + (((y.xs i).out.length * 2 : Nat) : Int) = k + kkG y.xs (i + 1) := by
      simp only [kkG, cntP]
      omega
    have w23 : OnlyR (cs i) (cs (i + 1)) Hp H3 := (w2.wide (Nat.le_refl _) z2).trans (w3.wide z1 (Nat.le_refl _))
    refine InvQ_go (y.N - (i + 1)) (by omega) ⟨(i + 1), c2, rfl, by omega, (by first | rfl | exact f0 | (simp only [upd_apply]; rfl) | (show I64 _ = _; congr 1; omega)), (by show I64 _ = I64 _; rw [kk1]), (by first | rfl | exact f5 | (simp only [upd_apply]; rfl) | (show I64 _ = _; congr 1; omega)), g3, (pg2.congr (fun j hj => ?_) (fun j hj => ?_)), (wc.trans (wp.trans (w23.wide (by omega) (by omega)))), (fun j hj => ?_)⟩
    · by_cases e : j = i
      · rw [if_pos e, if_pos (by omega), e]
      · rw [if_neg e]
        by_cases e' : j < i
        · rw [if_pos e', if_pos (by omega)]
        · rw [if_neg e', if_neg (by omega)]
    · by_cases e : j = i
      · rw [if_pos e, if_pos (by omega), e]
      · rw [if_neg e]
        by_cases e' : j < i
        · rw [if_pos e', if_pos (by omega)]
        · rw [if_neg e', if_neg (by omega)]
    · by_cases e : j = i
      · subst e
        rw [if_pos (by omega)]
        exact ⟨d, z1, z2, m1.only w3 (.inl (Nat.le_refl _)), m2⟩
      · have rj := rr j hj
        rw [show (if j < i + 1 then markQ (k + kkG y.xs j) (y.xs j) else y.xs j) = (if j < i then markQ (k + kkG y.xs j) (y.xs j) else y.xs j) by
          by_cases e' : j < i
          · rw [if_pos e', if_pos (by omega)]
          · rw [if_neg e', if_neg (by omega)]]
        have dj : cs (j + 1) ≤ cs i ∨ cs (i + 1) ≤ cs j := by
          by_cases e' : j < i
          · exact .inl (mono_cs hm (by omega) (by omega))
          · exact .inr (mono_cs hm (by omega) (by omega))
        have cj := l0 (j + 1) (by omega)
        exact (rj.move (h' := Hp) fun m bl q1 q2 g => kp m bl (by omega) g).only w23 (by omega)
  have ei : i = y.N := by omega
  subst ei
  ((try simp (maxSteps := 3000000) (dsimp := false) (disch := first | omega | (simp only [len_new, len_put, len_kill]; omega)) only [↓ypre, ypost, ↓reduceIte, Nat.reduceEqDiff, Nat.reduceAdd, Nat.reduceSub, Nat.reduceLeDiff, Nat.zero_add, Nat.sub_zero, ynew, f0, f1, f5, lenV_slice, decide_eq_false hlt]); try simp only [yback])
  refine hQ h _ (List.prefix_refl _) wc (.inr ⟨nb, cs, vs, ws, rfl, e1, e2, e3, ⟨c, e, fl, hg, pg.congr (fun j hj => ?_) (fun j hj => ?_)⟩, fun j hj => ?_⟩)
  · show (if j < y.N then k + kkG y.xs j else (y.xs j).p) = _
    rw [if_pos hj]
    rfl
  · show (if j < y.N then k + kkG y.xs j + 1 else (y.xs j).n) = _
    rw [if_pos hj]
    rfl
  · have := rr j hj
    rw [if_pos (show j < y.N from hj)] at this
    exact this
end Go.Proofs.Ytilpnbejpndgpaa.X

/- Lists of programs held; ProgramsOf of both sides. -/
set_option linter.unusedVariables false
set_option linter.unusedSimpArgs false
set_option maxRecDepth 20000
set_option maxHeartbeats 4000000
namespace Go.Proofs.Ytilpnbejpndgpaa.X
open Go Go.RowKit

theorem gheld_G {v : Value} {y : Pgs} {k : Int} {h : AH} {Q : Value → AH → Prop} (hv : GR h v (marksG k y)) (hl : SmallG y) (hk : 0 ≤ k ∧ k ≤ 274877906944)
    (hQ : ∀ h', h <+: h' → Q (I64 (k + cntG y)) h') : WF S 61 [v, I64 k] h Q := by
  refine WF_fn (fn := c61) rfl rfl ?_
  unfold c61
  have hN := hl.1
  have hlen := hv.len
  rw [show (marksG k y).N = y.N from rfl] at hlen
  ((try simp (maxSteps := 3000000) (dsimp := false) (disch := first | omega | (simp only [len_new, len_put, len_kill]; omega)) only [↓ypre, ypost, ↓reduceIte, Nat.reduceEqDiff, Nat.reduceAdd, Nat.reduceSub, Nat.reduceLeDiff, Nat.zero_add, Nat.sub_zero, ynew]); try simp only [yback])
  refine WC_loop_inv (fun m f K1 => ∃ (i : Nat), m = y.N - i ∧ i ≤ y.N ∧ f 0 = v ∧ f 1 = I64 (k + kkG y.xs i) ∧ f 5 = I64 i ∧ (K1 = h)) ?_ (y.N - 0) _ _ ⟨0, rfl, by omega, (by first | rfl | (simp [upd_apply]; done)), (by first | rfl | (simp [upd_apply]; done)), (by first | rfl | (simp [upd_apply]; done)), rfl⟩
  rintro m f K1 ⟨i, rfl, hi, f0, f1, f5, hK⟩
  subst hK
  by_cases hlt : (i : Int) < y.N
  · have hi' : i < y.N := by omega
    have hmi := mul_row (w := 4) hi'
    have kb := kkG_le hl.2 (i := i) (by omega)
    rcases hv with ⟨_, e⟩ | ⟨nb, vs, ws, rfl, ⟨c, e, fl, g, p1⟩, r1⟩
    · exact absurd e (by show ¬ y.N = 0; omega)
    rw [show (marksG k y).N = y.N from rfl] at *
    have ixd : ixsV 4 (.slice (some ⟨nb, 0, none⟩) y.N 4) (I64 i) = some (.pointer (some ⟨nb, i * 4, none⟩)) := by
      rw [ixsV_some, if_pos (by omega)]
      simp
    have at0 := p1.at4 i hi' 0 (by omega)
    have at1 := p1.at4 i hi' 1 (by omega)
    have at2 := p1.at4 i hi' 2 (by omega)
    have at3 := p1.at4 i hi' 3 (by omega)
    rw [show cellG _ _ vs ws i 2 = vs i from rfl] at at2
    rw [show cellG _ _ vs ws i 3 = ws i from rfl] at at3
    rw [show cellG (fun j => ((marksG k y).xs j).p) (fun j => ((marksG k y).xs j).n) vs ws i 0 = I64 (k + kkG y.xs i) from rfl, Nat.add_zero] at at0
    rw [show cellG (fun j => ((marksG k y).xs j).p) (fun j => ((marksG k y).xs j).n) vs ws i 1 = I64 (k + kkG y.xs i + 1) from rfl] at at1
    obtain ⟨q1, q2⟩ := r1 i hi'
    have e11 : k + kkG y.xs i + 1 + 1 = k + kkG y.xs i + 2 := by omega
    have s1 := (hl.2 i hi').1
    have s2 := (hl.2 i hi').2
    unfold SmallE at s1 s2
    ((try simp (maxSteps := 3000000) (dsimp := false) (disch := first | omega | (simp only [len_new, len_put, len_kill]; omega)) only [↓ypre, ypost, ↓reduceIte, Nat.reduceEqDiff, Nat.reduceAdd, Nat.reduceSub, Nat.reduceLeDiff, Nat.zero_add, Nat.sub_zero, ynew, f0, f1, f5, lenV_slice, decide_eq_true hlt, Nat.add_zero, ixd, rd1_of g, at0, at1, at2, e11, wrap64_in, ne_eq, not_true_eq_false]); try simp only [yback])
    refine l_heldStepS (k := k + kkG y.xs i + 2) (n := (y.xs i).st.length) q1 (by omega) (by omega) ?_
    have n1 : ¬ k + kkG y.xs i + 2 + (((y.xs i).st.length * 3 : Nat) : Int) < 0 := by omega
    ((try simp (maxSteps := 3000000) (dsimp := false) (disch := first | omega | (simp only [len_new, len_put, len_kill]; omega)) only [↓ypre, ypost, ↓reduceIte, Nat.reduceEqDiff, Nat.reduceAdd, Nat.reduceSub, Nat.reduceLeDiff, Nat.zero_add, Nat.sub_zero, ynew, f0, f1, f5, decide_eq_false n1, ixd, rd1_of g, at3]); try simp only [yback])
    refine l_heldOutputS (k := k + kkG y.xs i + 2 + (((y.xs i).st.length * 3 : Nat) : Int)) (n := (y.xs i).out.length) q2 (by omega) (by omega) ?_
    have kk1 : k + kkG y.xs i + 2 + (((y.xs i).st.length * 3 : Nat) : Int) + (((y.xs i).out.length * 2 : Nat) : Int) = k + kkG y.xs (i + 1) := by
      simp only [kkG, cntP]
      omega
    have n2 : ¬ k + kkG y.xs i + 2 + (((y.xs i).st.length * 3 : Nat) : Int) + (((y.xs i).out.length * 2 : Nat) : Int) < 0 := by omega
    ((try simp (maxSteps := 3000000) (dsimp := false) (disch := first | omega | (simp only [len_new, len_put, len_kill]; omega)) only [↓ypre, ypost, ↓reduceIte, Nat.reduceEqDiff, Nat.reduceAdd, Nat.reduceSub, Nat.reduceLeDiff, Nat.zero_add, Nat.sub_zero, ynew, f0, f1, f5, decide_eq_false n2, wrap64_in]); try simp only [yback])
    refine InvQ_go (y.N - (i + 1)) (by omega) ⟨(i + 1), rfl, by omega, (by first | rfl | exact f0 | (simp only [upd_apply]; rfl) | (show I64 _ = _; congr 1; omega)), (by show I64 _ = I64 _; rw [kk1]), (by first | rfl | exact f5 | (simp only [upd_apply]; rfl) | (show I64 _ = _; congr 1; omega)), rfl⟩
  have ei : i = y.N := by omega
  subst ei
  ((try simp (maxSteps := 3000000) (dsimp := false) (disch := first | omega | (simp only [len_new, len_put, len_kill]; omega)) only [↓ypre, ypost, ↓reduceIte, Nat.reduceEqDiff, Nat.reduceAdd, Nat.reduceSub, Nat.reduceLeDiff, Nat.zero_add, Nat.sub_zero, ynew, f0, f1, f5, hlen, decide_eq_false hlt]); try simp only [yback])
  exact hQ _ (List.prefix_refl _)

def pgR (x : Sch) (b : Bool) : Pgs × Int := if cdX x = 0 then (⟨3, pgX x b⟩, 0) else (⟨0, fun _ => ⟨0, 0, [], []⟩⟩, cdX x)
theorem pgX_small {h : AH} {v : Value} {x : Sch} {b : Bool} (hv : Prods h v x.ps) (hx : isX x = true) (h0 : 1 ≤ x.ps.length) {i : Nat} (hi : i < 3) : SmallP (pgX x b i) := by
  have ok := fmX_ok hv hx h0 hi
  have s1 := shR_small x.p (nuX x i) (fmX x i)
  have s2 := plR_small x.p (nuX x i) (fmX x i)
  unfold shR at s1
  unfold plR at s2
  rw [if_pos ok] at s1 s2
  unfold pgX pgO
  cases b with
  | true => exact s1
  | false => exact s2
theorem pgR_small {h : AH} {v : Value} {x : Sch} {b : Bool} (hv : Prods h v x.ps) : SmallG (pgR x b).1 := by
  unfold pgR
  by_cases hc : cdX x = 0
  · rw [if_pos hc]
    obtain ⟨hx, h0⟩ := cdX_0 hc
    exact ⟨Nat.le_refl _, fun i hi => pgX_small hv hx h0 hi⟩
  · rw [if_neg hc]
    exact ⟨Nat.zero_le _, fun i hi => absurd hi (Nat.not_lt_zero _)⟩
theorem inG_3 {x : Sch} {bb : Bool} {a b nb q1 q2 : Nat} {h : AH} {v1 w1 v2 w2 v3 w3 : Value} {e : TypeId}
    (g : ∃ fl, h.get nb = some ⟨prgC (pgX x bb 0) v1 w1 ++ prgC (pgX x bb 1) v2 w2 ++ prgC (pgX x bb 2) v3 w3, e, false, fl⟩) (lt : nb < b)
    (i1 : InP a q1 h v1 w1 (pgX x bb 0)) (i2 : InP q1 q2 h v2 w2 (pgX x bb 1)) (i3 : InP q2 nb h v3 w3 (pgX x bb 2)) : InG a b h (.slice (some ⟨nb, 0, none⟩) 3 4) ⟨3, pgX x bb⟩ := by
  obtain ⟨fl, g⟩ := g
  refine .inr ⟨nb, fun i => if i = 0 then a else if i = 1 then q1 else if i = 2 then q2 else nb, fun i => if i = 0 then v1 else if i = 1 then v2 else v3, fun i => if i = 0 then w1 else if i = 1 then w2 else w3, rfl, Nat.le_refl _, Nat.le_refl _, lt, ⟨_, _, _, g, rfl, fun i hi f hf => ?_⟩, fun i hi => ?_⟩
  · simp only at hi
    have c1 : i = 0 ∨ i = 1 ∨ i = 2 := by omega
    have c2 : f = 0 ∨ f = 1 ∨ f = 2 ∨ f = 3 := by omega
    rcases c1 with rfl | rfl | rfl <;> rcases c2 with rfl | rfl | rfl | rfl <;> rfl
  · simp only at hi
    have c1 : i = 0 ∨ i = 1 ∨ i = 2 := by omega
    rcases c1 with rfl | rfl | rfl
    · exact i1
    · exact i2
    · exact i3
theorem s_ProgramsOf {v : Value} {x : Sch} {b : Bool} {h : AH} {Q : Value → AH → Prop} (hv : Prods h v x.ps) (hl : SmallX x.ps)
    (hQ : ∀ v' h', h <+: h' → InG h.length h'.length h' v' (pgR x b).1 → Q (.tuple #[v', I64 (pgR x b).2]) h') : WF S 57 [schV x v, .bool b] h Q := by
  refine WF_fn (fn := c57) rfl rfl ?_
  unfold c57
  ((try simp (maxSteps := 3000000) (dsimp := false) (disch := first | omega | (simp only [len_new, len_put, len_kill]; omega)) only [↓ypre, ypost, ↓reduceIte, Nat.reduceEqDiff, Nat.reduceAdd, Nat.reduceSub, Nat.reduceLeDiff, Nat.zero_add, Nat.sub_zero, ynew, schV, hv.one]); try simp only [yback])
  generalize hH1 : AH.new h _ = H1
  obtain ⟨hb1, p1, n1⟩ := new_facts hH1
  ((try simp (maxSteps := 3000000) (dsimp := false) (disch := first | omega | (simp only [len_new, len_put, len_kill]; omega)) only [↓ypre, ypost, ↓reduceIte, Nat.reduceEqDiff, Nat.reduceAdd, Nat.reduceSub, Nat.reduceLeDiff, Nat.zero_add, Nat.sub_zero, ynew, rdn_of hb1]); try simp only [yback])
  refine s_l07Code (x := x) (hv.pre p1) hl fun H2 p2 => ?_
  have hb2 := pre_get p2 hb1
  have p12 := p1.trans p2
  unfold pgR at hQ
  by_cases hc : cdX x = 0
  case neg =>
    rw [if_neg hc] at hQ
    ((try simp (maxSteps := 3000000) (dsimp := false) (disch := first | omega | (simp only [len_new, len_put, len_kill]; omega)) only [↓ypre, ypost, ↓reduceIte, Nat.reduceEqDiff, Nat.reduceAdd, Nat.reduceSub, Nat.reduceLeDiff, Nat.zero_add, Nat.sub_zero, ynew, decide_eq_true (show cdX x ≠ 0 from hc)]); try simp only [yback])
    exact hQ _ _ p12 (.inl ⟨rfl, rfl⟩)
  rw [if_pos hc] at hQ
  obtain ⟨hx, h0⟩ := cdX_0 hc
  ((try simp (maxSteps := 3000000) (dsimp := false) (disch := first | omega | (simp only [len_new, len_put, len_kill]; omega)) only [↓ypre, ypost, ↓reduceIte, Nat.reduceEqDiff, Nat.reduceAdd, Nat.reduceSub, Nat.reduceLeDiff, Nat.zero_add, Nat.sub_zero, ynew, decide_eq_false (show ¬ cdX x ≠ 0 from fun y => y hc), rdn_of hb2]); try simp only [yback])
  refine s_l07Programs (x := x) (b := b) (hv.pre p12) hx h0 fun nb q1 q2 H3 v1 w1 v2 w2 v3 w3 p3 g i0 i1 i2 i3 => ?_
  ((try simp (maxSteps := 3000000) (dsimp := false) (disch := first | omega | (simp only [len_new, len_put, len_kill]; omega)) only [↓ypre, ypost, ↓reduceIte, Nat.reduceEqDiff, Nat.reduceAdd, Nat.reduceSub, Nat.reduceLeDiff, Nat.zero_add, Nat.sub_zero, ynew]); try simp only [yback])
  have lp := pre_len p12
  have ltn := get_lt g
  exact hQ _ _ (p12.trans p3) (inG_3 ⟨_, g⟩ ltn (i1.mono lp (Nat.le_refl _)) i2 i3)
theorem i_ProgramsOf {v : Value} {x : Sch} {b : Bool} {h : AH} {Q : Value → AH → Prop} (hv : Prods h v x.ps) (hl : SmallX x.ps)
    (hQ : ∀ v' h', h <+: h' → InG h.length h'.length h' v' (pgR x b).1 → Q (.tuple #[v', I64 (pgR x b).2]) h') : WF S 58 [schV x v, .bool b] h Q := by
  refine WF_fn (fn := c58) rfl rfl ?_
  unfold c58
  ((try simp (maxSteps := 3000000) (dsimp := false) (disch := first | omega | (simp only [len_new, len_put, len_kill]; omega)) only [↓ypre, ypost, ↓reduceIte, Nat.reduceEqDiff, Nat.reduceAdd, Nat.reduceSub, Nat.reduceLeDiff, Nat.zero_add, Nat.sub_zero, ynew, schV, hv.one]); try simp only [yback])
  generalize hH1 : AH.new h _ = H1
  obtain ⟨hb1, p1, n1⟩ := new_facts hH1
  ((try simp (maxSteps := 3000000) (dsimp := false) (disch := first | omega | (simp only [len_new, len_put, len_kill]; omega)) only [↓ypre, ypost, ↓reduceIte, Nat.reduceEqDiff, Nat.reduceAdd, Nat.reduceSub, Nat.reduceLeDiff, Nat.zero_add, Nat.sub_zero, ynew, rdn_of hb1]); try simp only [yback])
  refine i_productsCode (x := x) (hv.pre p1) hl fun H2 p2 => ?_
  have hb2 := pre_get p2 hb1
  have p12 := p1.trans p2
  unfold pgR at hQ
  by_cases hc : cdX x = 0
  case neg =>
    rw [if_neg hc] at hQ
    ((try simp (maxSteps := 3000000) (dsimp := false) (disch := first | omega | (simp only [len_new, len_put, len_kill]; omega)) only [↓ypre, ypost, ↓reduceIte, Nat.reduceEqDiff, Nat.reduceAdd, Nat.reduceSub, Nat.reduceLeDiff, Nat.zero_add, Nat.sub_zero, ynew, decide_eq_true (show cdX x ≠ 0 from hc)]); try simp only [yback])
    exact hQ _ _ p12 (.inl ⟨rfl, rfl⟩)
  rw [if_pos hc] at hQ
  obtain ⟨hx, h0⟩ := cdX_0 hc
  ((try simp (maxSteps := 3000000) (dsimp := false) (disch := first | omega | (simp only [len_new, len_put, len_kill]; omega)) only [↓ypre, ypost, ↓reduceIte, Nat.reduceEqDiff, Nat.reduceAdd, Nat.reduceSub, Nat.reduceLeDiff, Nat.zero_add, Nat.sub_zero, ynew, decide_eq_false (show ¬ cdX x ≠ 0 from fun y => y hc), rdn_of hb2]); try simp only [yback])
  refine i_programsOf (x := x) (b := b) (hv.pre p12) hx h0 fun nb q1 q2 H3 v1 w1 v2 w2 v3 w3 p3 g i0 i1 i2 i3 => ?_
  ((try simp (maxSteps := 3000000) (dsimp := false) (disch := first | omega | (simp only [len_new, len_put, len_kill]; omega)) only [↓ypre, ypost, ↓reduceIte, Nat.reduceEqDiff, Nat.reduceAdd, Nat.reduceSub, Nat.reduceLeDiff, Nat.zero_add, Nat.sub_zero, ynew]); try simp only [yback])
  have lp := pre_len p12
  have ltn : nb < H3.length := by
    obtain ⟨fl, g⟩ := g
    exact get_lt g
  exact hQ _ _ (p12.trans p3) (inG_3 g ltn (i1.mono lp (Nat.le_refl _)) i2 i3)
end Go.Proofs.Ytilpnbejpndgpaa.X

/- The law on ProgramsOf, on the abstract machine (printed by lawg.py). -/
set_option linter.unusedVariables false
set_option linter.unusedSimpArgs false
set_option maxRecDepth 20000
set_option maxHeartbeats 4000000
namespace Go.Proofs.Ytilpnbejpndgpaa.X
open Go Go.RowKit

theorem law_ProgramsOf {v0 : Value} {x0 : Sch} {b1 : Bool} {h : AH} (hv0 : Prods h v0 x0.ps) (hl0 : ((x0.ps).length : Int) ≤ 9223372036854775807) :
    WF S 13 [schV x0 v0, .bool b1] h (fun v _ => v = .bool true) := by
  refine WF_fn (fn := c13) rfl rfl ?_
  unfold c13
  have ph : h <+: h := List.prefix_refl h
  try simp (maxSteps := 3000000) (disch := first | omega | (simp only [len_new, len_put, len_kill]; omega)) only [↓xpre, xpost, ↓reduceIte, Nat.reduceEqDiff, Nat.reduceAdd, Nat.reduceSub, Nat.reduceLeDiff, Nat.zero_add, Nat.sub_zero, schV, hv0.one]
  generalize hH1 : AH.new h _ = H1
  obtain ⟨ba0, p1, e1⟩ := new_facts hH1
  have l1 := pre_len p1
  have ph := ph.trans p1
  try simp (maxSteps := 3000000) (disch := first | omega | (simp only [len_new, len_put, len_kill]; omega)) only [↓xpre, xpost, ↓reduceIte, Nat.reduceEqDiff, Nat.reduceAdd, Nat.reduceSub, Nat.reduceLeDiff, Nat.zero_add, Nat.sub_zero, rdn_of ba0]
  refine gsz_X (hv0.pre ph) (by omega) hl0 fun m0 H2 p2 hm0' hs0 => ?_
  have l2 := pre_len p2
  have ph := ph.trans p2
  have ba0 := pre_get p2 ba0
  try simp (maxSteps := 3000000) (disch := first | omega | (simp only [len_new, len_put, len_kill]; omega)) only [↓xpre, xpost, ↓reduceIte, Nat.reduceEqDiff, Nat.reduceAdd, Nat.reduceSub, Nat.reduceLeDiff, Nat.zero_add, Nat.sub_zero, IfW_dec]
  refine ⟨fun _ => trivial, fun hz0 => ?_⟩
  have hs0 := hs0 (by omega)
  have hc0 := cntX_le hs0
  try simp (maxSteps := 3000000) (disch := first | omega | (simp only [len_new, len_put, len_kill]; omega)) only [↓xpre, xpost, ↓reduceIte, Nat.reduceEqDiff, Nat.reduceAdd, Nat.reduceSub, Nat.reduceLeDiff, Nat.zero_add, Nat.sub_zero, rdn_of ba0]
  try refine ⟨p2, ?_⟩
  refine gto_X (hv0.pre ph) hs0 fun vc0 H3 p3 oc0 => ?_
  have l3 := pre_len p3
  have ph := ph.trans p3
  have ba0 := pre_get p3 ba0
  try simp (maxSteps := 3000000) (disch := first | omega | (simp only [len_new, len_put, len_kill]; omega)) only [↓xpre, xpost, ↓reduceIte, Nat.reduceEqDiff, Nat.reduceAdd, Nat.reduceSub, Nat.reduceLeDiff, Nat.zero_add, Nat.sub_zero, rdn_of ba0]
  try refine ⟨p3, ?_⟩
  refine s_ProgramsOf oc0.rd hs0 fun vw H4 p4 ow => ?_
  have l4 := pre_len p4
  have ph := ph.trans p4
  have ba0 := pre_get p4 ba0
  have oc0 := oc0.pre p4
  have ow := ow.inG
  try simp (maxSteps := 3000000) (disch := first | omega | (simp only [len_new, len_put, len_kill]; omega)) only [↓xpre, xpost, ↓reduceIte, Nat.reduceEqDiff, Nat.reduceAdd, Nat.reduceSub, Nat.reduceLeDiff, Nat.zero_add, Nat.sub_zero, rdn_of ba0]
  try refine ⟨p4, ?_⟩
  refine gto_X (hv0.pre ph) hs0 fun vx0 H5 p5 ox0 => ?_
  have l5 := pre_len p5
  have ph := ph.trans p5
  have ba0 := pre_get p5 ba0
  have ow := ow.pre p5
  try simp (maxSteps := 3000000) (disch := first | omega | (simp only [len_new, len_put, len_kill]; omega)) only [↓xpre, xpost, ↓reduceIte, Nat.reduceEqDiff, Nat.reduceAdd, Nat.reduceSub, Nat.reduceLeDiff, Nat.zero_add, Nat.sub_zero, schV, ox0.rd.one, rdn_of ba0]
  generalize hH6 : AH.new H5 _ = H6
  obtain ⟨bx0, p6, e6⟩ := new_facts hH6
  have l6 := pre_len p6
  have ph := ph.trans p6
  have ba0 := pre_get p6 ba0
  have ow := ow.pre p6
  have ox0 := ox0.pre p6
  try simp (maxSteps := 3000000) (disch := first | omega | (simp only [len_new, len_put, len_kill]; omega)) only [↓xpre, xpost, ↓reduceIte, Nat.reduceEqDiff, Nat.reduceAdd, Nat.reduceSub, Nat.reduceLeDiff, Nat.zero_add, Nat.sub_zero, rdn_of ba0, rdn_of bx0]
  try refine ⟨p6, ?_⟩
  refine i_ProgramsOf ox0.rd hs0 fun vg H7 p7 og => ?_
  have l7 := pre_len p7
  have ph := ph.trans p7
  have ba0 := pre_get p7 ba0
  have bx0 := pre_get p7 bx0
  have ow := ow.pre p7
  have ox0 := ox0.pre p7
  have og := og.inG
  have hR : SmallG (pgR x0 b1).1 := pgR_small hv0
  have hcR := cntG_le hR
  try simp (maxSteps := 3000000) (disch := first | omega | (simp only [len_new, len_put, len_kill]; omega)) only [↓xpre, xpost, ↓reduceIte, Nat.reduceEqDiff, Nat.reduceAdd, Nat.reduceSub, Nat.reduceLeDiff, Nat.zero_add, Nat.sub_zero, ne_eq, not_true_eq_false, rdn_of ba0, rdn_of bx0]
  try refine ⟨p7, ?_⟩
  refine geq_G og.rd ow.rd hR fun  H8 p8 => ?_
  have l8 := pre_len p8
  have ph := ph.trans p8
  have ba0 := pre_get p8 ba0
  have bx0 := pre_get p8 bx0
  have ow := ow.pre p8
  have ox0 := ox0.pre p8
  have og := og.pre p8
  try simp (maxSteps := 3000000) (disch := first | omega | (simp only [len_new, len_put, len_kill]; omega)) only [↓xpre, xpost, ↓reduceIte, Nat.reduceEqDiff, Nat.reduceAdd, Nat.reduceSub, Nat.reduceLeDiff, Nat.zero_add, Nat.sub_zero, ne_eq, not_true_eq_false, rdn_of ba0, rdn_of bx0]
  try refine ⟨p8, ?_⟩
  try simp (maxSteps := 3000000) (disch := first | omega | (simp only [len_new, len_put, len_kill]; omega)) only [↓xpre, xpost, ↓reduceIte, Nat.reduceEqDiff, Nat.reduceAdd, Nat.reduceSub, Nat.reduceLeDiff, Nat.zero_add, Nat.sub_zero, ne_eq, not_true_eq_false, rdn_of ba0, rdn_of bx0]
  try refine ⟨p8, ?_⟩
  refine gto_X (hv0.pre ph) hs0 fun ve0 H9 p9 oe0 => ?_
  have l9 := pre_len p9
  have ph := ph.trans p9
  have ba0 := pre_get p9 ba0
  have bx0 := pre_get p9 bx0
  have ow := ow.pre p9
  have ox0 := ox0.pre p9
  have og := og.pre p9
  try simp (maxSteps := 3000000) (disch := first | omega | (simp only [len_new, len_put, len_kill]; omega)) only [↓xpre, xpost, ↓reduceIte, Nat.reduceEqDiff, Nat.reduceAdd, Nat.reduceSub, Nat.reduceLeDiff, Nat.zero_add, Nat.sub_zero, rdn_of ba0, rdn_of bx0]
  try refine ⟨p9, ?_⟩
  refine geq_X ox0.rd oe0.rd hs0 fun  H10 p10 => ?_
  have l10 := pre_len p10
  have ph := ph.trans p10
  have ba0 := pre_get p10 ba0
  have bx0 := pre_get p10 bx0
  have ow := ow.pre p10
  have ox0 := ox0.pre p10
  have og := og.pre p10
  have oe0 := oe0.pre p10
  try simp (maxSteps := 3000000) (disch := first | omega | (simp only [len_new, len_put, len_kill]; omega)) only [↓xpre, xpost, ↓reduceIte, Nat.reduceEqDiff, Nat.reduceAdd, Nat.reduceSub, Nat.reduceLeDiff, Nat.zero_add, Nat.sub_zero, rdn_of ba0, rdn_of bx0]
  try simp (maxSteps := 3000000) (disch := first | omega | (simp only [len_new, len_put, len_kill]; omega)) only [↓xpre, xpost, ↓reduceIte, Nat.reduceEqDiff, Nat.reduceAdd, Nat.reduceSub, Nat.reduceLeDiff, Nat.zero_add, Nat.sub_zero, rdn_of ba0, rdn_of bx0]
  refine gmark_X ox0 hs0 (by omega) fun J11 H11 p11 w11 q11 => ?_
  have l11 := pre_len p11
  have ll11 := w11.len
  have ph := ph.trans p11
  have ba0 := pre_get p11 ba0
  have bx0 := pre_get p11 bx0
  have ow := ow.pre p11
  have og := og.pre p11
  have ph := w11.pre ph (by omega)
  have ba0 := w11.get' ba0 (by omega)
  have bx0 := w11.get' bx0 (by omega)
  have ow := ow.only w11 (by omega)
  have og := og.only w11 (by omega)
  have ox0 := q11
  try simp (maxSteps := 3000000) (disch := first | omega | (simp only [len_new, len_put, len_kill]; omega)) only [↓xpre, xpost, ↓reduceIte, Nat.reduceEqDiff, Nat.reduceAdd, Nat.reduceSub, Nat.reduceLeDiff, Nat.zero_add, Nat.sub_zero, rdn_of ba0, rdn_of bx0, IfW_dec]
  rw [decide_eq_false (by omega)]
  try simp (maxSteps := 3000000) (disch := first | omega | (simp only [len_new, len_put, len_kill]; omega)) only [↓xpre, xpost, ↓reduceIte, Nat.reduceEqDiff, Nat.reduceAdd, Nat.reduceSub, Nat.reduceLeDiff, Nat.zero_add, Nat.sub_zero, ne_eq, not_true_eq_false, rdn_of ba0, rdn_of bx0]
  try refine ⟨p11, ?_⟩
  refine geq_G og.rd ow.rd hR fun  H12 p12 => ?_
  have l12 := pre_len p12
  have ph := ph.trans p12
  have ba0 := pre_get p12 ba0
  have bx0 := pre_get p12 bx0
  have ow := ow.pre p12
  have og := og.pre p12
  try simp (maxSteps := 3000000) (disch := first | omega | (simp only [len_new, len_put, len_kill]; omega)) only [↓xpre, xpost, ↓reduceIte, Nat.reduceEqDiff, Nat.reduceAdd, Nat.reduceSub, Nat.reduceLeDiff, Nat.zero_add, Nat.sub_zero, ne_eq, not_true_eq_false, rdn_of ba0, rdn_of bx0]
  try refine ⟨p12, ?_⟩
  try simp (maxSteps := 3000000) (disch := first | omega | (simp only [len_new, len_put, len_kill]; omega)) only [↓xpre, xpost, ↓reduceIte, Nat.reduceEqDiff, Nat.reduceAdd, Nat.reduceSub, Nat.reduceLeDiff, Nat.zero_add, Nat.sub_zero, ne_eq, not_true_eq_false, rdn_of ba0, rdn_of bx0]
  refine gmark_G og hR (by omega) fun J13 H13 p13 w13 q13 => ?_
  have l13 := pre_len p13
  have ll13 := w13.len
  have ph := ph.trans p13
  have ba0 := pre_get p13 ba0
  have bx0 := pre_get p13 bx0
  have ow := ow.pre p13
  have ph := w13.pre ph (by omega)
  have ba0 := w13.get' ba0 (by omega)
  have bx0 := w13.get' bx0 (by omega)
  have ow := ow.only w13 (by omega)
  have og := q13
  try simp (maxSteps := 3000000) (disch := first | omega | (simp only [len_new, len_put, len_kill]; omega)) only [↓xpre, xpost, ↓reduceIte, Nat.reduceEqDiff, Nat.reduceAdd, Nat.reduceSub, Nat.reduceLeDiff, Nat.zero_add, Nat.sub_zero, ne_eq, not_true_eq_false, rdn_of ba0, rdn_of bx0]
  refine gheld_G og.rd hR (by omega) fun  H14 p14 => ?_
  have l14 := pre_len p14
  have ph := ph.trans p14
  have ba0 := pre_get p14 ba0
  have bx0 := pre_get p14 bx0
  have ow := ow.pre p14
  have og := og.pre p14
  try simp (maxSteps := 3000000) (disch := first | omega | (simp only [len_new, len_put, len_kill]; omega)) only [↓xpre, xpost, ↓reduceIte, Nat.reduceEqDiff, Nat.reduceAdd, Nat.reduceSub, Nat.reduceLeDiff, Nat.zero_add, Nat.sub_zero, IfW_dec, ne_eq, not_true_eq_false, rdn_of ba0, rdn_of bx0]
  refine ⟨fun hlt => by omega, fun _ => ?_⟩
  try simp (maxSteps := 3000000) (disch := first | omega | (simp only [len_new, len_put, len_kill]; omega)) only [↓xpre, xpost, ↓reduceIte, Nat.reduceEqDiff, Nat.reduceAdd, Nat.reduceSub, Nat.reduceLeDiff, Nat.zero_add, Nat.sub_zero, rdn_of ba0, rdn_of bx0]
  try refine ⟨p14, ?_⟩
  refine gto_X (hv0.pre ph) hs0 fun vd0 H15 p15 od0 => ?_
  have l15 := pre_len p15
  have ph := ph.trans p15
  have ba0 := pre_get p15 ba0
  have bx0 := pre_get p15 bx0
  have ow := ow.pre p15
  have og := og.pre p15
  try simp (maxSteps := 3000000) (disch := first | omega | (simp only [len_new, len_put, len_kill]; omega)) only [↓xpre, xpost, ↓reduceIte, Nat.reduceEqDiff, Nat.reduceAdd, Nat.reduceSub, Nat.reduceLeDiff, Nat.zero_add, Nat.sub_zero, rdn_of ba0, rdn_of bx0]
  try refine ⟨p15, ?_⟩
  refine i_ProgramsOf od0.rd hs0 fun vh H16 p16 oh => ?_
  have l16 := pre_len p16
  have ph := ph.trans p16
  have ba0 := pre_get p16 ba0
  have bx0 := pre_get p16 bx0
  have ow := ow.pre p16
  have od0 := od0.pre p16
  have og := og.pre p16
  have oh := oh.inG
  try simp (maxSteps := 3000000) (disch := first | omega | (simp only [len_new, len_put, len_kill]; omega)) only [↓xpre, xpost, ↓reduceIte, Nat.reduceEqDiff, Nat.reduceAdd, Nat.reduceSub, Nat.reduceLeDiff, Nat.zero_add, Nat.sub_zero, ne_eq, not_true_eq_false, rdn_of ba0, rdn_of bx0]
  try refine ⟨p16, ?_⟩
  refine geq_G oh.rd ow.rd hR fun  H17 p17 => ?_
  have l17 := pre_len p17
  have ph := ph.trans p17
  have ba0 := pre_get p17 ba0
  have bx0 := pre_get p17 bx0
  have ow := ow.pre p17
  have oh := oh.pre p17
  have og := og.pre p17
  try simp (maxSteps := 3000000) (disch := first | omega | (simp only [len_new, len_put, len_kill]; omega)) only [↓xpre, xpost, ↓reduceIte, Nat.reduceEqDiff, Nat.reduceAdd, Nat.reduceSub, Nat.reduceLeDiff, Nat.zero_add, Nat.sub_zero, ne_eq, not_true_eq_false, rdn_of ba0, rdn_of bx0]
  try refine ⟨p17, ?_⟩
  try simp (maxSteps := 3000000) (disch := first | omega | (simp only [len_new, len_put, len_kill]; omega)) only [↓xpre, xpost, ↓reduceIte, Nat.reduceEqDiff, Nat.reduceAdd, Nat.reduceSub, Nat.reduceLeDiff, Nat.zero_add, Nat.sub_zero, ne_eq, not_true_eq_false, rdn_of ba0, rdn_of bx0]
  refine gheld_G og.rd hR (by omega) fun H18 p18 => ?_
  try simp (maxSteps := 3000000) (disch := first | omega | (simp only [len_new, len_put, len_kill]; omega)) only [↓xpre, xpost, ↓reduceIte, Nat.reduceEqDiff, Nat.reduceAdd, Nat.reduceSub, Nat.reduceLeDiff, Nat.zero_add, Nat.sub_zero, IfW_dec, ne_eq, not_true_eq_false, rdn_of ba0, rdn_of bx0]
  refine ⟨fun hlt => by omega, fun _ => ?_⟩
  trivial

end Go.Proofs.Ytilpnbejpndgpaa.X

/- From the readings of a row's arguments to the abstract machine's first heap, and back to the row. -/
set_option linter.unusedVariables false
set_option linter.unusedSimpArgs false
namespace Go.Proofs.Ytilpnbejpndgpaa.X
open Go Go.RowKit Go.ChangeShapes Go.WideShapes Go.Deep

/-- A heap of blocks that are read only, each in the world's memory. -/
structure Adm (P : Program) (W : World) (γ : List G) (h : AH) : Prop where
  rel : Rel P W.heap.size γ h W
  ro : ∀ n b, h.get n = some b → b.ro = true

theorem Adm.nil (P : Program) (W : World) : Adm P W [] [] where
  rel := {
    len := rfl
    cell := fun n b g h => by simp [AH.get] at h
    rw := fun n b g h => by simp [AH.get] at h
    ro := fun n b g h => by simp [AH.get] at h
    inj := fun n m bn bm g g' h => by simp [AH.get] at h
    base := Nat.le_refl _ }
  ro := fun n b h => by simp [AH.get] at h

theorem Adm.new {P : Program} {W : World} {γ : List G} {h : AH} (A : Adm P W γ h) {g : G} {cs : List Value} {e : TypeId} (hb : g.b < W.heap.size)
    (hc : ∀ j v, cs[j]? = some v → isOne v = true ∧ ∃ v', W.cell? ⟨g.b, g.o + j, none⟩ = some v' ∧ VR γ v v') : Adm P W (γ ++ [g]) (h.new ⟨cs, e, true, false⟩) := by
  have hl := A.rel.len
  have hp : γ <+: γ ++ [g] := List.prefix_append _ _
  have old : ∀ {n : Nat} {g' : G}, n < h.length → (γ ++ [g])[n]? = some g' → γ[n]? = some g' := fun hn hg => by
    rw [List.getElem?_append_left (by omega)] at hg
    exact hg
  have new : ∀ {g' : G}, (γ ++ [g])[h.length]? = some g' → g' = g := fun hg => by
    rw [← hl] at hg
    simpa using hg.symm
  refine ⟨⟨by simp [len_new, hl], ?_, ?_, ?_, ?_, Nat.le_refl _⟩, ?_⟩
  · intro n b g' hb' hg' j v hv
    rcases get_new_cases hb' with hb' | ⟨rfl, rfl⟩
    · obtain ⟨q1, v', q2, q3⟩ := A.rel.cell n b g' hb' (old (get_lt hb') hg') j v hv
      exact ⟨q1, v', q2, q3.mono hp⟩
    · obtain rfl := new hg'
      obtain ⟨q1, v', q2, q3⟩ := hc j v hv
      exact ⟨q1, v', q2, q3.mono hp⟩
  · intro n b g' hb' hg' hro
    rcases get_new_cases hb' with hb' | ⟨rfl, rfl⟩
    · rw [A.ro n b hb'] at hro
      cases hro
    · cases hro
  · intro n b g' hb' hg' hro
    rcases get_new_cases hb' with hb' | ⟨rfl, rfl⟩
    · exact A.rel.ro n b g' hb' (old (get_lt hb') hg') hro
    · obtain rfl := new hg'
      exact hb
  · intro n m bn bm g1 g2 h1 h2 h3 h4 hro
    rcases get_new_cases h1 with hb' | ⟨rfl, rfl⟩
    · rw [A.ro n bn hb'] at hro
      cases hro
    · cases hro
  · intro n b hb'
    rcases get_new_cases hb' with hb' | ⟨rfl, rfl⟩
    · exact A.ro n b hb'
    · rfl

section
variable {H : Type} {enc : TypeId × Value → H} {P : Program} {W : World}

theorem add_off (a : Addr) (ha : a.spot = none) (i : Nat) : a.add i = ⟨a.block, a.off + i, none⟩ := by
  unfold Addr.add
  split
  · rename_i h0
    subst h0
    obtain ⟨b, o, s⟩ := a
    simp at ha
    subst ha
    rfl
  · rfl

theorem adm_ints {γ : List G} {h : AH} (A : Adm P W γ h) {t e : TypeId} {n : Nat} {cs : List Value} {x : DataW H × List MemPlace} (ht : P.underlying t = some (.slice e)) (he : P.underlying e = some (.int .i64))
    (hc : P.cellsOf e = 1) (hx : DataW.trod enc P W 0 (fun _ => true) true n t cs = some x) :
    ∃ v' v ns γ' h', cs = [v'] ∧ γ <+: γ' ∧ h <+: h' ∧ Adm P W γ' h' ∧ VR γ' v v' ∧ Ints h' v ns ∧ ns.length ≤ maxLen := by
  rcases open_slice1 ht hc hx with ⟨rfl, _⟩ | ⟨a, len, cap, m, n', V, D, Pl, rfl, hb, hl, hm, hmm, _, hcell⟩
  · exact ⟨_, .slice none 0 0, [], γ, h, rfl, List.prefix_refl _, List.prefix_refl _, A, .nils, .inl ⟨rfl, 0, by omega, rfl⟩, Nat.zero_le _⟩
  · by_cases h0 : len = 0
    · subst h0
      exact ⟨_, .slice none 0 1, [], γ, h, rfl, List.prefix_refl _, List.prefix_refl _, A, .emp _ _, .inl ⟨rfl, 1, by omega, rfl⟩, Nat.zero_le _⟩
    · have hcell : ∀ i, i < cap → W.cell? (a.add i) = some (V i) ∧ DataW.trod enc P W 0 (fun _ => true) true n' e [V i] = some (D i, Pl i) := fun i hi => hcell i (by rw [show m = cap from hmm]; exact hi)
      have hz := (hcell 0 (by omega)).1
      have hsp : a.spot = none := by
        simp only [Addr.add, if_true] at hz
        unfold World.cell? at hz
        split at hz
        · split at hz
          · cases hz
          · rename_i hs
            simpa using hs
        · cases hz
      have hbl : a.block < W.heap.size := by
        have := World.block_lt_of_cell? W _ hz
        simpa [Addr.add] using this
      have hV : ∀ i, i < len → ∃ k, V i = .int .i64 k := fun i hi => by
        obtain ⟨k, hk, _⟩ := DataW.trod_int he (hcell i (by omega)).2
        exact ⟨k, by simpa using hk⟩
      let ns : List Int := (List.range len).map fun i => match V i with
        | .int _ k => k
        | _ => 0
      have hns : ns.length = len := by simp [ns]
      have hget : ∀ i, i < len → ns.getD i 0 = (match V i with
        | .int _ k => k
        | _ => 0) := fun i hi => by simp [ns, List.getD_eq_getElem?_getD, List.getElem?_map, List.getElem?_range hi]
      refine ⟨_, .slice (some ⟨h.length, 0, none⟩) ns.length 1, ns, γ ++ [⟨a.block, a.off, cap⟩], h.new ⟨ns.map (Value.int .i64), e, true, false⟩, rfl, List.prefix_append _ _, pre_new (List.prefix_refl _), ?_, ?_,
        Ints.own get_new_same rfl, by rw [hns]; omega⟩
      · refine A.new hbl fun j v hv => ?_
        rw [List.getElem?_map] at hv
        obtain ⟨k, hk, rfl⟩ := Option.map_eq_some_iff.1 hv
        have hj : j < len := by rw [← hns]; exact (List.getElem?_eq_some_iff.1 hk).1
        obtain ⟨k', hk'⟩ := hV j hj
        have hg := hget j hj
        rw [List.getD_eq_getElem?_getD, hk, hk'] at hg
        simp only [Option.getD_some] at hg
        subst hg
        refine ⟨rfl, _, ?_, .int _ _⟩
        have := (hcell j (by omega)).1
        rw [add_off a hsp, hk'] at this
        exact this
      · have := VR.slc (γ := γ ++ [⟨a.block, a.off, cap⟩]) h.length 0 ns.length 1 ⟨a.block, a.off, cap⟩ (by rw [← A.rel.len]; simp) (by omega) (by simp only; omega)
        have e1 : (some a : Option Addr) = some ⟨a.block, a.off + 0, none⟩ := by
          obtain ⟨b, o, s⟩ := a
          simp at hsp
          subst hsp
          rfl
        rw [e1]
        have e2 : (cap - 0) / 1 = cap := by simp
        rw [← hns, show (Value.slice (some ⟨a.block, a.off + 0, none⟩) ns.length cap) = Value.slice (some ⟨a.block, a.off + 0, none⟩) ns.length ((cap - 0) / 1) by rw [e2]]
        exact this

theorem trod_field {t : TypeId} {fs : Array Field} {n : Nat} {cs : List Value} {x : DataW H × List MemPlace} (hs : P.underlying t = some (.struct fs)) (hx : DataW.trod enc P W 0 (fun _ => true) true n t cs = some x)
    {i : Nat} {f : Field} (hf : fs[i]? = some f) : ∃ m y, DataW.trod enc P W 0 (fun _ => true) true m f.type ((cs.drop f.offset).take (P.cellsOf f.type)) = some y := by
  obtain ⟨xs, m, _, _, _, hl, hall⟩ := DataW.trod_struct hs hx
  have hi : i < xs.length := by
    rw [hl]
    exact (Array.getElem?_eq_some_iff.1 hf).1
  exact ⟨m, xs[i], by rw [hall i f hf, List.getElem?_eq_getElem hi]⟩
theorem trod_cells {t : TypeId} {fs : Array Field} {n : Nat} {cs : List Value} {x : DataW H × List MemPlace} (hs : P.underlying t = some (.struct fs)) (hx : DataW.trod enc P W 0 (fun _ => true) true n t cs = some x) : cs.length = P.cellsOf t := by
  obtain ⟨xs, m, _, _, hl, _, _⟩ := DataW.trod_struct hs hx
  exact hl
theorem trod_field_int {t : TypeId} {fs : Array Field} {n : Nat} {cs : List Value} {x : DataW H × List MemPlace} (hs : P.underlying t = some (.struct fs)) (hx : DataW.trod enc P W 0 (fun _ => true) true n t cs = some x)
    {i : Nat} {f : Field} (hf : fs[i]? = some f) (ht : P.underlying f.type = some (.int .i64)) : ∃ k, (cs.drop f.offset).take (P.cellsOf f.type) = [I64 k] ∧ (Lit.int .i64 k).wf = true := by
  obtain ⟨m, y, hy⟩ := trod_field hs hx hf
  obtain ⟨k, h1, _, h2⟩ := DataW.trod_int ht hy
  exact ⟨k, h1, h2⟩
theorem agg_of_cells {v : Value} {l : List Value} (h : v.cells.toList = l) (h2 : 2 ≤ l.length) : v = .agg l.toArray := by
  cases v with
  | agg cs =>
    simp only [Value.cells] at h
    rw [← h]
  | _ =>
    simp only [Value.cells] at h
    rw [← h] at h2
    simp at h2

/-- Four whole numbers and a list of them, side by side. -/
theorem adm_ints4 {γ : List G} {h : AH} (A : Adm P W γ h) {t e : TypeId} {f0 f1 f2 f3 f4 : Field} {v : Value} {d : DataW H} {ps : List MemPlace} (hs : P.underlying t = some (.struct #[f0, f1, f2, f3, f4]))
    (hct : P.cellsOf t = 5) (ho : f0.offset = 0 ∧ f1.offset = 1 ∧ f2.offset = 2 ∧ f3.offset = 3 ∧ f4.offset = 4)
    (hi : P.underlying f0.type = some (.int .i64) ∧ P.underlying f1.type = some (.int .i64) ∧ P.underlying f2.type = some (.int .i64) ∧ P.underlying f3.type = some (.int .i64))
    (hc : P.cellsOf f0.type = 1 ∧ P.cellsOf f1.type = 1 ∧ P.cellsOf f2.type = 1 ∧ P.cellsOf f3.type = 1 ∧ P.cellsOf f4.type = 1)
    (ht : P.underlying f4.type = some (.slice e)) (he : P.underlying e = some (.int .i64)) (hce : P.cellsOf e = 1) (hx : DataW.Trod enc P W 0 (fun _ => true) true t v d ps) :
    ∃ a b c d ns v' γ' h', γ <+: γ' ∧ h <+: h' ∧ Adm P W γ' h' ∧ VR γ' (.agg #[I64 a, I64 b, I64 c, I64 d, v']) v ∧ Ints h' v' ns ∧ ns.length ≤ maxLen := by
  obtain ⟨n, hx⟩ := hx
  have hl := trod_cells hs hx
  rw [hct] at hl
  obtain ⟨a, ha, _⟩ := trod_field_int hs hx (i := 0) (f := f0) rfl hi.1
  obtain ⟨b, hb, _⟩ := trod_field_int hs hx (i := 1) (f := f1) rfl hi.2.1
  obtain ⟨c, hcc, _⟩ := trod_field_int hs hx (i := 2) (f := f2) rfl hi.2.2.1
  obtain ⟨d, hd, _⟩ := trod_field_int hs hx (i := 3) (f := f3) rfl hi.2.2.2
  obtain ⟨m, y, hy⟩ := trod_field hs hx (i := 4) (f := f4) rfl
  obtain ⟨v', u, ns, γ', h', e1, q1, q2, q3, q4, q5, q6⟩ := adm_ints A ht he hce hy
  generalize hcs : v.cells.toList = cs at *
  rw [ho.1, hc.1] at ha
  rw [ho.2.1, hc.2.1] at hb
  rw [ho.2.2.1, hc.2.2.1] at hcc
  rw [ho.2.2.2.1, hc.2.2.2.1] at hd
  rw [ho.2.2.2.2, hc.2.2.2.2] at e1
  obtain ⟨c0, c1, c2, c3, c4, rfl⟩ : ∃ c0 c1 c2 c3 c4, cs = [c0, c1, c2, c3, c4] := by
    match cs, hl with
    | [c0, c1, c2, c3, c4], _ => exact ⟨_, _, _, _, _, rfl⟩
  simp at ha hb hcc hd e1
  subst ha hb hcc hd e1
  refine ⟨a, b, c, d, ns, u, γ', h', q1, q2, q3, ?_, q5, q6⟩
  rw [agg_of_cells hcs (by simp)]
  exact VR.aggL (VRL.cons (.int _ _) (VRL.cons (.int _ _) (VRL.cons (.int _ _) (VRL.cons (.int _ _) (VRL.cons q4 (VRL.nil _))))))

def tyInt (P : Program) (t : TypeId) : Bool := match P.underlying t with
  | some (.int .i64) => true
  | _ => false
def tySlice (P : Program) (t e : TypeId) : Bool := match P.underlying t with
  | some (.slice e') => e' == e
  | _ => false
theorem tyInt_eq {t : TypeId} (h : tyInt P t = true) : P.underlying t = some (.int .i64) := by
  unfold tyInt at h
  split at h
  · assumption
  · cases h
theorem tySlice_eq {t e : TypeId} (h : tySlice P t e = true) : P.underlying t = some (.slice e) := by
  unfold tySlice at h
  split at h
  · rename_i e' he
    have : e' = e := by simpa using h
    rw [he, this]
  · cases h
/-- .. the shape looked up by the kernel. -/
def isInts4 (P : Program) (t e : TypeId) : Bool := match P.underlying t with
  | some (.struct fs) => match fs.toList with
    | [f0, f1, f2, f3, f4] => P.cellsOf t == 5 && f0.offset == 0 && f1.offset == 1 && f2.offset == 2 && f3.offset == 3 && f4.offset == 4 &&
        [f0, f1, f2, f3].all (fun f => tyInt P f.type && P.cellsOf f.type == 1) && P.cellsOf f4.type == 1 && tySlice P f4.type e &&
        tyInt P e && P.cellsOf e == 1
    | _ => false
  | _ => false
theorem adm_tensor {γ : List G} {h : AH} (A : Adm P W γ h) {t : TypeId} (e : TypeId) (hk : isInts4 P t e = true) {v : Value} {d : DataW H} {ps : List MemPlace} (hx : DataW.Trod enc P W 0 (fun _ => true) true t v d ps) :
    ∃ a b c d ns v' γ' h', γ <+: γ' ∧ h <+: h' ∧ Adm P W γ' h' ∧ VR γ' (.agg #[I64 a, I64 b, I64 c, I64 d, v']) v ∧ Ints h' v' ns ∧ ns.length ≤ maxLen := by
  unfold isInts4 at hk
  split at hk
  · rename_i fs hs
    split at hk
    · rename_i f0 f1 f2 f3 f4 hf
      have hfs : fs = #[f0, f1, f2, f3, f4] := by
        rw [← hf]
      subst hfs
      simp only [List.all_cons, List.all_nil, Bool.and_true, Bool.and_eq_true, beq_iff_eq] at hk
      obtain ⟨⟨⟨⟨⟨⟨⟨⟨⟨⟨k0, k1⟩, k2⟩, k3⟩, k4⟩, k5⟩, ⟨i0, c0⟩, ⟨i1, c1⟩, ⟨i2, c2⟩, ⟨i3, c3⟩⟩, c4⟩, s4⟩, ie⟩, ce⟩ := hk
      exact adm_ints4 A hs k0 ⟨k1, k2, k3, k4, k5⟩ ⟨tyInt_eq i0, tyInt_eq i1, tyInt_eq i2, tyInt_eq i3⟩ ⟨c0, c1, c2, c3, c4⟩ (tySlice_eq s4) (tyInt_eq ie) ce hx
    · cases hk
  · cases hk

/-- Arguments read again in a world that kept what lay below. -/
theorem stays_all (hl : laidOutB P = true) {W W' : World} (bel : Below W.heap.size W W') : ∀ {ts : List TypeId} {vs : List Value} {ds : List (DataW H)} {ps : List MemPlace},
    (∀ t ∈ ts, P.readableRec t = true ∧ t < P.types.size) → DataW.TrodAll enc P W 0 (fun _ => true) true ts vs ds ps → DataW.TrodAll enc P W' 0 (fun b => decide (b < W.heap.size)) true ts vs ds ps
  | [], [], [], _, _, h => h
  | _ :: _, _ :: _, _ :: _, _, ht, ⟨p, q, h1, h2, e⟩ => by
    have hlt : ∀ r ∈ p, r.block < W.heap.size := by
      have hall : DataW.TrodAll enc P W 0 (fun _ => true) true [_] [_] [_] p := trodAll_mk1 h1
      exact hall.lt
    refine ⟨p, q, Go.WideElems.Trod_stays hl (ht _ (List.mem_cons.2 (.inl rfl))).1 (ht _ (List.mem_cons.2 (.inl rfl))).2 h1 (fun r hr => bel.same (hlt r hr)) (fun r hr => by simpa using hlt r hr), ?_, e⟩
    exact stays_all hl bel (fun t ht' => ht t (List.mem_cons.2 (.inr ht'))) h2

/-- What the abstract machine reaches, the program reaches. -/
theorem calls_of_WF {S : XS} (hm : P.follows .mixedOrders = true) (hE : ESound P S.E) (hT : TSound P S.T) {g : FuncId} {args args' : List Value} {γ : List G} {h : AH} {W : World} {Q : Value → AH → Prop}
    (A : Adm P W γ h) (hv : VRL γ args args') (hw : WF S g args h Q) :
    Calls P g args'.toArray W (fun e W' => ∃ v v' γ' h', e = .returned v' ∧ VR γ' v v' ∧ Q v h' ∧ Below W.heap.size W W') := by
  obtain ⟨k, v, h', h1, h2⟩ := hw
  have := (xcall_sound hm hE hT k g args h v h' h1).2 W.heap.size γ W args' A.rel hv
  refine this.mono fun e W' ⟨γ', v', q1, q2, q3⟩ => ⟨v, v', γ', h', q1, q2, h2, ?_⟩
  refine ⟨q3.os, q3.tape, q3.output, q3.size, fun b hb => q3.frame b hb fun ⟨n, blk, g, o1, o2, o3, o4⟩ => ?_⟩
  rw [A.ro n blk o1] at o3
  cases o3
end
end Go.Proofs.Ytilpnbejpndgpaa.X

/- From the readings of slices of flat elements, and of schemes, to the first heap. -/
set_option linter.unusedVariables false
set_option linter.unusedSimpArgs false
namespace Go.Proofs.Ytilpnbejpndgpaa.X
open Go Go.RowKit Go.ChangeShapes Go.WideShapes Go.Deep

theorem u8_in {n : Int} (h : (Lit.int .u8 n).wf = true) : 0 ≤ n ∧ n ≤ 255 := by
  simp [Lit.wf, IntKind.min, IntKind.max, IntKind.signed, IntKind.bits] at h
  omega
/-- Fields side by side. -/
def sideBy (P : Program) : List Field → Nat → Nat → Bool
  | [], o, m => o == m
  | f :: fs, o, m => f.offset == o && sideBy P fs (o + P.cellsOf f.type) m
/-- A type of whole numbers of one kind alone. -/
def flatK (P : Program) (k : IntKind) : Nat → TypeId → Bool
  | 0, _ => false
  | f + 1, t => match P.underlying t with
    | some (.int k') => decide (k' = k) && P.cellsOf t == 1
    | some (.array n e) => flatK P k f e && P.cellsOf t == n * P.cellsOf e
    | some (.struct fs) => sideBy P fs.toList 0 (P.cellsOf t) && fs.toList.all fun x => flatK P k f x.type
    | _ => false
theorem sideBy_at {P : Program} : ∀ {fs : List Field} {o m j : Nat}, sideBy P fs o m = true → o ≤ j → j < m → ∃ (i : Nat) (f : Field), fs[i]? = some f ∧ f.offset ≤ j ∧ j < f.offset + P.cellsOf f.type
  | [], o, m, j, h, h1, h2 => by
    simp only [sideBy, beq_iff_eq] at h
    omega
  | f :: fs, o, m, j, h, h1, h2 => by
    simp only [sideBy, Bool.and_eq_true, beq_iff_eq] at h
    by_cases hj : j < o + P.cellsOf f.type
    · exact ⟨0, f, rfl, by omega, by omega⟩
    · obtain ⟨i, g, q1, q2, q3⟩ := sideBy_at h.2 (by omega) h2
      exact ⟨i + 1, g, by rw [List.getElem?_cons_succ]; exact q1, q2, q3⟩
section
variable {H : Type} {enc : TypeId × Value → H} {P : Program} {W : World} {k : IntKind}
theorem flat_trod : ∀ (f : Nat) (t : TypeId) (n : Nat) (cs : List Value) (x : DataW H × List MemPlace), flatK P k f t = true → DataW.trod enc P W 0 (fun _ => true) true n t cs = some x →
    cs.length = P.cellsOf t ∧ ∀ (j : Nat) (v : Value), cs[j]? = some v → ∃ m, v = .int k m ∧ (Lit.int k m).wf = true
  | 0, _, _, _, _, h, _ => by cases h
  | f + 1, t, n, cs, x, h, hx => by
    unfold flatK at h
    split at h
    · rename_i k' ht
      simp only [Bool.and_eq_true, decide_eq_true_eq, beq_iff_eq] at h
      obtain ⟨rfl, hc⟩ := h
      obtain ⟨m, rfl, _, hw⟩ := DataW.trod_int ht hx
      refine ⟨by simpa using hc.symm, fun j v hv => ?_⟩
      have : j = 0 := by
        have := (List.getElem?_eq_some_iff.1 hv).1
        simp at this
        exact this
      subst this
      simp at hv
      exact ⟨m, hv.symm, hw⟩
    · rename_i c e ht
      simp only [Bool.and_eq_true, beq_iff_eq] at h
      obtain ⟨xs, m, _, _, hl, hxs, hall⟩ := DataW.trod_array ht hx
      refine ⟨hl, fun j v hv => ?_⟩
      have hj := (List.getElem?_eq_some_iff.1 hv).1
      rw [hl, h.2] at hj
      have hc : 0 < P.cellsOf e := Nat.pos_of_ne_zero fun e0 => by rw [e0] at hj; simp at hj
      have hi : j / P.cellsOf e < c := Nat.div_lt_of_lt_mul (by rw [Nat.mul_comm]; exact hj)
      have hy := hall _ hi
      rw [List.getElem?_eq_getElem (by omega)] at hy
      have hdm := Nat.div_add_mod j (P.cellsOf e)
      rw [Nat.mul_comm] at hdm
      refine (flat_trod f e m _ _ h.1 hy).2 (j % P.cellsOf e) v ?_
      rw [List.getElem?_take, if_pos (Nat.mod_lt _ hc), List.getElem?_drop, hdm]
      exact hv
    · rename_i fs ht
      simp only [Bool.and_eq_true] at h
      obtain ⟨xs, m, _, _, hl, hxs, hall⟩ := DataW.trod_struct ht hx
      refine ⟨hl, fun j v hv => ?_⟩
      have hj := (List.getElem?_eq_some_iff.1 hv).1
      rw [hl] at hj
      obtain ⟨i, g, q1, q2, q3⟩ := sideBy_at h.1 (Nat.zero_le _) hj
      have q1' : fs[i]? = some g := by simpa using q1
      have hy := hall i g q1'
      have hi : i < xs.length := by
        rw [hxs]
        exact (Array.getElem?_eq_some_iff.1 q1').1
      rw [List.getElem?_eq_getElem hi] at hy
      have hg : flatK P k f g.type = true := List.all_eq_true.1 h.2 g (List.mem_of_getElem? q1)
      refine (flat_trod f g.type m _ _ hg hy).2 (j - g.offset) v ?_
      rw [List.getElem?_take, if_pos (by omega), List.getElem?_drop, show g.offset + (j - g.offset) = j by omega]
      exact hv
    · cases h

theorem adm_elems {γ : List G} {h : AH} (A : Adm P W γ h) {t e : TypeId} {n w f : Nat} {cs : List Value} {x : DataW H × List MemPlace} (ht : P.underlying t = some (.slice e)) (hf : flatK P k f e = true)
    (hw : P.cellsOf e = w) (hw0 : 0 < w) (hx : DataW.trod enc P W 0 (fun _ => true) true n t cs = some x) :
    ∃ v' v L γ' h', cs = [v'] ∧ γ <+: γ' ∧ h <+: h' ∧ Adm P W γ' h' ∧ VR γ' v v' ∧ Els k w h' v L ∧ L.length ≤ maxLen ∧ ∀ i, i < L.length → ∀ j, j < w → (Lit.int k ((L.getD i []).getD j 0)).wf = true := by
  rcases open_slice ht hx with ⟨rfl, _⟩ | ⟨a, len, cap, m, n', D, Pl, rfl, hb, hl, hm, hmm, _, hcell⟩
  · exact ⟨_, .slice none 0 0, [], γ, h, rfl, List.prefix_refl _, List.prefix_refl _, A, .nils, .inl ⟨rfl, 0, by omega, rfl⟩, Nat.zero_le _, fun i hi => by simp at hi⟩
  · by_cases h0 : len = 0
    · subst h0
      exact ⟨_, .slice none 0 1, [], γ, h, rfl, List.prefix_refl _, List.prefix_refl _, A, .emp _ _, .inl ⟨rfl, 1, by omega, rfl⟩, Nat.zero_le _, fun i hi => by simp at hi⟩
    · have hmc : m = cap := hmm
      have cell : ∀ i, i < cap → ∀ r, r < w → ∃ z, W.cell? ((a.add (i * w)).add r) = some (.int k z) ∧ (Lit.int k z).wf = true := fun i hi r hr => by
        obtain ⟨cs', h1, h2⟩ := hcell i (by omega)
        rw [hw] at h1
        obtain ⟨_, hlen, hc⟩ := World.cells?_some h1
        obtain ⟨_, hall⟩ := flat_trod f e n' cs' _ hf h2
        have hr' : r < cs'.length := by omega
        obtain ⟨z, hz, hwf⟩ := hall r _ (List.getElem?_eq_getElem hr')
        refine ⟨z, ?_, hwf⟩
        rw [hc r hr, List.getElem?_eq_getElem hr', hz]
      obtain ⟨z0, hz, _⟩ := cell 0 (by omega) 0 hw0
      rw [Nat.zero_mul] at hz
      have a0 : a.add 0 = a := by simp [Addr.add]
      rw [a0, a0] at hz
      have hsp : a.spot = none := by
        unfold World.cell? at hz
        split at hz
        · split at hz
          · cases hz
          · rename_i hs
            simpa using hs
        · cases hz
      have hbl : a.block < W.heap.size := World.block_lt_of_cell? W _ hz
      have cell' : ∀ j, j < len * w → ∃ z, W.cell? ⟨a.block, a.off + j, none⟩ = some (.int k z) ∧ (Lit.int k z).wf = true := fun j hj => by
        have hi : j / w < len := Nat.div_lt_of_lt_mul (by rw [Nat.mul_comm]; exact hj)
        obtain ⟨z, q1, q2⟩ := cell (j / w) (by omega) (j % w) (Nat.mod_lt _ hw0)
        refine ⟨z, ?_, q2⟩
        rw [add_off a hsp, add_off _ rfl] at q1
        have hdm := Nat.div_add_mod j w
        rw [Nat.mul_comm] at hdm
        rw [show a.off + j = a.off + j / w * w + j % w by omega]
        exact q1
      obtain ⟨N, hN⟩ : ∃ N : Nat → Int, ∀ j, j < len * w → W.cell? ⟨a.block, a.off + j, none⟩ = some (.int k (N j)) ∧ (Lit.int k (N j)).wf = true := by
        refine ⟨fun j => if hj : j < len * w then (cell' j hj).choose else 0, fun j hj => ?_⟩
        simp only [dif_pos hj]
        exact (cell' j hj).choose_spec
      let L : List (List Int) := (List.range len).map fun i => (List.range w).map fun r => N (i * w + r)
      have hLl : L.length = len := by simp [L]
      have hLg : ∀ i, i < len → L.getD i [] = (List.range w).map fun r => N (i * w + r) := fun i hi => by simp [L, List.getD_eq_getElem?_getD, List.getElem?_map, List.getElem?_range hi]
      let C : List Value := cel k ((List.range (len * w)).map N)
      have hCl : C.length = len * w := by simp [C, cel_len]
      refine ⟨_, .slice (some ⟨h.length, 0, none⟩) L.length w, L, γ ++ [⟨a.block, a.off, cap * w⟩], h.new ⟨C, e, true, false⟩, rfl, List.prefix_append _ _, pre_new (List.prefix_refl _), ?_, ?_,
        .inr ⟨h.length, 0, _, rfl, get_new_same, fun i hi => ?_⟩, by rw [hLl]; omega, fun i hi j hj => ?_⟩
      · refine A.new hbl fun j v hv => ?_
        have hj : j < len * w := by rw [← hCl]; exact (List.getElem?_eq_some_iff.1 hv).1
        have hv' : C[j]? = some (.int k (N j)) := by simp [C, cel, hj]
        rw [hv'] at hv
        obtain rfl := Option.some.inj hv
        exact ⟨rfl, _, (hN j hj).1, .int _ _⟩
      · have hcw : len * w ≤ cap * w := Nat.mul_le_mul_right _ hl
        have := VR.slc (γ := γ ++ [⟨a.block, a.off, cap * w⟩]) h.length 0 L.length w ⟨a.block, a.off, cap * w⟩ (by rw [← A.rel.len]; simp) hw0 (by rw [hLl]; simp only; omega)
        have e1 : (some a : Option Addr) = some ⟨a.block, a.off + 0, none⟩ := by
          obtain ⟨b, o, s⟩ := a
          simp at hsp
          subst hsp
          rfl
        rw [e1]
        have e2 : (cap * w - 0) / w = cap := by rw [Nat.sub_zero]; exact Nat.mul_div_cancel _ hw0
        simp only [e2, hLl] at this
        rw [hLl]
        exact this
      · rw [hLl] at hi
        have hr : i * w + w ≤ len * w := mul_row hi
        refine ⟨by simp only [hCl]; omega, ?_⟩
        rw [hLg i hi]
        simp only [C, cel_drop, cel_take, Nat.zero_add]
        congr 1
        refine List.ext_getElem? fun r => ?_
        rw [List.getElem?_take, List.getElem?_drop, List.getElem?_map, List.getElem?_map]
        by_cases hr' : r < w
        · rw [if_pos hr', List.getElem?_range hr', List.getElem?_range (by omega)]
          rfl
        · rw [if_neg hr', List.getElem?_eq_none (by simp; omega)]
          rfl
      · rw [hLl] at hi
        have hr : i * w + w ≤ len * w := mul_row hi
        rw [hLg i hi]
        have : ((List.range w).map fun r => N (i * w + r)).getD j 0 = N (i * w + j) := by simp [List.getD_eq_getElem?_getD, List.getElem?_map, List.getElem?_range hj]
        rw [this]
        exact (hN _ (by omega)).2

/-- Four whole numbers and a slice of elements, side by side. -/
def isSch (P : Program) (t e : TypeId) (k : IntKind) (f w : Nat) : Bool := match P.underlying t with
  | some (.struct fs) => match fs.toList with
    | [f0, f1, f2, f3, f4] => P.cellsOf t == 5 && f0.offset == 0 && f1.offset == 1 && f2.offset == 2 && f3.offset == 3 && f4.offset == 4 &&
        [f0, f1, f2, f3].all (fun f => tyInt P f.type && P.cellsOf f.type == 1) && P.cellsOf f4.type == 1 && tySlice P f4.type e &&
        flatK P k f e && P.cellsOf e == w && decide (0 < w)
    | _ => false
  | _ => false
theorem adm_sch {γ : List G} {h : AH} (A : Adm P W γ h) {t : TypeId} (e : TypeId) (f w : Nat) (hk : isSch P t e k f w = true) {v : Value} {d : DataW H} {ps : List MemPlace} (hx : DataW.Trod enc P W 0 (fun _ => true) true t v d ps) :
    ∃ a b c d L v' γ' h', γ <+: γ' ∧ h <+: h' ∧ Adm P W γ' h' ∧ VR γ' (.agg #[I64 a, I64 b, I64 c, I64 d, v']) v ∧ Els k w h' v' L ∧ L.length ≤ maxLen ∧
      ∀ i, i < L.length → ∀ j, j < w → (Lit.int k ((L.getD i []).getD j 0)).wf = true := by
  unfold isSch at hk
  split at hk
  · rename_i fs hs
    split at hk
    · rename_i f0 f1 f2 f3 f4 hf
      have hfs : fs = #[f0, f1, f2, f3, f4] := by
        rw [← hf]
      subst hfs
      simp only [List.all_cons, List.all_nil, Bool.and_true, Bool.and_eq_true, beq_iff_eq, decide_eq_true_eq] at hk
      obtain ⟨⟨⟨⟨⟨⟨⟨⟨⟨⟨⟨hct, o0⟩, o1⟩, o2⟩, o3⟩, o4⟩, ⟨i0, c0⟩, ⟨i1, c1⟩, ⟨i2, c2⟩, ⟨i3, c3⟩⟩, c4⟩, s4⟩, fl⟩, ce⟩, cw⟩ := hk
      obtain ⟨n, hx⟩ := hx
      have hl := trod_cells hs hx
      rw [hct] at hl
      obtain ⟨a, ha, _⟩ := trod_field_int hs hx (i := 0) (f := f0) rfl (tyInt_eq i0)
      obtain ⟨b, hb, _⟩ := trod_field_int hs hx (i := 1) (f := f1) rfl (tyInt_eq i1)
      obtain ⟨c, hcc, _⟩ := trod_field_int hs hx (i := 2) (f := f2) rfl (tyInt_eq i2)
      obtain ⟨d, hd, _⟩ := trod_field_int hs hx (i := 3) (f := f3) rfl (tyInt_eq i3)
      obtain ⟨m, y, hy⟩ := trod_field hs hx (i := 4) (f := f4) rfl
      obtain ⟨v', u, L, γ', h', e1, q1, q2, q3, q4, q5, q6, q7⟩ := adm_elems A (tySlice_eq s4) fl ce cw hy
      generalize hcs : v.cells.toList = cs at *
      rw [o0, c0] at ha
      rw [o1, c1] at hb
      rw [o2, c2] at hcc
      rw [o3, c3] at hd
      rw [o4, c4] at e1
      obtain ⟨z0, z1, z2, z3, z4, rfl⟩ : ∃ z0 z1 z2 z3 z4, cs = [z0, z1, z2, z3, z4] := by
        match cs, hl with
        | [z0, z1, z2, z3, z4], _ => exact ⟨_, _, _, _, _, rfl⟩
      simp at ha hb hcc hd e1
      subst ha hb hcc hd e1
      refine ⟨a, b, c, d, L, u, γ', h', q1, q2, q3, ?_, q5, q6, q7⟩
      rw [agg_of_cells hcs (by simp)]
      exact VR.aggL (VRL.cons (.int _ _) (VRL.cons (.int _ _) (VRL.cons (.int _ _) (VRL.cons (.int _ _) (VRL.cons q4 (VRL.nil _))))))
    · cases hk
  · cases hk
end
end Go.Proofs.Ytilpnbejpndgpaa.X

/- The row of ProgramsOf (printed by row.py). -/
namespace Go.Proofs.Ytilpnbejpndgpaa.fnExactProgramsOf
open Go Go.ChangeShapes Go.WideShapes Go.ChangeAt Go.RowKit Go.Proofs.Ytilpnbejpndgpaa.X
set_option linter.unusedVariables false
theorem own : ownKnob Try.prog.godebug = none := by kernel_rfl
theorem laid : laidOutB Try.prog = true := by kernel_rfl
theorem shapeX : isSch Try.prog 66 159 .u8 4 27 = true := by kernel_rfl
theorem readable0 : Try.prog.readableRec 66 = true := by kernel_rfl
theorem intable0 : 66 < Try.prog.types.size := of_decide_eq_true (by kernel_rfl)
theorem readable1 : Try.prog.readableRec 4 = true := by kernel_rfl
theorem intable1 : 4 < Try.prog.types.size := of_decide_eq_true (by kernel_rfl)
theorem isbool : Try.prog.underlying 4 = some .bool := by kernel_rfl
theorem isint : Try.prog.underlying 2 = some (.int .i64) := by kernel_rfl
set_option maxRecDepth 100000 in
theorem lifted (os : Os) (started : os.Started) (H : Type) (enc : TypeId × Value → H) :
    ReturnsInHanded {} Try.checked os 13 .any (Rows.fnExactProgramsOfSpec.pre6 enc Try.prog Try.f13 Rows.fnExactProgramsOfRow.domain false) (Rows.fnExactProgramsOfSpec.post enc Try.prog Try.f13 false true false false) := by
  refine returnsInHanded_of_change_sized (C := Try.checked) own started (by kernel_rfl) Try.func13
    (ChangeSpec.witness6 (enc := enc) (C := Try.checked) false ⟨#[], #[.agg #[.int .i64 0, .int .i64 0, .int .i64 0, .int .i64 0, .slice none 0 0], .bool false], []⟩ 8 (by kernel_rfl) (by kernel_rfl) (by kernel_rfl) (by kernel_rfl)) ?_
  intro W base args ds gs before hval0 hW hcnd hsz0 _
  have hval : ∀ (j : Nat) t v, Try.f13.params[j]? = some t → args[j]? = some v → Value.okWide Try.prog W .any base t v := hval0
  have hW' := hW
  obtain ⟨p, q, hA0, hV, rfl, hfz, hnd⟩ := hW
  have hA : DataW.TrodAll enc Try.prog W 0 (fun _ => true) true Try.f13.params.toList args.toList ds p := hA0
  rw [Try.params13] at hA hval
  obtain ⟨v0, vs0, d0, ds0, p0, q0, hargs0, rfl, rfl, h0, r0⟩ := trodAll_cons hA
  obtain ⟨v1, vs1, d1, ds1, p1, q1, hargs1, rfl, rfl, h1, r1⟩ := trodAll_cons r0
  obtain ⟨rfl, rfl, rfl⟩ := trodAll_nil r1
  obtain rfl : args = #[v0, v1] := by cases args; simp_all
  obtain ⟨rfl, rfl⟩ := trodVars_none hV
  obtain ⟨a0, b0, c0, e0, ns0, u0, γ0, g0, pg0, ph0, A0, hv0, hy0, hl0, hw0⟩ := adm_sch (Adm.nil Try.prog W) 159 4 27 shapeX h0
  have hi0 : Prods g0 u0 ns0 := ⟨hy0, fun i hi j hj => u8_in (hw0 i hi j hj)⟩
  have hl0' : (ns0.length : Int) ≤ 9223372036854775807 := by
    have : ns0.length ≤ 2 ^ 63 - 1 := hl0
    omega
  obtain ⟨b1, rfl, rfl, rfl⟩ := open_bool isbool (hval 1 4 v1 rfl rfl) h1
  have hi0' := hi0
  have key := law_ProgramsOf (x0 := ⟨a0, b0, c0, e0, ns0⟩) (b1 := b1) hi0' hl0'
  refine (calls_of_WF (S := S) orders esound tsound A0 (VRL.cons hv0 (VRL.cons (.bool _) (VRL.nil _))) key).mono fun e W' ⟨v, u, γ1, h1, he, hvr, hb, bel⟩ => ?_
  subst hb
  obtain rfl := hvr.bool_inv
  subst he
  have st := stays_all laid bel (ts := [66, 4]) (fun t ht => by
    simp only [List.mem_cons, List.not_mem_nil, or_false] at ht
    rcases ht with rfl | rfl
    · exact ⟨readable0, intable0⟩
    · exact ⟨readable1, intable1⟩) hA
  exact ⟨_, rfl, _, _, _, [], _, [], hW', trodAll_mk1 (shut_bool isbool _), st, rfl, bel.frame _, fun h => by cases h⟩
theorem over : Rows.fnExactProgramsOfRow.holds Try.pinned (OpenSpec.ofChange Rows.fnExactProgramsOfSpec) :=
  OpenClaim.holds_of_wide 13 Try.f13 rfl rfl rfl rfl rfl rfl rfl ⟨rfl, rfl, rfl, rfl, rfl⟩ rfl rfl rfl rfl rfl (by kernel_rfl) Try.func13 (by kernel_rfl)
    (of_decide_eq_true (by kernel_rfl)) (by unfold Func.isWrapper; first | (rw [if_pos (by decide +kernel)]; kernel_rfl) | (rw [if_neg (by decide +kernel)]; exact ⟨rfl, rfl⟩))
    (fun os started H enc _ => lifted os started H enc)
end Go.Proofs.Ytilpnbejpndgpaa.fnExactProgramsOf
namespace Go.Proofs.Ytilpnbejpndgpaa
theorem fnExactProgramsOf_holds : Rows.FnExactProgramsOfSaid := fnExactProgramsOf.over
end Go.Proofs.Ytilpnbejpndgpaa
