/- Texts of one claim, put together by merge.py: XV2, XV3, XV4, XP7, XV5, XW2, XW3, XW4, XLRC, XArgs, XA2, XA3, XHRC. -/
import Derived.Test.YtilpnbejpndgpaaRV9
import Derived.Test.YtilpnbejpndgpaaRV7
import Derived.Test.YtilpnbejpndgpaaRV6
import Derived.Test.YtilpnbejpndgpaaRV5
import Derived.Test.YtilpnbejpndgpaaRV3
import Derived.Deep.Slices
import Derived.WideKeyArgs
import Derived.ChangeOld
import Derived.ChangeArms
import Derived.OpenShut
import Derived.Test.YtilpnbejpndgpaaRows
import Derived.ProofKit
import Derived.ShutString
import Derived.Below
import Derived.SizedLaws
/- Lists put together: the program's Concat. -/
set_option linter.unusedVariables false
set_option linter.unusedSimpArgs false
set_option maxRecDepth 20000
set_option maxHeartbeats 4000000
namespace Go.Proofs.Ytilpnbejpndgpaa.X
open Go Go.RowKit

theorem i_Grow {n : Int} {h : AH} {Q : Value → AH → Prop} (hn : 1 ≤ n ∧ n ≤ 1048576) (hQ : Q (sl h.length 0) (h.new ⟨[], 2, false, false⟩)) : WF S 138 [.slice none 0 0, I64 n] h Q := by
  refine WF_fn (fn := c138) rfl rfl ?_
  unfold c138
  ((try simp (maxSteps := 3000000) (dsimp := false) (disch := first | omega | (simp only [len_new, len_put, len_kill]; omega)) only [↓ypre, ypost, ↓reduceIte, Nat.reduceEqDiff, Nat.reduceAdd, Nat.reduceSub, Nat.reduceLeDiff, Nat.zero_add, Nat.sub_zero, ynew, decide_eq_false (show ¬ n < 0 by omega), capV_nil, show lenV (.slice none 0 0) = some (I64 0) from rfl, wrap64_in, Int.sub_zero, decide_eq_true (show (0 : Int) < n by omega), decide_eq_true (show n > 0 by omega)]); try simp only [yback])
  have s1 : slcV 1 (.slice none 0 0) none (some (I64 0)) = some (.slice none 0 0) := rfl
  ((try simp (maxSteps := 3000000) (dsimp := false) (disch := first | omega | (simp only [len_new, len_put, len_kill]; omega)) only [↓ypre, ypost, ↓reduceIte, Nat.reduceEqDiff, Nat.reduceAdd, Nat.reduceSub, Nat.reduceLeDiff, Nat.zero_add, Nat.sub_zero, ynew, omapF_none, omapF_some, s1]); try simp only [yback])
  have e1 : appzV 2 1 8 (.slice none 0 0) (I64 n) h = some (.slice (some ⟨h.length, 0, none⟩) n.toNat 1, h.new ⟨[], 2, false, false⟩) := by
    rw [appzV_nil, if_pos (by omega)]
  ((try simp (maxSteps := 3000000) (dsimp := false) (disch := first | omega | (simp only [len_new, len_put, len_kill]; omega)) only [↓ypre, ypost, ↓reduceIte, Nat.reduceEqDiff, Nat.reduceAdd, Nat.reduceSub, Nat.reduceLeDiff, Nat.zero_add, Nat.sub_zero, ynew, e1]); try simp only [yback])
  have s2 : slcV 1 (.slice (some ⟨h.length, 0, none⟩) n.toNat 1) none (some (.int .i64 ((0 : Nat) : Int))) = some (sl h.length 0) := by
    simp [slcV, boundV, sl]
  ((try simp (maxSteps := 3000000) (dsimp := false) (disch := first | omega | (simp only [len_new, len_put, len_kill]; omega)) only [↓ypre, ypost, ↓reduceIte, Nat.reduceEqDiff, Nat.reduceAdd, Nat.reduceSub, Nat.reduceLeDiff, Nat.zero_add, Nat.sub_zero, ynew, omapF_none, omapF_some, s2]); try simp only [yback])
  exact hQ
/-- A list appended onto a list of one's own. -/
theorem Lst.appL {H : AH} {n : Nat} {l ns : List Int} {full : Bool} {v : Value} (o : Lst H n l full) (hv : Ints H v ns) (h0 : 0 < ns.length) (hl : (l.length : Int) + ns.length ≤ 1048576) {Q : Value → AH → Prop}
    (hQ : ∀ H', H'.length = H.length + 1 → (∀ h0 : AH, h0.length ≤ n → h0 <+: H → h0 <+: H') → Lst H' H.length (l ++ ns) false → Q (sl H.length (l ++ ns).length) H') :
    OQ (appV 2 1 8 (sl n l.length) v H) Q := by
  obtain ⟨n', off, rfl, hr⟩ := hv.vals.rdn (by simpa using h0)
  rw [List.length_map] at hr
  have e : appV 2 1 8 (sl n l.length) (.slice (some ⟨n', off, none⟩) (ns.map (Value.int .i64)).length 1) H = some (sl H.length (l ++ ns).length, (H.kill n).new ⟨(l ++ ns).map (Value.int .i64), 2, false, false⟩) := by
    simp only [appV, xop, ev, sl, if_true, Nat.mul_one, List.length_map, hr]
    rw [if_pos (by omega), if_neg (by omega)]
    unfold Lst at o
    simp [o]
  rw [e, OQ_some]
  exact hQ _ (by rw [len_new, len_kill]) (fun h0 q p => pre_new (pre_kill p q)) (get_new_eq (by rw [len_kill]))
theorem i_Concat {v : Value} {L : List (List Int)} {w : Nat} {h : AH} {Q : Value → AH → Prop} (hv : Rows h v L) (hw : Wid w L) (h1 : 1 ≤ w ∧ w ≤ 1000) (h2 : 1 ≤ L.length ∧ L.length ≤ 1000)
    (hQ : ∀ n full h', h.length ≤ n → h <+: h' → Lst h' n L.flatten full → Q (sl n L.flatten.length) h') : WF S 105 [v] h Q := by
  refine WF_fn (fn := c105) rfl rfl ?_
  unfold c105
  have hwl : ∀ i, i < L.length → (L.getD i []).length = w := fun i hi => hw _ (by rw [List.getD_eq_getElem?_getD, List.getElem?_eq_getElem hi]; exact List.getElem_mem hi)
  have hLw : L.length * w ≤ 1000 * 1000 := Nat.mul_le_mul h2.2 h1.2
  have hLw1 : 1 * 1 ≤ L.length * w := Nat.mul_le_mul h2.1 h1.1
  ((try simp (maxSteps := 3000000) (dsimp := false) (disch := first | omega | (simp only [len_new, len_put, len_kill]; omega)) only [↓ypre, ypost, ↓reduceIte, Nat.reduceEqDiff, Nat.reduceAdd, Nat.reduceSub, Nat.reduceLeDiff, Nat.zero_add, Nat.sub_zero, ynew, hv.len]); try simp only [yback])
  refine WC_loop_inv (fun m f K1 => ∃ (i : Nat), m = L.length - i ∧ i ≤ L.length ∧ f 0 = v ∧ f 3 = I64 ((i * w : Nat) : Int) ∧ f 9 = v ∧ f 10 = I64 L.length ∧ f 11 = I64 i ∧ (K1 = h)) ?_ (L.length - 0) _ _ ⟨0, rfl, by omega, (by first | rfl | (simp [upd_apply]; done)), (by first | rfl | (simp [upd_apply]; done)), (by first | rfl | (simp [upd_apply]; done)), (by first | rfl | (simp [upd_apply]; done)), (by first | rfl | (simp [upd_apply]; done)), rfl⟩
  rintro m f K1 ⟨i, rfl, hi, f0, f3, f9, f10, f11, hK⟩
  subst hK
  by_cases hlt : (i : Int) < L.length
  · have hi' : i < L.length := by omega
    obtain ⟨n0, off0, x0, hix0, hrd0, i0⟩ := hv.row hi'
    have hm := mul_row (w := w) hi'
    have hc : (((i * w : Nat) : Int) + ((L.getD i []).length : Int)) = (((i + 1) * w : Nat) : Int) := by rw [hwl i hi', Nat.succ_mul]; omega
    have hb : ((i + 1) * w : Nat) ≤ 1000000 := by rw [Nat.succ_mul]; omega
    ((try simp (maxSteps := 3000000) (dsimp := false) (disch := first | omega | (simp only [len_new, len_put, len_kill]; omega)) only [↓ypre, ypost, ↓reduceIte, Nat.reduceEqDiff, Nat.reduceAdd, Nat.reduceSub, Nat.reduceLeDiff, Nat.zero_add, Nat.sub_zero, ynew, f0, f3, f9, f10, f11, decide_eq_true hlt, hix0, hrd0, i0.len, hc, wrap64_in, decide_eq_false (show ¬ (((i + 1) * w : Nat) : Int) < 0 by omega)]); try simp only [yback])
    refine InvQ_go (L.length - (i + 1)) (by omega) ⟨(i + 1), rfl, by omega, (by first | rfl | exact f0 | (simp only [upd_apply]; rfl) | (show I64 _ = _; congr 1; omega)), (by first | rfl | exact f3 | (simp only [upd_apply]; rfl) | (show I64 _ = _; congr 1; omega)), (by first | rfl | exact f9 | (simp only [upd_apply]; rfl) | (show I64 _ = _; congr 1; omega)), (by first | rfl | exact f10 | (simp only [upd_apply]; rfl) | (show I64 _ = _; congr 1; omega)), (by first | rfl | exact f11 | (simp only [upd_apply]; rfl) | (show I64 _ = _; congr 1; omega)), rfl⟩
  have ei : i = L.length := by omega
  subst ei
  ((try simp (maxSteps := 3000000) (dsimp := false) (disch := first | omega | (simp only [len_new, len_put, len_kill]; omega)) only [↓ypre, ypost, ↓reduceIte, Nat.reduceEqDiff, Nat.reduceAdd, Nat.reduceSub, Nat.reduceLeDiff, Nat.zero_add, Nat.sub_zero, ynew, f0, f3, f9, f10, f11, decide_eq_false hlt]); try simp only [yback])
  refine i_Grow (by omega) ?_
  generalize hH1 : AH.new K1 _ = H1
  obtain ⟨hb1, p1, n1⟩ := new_facts hH1
  have l0 : Lst H1 K1.length (L.take 0).flatten false := hb1
  ((try simp (maxSteps := 3000000) (dsimp := false) (disch := first | omega | (simp only [len_new, len_put, len_kill]; omega)) only [↓ypre, ypost, ↓reduceIte, Nat.reduceEqDiff, Nat.reduceAdd, Nat.reduceSub, Nat.reduceLeDiff, Nat.zero_add, Nat.sub_zero, ynew, f0, f3, f9, f10, f11, hv.len]); try simp only [yback])
  refine WC_loop_inv (fun m f K2 => ∃ (i : Nat) (kn : Nat) (fu : Bool), m = L.length - i ∧ i ≤ L.length ∧ f 6 = sl kn (L.take i).flatten.length ∧ f 25 = v ∧ f 26 = I64 L.length ∧ f 27 = I64 i ∧ (K1 <+: K2) ∧ (Lst K2 kn (L.take i).flatten fu) ∧ (K1.length ≤ kn)) ?_ (L.length - 0) _ _ ⟨0, K1.length, false, rfl, by omega, (by first | rfl | (simp [upd_apply]; done)), (by first | rfl | (simp [upd_apply]; done)), (by first | rfl | (simp [upd_apply]; done)), (by first | rfl | (simp [upd_apply]; done)), p1, l0, Nat.le_refl _⟩
  rintro m f K2 ⟨i, kn, fu, rfl, hi, f6, f25, f26, f27, pp, lo, hk⟩
  by_cases hlt : (i : Int) < L.length
  · have hi' : i < L.length := by omega
    obtain ⟨n0, off0, x0, hix0, hrd0, i0⟩ := (hv.pre pp).row hi'
    have et : (L.take i).flatten ++ L.getD i [] = (L.take (i + 1)).flatten := by
      rw [take_next (d := []) hi', List.flatten_append]
      simp
    have lt : (L.take i).flatten.length = i * w := by
      rw [flat_len (fun q hq => hw q (List.mem_of_mem_take hq)), List.length_take, Nat.min_eq_left (by omega)]
    have hm := mul_row (w := w) hi'
    have hwi := hwl i hi'
    ((try simp (maxSteps := 3000000) (dsimp := false) (disch := first | omega | (simp only [len_new, len_put, len_kill]; omega)) only [↓ypre, ypost, ↓reduceIte, Nat.reduceEqDiff, Nat.reduceAdd, Nat.reduceSub, Nat.reduceLeDiff, Nat.zero_add, Nat.sub_zero, ynew, f6, f25, f26, f27, decide_eq_true hlt, hix0, hrd0]); try simp only [yback])
    refine lo.appL i0 (by omega) (by omega) fun H5 l5 pre5 lo5 => ?_
    rw [et] at lo5 ⊢
    ((try simp (maxSteps := 3000000) (dsimp := false) (disch := first | omega | (simp only [len_new, len_put, len_kill]; omega)) only [↓ypre, ypost, ↓reduceIte, Nat.reduceEqDiff, Nat.reduceAdd, Nat.reduceSub, Nat.reduceLeDiff, Nat.zero_add, Nat.sub_zero, ynew, f6, f25, f26, f27, wrap64_in]); try simp only [yback])
    refine InvQ_go (L.length - (i + 1)) (by omega) ⟨(i + 1), K2.length, false, rfl, by omega, (by first | rfl | exact f6 | (simp only [upd_apply]; rfl) | (show I64 _ = _; congr 1; omega)), (by first | rfl | exact f25 | (simp only [upd_apply]; rfl) | (show I64 _ = _; congr 1; omega)), (by first | rfl | exact f26 | (simp only [upd_apply]; rfl) | (show I64 _ = _; congr 1; omega)), (by first | rfl | exact f27 | (simp only [upd_apply]; rfl) | (show I64 _ = _; congr 1; omega)), (pre5 _ hk pp), lo5, (by have := pre_len pp; omega)⟩
  have ei : i = L.length := by omega
  subst ei
  rw [List.take_of_length_le (Nat.le_refl _)] at lo f6
  ((try simp (maxSteps := 3000000) (dsimp := false) (disch := first | omega | (simp only [len_new, len_put, len_kill]; omega)) only [↓ypre, ypost, ↓reduceIte, Nat.reduceEqDiff, Nat.reduceAdd, Nat.reduceSub, Nat.reduceLeDiff, Nat.zero_add, Nat.sub_zero, ynew, f6, f25, f26, f27, decide_eq_false hlt]); try simp only [yback])
  exact hQ _ _ _ hk pp lo
end Go.Proofs.Ytilpnbejpndgpaa.X

/- MakeProduct: what products make, the program. -/
set_option linter.unusedVariables false
set_option linter.unusedSimpArgs false
set_option maxRecDepth 20000
set_option maxHeartbeats 4000000
namespace Go.Proofs.Ytilpnbejpndgpaa.X
open Go Go.RowKit

def mOK (x : Sch) (L R : List (List Int)) : Bool := (isMat x.p x.m L && decide ((L.length : Int) = x.n)) && (isMat x.p x.k R && decide ((R.length : Int) = x.m))
def mcX (x : Sch) (L R : List (List Int)) : Int := if isX x = true then (if mOK x L R = true then 0 else 2) else 1
theorem i_matricesCode {v u z : Value} {x : Sch} {L R : List (List Int)} {h : AH} {Q : Value → AH → Prop} (hv : Prods h v x.ps) (hl : SmallX x.ps) (hu : Rows h u L) (hL : SmallM L) (hz : Rows h z R) (hR : SmallM R)
    (hQ : ∀ h', h <+: h' → Q (I64 (mcX x L R)) h') : WF S 102 [schV x v, u, z] h Q := by
  refine WF_fn (fn := c102) rfl rfl ?_
  unfold c102
  ((try simp (maxSteps := 3000000) (dsimp := false) (disch := first | omega | (simp only [len_new, len_put, len_kill]; omega)) only [↓ypre, ypost, ↓reduceIte, Nat.reduceEqDiff, Nat.reduceAdd, Nat.reduceSub, Nat.reduceLeDiff, Nat.zero_add, Nat.sub_zero, ynew, schV, hv.one]); try simp only [yback])
  generalize hH1 : AH.new h _ = H1
  obtain ⟨hb1, p1, n1⟩ := new_facts hH1
  ((try simp (maxSteps := 3000000) (dsimp := false) (disch := first | omega | (simp only [len_new, len_put, len_kill]; omega)) only [↓ypre, ypost, ↓reduceIte, Nat.reduceEqDiff, Nat.reduceAdd, Nat.reduceSub, Nat.reduceLeDiff, Nat.zero_add, Nat.sub_zero, ynew, rdn_of hb1]); try simp only [yback])
  refine i_IsScheme (x := x) (hv.pre p1) hl fun H2 p2 => ?_
  have p12 := p1.trans p2
  have hb2 := pre_get p2 hb1
  have hQ2 := hQ _ p12
  unfold mcX at hQ2
  cases h1 : isX x with
  | false =>
    rw [h1, if_neg (by decide)] at hQ2
    ((try simp (maxSteps := 3000000) (dsimp := false) (disch := first | omega | (simp only [len_new, len_put, len_kill]; omega)) only [↓ypre, ypost, ↓reduceIte, Nat.reduceEqDiff, Nat.reduceAdd, Nat.reduceSub, Nat.reduceLeDiff, Nat.zero_add, Nat.sub_zero, ynew]); try simp only [yback])
    exact hQ2
  | true =>
    rw [h1, if_pos rfl] at hQ2
    unfold mOK at hQ2
    ((try simp (maxSteps := 3000000) (dsimp := false) (disch := first | omega | (simp only [len_new, len_put, len_kill]; omega)) only [↓ypre, ypost, ↓reduceIte, Nat.reduceEqDiff, Nat.reduceAdd, Nat.reduceSub, Nat.reduceLeDiff, Nat.zero_add, Nat.sub_zero, ynew, rd1_of hb2]); try simp only [yback])
    refine i_isMatrix (hu.pre p12) hL.1 hL.2.1 ?_
    cases h2 : (isMat x.p x.m L && decide ((L.length : Int) = x.n)) with
    | false =>
      rw [h2, Bool.false_and, if_neg (by decide)] at hQ2
      ((try simp (maxSteps := 3000000) (dsimp := false) (disch := first | omega | (simp only [len_new, len_put, len_kill]; omega)) only [↓ypre, ypost, ↓reduceIte, Nat.reduceEqDiff, Nat.reduceAdd, Nat.reduceSub, Nat.reduceLeDiff, Nat.zero_add, Nat.sub_zero, ynew]); try simp only [yback])
      exact hQ2
    | true =>
      rw [h2, Bool.true_and] at hQ2
      ((try simp (maxSteps := 3000000) (dsimp := false) (disch := first | omega | (simp only [len_new, len_put, len_kill]; omega)) only [↓ypre, ypost, ↓reduceIte, Nat.reduceEqDiff, Nat.reduceAdd, Nat.reduceSub, Nat.reduceLeDiff, Nat.zero_add, Nat.sub_zero, ynew, rd1_of hb2]); try simp only [yback])
      refine i_isMatrix (hz.pre p12) hR.1 hR.2.1 ?_
      cases h3 : (isMat x.p x.k R && decide ((R.length : Int) = x.m)) with
      | false =>
        rw [h3, if_neg (by decide)] at hQ2
        ((try simp (maxSteps := 3000000) (dsimp := false) (disch := first | omega | (simp only [len_new, len_put, len_kill]; omega)) only [↓ypre, ypost, ↓reduceIte, Nat.reduceEqDiff, Nat.reduceAdd, Nat.reduceSub, Nat.reduceLeDiff, Nat.zero_add, Nat.sub_zero, ynew]); try simp only [yback])
        exact hQ2
      | true =>
        rw [h3, if_pos rfl] at hQ2
        ((try simp (maxSteps := 3000000) (dsimp := false) (disch := first | omega | (simp only [len_new, len_put, len_kill]; omega)) only [↓ypre, ypost, ↓reduceIte, Nat.reduceEqDiff, Nat.reduceAdd, Nat.reduceSub, Nat.reduceLeDiff, Nat.zero_add, Nat.sub_zero, ynew]); try simp only [yback])
        exact hQ2

theorem gen_set {N c : Nat} {f g : Nat → Int} (hc : c < N) (x : Int) (hx : x = f c) : (gen N fun j => if j < c then f j else g j).set c x = gen N fun j => if j < c + 1 then f j else g j := by
  refine gen_ext (by rw [List.length_set, gen_len]) fun j hj => ?_
  rw [List.getD_eq_getElem?_getD, List.getElem?_set]
  by_cases e : c = j
  · subst e
    rw [if_pos rfl, if_pos (by rw [gen_len]; exact hc), if_pos (by omega), hx]
    rfl
  · rw [if_neg e, ← List.getD_eq_getElem?_getD, gen_get hj]
    by_cases h1 : j < c
    · rw [if_pos h1, if_pos (by omega)]
    · rw [if_neg h1, if_neg (by omega)]
end Go.Proofs.Ytilpnbejpndgpaa.X

/- MakeProduct, the program. -/
set_option linter.unusedVariables false
set_option linter.unusedSimpArgs false
set_option maxRecDepth 20000
set_option maxHeartbeats 4000000
namespace Go.Proofs.Ytilpnbejpndgpaa.X
open Go Go.RowKit

theorem mcX_0 {x : Sch} {L R : List (List Int)} (h : mcX x L R = 0) : isX x = true ∧ isMat x.p x.m L = true ∧ (L.length : Int) = x.n ∧ isMat x.p x.k R = true ∧ (R.length : Int) = x.m := by
  unfold mcX at h
  split at h
  · rename_i h1
    split at h
    · rename_i h2
      simp only [mOK, Bool.and_eq_true, decide_eq_true_eq] at h2
      exact ⟨h1, h2.1.1, h2.1.2, h2.2.1, h2.2.2⟩
    · omega
  · omega
/-- The sizes of a scheme and of its matrices, as natural numbers. -/
structure MF (x : Sch) (L R : List (List Int)) (n m k : Nat) : Prop where
  en : x.n = n
  em : x.m = m
  ek : x.k = k
  b : 1 ≤ n ∧ n ≤ 3 ∧ 1 ≤ m ∧ m ≤ 3 ∧ 1 ≤ k ∧ k ≤ 3
  nk : 1 ≤ n * k ∧ n * k ≤ 9
  wL : Wid m L
  wR : Wid k R
  lL : L.length = n
  lR : R.length = m
  fL : L.flatten.length ≤ 9
  fR : R.flatten.length ≤ 9
  aL : allIn x.p L.flatten = true
  aR : allIn x.p R.flatten = true
  hm : isMat x.p m L = true
  hr : isMat x.p k R = true
theorem mf_of {x : Sch} {L R : List (List Int)} (h : mcX x L R = 0) : ∃ n m k, MF x L R n m k := by
  obtain ⟨hx, m1, l1, m2, l2⟩ := mcX_0 h
  obtain ⟨zz, hp, hl30, ho⟩ := isX_facts hx
  obtain ⟨p, ⟨n1, n2⟩, ⟨k1, k2⟩, ⟨j1, j2⟩, _, _, _⟩ := zz
  obtain ⟨n, hn⟩ : ∃ n : Nat, x.n = n := ⟨x.n.toNat, by omega⟩
  obtain ⟨m, hm⟩ : ∃ m : Nat, x.m = m := ⟨x.m.toNat, by omega⟩
  obtain ⟨k, hk⟩ : ∃ k : Nat, x.k = k := ⟨x.k.toNat, by omega⟩
  rw [hm] at m1
  rw [hk] at m2
  have wL := isMat_wid m1
  have wR := isMat_wid m2
  have b1 : n * m ≤ 3 * 3 := Nat.mul_le_mul (by omega) (by omega)
  have b2 : m * k ≤ 3 * 3 := Nat.mul_le_mul (by omega) (by omega)
  have b3 : n * k ≤ 3 * 3 := Nat.mul_le_mul (by omega) (by omega)
  have b4 : 1 * 1 ≤ n * k := Nat.mul_le_mul (by omega) (by omega)
  have lL : L.length = n := by omega
  have lR : R.length = m := by omega
  exact ⟨n, m, k, hn, hm, hk, by omega, by omega, wL, wR, lL, lR, by rw [flat_len wL, lL]; omega, by rw [flat_len wR, lR]; omega, allIn_flat m1, allIn_flat m2, m1, m2⟩
end Go.Proofs.Ytilpnbejpndgpaa.X

/- FormsOf of both sides. -/
set_option linter.unusedVariables false
set_option linter.unusedSimpArgs false
set_option maxRecDepth 20000
set_option maxHeartbeats 4000000
namespace Go.Proofs.Ytilpnbejpndgpaa.X
open Go Go.RowKit

theorem smallM_of2 {rows : List (List Int)} {A B : Nat} (h1 : rows.length ≤ A) (h2 : ∀ i, i < rows.length → (rows.getD i []).length ≤ B) (hAB : A ≤ 1000 ∧ B ≤ 1000) : SmallM rows := by
  have ht : ∀ i, i ≤ rows.length → tot rows i ≤ i * 1000 := fun i => by
    induction i with
    | zero => intro _; simp
    | succ i ih =>
      intro hi
      have e := tot_succ (rows := rows) (i := i) (by omega)
      have := ih (by omega)
      have := h2 i (by omega)
      omega
  have := ht rows.length (Nat.le_refl _)
  exact ⟨by omega, fun i hi => by have := h2 i hi; omega, by omega⟩
theorem TabS.get {h0 h : AH} {nb i : Nat} {full : Bool} {L : List (Nat × List Int)} (s : TabS h0 h nb full L) (hi : i < L.length) : h.rd1 nb i = some (sl (L[i]).1 (L[i]).2.length) := by
  rw [rd1_of s.g]
  simp [hi, rowV, sl]
end Go.Proofs.Ytilpnbejpndgpaa.X

/- MakeProduct, the reference. -/
set_option linter.unusedVariables false
set_option linter.unusedSimpArgs false
set_option maxRecDepth 20000
set_option maxHeartbeats 4000000
namespace Go.Proofs.Ytilpnbejpndgpaa.X
open Go Go.RowKit

section
variable {bs : List Nat} {n k : Nat} {g g' : Nat → Nat → Int}
end
end Go.Proofs.Ytilpnbejpndgpaa.X

/- RunScheme: plainly, and what the reference needs. -/
set_option linter.unusedVariables false
set_option linter.unusedSimpArgs false
set_option maxRecDepth 20000
set_option maxHeartbeats 4000000
namespace Go.Proofs.Ytilpnbejpndgpaa.X
open Go Go.RowKit

theorem runP_in {x : Prg} {h : AH} {v w : Value} (f : PrgF x) (hv : PrgR h v w x) {ns : List Int} (hn : allIn x.p ns = true) (hl : (ns.length : Int) = x.n) : allIn x.p (runP x ns) = true := by
  have vin := valS_in f hv hn hl (i := x.st.length) (Nat.le_refl _)
  have key : ∀ {i : Nat}, i ≤ x.out.length → allIn x.p (outS x.p x.out (valS x.p x.st ns x.st.length) i) = true := by
    intro i
    induction i with
    | zero => intro _; rfl
    | succ i ih =>
      intro hi
      refine allIn_app (ih (by omega)) ?_
      obtain ⟨a, b, hq⟩ := all2 (hv.2.wid (show i < x.out.length by omega))
      have o2 := f.out2 (by omega) hq
      have fp := f.p
      rw [hq]
      have hA := allIn_iff.1 vin a.toNat (by rw [valS_len]; omega)
      have m := Int.mul_nonneg o2.2.2.1 hA.1
      exact tmod_nn m (by omega)
  exact key (Nat.le_refl _)
theorem pgX_facts {h : AH} {v : Value} {x : Sch} {b : Bool} (hv : Prods h v x.ps) (hx : isX x = true) (h0 : 1 ≤ x.ps.length) {i : Nat} (hi : i < 3) :
    (pgX x b i).p = x.p ∧ (pgX x b i).n = nuX x i ∧ (pgX x b i).out.length = (fmX x i).length := by
  have ok := fmX_ok hv hx h0 hi
  obtain ⟨hp, hn, hl, hm⟩ := lsOK_iff.1 ok
  unfold pgX pgO
  cases b with
  | true =>
    rw [if_pos rfl]
    have si := shS_facts ok
    have nz := si.nz
    have f := finP_facts (x := ⟨x.p, nuX x i, (shS x.p (fmX x i)).st, []⟩) (rows := (shS x.p (fmX x i)).T) (N := 10000) hp (fun j hj => by
      obtain ⟨g1, g2⟩ := si.gt j hj
      exact ⟨allIn_iff.2 fun k hk => g2 k (by omega), by omega⟩) hn (i := (shS x.p (fmX x i)).T.length) (Nat.le_refl _)
    have len := si.len
    simp only [List.length_nil, Nat.zero_add] at f
    exact ⟨f.1, f.2.1, f.2.2.2.trans len⟩
  | false =>
    rw [if_neg (by decide)]
    have f := finP_facts (x := ⟨x.p, nuX x i, [], []⟩) (rows := fmX x i) (N := 30) hp (fun j hj => ⟨(isMat_iff.1 hm j hj).2, by have := (isMat_iff.1 hm j hj).1; omega⟩) hn (i := (fmX x i).length) (Nat.le_refl _)
    simp only [List.length_nil, Nat.zero_add] at f
    exact ⟨f.1, f.2.1, f.2.2.2⟩
theorem fmX_len {x : Sch} {n k : Nat} (en : x.n = n) (ek : x.k = k) : (fmX x 0).length = x.ps.length ∧ (fmX x 1).length = x.ps.length ∧ (fmX x 2).length = n * k := by
  refine ⟨?_, ?_, ?_⟩
  · show (lsF x 0 _).length = _
    exact lsF_len
  · show (lsF x 1 _).length = _
    exact lsF_len
  · show (trL (lsF x 2 (x.n * x.k).toNat) (x.n * x.k).toNat).length = _
    rw [trL_len, en, ek, ← Int.natCast_mul, Int.toNat_natCast]
def rsC (x : Sch) (L R : List (List Int)) : Int := if isX x = true then (if mOK x L R = true then (if x.ps.length = 0 then 5 else 0) else 2) else 1
def prX (x : Sch) (b : Bool) (L R : List (List Int)) (j : Nat) : Int := ((runP (pgX x b 0) L.flatten).getD j 0 * (runP (pgX x b 1) R.flatten).getD j 0).tmod x.p
def rsF (x : Sch) (b : Bool) (L R : List (List Int)) : List (List Int) := parts (runP (pgX x b 2) (gen x.ps.length (prX x b L R))) x.k.toNat x.n.toNat
def rsR (x : Sch) (b : Bool) (L R : List (List Int)) : List (List Int) × Int := if rsC x L R = 0 then (rsF x b L R, 0) else ([], rsC x L R)
/-- What the run of a scheme needs. -/
structure RF (x : Sch) (b : Bool) (L R : List (List Int)) (n m k : Nat) : Prop where
  mf : MF x L R n m k
  h0 : 1 ≤ x.ps.length ∧ x.ps.length ≤ 30
  p : 2 ≤ x.p ∧ x.p ≤ 5
  f : ∀ i, i < 3 → PrgF (pgX x b i)
  ep : ∀ i, i < 3 → (pgX x b i).p = x.p
  n0 : ((L.flatten.length : Nat) : Int) = (pgX x b 0).n
  n1 : ((R.flatten.length : Nat) : Int) = (pgX x b 1).n
  n2 : (x.ps.length : Int) = (pgX x b 2).n
  o0 : (runP (pgX x b 0) L.flatten).length = x.ps.length
  o1 : (runP (pgX x b 1) R.flatten).length = x.ps.length
  o2 : ∀ ns, (runP (pgX x b 2) ns).length = n * k
theorem rf_of {h : AH} {v : Value} {x : Sch} {b : Bool} {L R : List (List Int)} (hv : Prods h v x.ps) (hc : rsC x L R = 0) : isX x = true ∧ mcX x L R = 0 ∧ ∃ n m k, RF x b L R n m k := by
  have hx : isX x = true := by
    unfold rsC at hc
    split at hc
    · assumption
    · omega
  have hm : mOK x L R = true := by
    unfold rsC at hc
    rw [if_pos hx] at hc
    split at hc
    · assumption
    · omega
  have h0 : ¬ x.ps.length = 0 := fun e => by
    unfold rsC at hc
    rw [if_pos hx, if_pos hm, if_pos e] at hc
    omega
  have hmc : mcX x L R = 0 := by
    unfold mcX
    rw [if_pos hx, if_pos hm]
  obtain ⟨n, m, k, mf⟩ := mf_of hmc
  obtain ⟨zz, hp, hl30, ho⟩ := isX_facts hx
  have h0' : 1 ≤ x.ps.length := by omega
  have pf := fun i (hi : i < 3) => pgX_facts (b := b) hv hx h0' hi
  obtain ⟨l0, l1, l2⟩ := fmX_len mf.en mf.ek
  refine ⟨hx, hmc, n, m, k, mf, ⟨h0', hl30⟩, isP_in hp, fun i hi => isPrg_facts (pgX_isPrg hv hx h0' hi), fun i hi => (pf i hi).1, ?_, ?_, ?_, ?_, ?_, fun ns => ?_⟩
  · rw [(pf 0 (by omega)).2.1, flat_len mf.wL, mf.lL]
    show _ = pl x 0
    unfold pl
    simp [mf.en, mf.em]
  · rw [(pf 1 (by omega)).2.1, flat_len mf.wR, mf.lR]
    show _ = pl x 1
    unfold pl
    simp [mf.em, mf.ek]
  · rw [(pf 2 (by omega)).2.1]
    rfl
  · rw [runP_len, (pf 0 (by omega)).2.2, l0]
  · rw [runP_len, (pf 1 (by omega)).2.2, l1]
  · rw [runP_len, (pf 2 (by omega)).2.2, l2]
theorem RF.in0 {x : Sch} {b : Bool} {L R : List (List Int)} {n m k : Nat} (o : RF x b L R n m k) {h : AH} {v w : Value} (hv : PrgR h v w (pgX x b 0)) : allIn x.p (runP (pgX x b 0) L.flatten) = true := by
  have e := o.ep 0 (by omega)
  have := runP_in (o.f 0 (by omega)) hv (by rw [e]; exact o.mf.aL) o.n0
  rw [e] at this
  exact this
theorem RF.in1 {x : Sch} {b : Bool} {L R : List (List Int)} {n m k : Nat} (o : RF x b L R n m k) {h : AH} {v w : Value} (hv : PrgR h v w (pgX x b 1)) : allIn x.p (runP (pgX x b 1) R.flatten) = true := by
  have e := o.ep 1 (by omega)
  have := runP_in (o.f 1 (by omega)) hv (by rw [e]; exact o.mf.aR) o.n1
  rw [e] at this
  exact this
theorem prX_in {x : Sch} {b : Bool} {L R : List (List Int)} (hp : 2 ≤ x.p ∧ x.p ≤ 5) (h0 : allIn x.p (runP (pgX x b 0) L.flatten) = true) (h1 : allIn x.p (runP (pgX x b 1) R.flatten) = true) (l0 : (runP (pgX x b 0) L.flatten).length = x.ps.length) (l1 : (runP (pgX x b 1) R.flatten).length = x.ps.length) :
    (∀ j, j < x.ps.length → (0 ≤ (runP (pgX x b 0) L.flatten).getD j 0 * (runP (pgX x b 1) R.flatten).getD j 0 ∧ (runP (pgX x b 0) L.flatten).getD j 0 * (runP (pgX x b 1) R.flatten).getD j 0 ≤ 16) ∧ 0 ≤ prX x b L R j ∧ prX x b L R j < x.p) ∧ allIn x.p (gen x.ps.length (prX x b L R)) = true := by
  have key : ∀ j, j < x.ps.length → (0 ≤ (runP (pgX x b 0) L.flatten).getD j 0 * (runP (pgX x b 1) R.flatten).getD j 0 ∧ (runP (pgX x b 0) L.flatten).getD j 0 * (runP (pgX x b 1) R.flatten).getD j 0 ≤ 16) ∧ 0 ≤ prX x b L R j ∧ prX x b L R j < x.p := fun j hj => by
    have a := allIn_iff.1 h0 j (by omega)
    have c := allIn_iff.1 h1 j (by omega)
    have m := Int.mul_nonneg a.1 c.1
    have m2 : (runP (pgX x b 0) L.flatten).getD j 0 * (runP (pgX x b 1) R.flatten).getD j 0 ≤ 4 * 4 := Int.le_trans (Int.mul_le_mul_of_nonneg_right (show _ ≤ (4 : Int) by omega) c.1) (Int.mul_le_mul_of_nonneg_left (by omega) (by decide))
    exact ⟨⟨m, by omega⟩, tmod_nn m (by omega)⟩
  exact ⟨key, allIn_iff.2 fun j hj => by
    rw [gen_len] at hj
    rw [gen_get hj]
    exact (key j hj).2⟩
theorem s_l07Joined {v : Value} {L : List (List Int)} {w : Nat} {h : AH} {Q : Value → AH → Prop} (hv : Rows h v L) (hw : Wid w L) (h1 : 1 ≤ w ∧ w ≤ 1000) (h2 : L.length ≤ 1000)
    (hQ : ∀ n full h', h.length ≤ n → h <+: h' → Lst h' n L.flatten full → Q (sl n L.flatten.length) h') : WF S 112 [v] h Q := by
  refine WF_fn (fn := c112) rfl rfl ?_
  unfold c112
  have hwl : ∀ i, i < L.length → (L.getD i []).length = w := fun i hi => hw _ (by rw [List.getD_eq_getElem?_getD, List.getElem?_eq_getElem hi]; exact List.getElem_mem hi)
  have hLw : L.length * w ≤ 1000 * 1000 := Nat.mul_le_mul h2 h1.2
  ((try simp (maxSteps := 3000000) (dsimp := false) (disch := first | omega | (simp only [len_new, len_put, len_kill]; omega)) only [↓ypre, ypost, ↓reduceIte, Nat.reduceEqDiff, Nat.reduceAdd, Nat.reduceSub, Nat.reduceLeDiff, Nat.zero_add, Nat.sub_zero, ynew]); try simp only [yback])
  generalize hH1 : AH.new h _ = H1
  obtain ⟨hb1, p1, n1⟩ := new_facts hH1
  have l0 : Lst H1 h.length (L.take 0).flatten true := hb1
  refine WC_loop_inv (fun m f K1 => ∃ (i : Nat) (kn : Nat) (fu : Bool), m = L.length - i ∧ i ≤ L.length ∧ f 0 = v ∧ f 3 = sl kn (L.take i).flatten.length ∧ f 4 = I64 i ∧ (h <+: K1) ∧ (Lst K1 kn (L.take i).flatten fu) ∧ (h.length ≤ kn)) ?_ (L.length - 0) _ _ ⟨0, h.length, true, rfl, by omega, (by first | rfl | (simp [upd_apply]; done)), (by first | rfl | (simp [upd_apply]; done)), (by first | rfl | (simp [upd_apply]; done)), p1, l0, Nat.le_refl _⟩
  rintro m f K1 ⟨i, kn, fu, rfl, hi, f0, f3, f4, pp, lo, hk⟩
  by_cases hlt : (i : Int) < L.length
  · have hi' : i < L.length := by omega
    obtain ⟨n0, off0, x0, hix0, hrd0, i0⟩ := (hv.pre pp).row hi'
    have et : (L.take i).flatten ++ L.getD i [] = (L.take (i + 1)).flatten := by
      rw [take_next (d := []) hi', List.flatten_append]
      simp
    have lt : (L.take i).flatten.length = i * w := by
      rw [flat_len (fun q hq => hw q (List.mem_of_mem_take hq)), List.length_take, Nat.min_eq_left (by omega)]
    have hm := mul_row (w := w) hi'
    have hwi := hwl i hi'
    ((try simp (maxSteps := 3000000) (dsimp := false) (disch := first | omega | (simp only [len_new, len_put, len_kill]; omega)) only [↓ypre, ypost, ↓reduceIte, Nat.reduceEqDiff, Nat.reduceAdd, Nat.reduceSub, Nat.reduceLeDiff, Nat.zero_add, Nat.sub_zero, ynew, f0, f3, f4, hv.len, decide_eq_true hlt, hix0, hrd0]); try simp only [yback])
    refine lo.appL i0 (by omega) (by omega) fun H5 l5 pre5 lo5 => ?_
    rw [et] at lo5 ⊢
    ((try simp (maxSteps := 3000000) (dsimp := false) (disch := first | omega | (simp only [len_new, len_put, len_kill]; omega)) only [↓ypre, ypost, ↓reduceIte, Nat.reduceEqDiff, Nat.reduceAdd, Nat.reduceSub, Nat.reduceLeDiff, Nat.zero_add, Nat.sub_zero, ynew, f0, f3, f4, wrap64_in]); try simp only [yback])
    refine InvQ_go (L.length - (i + 1)) (by omega) ⟨(i + 1), K1.length, false, rfl, by omega, (by first | rfl | exact f0 | (simp only [upd_apply]; rfl) | (show I64 _ = _; congr 1; omega)), (by first | rfl | exact f3 | (simp only [upd_apply]; rfl) | (show I64 _ = _; congr 1; omega)), (by first | rfl | exact f4 | (simp only [upd_apply]; rfl) | (show I64 _ = _; congr 1; omega)), (pre5 _ hk pp), lo5, (by have := pre_len pp; omega)⟩
  have ei : i = L.length := by omega
  subst ei
  rw [List.take_of_length_le (Nat.le_refl _)] at lo f3
  ((try simp (maxSteps := 3000000) (dsimp := false) (disch := first | omega | (simp only [len_new, len_put, len_kill]; omega)) only [↓ypre, ypost, ↓reduceIte, Nat.reduceEqDiff, Nat.reduceAdd, Nat.reduceSub, Nat.reduceLeDiff, Nat.zero_add, Nat.sub_zero, ynew, f0, f3, f4, hv.len, decide_eq_false hlt]); try simp only [yback])
  exact hQ _ _ _ hk pp lo
end Go.Proofs.Ytilpnbejpndgpaa.X

/- RunScheme, the program. -/
set_option linter.unusedVariables false
set_option linter.unusedSimpArgs false
set_option maxRecDepth 20000
set_option maxHeartbeats 4000000
namespace Go.Proofs.Ytilpnbejpndgpaa.X
open Go Go.RowKit

theorem rsC_mc {x : Sch} {L R : List (List Int)} (h : mcX x L R ≠ 0) : rsC x L R = mcX x L R := by
  unfold rsC mcX at *
  by_cases h1 : isX x = true
  · rw [if_pos h1] at h ⊢
    rw [if_pos h1]
    by_cases h2 : mOK x L R = true
    · rw [if_pos h2] at h
      exact absurd rfl h
    · rw [if_neg h2, if_neg h2]
  · rw [if_neg h1, if_neg h1]
theorem rsC_5 {x : Sch} {L R : List (List Int)} (h : mcX x L R = 0) : rsC x L R = if x.ps.length = 0 then 5 else 0 := by
  obtain ⟨h1, _⟩ := mcX_0 h
  unfold rsC
  unfold mcX at h
  rw [if_pos h1] at h ⊢
  by_cases h2 : mOK x L R = true
  · rw [if_pos h2]
  · rw [if_neg h2] at h
    omega
theorem i_RunScheme {v u z : Value} {x : Sch} {b : Bool} {L R : List (List Int)} {h : AH} {Q : Value → AH → Prop} (hv : Prods h v x.ps) (hl : SmallX x.ps) (hu : Rows h u L) (hL : SmallM L) (hz : Rows h z R) (hR : SmallM R)
    (hQ : ∀ v' h', h <+: h' → OwnRows h h' v' (rsR x b L R).1 → Q (.tuple #[v', I64 (rsR x b L R).2]) h') : WF S 63 [schV x v, .bool b, u, z] h Q := by
  refine WF_fn (fn := c63) rfl rfl ?_
  unfold c63
  ((try simp (maxSteps := 3000000) (dsimp := false) (disch := first | omega | (simp only [len_new, len_put, len_kill]; omega)) only [↓ypre, ypost, ↓reduceIte, Nat.reduceEqDiff, Nat.reduceAdd, Nat.reduceSub, Nat.reduceLeDiff, Nat.zero_add, Nat.sub_zero, ynew, schV, hv.one]); try simp only [yback])
  generalize hH1 : AH.new h _ = H1
  obtain ⟨hb1, p1, n1⟩ := new_facts hH1
  ((try simp (maxSteps := 3000000) (dsimp := false) (disch := first | omega | (simp only [len_new, len_put, len_kill]; omega)) only [↓ypre, ypost, ↓reduceIte, Nat.reduceEqDiff, Nat.reduceAdd, Nat.reduceSub, Nat.reduceLeDiff, Nat.zero_add, Nat.sub_zero, ynew, rdn_of hb1]); try simp only [yback])
  refine i_matricesCode (x := x) (hv.pre p1) hl (hu.pre p1) hL (hz.pre p1) hR fun H2 p2 => ?_
  have p12 := p1.trans p2
  have hb2 := pre_get p2 hb1
  have no : ∀ c, rsC x L R = c → c ≠ 0 → Q (.tuple #[.slice none 0 0, I64 c]) H2 := fun c e hc => by
    unfold rsR at hQ
    rw [if_neg (by omega), e] at hQ
    exact hQ _ _ p12 (.inl ⟨rfl, rfl⟩)
  by_cases hc : mcX x L R = 0
  case neg =>
    ((try simp (maxSteps := 3000000) (dsimp := false) (disch := first | omega | (simp only [len_new, len_put, len_kill]; omega)) only [↓ypre, ypost, ↓reduceIte, Nat.reduceEqDiff, Nat.reduceAdd, Nat.reduceSub, Nat.reduceLeDiff, Nat.zero_add, Nat.sub_zero, ynew, decide_eq_true (show mcX x L R ≠ 0 from hc)]); try simp only [yback])
    exact no _ (rsC_mc hc) hc
  have e5 := rsC_5 hc
  have hv2 := hv.pre p12
  ((try simp (maxSteps := 3000000) (dsimp := false) (disch := first | omega | (simp only [len_new, len_put, len_kill]; omega)) only [↓ypre, ypost, ↓reduceIte, Nat.reduceEqDiff, Nat.reduceAdd, Nat.reduceSub, Nat.reduceLeDiff, Nat.zero_add, Nat.sub_zero, ynew, decide_eq_false (show ¬ mcX x L R ≠ 0 from fun y => y hc), rd1_of hb2, hv2.1.len]); try simp only [yback])
  by_cases h0 : x.ps.length = 0
  · rw [if_pos h0] at e5
    ((try simp (maxSteps := 3000000) (dsimp := false) (disch := first | omega | (simp only [len_new, len_put, len_kill]; omega)) only [↓ypre, ypost, ↓reduceIte, Nat.reduceEqDiff, Nat.reduceAdd, Nat.reduceSub, Nat.reduceLeDiff, Nat.zero_add, Nat.sub_zero, ynew, decide_eq_true (show (x.ps.length : Int) = 0 by omega)]); try simp only [yback])
    exact no 5 e5 (by decide)
  rw [if_neg h0] at e5
  obtain ⟨hx, _, n, m, k, rf⟩ := rf_of (b := b) hv e5
  unfold rsR at hQ
  rw [if_pos e5] at hQ
  have mf := rf.mf
  have bb := mf.b
  have nk := mf.nk
  have lL := mf.lL
  have lR := mf.lR
  have hp := rf.p
  have hh0 := rf.h0
  ((try simp (maxSteps := 3000000) (dsimp := false) (disch := first | omega | (simp only [len_new, len_put, len_kill]; omega)) only [↓ypre, ypost, ↓reduceIte, Nat.reduceEqDiff, Nat.reduceAdd, Nat.reduceSub, Nat.reduceLeDiff, Nat.zero_add, Nat.sub_zero, ynew, decide_eq_false (show ¬ (x.ps.length : Int) = 0 by omega), rdn_of hb2]); try simp only [yback])
  refine i_programsOf (x := x) (b := b) hv2 hx (by omega) fun nb q1 q2 H3 v1 w1 v2 w2 v3 w3 p3 g i0 i1 i2 i3 => ?_
  have o3 : Pr3 H3 nb x b v1 w1 v2 w2 v3 w3 := ⟨g, i1.rd, i2.rd, i3.rd⟩
  have p13 := p12.trans p3
  obtain ⟨y0, z0, _, r0, pr0⟩ := o3.at (i := 0) (by omega)
  have x0 : ixsV 4 (.slice (some ⟨nb, 0, none⟩) 3 4) (.int .i64 0) = some (.pointer (some ⟨nb, 0, none⟩)) := ix4 (nb := nb) (len := 3) (i := 0) (kk := .i64) (by omega)
  have x1 : ixsV 4 (.slice (some ⟨nb, 0, none⟩) 3 4) (.int .i64 1) = some (.pointer (some ⟨nb, 4, none⟩)) := ix4 (nb := nb) (len := 3) (i := 1) (kk := .i64) (by omega)
  have x2 : ixsV 4 (.slice (some ⟨nb, 0, none⟩) 3 4) (.int .i64 2) = some (.pointer (some ⟨nb, 8, none⟩)) := ix4 (nb := nb) (len := 3) (i := 2) (kk := .i64) (by omega)
  have r0 : H3.rdn nb 0 4 = some (prgC (pgX x b 0) y0 z0) := r0
  ((try simp (maxSteps := 3000000) (dsimp := false) (disch := first | omega | (simp only [len_new, len_put, len_kill]; omega)) only [↓ypre, ypost, ↓reduceIte, Nat.reduceEqDiff, Nat.reduceAdd, Nat.reduceSub, Nat.reduceLeDiff, Nat.zero_add, Nat.sub_zero, ynew, x0, r0]); try simp only [yback])
  refine i_Concat (hu.pre p13) mf.wL (by omega) (by omega) fun nl fl H4 e4 p4 o4 => ?_
  refine ⟨p4, ?_⟩
  ((try simp (maxSteps := 3000000) (dsimp := false) (disch := first | omega | (simp only [len_new, len_put, len_kill]; omega)) only [↓ypre, ypost, ↓reduceIte, Nat.reduceEqDiff, Nat.reduceAdd, Nat.reduceSub, Nat.reduceLeDiff, Nat.zero_add, Nat.sub_zero, ynew]); try simp only [yback])
  have ea0 : Value.agg (prgC (pgX x b 0) y0 z0).toArray = prgV (pgX x b 0) y0 z0 := rfl
  rw [ea0]
  refine i_run (pr0.pre p4) (rf.f 0 (by omega)) o4.ints (by rw [rf.ep 0 (by omega)]; exact mf.aL) rf.n0 fun na fa H5 e5' p5 o5 => ?_
  refine ⟨p5, ?_⟩
  have p35 := p4.trans p5
  obtain ⟨y1, z1, _, r1, pr1⟩ := (o3.pre p35).at (i := 1) (by omega)
  have r1 : AH.rdn H5 nb 4 4 = some (prgC (pgX x b 1) y1 z1) := r1
  ((try simp (maxSteps := 3000000) (dsimp := false) (disch := first | omega | (simp only [len_new, len_put, len_kill]; omega)) only [↓ypre, ypost, ↓reduceIte, Nat.reduceEqDiff, Nat.reduceAdd, Nat.reduceSub, Nat.reduceLeDiff, Nat.zero_add, Nat.sub_zero, ynew, x1, r1]); try simp only [yback])
  refine i_Concat (hz.pre (p13.trans p35)) mf.wR (by omega) (by omega) fun nr fr H6 e6 p6 o6 => ?_
  refine ⟨p6, ?_⟩
  ((try simp (maxSteps := 3000000) (dsimp := false) (disch := first | omega | (simp only [len_new, len_put, len_kill]; omega)) only [↓ypre, ypost, ↓reduceIte, Nat.reduceEqDiff, Nat.reduceAdd, Nat.reduceSub, Nat.reduceLeDiff, Nat.zero_add, Nat.sub_zero, ynew]); try simp only [yback])
  have ea1 : Value.agg (prgC (pgX x b 1) y1 z1).toArray = prgV (pgX x b 1) y1 z1 := rfl
  rw [ea1]
  refine i_run (pr1.pre p6) (rf.f 1 (by omega)) o6.ints (by rw [rf.ep 1 (by omega)]; exact mf.aR) rf.n1 fun nb2 fb H7 e7 p7 o7 => ?_
  have p57 := p6.trans p7
  have in0 := rf.in0 pr0
  have in1 := rf.in1 pr1
  have l0 := rf.o0
  have l1 := rf.o1
  obtain ⟨pin, pal⟩ := prX_in hp in0 in1 l0 l1
  have oa := o5.pre p57
  have lta := o5.lt
  have k56 := pre_len p6
  rw [l0, l1]
  ((try simp (maxSteps := 3000000) (dsimp := false) (disch := first | omega | (simp only [len_new, len_put, len_kill]; omega)) only [↓ypre, ypost, ↓reduceIte, Nat.reduceEqDiff, Nat.reduceAdd, Nat.reduceSub, Nat.reduceLeDiff, Nat.zero_add, Nat.sub_zero, ynew, show lenV (sl na x.ps.length) = some (I64 x.ps.length) from rfl]); try simp only [yback])
  have ga : runP (pgX x b 0) L.flatten = gen x.ps.length fun j => if j < 0 then prX x b L R j else (runP (pgX x b 0) L.flatten).getD j 0 := gen_ext l0 fun j _ => by rw [if_neg (by omega)]
  rw [ga] at oa
  have p37 := p35.trans p57
  have k34 := pre_len p4
  have hne : na ≠ nb2 := by omega
  refine WC_loop_inv (fun m f K1 => ∃ (j : Nat), m = x.ps.length - j ∧ j ≤ x.ps.length ∧ f 4 = .pointer (some ⟨h.length, 0, none⟩) ∧ f 11 = .slice (some ⟨nb, 0, none⟩) 3 4 ∧ f 12 = sl na x.ps.length ∧ f 13 = sl nb2 x.ps.length ∧ f 42 = I64 x.ps.length ∧ f 43 = I64 j ∧ (H3 <+: K1) ∧ (Lst K1 na (gen x.ps.length fun j' => if j' < j then prX x b L R j' else (runP (pgX x b 0) L.flatten).getD j' 0) fa) ∧ (Lst K1 nb2 (runP (pgX x b 1) R.flatten) fb)) ?_ (x.ps.length - 0) _ _ ⟨0, rfl, by omega, (by first | rfl | (simp [upd_apply]; done)), (by first | rfl | (simp [upd_apply]; done)), (by first | rfl | (simp [upd_apply]; done)), (by first | rfl | (simp [upd_apply]; done)), (by first | rfl | (simp [upd_apply]; done)), (by first | rfl | (simp [upd_apply]; done)), p37, oa, o7⟩
  rintro m f K1 ⟨j, rfl, hj, f4, f11, f12, f13, f42, f43, pp, la, lb⟩
  have bK := pre_get (p3.trans pp) hb2
  by_cases hlt : (j : Int) < x.ps.length
  · have hj' : j < x.ps.length := by omega
    have ixa : ixsV 1 (sl na x.ps.length) (I64 j) = some (.pointer (some ⟨na, j, none⟩)) := by rw [Lst.ix (by omega), Int.toNat_natCast]
    have ixb : ixsV 1 (sl nb2 x.ps.length) (I64 j) = some (.pointer (some ⟨nb2, j, none⟩)) := by rw [Lst.ix (by omega), Int.toNat_natCast]
    have rda := la.rd (j := j) (by rw [gen_len]; exact hj')
    rw [gen_get hj', if_neg (Nat.lt_irrefl _)] at rda
    have rdb := lb.rd (j := j) (by omega)
    obtain ⟨⟨m1, m2⟩, m3⟩ := pin j hj'
    obtain ⟨H8, w8, e8, l8⟩ := la.wr (j := j) (x := prX x b L R j) (by rw [gen_len]; exact hj')
    rw [gen_set hj' _ rfl] at l8
    have epr : ((runP (pgX x b 0) L.flatten).getD j 0 * (runP (pgX x b 1) R.flatten).getD j 0).tmod x.p = prX x b L R j := rfl
    ((try simp (maxSteps := 3000000) (dsimp := false) (disch := first | omega | (simp only [len_new, len_put, len_kill]; omega)) only [↓ypre, ypost, ↓reduceIte, Nat.reduceEqDiff, Nat.reduceAdd, Nat.reduceSub, Nat.reduceLeDiff, Nat.zero_add, Nat.sub_zero, ynew, f4, f11, f12, f13, f42, f43, decide_eq_true hlt, ixa, ixb, rda, rdb, rd1_of bK, wrap64_in, bin_rem (show x.p ≠ 0 by omega), epr, w8]); try simp only [yback])
    refine InvQ_go (x.ps.length - (j + 1)) (by omega) ⟨(j + 1), rfl, by omega, (by first | rfl | exact f4 | (simp only [upd_apply]; rfl) | (show I64 _ = _; congr 1; omega)), (by first | rfl | exact f11 | (simp only [upd_apply]; rfl) | (show I64 _ = _; congr 1; omega)), (by first | rfl | exact f12 | (simp only [upd_apply]; rfl) | (show I64 _ = _; congr 1; omega)), (by first | rfl | exact f13 | (simp only [upd_apply]; rfl) | (show I64 _ = _; congr 1; omega)), (by first | rfl | exact f42 | (simp only [upd_apply]; rfl) | (show I64 _ = _; congr 1; omega)), (by first | rfl | exact f43 | (simp only [upd_apply]; rfl) | (show I64 _ = _; congr 1; omega)), (by rw [e8]; exact pre_put pp (by omega)), l8, (by rw [e8]; exact lb.put_ne hne)⟩
  have ej : j = x.ps.length := by omega
  rw [ej] at la
  rw [gen_congr (g' := prX x b L R) (fun j' hj => by rw [if_pos hj])] at la
  obtain ⟨y2, z2, _, r2, pr2⟩ := (o3.pre pp).at (i := 2) (by omega)
  have r2 : AH.rdn K1 nb 8 4 = some (prgC (pgX x b 2) y2 z2) := r2
  ((try simp (maxSteps := 3000000) (dsimp := false) (disch := first | omega | (simp only [len_new, len_put, len_kill]; omega)) only [↓ypre, ypost, ↓reduceIte, Nat.reduceEqDiff, Nat.reduceAdd, Nat.reduceSub, Nat.reduceLeDiff, Nat.zero_add, Nat.sub_zero, ynew, f4, f11, f12, f13, f42, f43, decide_eq_false hlt, x2, r2]); try simp only [yback])
  have ea2 : Value.agg (prgC (pgX x b 2) y2 z2).toArray = prgV (pgX x b 2) y2 z2 := rfl
  have la' := la.ints
  rw [gen_len] at la'
  rw [ea2]
  refine i_run pr2 (rf.f 2 (by omega)) la' (by rw [rf.ep 2 (by omega)]; exact pal) (by rw [gen_len]; exact rf.n2) fun nc fc H9 e9 p9 o9 => ?_
  refine ⟨p9, ?_⟩
  have b9 := pre_get p9 bK
  ((try simp (maxSteps := 3000000) (dsimp := false) (disch := first | omega | (simp only [len_new, len_put, len_kill]; omega)) only [↓ypre, ypost, ↓reduceIte, Nat.reduceEqDiff, Nat.reduceAdd, Nat.reduceSub, Nat.reduceLeDiff, Nat.zero_add, Nat.sub_zero, ynew, f4, f11, f12, f13, f42, f43, rd1_of b9]); try simp only [yback])
  rw [mf.ek]
  have lc := rf.o2 (gen x.ps.length (prX x b L R))
  refine i_parted (w := k) (n := n) o9.ints (by omega) (by omega) lc fun v6 H10 p10 o10 => ?_
  ((try simp (maxSteps := 3000000) (dsimp := false) (disch := first | omega | (simp only [len_new, len_put, len_kill]; omega)) only [↓ypre, ypost, ↓reduceIte, Nat.reduceEqDiff, Nat.reduceAdd, Nat.reduceSub, Nat.reduceLeDiff, Nat.zero_add, Nat.sub_zero, ynew, f4, f11, f12, f13, f42, f43]); try simp only [yback])
  have eF : parts (runP (pgX x b 2) (gen x.ps.length (prX x b L R))) k n = rsF x b L R := by
    unfold rsF
    rw [mf.en, mf.ek, Int.toNat_natCast, Int.toNat_natCast]
  rw [eF] at o10
  have pq := (p13.trans pp).trans p9
  exact hQ _ _ (pq.trans p10) (o10.lo (pre_len pq))
end Go.Proofs.Ytilpnbejpndgpaa.X

/- RunScheme, the reference. -/
set_option linter.unusedVariables false
set_option linter.unusedSimpArgs false
set_option maxRecDepth 20000
set_option maxHeartbeats 4000000
namespace Go.Proofs.Ytilpnbejpndgpaa.X
open Go Go.RowKit

/-- A list under way that began as a slice of no room. -/
def LstZ (h0 h : AH) (v : Value) (l : List Int) : Prop := (l = [] ∧ v = .slice none 0 2) ∨ ∃ n full, v = sl n l.length ∧ h0.length ≤ n ∧ Lst h n l full
theorem LstZ.ints {h0 h : AH} {v : Value} {l : List Int} (o : LstZ h0 h v l) : Ints h v l := by
  rcases o with ⟨rfl, rfl⟩ | ⟨n, full, rfl, _, o⟩
  · exact .inl ⟨rfl, 2, by omega, rfl⟩
  · exact o.ints
theorem LstZ.app {h0 H : AH} {v : Value} {l : List Int} {x : Int} {e' : TypeId} {ro fu : Bool} (o : LstZ h0 H v l) (hp : h0 <+: H) (hl : (l.length : Int) ≤ 1048576) {Q : Value → AH → Prop}
    (hQ : ∀ v' H', h0 <+: H' → LstZ h0 H' v' (l ++ [x]) → Q v' H') :
    OQ (appV 2 1 8 v (.slice (some ⟨H.length, 0, none⟩) 1 1) (H.new ⟨[I64 x], e', ro, fu⟩)) Q := by
  have lp := pre_len hp
  rcases o with ⟨rfl, rfl⟩ | ⟨n, full, rfl, hn, o⟩
  · have hr : (H.new ⟨[I64 x], e', ro, fu⟩).rdn H.length 0 1 = some [I64 x] := by rw [rdn_new_same]; rfl
    rw [app_nil (.inr rfl) hr (by decide), OQ_some]
    refine hQ _ _ (pre_new (pre_new hp)) (.inr ⟨(H.new ⟨[I64 x], e', ro, fu⟩).length, false, rfl, by rw [len_new]; omega, ?_⟩)
    exact get_new_same
  · exact o.app3 hl fun H' l' pre' keep' o' => hQ _ _ (pre' _ hn hp) (.inr ⟨_, false, rfl, by omega, o'⟩)
theorem s_RunScheme {v u z : Value} {x : Sch} {b : Bool} {L R : List (List Int)} {h : AH} {Q : Value → AH → Prop} (hv : Prods h v x.ps) (hl : SmallX x.ps) (hu : Rows h u L) (hL : SmallM L) (hz : Rows h z R) (hR : SmallM R)
    (hQ : ∀ v' h', h <+: h' → OwnRows h h' v' (rsR x b L R).1 → Q (.tuple #[v', I64 (rsR x b L R).2]) h') : WF S 62 [schV x v, .bool b, u, z] h Q := by
  refine WF_fn (fn := c62) rfl rfl ?_
  unfold c62
  ((try simp (maxSteps := 3000000) (dsimp := false) (disch := first | omega | (simp only [len_new, len_put, len_kill]; omega)) only [↓ypre, ypost, ↓reduceIte, Nat.reduceEqDiff, Nat.reduceAdd, Nat.reduceSub, Nat.reduceLeDiff, Nat.zero_add, Nat.sub_zero, ynew, schV, hv.one]); try simp only [yback])
  generalize hH1 : AH.new h _ = H1
  obtain ⟨hb1, p1, n1⟩ := new_facts hH1
  ((try simp (maxSteps := 3000000) (dsimp := false) (disch := first | omega | (simp only [len_new, len_put, len_kill]; omega)) only [↓ypre, ypost, ↓reduceIte, Nat.reduceEqDiff, Nat.reduceAdd, Nat.reduceSub, Nat.reduceLeDiff, Nat.zero_add, Nat.sub_zero, ynew, rdn_of hb1]); try simp only [yback])
  refine s_l07Code (x := x) (hv.pre p1) hl fun H2 p2 => ?_
  have p12 := p1.trans p2
  have hb2 := pre_get p2 hb1
  have no : ∀ c, rsC x L R = c → c ≠ 0 → Q (.tuple #[.slice none 0 0, I64 c]) H2 := fun c e hc => by
    unfold rsR at hQ
    rw [if_neg (by omega), e] at hQ
    exact hQ _ _ p12 (.inl ⟨rfl, rfl⟩)
  cases hx : isX x with
  | false =>
    have e1 : cdX x = 1 := by unfold cdX; rw [hx]; rfl
    have e2 : rsC x L R = 1 := by unfold rsC; rw [hx]; rfl
    rw [e1]
    ((try simp (maxSteps := 3000000) (dsimp := false) (disch := first | omega | (simp only [len_new, len_put, len_kill]; omega)) only [↓ypre, ypost, ↓reduceIte, Nat.reduceEqDiff, Nat.reduceAdd, Nat.reduceSub, Nat.reduceLeDiff, Nat.zero_add, Nat.sub_zero, ynew, decide_eq_false (show ¬ (1 : Int) ≠ 1 by decide), decide_eq_true (show (1 : Int) ≠ 0 by decide)]); try simp only [yback])
    exact no 1 e2 (by decide)
  | true =>
    have e1 : cdX x = if x.ps.length = 0 then 5 else 0 := by unfold cdX; rw [hx, if_pos rfl]
    have ne1 : cdX x ≠ 1 := by rw [e1]; split <;> decide
    obtain ⟨zz, hp', hl30, ho⟩ := isX_facts hx
    have hp5 := isP_in hp'
    ((try simp (maxSteps := 3000000) (dsimp := false) (disch := first | omega | (simp only [len_new, len_put, len_kill]; omega)) only [↓ypre, ypost, ↓reduceIte, Nat.reduceEqDiff, Nat.reduceAdd, Nat.reduceSub, Nat.reduceLeDiff, Nat.zero_add, Nat.sub_zero, ynew, decide_eq_true ne1, rd1_of hb2]); try simp only [yback])
    refine s_l01Matrix (hu.pre p12) hL hp5 ?_
    cases h2 : (isMat x.p x.m L && decide ((L.length : Int) = x.n)) with
    | false =>
      have e2 : rsC x L R = 2 := by unfold rsC mOK; rw [hx, h2]; rfl
      ((try simp (maxSteps := 3000000) (dsimp := false) (disch := first | omega | (simp only [len_new, len_put, len_kill]; omega)) only [↓ypre, ypost, ↓reduceIte, Nat.reduceEqDiff, Nat.reduceAdd, Nat.reduceSub, Nat.reduceLeDiff, Nat.zero_add, Nat.sub_zero, ynew, decide_eq_true (show (2 : Int) ≠ 0 by decide)]); try simp only [yback])
      exact no 2 e2 (by decide)
    | true =>
      ((try simp (maxSteps := 3000000) (dsimp := false) (disch := first | omega | (simp only [len_new, len_put, len_kill]; omega)) only [↓ypre, ypost, ↓reduceIte, Nat.reduceEqDiff, Nat.reduceAdd, Nat.reduceSub, Nat.reduceLeDiff, Nat.zero_add, Nat.sub_zero, ynew, rd1_of hb2]); try simp only [yback])
      refine s_l01Matrix (hz.pre p12) hR hp5 ?_
      cases h3 : (isMat x.p x.k R && decide ((R.length : Int) = x.m)) with
      | false =>
        have e2 : rsC x L R = 2 := by unfold rsC mOK; rw [hx, h2, h3]; rfl
        ((try simp (maxSteps := 3000000) (dsimp := false) (disch := first | omega | (simp only [len_new, len_put, len_kill]; omega)) only [↓ypre, ypost, ↓reduceIte, Nat.reduceEqDiff, Nat.reduceAdd, Nat.reduceSub, Nat.reduceLeDiff, Nat.zero_add, Nat.sub_zero, ynew, decide_eq_true (show (2 : Int) ≠ 0 by decide)]); try simp only [yback])
        exact no 2 e2 (by decide)
      | true =>
        have e2 : rsC x L R = cdX x := by rw [e1]; unfold rsC mOK; rw [hx, h2, h3]; rfl
        by_cases h0 : cdX x = 0
        case neg =>
          ((try simp (maxSteps := 3000000) (dsimp := false) (disch := first | omega | (simp only [len_new, len_put, len_kill]; omega)) only [↓ypre, ypost, ↓reduceIte, Nat.reduceEqDiff, Nat.reduceAdd, Nat.reduceSub, Nat.reduceLeDiff, Nat.zero_add, Nat.sub_zero, ynew, decide_eq_true (show cdX x ≠ 0 from h0)]); try simp only [yback])
          exact no _ e2 h0
        have e5 : rsC x L R = 0 := by rw [e2, h0]
        obtain ⟨_, _, n, m, k, rf⟩ := rf_of (b := b) hv e5
        unfold rsR at hQ
        rw [if_pos e5] at hQ
        have mf := rf.mf
        have bb := mf.b
        have nk := mf.nk
        have lL := mf.lL
        have lR := mf.lR
        have hp := rf.p
        have hh0 := rf.h0
        ((try simp (maxSteps := 3000000) (dsimp := false) (disch := first | omega | (simp only [len_new, len_put, len_kill]; omega)) only [↓ypre, ypost, ↓reduceIte, Nat.reduceEqDiff, Nat.reduceAdd, Nat.reduceSub, Nat.reduceLeDiff, Nat.zero_add, Nat.sub_zero, ynew, decide_eq_false (show ¬ cdX x ≠ 0 from fun y => y h0), rdn_of hb2]); try simp only [yback])
        refine s_l07Programs (x := x) (b := b) (hv.pre p12) hx (by omega) fun nb q1 q2 H3 v1 w1 v2 w2 v3 w3 p3 g i0 i1 i2 i3 => ?_
        have o3 : Pr3 H3 nb x b v1 w1 v2 w2 v3 w3 := ⟨⟨_, g⟩, i1.rd, i2.rd, i3.rd⟩
        have p13 := p12.trans p3
        obtain ⟨y0, z0, _, r0, pr0⟩ := o3.at (i := 0) (by omega)
        have x0 : ixsV 4 (.slice (some ⟨nb, 0, none⟩) 3 4) (.int .i64 0) = some (.pointer (some ⟨nb, 0, none⟩)) := ix4 (nb := nb) (len := 3) (i := 0) (kk := .i64) (by omega)
        have x1 : ixsV 4 (.slice (some ⟨nb, 0, none⟩) 3 4) (.int .i64 1) = some (.pointer (some ⟨nb, 4, none⟩)) := ix4 (nb := nb) (len := 3) (i := 1) (kk := .i64) (by omega)
        have x2 : ixsV 4 (.slice (some ⟨nb, 0, none⟩) 3 4) (.int .i64 2) = some (.pointer (some ⟨nb, 8, none⟩)) := ix4 (nb := nb) (len := 3) (i := 2) (kk := .i64) (by omega)
        have r0 : H3.rdn nb 0 4 = some (prgC (pgX x b 0) y0 z0) := r0
        ((try simp (maxSteps := 3000000) (dsimp := false) (disch := first | omega | (simp only [len_new, len_put, len_kill]; omega)) only [↓ypre, ypost, ↓reduceIte, Nat.reduceEqDiff, Nat.reduceAdd, Nat.reduceSub, Nat.reduceLeDiff, Nat.zero_add, Nat.sub_zero, ynew, x0, r0]); try simp only [yback])
        refine s_l07Joined (hu.pre p13) mf.wL (by omega) (by omega) fun nl fl H4 e4 p4 o4 => ?_
        refine ⟨p4, ?_⟩
        ((try simp (maxSteps := 3000000) (dsimp := false) (disch := first | omega | (simp only [len_new, len_put, len_kill]; omega)) only [↓ypre, ypost, ↓reduceIte, Nat.reduceEqDiff, Nat.reduceAdd, Nat.reduceSub, Nat.reduceLeDiff, Nat.zero_add, Nat.sub_zero, ynew]); try simp only [yback])
        have ea0 : Value.agg (prgC (pgX x b 0) y0 z0).toArray = prgV (pgX x b 0) y0 z0 := rfl
        rw [ea0]
        refine s_run (pr0.pre p4) (rf.f 0 (by omega)) o4.ints (by rw [rf.ep 0 (by omega)]; exact mf.aL) rf.n0 fun na fa H5 e5' p5 o5 => ?_
        refine ⟨p5, ?_⟩
        have p35 := p4.trans p5
        obtain ⟨y1, z1, _, r1, pr1⟩ := (o3.pre p35).at (i := 1) (by omega)
        have r1 : AH.rdn H5 nb 4 4 = some (prgC (pgX x b 1) y1 z1) := r1
        ((try simp (maxSteps := 3000000) (dsimp := false) (disch := first | omega | (simp only [len_new, len_put, len_kill]; omega)) only [↓ypre, ypost, ↓reduceIte, Nat.reduceEqDiff, Nat.reduceAdd, Nat.reduceSub, Nat.reduceLeDiff, Nat.zero_add, Nat.sub_zero, ynew, x1, r1]); try simp only [yback])
        refine s_l07Joined (hz.pre (p13.trans p35)) mf.wR (by omega) (by omega) fun nr fr H6 e6 p6 o6 => ?_
        refine ⟨p6, ?_⟩
        ((try simp (maxSteps := 3000000) (dsimp := false) (disch := first | omega | (simp only [len_new, len_put, len_kill]; omega)) only [↓ypre, ypost, ↓reduceIte, Nat.reduceEqDiff, Nat.reduceAdd, Nat.reduceSub, Nat.reduceLeDiff, Nat.zero_add, Nat.sub_zero, ynew]); try simp only [yback])
        have ea1 : Value.agg (prgC (pgX x b 1) y1 z1).toArray = prgV (pgX x b 1) y1 z1 := rfl
        rw [ea1]
        refine s_run (pr1.pre p6) (rf.f 1 (by omega)) o6.ints (by rw [rf.ep 1 (by omega)]; exact mf.aR) rf.n1 fun nb2 fb H7 e7 p7 o7 => ?_
        have p57 := p6.trans p7
        have in0 := rf.in0 pr0
        have in1 := rf.in1 pr1
        have l0 := rf.o0
        have l1 := rf.o1
        obtain ⟨pin, pal⟩ := prX_in hp in0 in1 l0 l1
        have oa := o5.pre p57
        have p37 := p35.trans p57
        rw [l0, l1]
        ((try simp (maxSteps := 3000000) (dsimp := false) (disch := first | omega | (simp only [len_new, len_put, len_kill]; omega)) only [↓ypre, ypost, ↓reduceIte, Nat.reduceEqDiff, Nat.reduceAdd, Nat.reduceSub, Nat.reduceLeDiff, Nat.zero_add, Nat.sub_zero, ynew]); try simp only [yback])
        have lz0 : LstZ H7 H7 (.slice none 0 2) (gen 0 (prX x b L R)) := .inl ⟨rfl, rfl⟩
        refine WC_loop_inv (fun m f K1 => ∃ (j : Nat) (zv : Value), m = x.ps.length - j ∧ j ≤ x.ps.length ∧ f 4 = .pointer (some ⟨h.length, 0, none⟩) ∧ f 11 = .slice (some ⟨nb, 0, none⟩) 3 4 ∧ f 12 = sl na x.ps.length ∧ f 13 = sl nb2 x.ps.length ∧ f 14 = zv ∧ f 15 = I64 j ∧ (H7 <+: K1) ∧ (LstZ H7 K1 zv (gen j (prX x b L R)))) ?_ (x.ps.length - 0) _ _ ⟨0, .slice none 0 2, rfl, by omega, (by first | rfl | (simp [upd_apply]; done)), (by first | rfl | (simp [upd_apply]; done)), (by first | rfl | (simp [upd_apply]; done)), (by first | rfl | (simp [upd_apply]; done)), (by first | rfl | (simp [upd_apply]; done)), (by first | rfl | (simp [upd_apply]; done)), List.prefix_refl _, lz0⟩
        rintro m f K1 ⟨j, zv, rfl, hj, f4, f11, f12, f13, f14, f15, pp, lz⟩
        have p3K := p37.trans pp
        have bK := pre_get (p3.trans p3K) hb2
        have la := oa.pre pp
        have lb := o7.pre pp
        by_cases hlt : (j : Int) < x.ps.length
        · have hj' : j < x.ps.length := by omega
          have ixa : ixsV 1 (sl na x.ps.length) (I64 j) = some (.pointer (some ⟨na, j, none⟩)) := by rw [Lst.ix (by omega), Int.toNat_natCast]
          have ixb : ixsV 1 (sl nb2 x.ps.length) (I64 j) = some (.pointer (some ⟨nb2, j, none⟩)) := by rw [Lst.ix (by omega), Int.toNat_natCast]
          have rda := la.rd (j := j) (by omega)
          have rdb := lb.rd (j := j) (by omega)
          obtain ⟨⟨m1, m2⟩, m3⟩ := pin j hj'
          have epr : ((runP (pgX x b 0) L.flatten).getD j 0 * (runP (pgX x b 1) R.flatten).getD j 0).tmod x.p = prX x b L R j := rfl
          ((try simp (maxSteps := 3000000) (dsimp := false) (disch := first | omega | (simp only [len_new, len_put, len_kill]; omega)) only [↓ypre, ypost, ↓reduceIte, Nat.reduceEqDiff, Nat.reduceAdd, Nat.reduceSub, Nat.reduceLeDiff, Nat.zero_add, Nat.sub_zero, ynew, f4, f11, f12, f13, f14, f15, show lenV (sl na x.ps.length) = some (I64 x.ps.length) from rfl, decide_eq_true hlt, ixa, ixb, rda, rdb, rd1_of bK, wrap64_in, bin_rem (show x.p ≠ 0 by omega), epr]); try simp only [yback])
          refine lz.app pp (by rw [gen_len]; omega) fun v8 H8 p8 l8 => ?_
          rw [← gen_succ] at l8
          ((try simp (maxSteps := 3000000) (dsimp := false) (disch := first | omega | (simp only [len_new, len_put, len_kill]; omega)) only [↓ypre, ypost, ↓reduceIte, Nat.reduceEqDiff, Nat.reduceAdd, Nat.reduceSub, Nat.reduceLeDiff, Nat.zero_add, Nat.sub_zero, ynew, f4, f11, f12, f13, f14, f15, wrap64_in]); try simp only [yback])
          refine InvQ_go (x.ps.length - (j + 1)) (by omega) ⟨(j + 1), v8, rfl, by omega, (by first | rfl | exact f4 | (simp only [upd_apply]; rfl) | (show I64 _ = _; congr 1; omega)), (by first | rfl | exact f11 | (simp only [upd_apply]; rfl) | (show I64 _ = _; congr 1; omega)), (by first | rfl | exact f12 | (simp only [upd_apply]; rfl) | (show I64 _ = _; congr 1; omega)), (by first | rfl | exact f13 | (simp only [upd_apply]; rfl) | (show I64 _ = _; congr 1; omega)), (by first | rfl | exact f14 | (simp only [upd_apply]; rfl) | (show I64 _ = _; congr 1; omega)), (by first | rfl | exact f15 | (simp only [upd_apply]; rfl) | (show I64 _ = _; congr 1; omega)), p8, l8⟩
        have ej : j = x.ps.length := by omega
        rw [ej] at lz
        obtain ⟨y2, z2, _, r2, pr2⟩ := (o3.pre p3K).at (i := 2) (by omega)
        have r2 : AH.rdn K1 nb 8 4 = some (prgC (pgX x b 2) y2 z2) := r2
        ((try simp (maxSteps := 3000000) (dsimp := false) (disch := first | omega | (simp only [len_new, len_put, len_kill]; omega)) only [↓ypre, ypost, ↓reduceIte, Nat.reduceEqDiff, Nat.reduceAdd, Nat.reduceSub, Nat.reduceLeDiff, Nat.zero_add, Nat.sub_zero, ynew, f4, f11, f12, f13, f14, f15, show lenV (sl na x.ps.length) = some (I64 x.ps.length) from rfl, decide_eq_false hlt, x2, r2]); try simp only [yback])
        have ea2 : Value.agg (prgC (pgX x b 2) y2 z2).toArray = prgV (pgX x b 2) y2 z2 := rfl
        rw [ea2]
        refine s_run pr2 (rf.f 2 (by omega)) lz.ints (by rw [rf.ep 2 (by omega)]; exact pal) (by rw [gen_len]; exact rf.n2) fun nc fc H9 e9 p9 o9 => ?_
        have b9 := pre_get p9 bK
        have lc := rf.o2 (gen x.ps.length (prX x b L R))
        have pq := (p13.trans p3K).trans p9
        generalize hrr : runP (pgX x b 2) (gen x.ps.length (prX x b L R)) = rr at *
        ((try simp (maxSteps := 3000000) (dsimp := false) (disch := first | omega | (simp only [len_new, len_put, len_kill]; omega)) only [↓ypre, ypost, ↓reduceIte, Nat.reduceEqDiff, Nat.reduceAdd, Nat.reduceSub, Nat.reduceLeDiff, Nat.zero_add, Nat.sub_zero, ynew, f4, f11, f12, f13, f14, f15]); try simp only [yback])
        generalize hHa : AH.new H9 _ = Ha
        obtain ⟨hba, pa, na'⟩ := new_facts hHa
        rw [mf.en, mf.ek] at b9
        refine WC_loop_inv (fun m f K2 => ∃ (i : Nat) (tb : Nat) (full : Bool) (T : List (Nat × List Int)), m = n - i ∧ i ≤ n ∧ f 4 = .pointer (some ⟨h.length, 0, none⟩) ∧ f 16 = sl nc rr.length ∧ f 17 = sl tb T.length ∧ f 18 = I64 i ∧ (TabS H9 K2 tb full T) ∧ (T.map Prod.snd = (parts rr k n).take i)) ?_ (n - 0) _ _ ⟨0, H9.length, true, [], rfl, by omega, (by first | rfl | exact f4 | (simp [upd_apply]; done)), (by first | rfl | (simp [upd_apply]; done)), (by first | rfl | (simp [upd_apply]; done)), (by first | rfl | (simp [upd_apply]; done)), ⟨pa, Nat.le_refl _, hba, by simp, by simp⟩, (by simp)⟩
        rintro m f K2 ⟨i, tb, full, T, rfl, hi, f4, f16, f17, f18, st, hT⟩
        have hLl : T.length = i := by
          have := congrArg List.length hT
          rw [List.length_map, List.length_take, parts_len] at this
          omega
        have bK2 := pre_get st.hp b9
        have ov := (o9.pre st.hp).ints
        have lt := st.lt
        have k9 := pre_len st.hp
        by_cases hli : (i : Int) < n
        · have hi' : i < n := by omega
          have hrow := mul_row (w := k) hi'
          have eiw : (i : Int) * (k : Int) = ((i * k : Nat) : Int) := by push_cast; rfl
          obtain ⟨v', s1, s2⟩ := ov.slcV (k1 := .i64) (k2 := .i64) (l := ((i * k : Nat) : Int)) (u := ((i * k : Nat) : Int) + (k : Int)) (by omega)
          rw [Int.toNat_natCast, show (((i * k : Nat) : Int) + (k : Int) - ((i * k : Nat) : Int)).toNat = k by omega] at s2
          have rl : ((rr.drop (i * k)).take k).length = k := by rw [List.length_take, List.length_drop]; omega
          ((try simp (maxSteps := 3000000) (dsimp := false) (disch := first | omega | (simp only [len_new, len_put, len_kill]; omega)) only [↓ypre, ypost, ↓reduceIte, Nat.reduceEqDiff, Nat.reduceAdd, Nat.reduceSub, Nat.reduceLeDiff, Nat.zero_add, Nat.sub_zero, ynew, f4, f16, f17, f18, rd1_of bK2, decide_eq_true hli, eiw, wrap64_in, omapF_some, omapF_none, s1]); try simp only [yback])
          refine s_OwnT s2 (by omega) (by omega) fun n' h2 hn' p2' ob => ?_
          ((try simp (maxSteps := 3000000) (dsimp := false) (disch := first | omega | (simp only [len_new, len_put, len_kill]; omega)) only [↓ypre, ypost, ↓reduceIte, Nat.reduceEqDiff, Nat.reduceAdd, Nat.reduceSub, Nat.reduceLeDiff, Nat.zero_add, Nat.sub_zero, ynew, f4, f16, f17, f18, sl_cells, sl_one]); try simp only [yback])
          refine (st.pre p2').app2 ⟨by omega, by omega, fun q hq => by have := lt.2 q hq; omega⟩ ob.own (by omega) fun nb' H' st' l' e' own' pre' => ?_
          ((try simp (maxSteps := 3000000) (dsimp := false) (disch := first | omega | (simp only [len_new, len_put, len_kill]; omega)) only [↓ypre, ypost, ↓reduceIte, Nat.reduceEqDiff, Nat.reduceAdd, Nat.reduceSub, Nat.reduceLeDiff, Nat.zero_add, Nat.sub_zero, ynew, f4, f16, f17, f18, wrap64_in]); try simp only [yback])
          refine InvQ_go (n - (i + 1)) (by omega) ⟨(i + 1), nb', false, (T ++ [(n', (rr.drop (i * k)).take k)]), rfl, by omega, (by first | rfl | exact f4 | (simp only [upd_apply]; rfl) | (show I64 _ = _; congr 1; omega)), (by first | rfl | exact f16 | (simp only [upd_apply]; rfl) | (show I64 _ = _; congr 1; omega)), (by first | rfl | exact f17 | (simp only [upd_apply]; rfl) | (show I64 _ = _; congr 1; omega)), (by first | rfl | exact f18 | (simp only [upd_apply]; rfl) | (show I64 _ = _; congr 1; omega)), st', ?_⟩
          rw [List.map_append, hT, take_next (d := []) (by rw [parts_len]; exact hi'), parts_get hi']
          rfl
        have ei : i = n := by omega
        rw [ei, List.take_of_length_le (by rw [parts_len]; exact Nat.le_refl _)] at hT
        ((try simp (maxSteps := 3000000) (dsimp := false) (disch := first | omega | (simp only [len_new, len_put, len_kill]; omega)) only [↓ypre, ypost, ↓reduceIte, Nat.reduceEqDiff, Nat.reduceAdd, Nat.reduceSub, Nat.reduceLeDiff, Nat.zero_add, Nat.sub_zero, ynew, f4, f16, f17, f18, rd1_of bK2, decide_eq_false hli]); try simp only [yback])
        have o := st.own
        have eF : parts rr k n = rsF x b L R := by
          unfold rsF
          rw [mf.en, mf.ek, Int.toNat_natCast, Int.toNat_natCast, hrr]
        rw [hT, eF] at o
        exact hQ _ _ (pq.trans st.hp) (o.lo (pre_len pq))
theorem rsR_small {h : AH} {v : Value} {x : Sch} {b : Bool} {L R : List (List Int)} (hv : Prods h v x.ps) : SmallM (rsR x b L R).1 := by
  unfold rsR
  by_cases hc : rsC x L R = 0
  · rw [if_pos hc]
    obtain ⟨_, _, n, m, k, rf⟩ := rf_of (b := b) hv hc
    have bb := rf.mf.b
    show SmallM (rsF x b L R)
    have eF : rsF x b L R = parts (runP (pgX x b 2) (gen x.ps.length (prX x b L R))) k n := by
      unfold rsF
      rw [rf.mf.en, rf.mf.ek, Int.toNat_natCast, Int.toNat_natCast]
    rw [eF]
    refine smallM_of2 (A := 3) (B := 3) (by rw [parts_len]; omega) (fun i hi => ?_) (by omega)
    rw [parts_len] at hi
    rw [parts_get hi, List.length_take]
    omega
  · rw [if_neg hc]
    exact ⟨by simp, by simp, by simp [tot]⟩
end Go.Proofs.Ytilpnbejpndgpaa.X

/- The law on RunScheme, on the abstract machine (printed by lawg.py). -/
set_option linter.unusedVariables false
set_option linter.unusedSimpArgs false
set_option maxRecDepth 20000
set_option maxHeartbeats 4000000
namespace Go.Proofs.Ytilpnbejpndgpaa.X
open Go Go.RowKit

theorem law_RunScheme {v0 : Value} {x0 : Sch} {b1 : Bool} {v2 : Value} {x2 : List (List Int)} {v3 : Value} {x3 : List (List Int)} {h : AH} (hv0 : Prods h v0 x0.ps) (hl0 : ((x0.ps).length : Int) ≤ 9223372036854775807) (hv2 : Rows h v2 x2) (hl2 : ((x2).length : Int) ≤ 9223372036854775807) (hm2 : ∀ i, i < x2.length → ((x2.getD i []).length : Int) ≤ 9223372036854775807) (hv3 : Rows h v3 x3) (hl3 : ((x3).length : Int) ≤ 9223372036854775807) (hm3 : ∀ i, i < x3.length → ((x3.getD i []).length : Int) ≤ 9223372036854775807) :
    WF S 14 [schV x0 v0, .bool b1, v2, v3] h (fun v _ => v = .bool true) := by
  refine WF_fn (fn := c14) rfl rfl ?_
  unfold c14
  have ph : h <+: h := List.prefix_refl h
  try simp (maxSteps := 3000000) (disch := first | omega | (simp only [len_new, len_put, len_kill]; omega)) only [↓xpre, xpost, ↓reduceIte, Nat.reduceEqDiff, Nat.reduceAdd, Nat.reduceSub, Nat.reduceLeDiff, Nat.zero_add, Nat.sub_zero, schV, hv0.one]
  generalize hH1 : AH.new h _ = H1
  obtain ⟨ba0, p1, e1⟩ := new_facts hH1
  have l1 := pre_len p1
  have ph := ph.trans p1
  try simp (maxSteps := 3000000) (disch := first | omega | (simp only [len_new, len_put, len_kill]; omega)) only [↓xpre, xpost, ↓reduceIte, Nat.reduceEqDiff, Nat.reduceAdd, Nat.reduceSub, Nat.reduceLeDiff, Nat.zero_add, Nat.sub_zero, rdn_of ba0]
  refine gsz_X (hv0.pre ph) (by omega) hl0 fun m0 H2 p2 hm0' hs0 => ?_
  have l2 := pre_len p2
  have ph := ph.trans p2
  have ba0 := pre_get p2 ba0
  try simp (maxSteps := 3000000) (disch := first | omega | (simp only [len_new, len_put, len_kill]; omega)) only [↓xpre, xpost, ↓reduceIte, Nat.reduceEqDiff, Nat.reduceAdd, Nat.reduceSub, Nat.reduceLeDiff, Nat.zero_add, Nat.sub_zero, IfW_dec]
  refine ⟨fun _ => trivial, fun hz0 => ?_⟩
  have hs0 := hs0 (by omega)
  have hc0 := cntX_le hs0
  try simp (maxSteps := 3000000) (disch := first | omega | (simp only [len_new, len_put, len_kill]; omega)) only [↓xpre, xpost, ↓reduceIte, Nat.reduceEqDiff, Nat.reduceAdd, Nat.reduceSub, Nat.reduceLeDiff, Nat.zero_add, Nat.sub_zero, rdn_of ba0]
  refine gsz_M (hv2.pre ph) (by omega) hl2 hm2 fun m2 H3 p3 hm2' hs2 => ?_
  have l3 := pre_len p3
  have ph := ph.trans p3
  have ba0 := pre_get p3 ba0
  try simp (maxSteps := 3000000) (disch := first | omega | (simp only [len_new, len_put, len_kill]; omega)) only [↓xpre, xpost, ↓reduceIte, Nat.reduceEqDiff, Nat.reduceAdd, Nat.reduceSub, Nat.reduceLeDiff, Nat.zero_add, Nat.sub_zero, IfW_dec]
  refine ⟨fun _ => trivial, fun hz2 => ?_⟩
  have hs2 := hs2 (by omega)
  have hc2 := cntM_le hs2
  try simp (maxSteps := 3000000) (disch := first | omega | (simp only [len_new, len_put, len_kill]; omega)) only [↓xpre, xpost, ↓reduceIte, Nat.reduceEqDiff, Nat.reduceAdd, Nat.reduceSub, Nat.reduceLeDiff, Nat.zero_add, Nat.sub_zero, rdn_of ba0]
  refine gsz_M (hv3.pre ph) (by omega) hl3 hm3 fun m3 H4 p4 hm3' hs3 => ?_
  have l4 := pre_len p4
  have ph := ph.trans p4
  have ba0 := pre_get p4 ba0
  try simp (maxSteps := 3000000) (disch := first | omega | (simp only [len_new, len_put, len_kill]; omega)) only [↓xpre, xpost, ↓reduceIte, Nat.reduceEqDiff, Nat.reduceAdd, Nat.reduceSub, Nat.reduceLeDiff, Nat.zero_add, Nat.sub_zero, IfW_dec]
  refine ⟨fun _ => trivial, fun hz3 => ?_⟩
  have hs3 := hs3 (by omega)
  have hc3 := cntM_le hs3
  try simp (maxSteps := 3000000) (disch := first | omega | (simp only [len_new, len_put, len_kill]; omega)) only [↓xpre, xpost, ↓reduceIte, Nat.reduceEqDiff, Nat.reduceAdd, Nat.reduceSub, Nat.reduceLeDiff, Nat.zero_add, Nat.sub_zero, rdn_of ba0]
  try refine ⟨p4, ?_⟩
  refine gto_X (hv0.pre ph) hs0 fun vc0 H5 p5 oc0 => ?_
  have l5 := pre_len p5
  have ph := ph.trans p5
  have ba0 := pre_get p5 ba0
  try simp (maxSteps := 3000000) (disch := first | omega | (simp only [len_new, len_put, len_kill]; omega)) only [↓xpre, xpost, ↓reduceIte, Nat.reduceEqDiff, Nat.reduceAdd, Nat.reduceSub, Nat.reduceLeDiff, Nat.zero_add, Nat.sub_zero, rdn_of ba0]
  try refine ⟨p5, ?_⟩
  refine gto_M (hv2.pre ph) hs2 fun vc2 H6 p6 oc2 => ?_
  have l6 := pre_len p6
  have ph := ph.trans p6
  have ba0 := pre_get p6 ba0
  have oc0 := oc0.pre p6
  try simp (maxSteps := 3000000) (disch := first | omega | (simp only [len_new, len_put, len_kill]; omega)) only [↓xpre, xpost, ↓reduceIte, Nat.reduceEqDiff, Nat.reduceAdd, Nat.reduceSub, Nat.reduceLeDiff, Nat.zero_add, Nat.sub_zero, rdn_of ba0]
  try refine ⟨p6, ?_⟩
  refine gto_M (hv3.pre ph) hs3 fun vc3 H7 p7 oc3 => ?_
  have l7 := pre_len p7
  have ph := ph.trans p7
  have ba0 := pre_get p7 ba0
  have oc0 := oc0.pre p7
  have oc2 := oc2.pre p7
  try simp (maxSteps := 3000000) (disch := first | omega | (simp only [len_new, len_put, len_kill]; omega)) only [↓xpre, xpost, ↓reduceIte, Nat.reduceEqDiff, Nat.reduceAdd, Nat.reduceSub, Nat.reduceLeDiff, Nat.zero_add, Nat.sub_zero, rdn_of ba0]
  try refine ⟨p7, ?_⟩
  refine s_RunScheme oc0.rd hs0 oc2.rd hs2 oc3.rd hs3 fun vw H8 p8 ow => ?_
  have l8 := pre_len p8
  have ph := ph.trans p8
  have ba0 := pre_get p8 ba0
  have oc0 := oc0.pre p8
  have oc2 := oc2.pre p8
  have oc3 := oc3.pre p8
  have ow := ow.inM
  try simp (maxSteps := 3000000) (disch := first | omega | (simp only [len_new, len_put, len_kill]; omega)) only [↓xpre, xpost, ↓reduceIte, Nat.reduceEqDiff, Nat.reduceAdd, Nat.reduceSub, Nat.reduceLeDiff, Nat.zero_add, Nat.sub_zero, rdn_of ba0]
  try refine ⟨p8, ?_⟩
  refine gto_X (hv0.pre ph) hs0 fun vx0 H9 p9 ox0 => ?_
  have l9 := pre_len p9
  have ph := ph.trans p9
  have ba0 := pre_get p9 ba0
  have ow := ow.pre p9
  try simp (maxSteps := 3000000) (disch := first | omega | (simp only [len_new, len_put, len_kill]; omega)) only [↓xpre, xpost, ↓reduceIte, Nat.reduceEqDiff, Nat.reduceAdd, Nat.reduceSub, Nat.reduceLeDiff, Nat.zero_add, Nat.sub_zero, schV, ox0.rd.one, rdn_of ba0]
  generalize hH10 : AH.new H9 _ = H10
  obtain ⟨bx0, p10, e10⟩ := new_facts hH10
  have l10 := pre_len p10
  have ph := ph.trans p10
  have ba0 := pre_get p10 ba0
  have ow := ow.pre p10
  have ox0 := ox0.pre p10
  try simp (maxSteps := 3000000) (disch := first | omega | (simp only [len_new, len_put, len_kill]; omega)) only [↓xpre, xpost, ↓reduceIte, Nat.reduceEqDiff, Nat.reduceAdd, Nat.reduceSub, Nat.reduceLeDiff, Nat.zero_add, Nat.sub_zero, rdn_of ba0, rdn_of bx0]
  try refine ⟨p10, ?_⟩
  refine gto_M (hv2.pre ph) hs2 fun vx2 H11 p11 ox2 => ?_
  have l11 := pre_len p11
  have ph := ph.trans p11
  have ba0 := pre_get p11 ba0
  have bx0 := pre_get p11 bx0
  have ow := ow.pre p11
  have ox0 := ox0.pre p11
  try simp (maxSteps := 3000000) (disch := first | omega | (simp only [len_new, len_put, len_kill]; omega)) only [↓xpre, xpost, ↓reduceIte, Nat.reduceEqDiff, Nat.reduceAdd, Nat.reduceSub, Nat.reduceLeDiff, Nat.zero_add, Nat.sub_zero, rdn_of ba0, rdn_of bx0]
  try refine ⟨p11, ?_⟩
  refine gto_M (hv3.pre ph) hs3 fun vx3 H12 p12 ox3 => ?_
  have l12 := pre_len p12
  have ph := ph.trans p12
  have ba0 := pre_get p12 ba0
  have bx0 := pre_get p12 bx0
  have ow := ow.pre p12
  have ox0 := ox0.pre p12
  have ox2 := ox2.pre p12
  try simp (maxSteps := 3000000) (disch := first | omega | (simp only [len_new, len_put, len_kill]; omega)) only [↓xpre, xpost, ↓reduceIte, Nat.reduceEqDiff, Nat.reduceAdd, Nat.reduceSub, Nat.reduceLeDiff, Nat.zero_add, Nat.sub_zero, rdn_of ba0, rdn_of bx0]
  try refine ⟨p12, ?_⟩
  refine i_RunScheme ox0.rd hs0 ox2.rd hs2 ox3.rd hs3 fun vg H13 p13 og => ?_
  have l13 := pre_len p13
  have ph := ph.trans p13
  have ba0 := pre_get p13 ba0
  have bx0 := pre_get p13 bx0
  have ow := ow.pre p13
  have ox0 := ox0.pre p13
  have ox2 := ox2.pre p13
  have ox3 := ox3.pre p13
  have og := og.inM
  have hR : SmallM (rsR x0 b1 x2 x3).1 := rsR_small hv0
  have hcR := cntM_le hR
  try simp (maxSteps := 3000000) (disch := first | omega | (simp only [len_new, len_put, len_kill]; omega)) only [↓xpre, xpost, ↓reduceIte, Nat.reduceEqDiff, Nat.reduceAdd, Nat.reduceSub, Nat.reduceLeDiff, Nat.zero_add, Nat.sub_zero, ne_eq, not_true_eq_false, rdn_of ba0, rdn_of bx0]
  try refine ⟨p13, ?_⟩
  refine geq_M og.rd ow.rd hR fun  H14 p14 => ?_
  have l14 := pre_len p14
  have ph := ph.trans p14
  have ba0 := pre_get p14 ba0
  have bx0 := pre_get p14 bx0
  have ow := ow.pre p14
  have ox0 := ox0.pre p14
  have ox2 := ox2.pre p14
  have ox3 := ox3.pre p14
  have og := og.pre p14
  try simp (maxSteps := 3000000) (disch := first | omega | (simp only [len_new, len_put, len_kill]; omega)) only [↓xpre, xpost, ↓reduceIte, Nat.reduceEqDiff, Nat.reduceAdd, Nat.reduceSub, Nat.reduceLeDiff, Nat.zero_add, Nat.sub_zero, ne_eq, not_true_eq_false, rdn_of ba0, rdn_of bx0]
  try refine ⟨p14, ?_⟩
  try simp (maxSteps := 3000000) (disch := first | omega | (simp only [len_new, len_put, len_kill]; omega)) only [↓xpre, xpost, ↓reduceIte, Nat.reduceEqDiff, Nat.reduceAdd, Nat.reduceSub, Nat.reduceLeDiff, Nat.zero_add, Nat.sub_zero, ne_eq, not_true_eq_false, rdn_of ba0, rdn_of bx0]
  try refine ⟨p14, ?_⟩
  refine gto_X (hv0.pre ph) hs0 fun ve0 H15 p15 oe0 => ?_
  have l15 := pre_len p15
  have ph := ph.trans p15
  have ba0 := pre_get p15 ba0
  have bx0 := pre_get p15 bx0
  have ow := ow.pre p15
  have ox0 := ox0.pre p15
  have ox2 := ox2.pre p15
  have ox3 := ox3.pre p15
  have og := og.pre p15
  try simp (maxSteps := 3000000) (disch := first | omega | (simp only [len_new, len_put, len_kill]; omega)) only [↓xpre, xpost, ↓reduceIte, Nat.reduceEqDiff, Nat.reduceAdd, Nat.reduceSub, Nat.reduceLeDiff, Nat.zero_add, Nat.sub_zero, rdn_of ba0, rdn_of bx0]
  try refine ⟨p15, ?_⟩
  refine geq_X ox0.rd oe0.rd hs0 fun  H16 p16 => ?_
  have l16 := pre_len p16
  have ph := ph.trans p16
  have ba0 := pre_get p16 ba0
  have bx0 := pre_get p16 bx0
  have ow := ow.pre p16
  have ox0 := ox0.pre p16
  have ox2 := ox2.pre p16
  have ox3 := ox3.pre p16
  have og := og.pre p16
  have oe0 := oe0.pre p16
  try simp (maxSteps := 3000000) (disch := first | omega | (simp only [len_new, len_put, len_kill]; omega)) only [↓xpre, xpost, ↓reduceIte, Nat.reduceEqDiff, Nat.reduceAdd, Nat.reduceSub, Nat.reduceLeDiff, Nat.zero_add, Nat.sub_zero, rdn_of ba0, rdn_of bx0]
  try simp (maxSteps := 3000000) (disch := first | omega | (simp only [len_new, len_put, len_kill]; omega)) only [↓xpre, xpost, ↓reduceIte, Nat.reduceEqDiff, Nat.reduceAdd, Nat.reduceSub, Nat.reduceLeDiff, Nat.zero_add, Nat.sub_zero, ne_eq, not_true_eq_false, rdn_of ba0, rdn_of bx0]
  try refine ⟨p16, ?_⟩
  refine gto_M (hv2.pre ph) hs2 fun ve2 H17 p17 oe2 => ?_
  have l17 := pre_len p17
  have ph := ph.trans p17
  have ba0 := pre_get p17 ba0
  have bx0 := pre_get p17 bx0
  have ow := ow.pre p17
  have ox0 := ox0.pre p17
  have ox2 := ox2.pre p17
  have ox3 := ox3.pre p17
  have og := og.pre p17
  try simp (maxSteps := 3000000) (disch := first | omega | (simp only [len_new, len_put, len_kill]; omega)) only [↓xpre, xpost, ↓reduceIte, Nat.reduceEqDiff, Nat.reduceAdd, Nat.reduceSub, Nat.reduceLeDiff, Nat.zero_add, Nat.sub_zero, rdn_of ba0, rdn_of bx0]
  try refine ⟨p17, ?_⟩
  refine geq_M ox2.rd oe2.rd hs2 fun  H18 p18 => ?_
  have l18 := pre_len p18
  have ph := ph.trans p18
  have ba0 := pre_get p18 ba0
  have bx0 := pre_get p18 bx0
  have ow := ow.pre p18
  have ox0 := ox0.pre p18
  have ox2 := ox2.pre p18
  have ox3 := ox3.pre p18
  have og := og.pre p18
  have oe2 := oe2.pre p18
  try simp (maxSteps := 3000000) (disch := first | omega | (simp only [len_new, len_put, len_kill]; omega)) only [↓xpre, xpost, ↓reduceIte, Nat.reduceEqDiff, Nat.reduceAdd, Nat.reduceSub, Nat.reduceLeDiff, Nat.zero_add, Nat.sub_zero, rdn_of ba0, rdn_of bx0]
  try simp (maxSteps := 3000000) (disch := first | omega | (simp only [len_new, len_put, len_kill]; omega)) only [↓xpre, xpost, ↓reduceIte, Nat.reduceEqDiff, Nat.reduceAdd, Nat.reduceSub, Nat.reduceLeDiff, Nat.zero_add, Nat.sub_zero, ne_eq, not_true_eq_false, rdn_of ba0, rdn_of bx0]
  try refine ⟨p18, ?_⟩
  refine gto_M (hv3.pre ph) hs3 fun ve3 H19 p19 oe3 => ?_
  have l19 := pre_len p19
  have ph := ph.trans p19
  have ba0 := pre_get p19 ba0
  have bx0 := pre_get p19 bx0
  have ow := ow.pre p19
  have ox0 := ox0.pre p19
  have ox2 := ox2.pre p19
  have ox3 := ox3.pre p19
  have og := og.pre p19
  try simp (maxSteps := 3000000) (disch := first | omega | (simp only [len_new, len_put, len_kill]; omega)) only [↓xpre, xpost, ↓reduceIte, Nat.reduceEqDiff, Nat.reduceAdd, Nat.reduceSub, Nat.reduceLeDiff, Nat.zero_add, Nat.sub_zero, rdn_of ba0, rdn_of bx0]
  try refine ⟨p19, ?_⟩
  refine geq_M ox3.rd oe3.rd hs3 fun  H20 p20 => ?_
  have l20 := pre_len p20
  have ph := ph.trans p20
  have ba0 := pre_get p20 ba0
  have bx0 := pre_get p20 bx0
  have ow := ow.pre p20
  have ox0 := ox0.pre p20
  have ox2 := ox2.pre p20
  have ox3 := ox3.pre p20
  have og := og.pre p20
  have oe3 := oe3.pre p20
  try simp (maxSteps := 3000000) (disch := first | omega | (simp only [len_new, len_put, len_kill]; omega)) only [↓xpre, xpost, ↓reduceIte, Nat.reduceEqDiff, Nat.reduceAdd, Nat.reduceSub, Nat.reduceLeDiff, Nat.zero_add, Nat.sub_zero, rdn_of ba0, rdn_of bx0]
  try simp (maxSteps := 3000000) (disch := first | omega | (simp only [len_new, len_put, len_kill]; omega)) only [↓xpre, xpost, ↓reduceIte, Nat.reduceEqDiff, Nat.reduceAdd, Nat.reduceSub, Nat.reduceLeDiff, Nat.zero_add, Nat.sub_zero, rdn_of ba0, rdn_of bx0]
  refine gmark_X ox0 hs0 (by omega) fun J21 H21 p21 w21 q21 => ?_
  have l21 := pre_len p21
  have ll21 := w21.len
  have ph := ph.trans p21
  have ba0 := pre_get p21 ba0
  have bx0 := pre_get p21 bx0
  have ow := ow.pre p21
  have ox2 := ox2.pre p21
  have ox3 := ox3.pre p21
  have og := og.pre p21
  have ph := w21.pre ph (by omega)
  have ba0 := w21.get' ba0 (by omega)
  have bx0 := w21.get' bx0 (by omega)
  have ow := ow.only w21 (by omega)
  have ox2 := ox2.only w21 (by omega)
  have ox3 := ox3.only w21 (by omega)
  have og := og.only w21 (by omega)
  have ox0 := q21
  try simp (maxSteps := 3000000) (disch := first | omega | (simp only [len_new, len_put, len_kill]; omega)) only [↓xpre, xpost, ↓reduceIte, Nat.reduceEqDiff, Nat.reduceAdd, Nat.reduceSub, Nat.reduceLeDiff, Nat.zero_add, Nat.sub_zero, rdn_of ba0, rdn_of bx0]
  refine gmark_M ox2 hs2 (by omega) fun J22 H22 p22 w22 q22 => ?_
  have l22 := pre_len p22
  have ll22 := w22.len
  have ph := ph.trans p22
  have ba0 := pre_get p22 ba0
  have bx0 := pre_get p22 bx0
  have ow := ow.pre p22
  have ox3 := ox3.pre p22
  have og := og.pre p22
  have ph := w22.pre ph (by omega)
  have ba0 := w22.get' ba0 (by omega)
  have bx0 := w22.get' bx0 (by omega)
  have ow := ow.only w22 (by omega)
  have ox3 := ox3.only w22 (by omega)
  have og := og.only w22 (by omega)
  have ox2 := q22
  try simp (maxSteps := 3000000) (disch := first | omega | (simp only [len_new, len_put, len_kill]; omega)) only [↓xpre, xpost, ↓reduceIte, Nat.reduceEqDiff, Nat.reduceAdd, Nat.reduceSub, Nat.reduceLeDiff, Nat.zero_add, Nat.sub_zero, rdn_of ba0, rdn_of bx0]
  refine gmark_M ox3 hs3 (by omega) fun J23 H23 p23 w23 q23 => ?_
  have l23 := pre_len p23
  have ll23 := w23.len
  have ph := ph.trans p23
  have ba0 := pre_get p23 ba0
  have bx0 := pre_get p23 bx0
  have ow := ow.pre p23
  have og := og.pre p23
  have ph := w23.pre ph (by omega)
  have ba0 := w23.get' ba0 (by omega)
  have bx0 := w23.get' bx0 (by omega)
  have ow := ow.only w23 (by omega)
  have og := og.only w23 (by omega)
  have ox3 := q23
  try simp (maxSteps := 3000000) (disch := first | omega | (simp only [len_new, len_put, len_kill]; omega)) only [↓xpre, xpost, ↓reduceIte, Nat.reduceEqDiff, Nat.reduceAdd, Nat.reduceSub, Nat.reduceLeDiff, Nat.zero_add, Nat.sub_zero, rdn_of ba0, rdn_of bx0, IfW_dec]
  rw [decide_eq_false (by omega)]
  try simp (maxSteps := 3000000) (disch := first | omega | (simp only [len_new, len_put, len_kill]; omega)) only [↓xpre, xpost, ↓reduceIte, Nat.reduceEqDiff, Nat.reduceAdd, Nat.reduceSub, Nat.reduceLeDiff, Nat.zero_add, Nat.sub_zero, ne_eq, not_true_eq_false, rdn_of ba0, rdn_of bx0]
  try refine ⟨p23, ?_⟩
  refine geq_M og.rd ow.rd hR fun  H24 p24 => ?_
  have l24 := pre_len p24
  have ph := ph.trans p24
  have ba0 := pre_get p24 ba0
  have bx0 := pre_get p24 bx0
  have ow := ow.pre p24
  have og := og.pre p24
  try simp (maxSteps := 3000000) (disch := first | omega | (simp only [len_new, len_put, len_kill]; omega)) only [↓xpre, xpost, ↓reduceIte, Nat.reduceEqDiff, Nat.reduceAdd, Nat.reduceSub, Nat.reduceLeDiff, Nat.zero_add, Nat.sub_zero, ne_eq, not_true_eq_false, rdn_of ba0, rdn_of bx0]
  try refine ⟨p24, ?_⟩
  try simp (maxSteps := 3000000) (disch := first | omega | (simp only [len_new, len_put, len_kill]; omega)) only [↓xpre, xpost, ↓reduceIte, Nat.reduceEqDiff, Nat.reduceAdd, Nat.reduceSub, Nat.reduceLeDiff, Nat.zero_add, Nat.sub_zero, ne_eq, not_true_eq_false, rdn_of ba0, rdn_of bx0]
  refine gmark_M og hR (by omega) fun J25 H25 p25 w25 q25 => ?_
  have l25 := pre_len p25
  have ll25 := w25.len
  have ph := ph.trans p25
  have ba0 := pre_get p25 ba0
  have bx0 := pre_get p25 bx0
  have ow := ow.pre p25
  have ph := w25.pre ph (by omega)
  have ba0 := w25.get' ba0 (by omega)
  have bx0 := w25.get' bx0 (by omega)
  have ow := ow.only w25 (by omega)
  have og := q25
  try simp (maxSteps := 3000000) (disch := first | omega | (simp only [len_new, len_put, len_kill]; omega)) only [↓xpre, xpost, ↓reduceIte, Nat.reduceEqDiff, Nat.reduceAdd, Nat.reduceSub, Nat.reduceLeDiff, Nat.zero_add, Nat.sub_zero, ne_eq, not_true_eq_false, rdn_of ba0, rdn_of bx0]
  refine gheld_M og.rd hR (by omega) fun  H26 p26 => ?_
  have l26 := pre_len p26
  have ph := ph.trans p26
  have ba0 := pre_get p26 ba0
  have bx0 := pre_get p26 bx0
  have ow := ow.pre p26
  have og := og.pre p26
  try simp (maxSteps := 3000000) (disch := first | omega | (simp only [len_new, len_put, len_kill]; omega)) only [↓xpre, xpost, ↓reduceIte, Nat.reduceEqDiff, Nat.reduceAdd, Nat.reduceSub, Nat.reduceLeDiff, Nat.zero_add, Nat.sub_zero, IfW_dec, ne_eq, not_true_eq_false, rdn_of ba0, rdn_of bx0]
  refine ⟨fun hlt => by omega, fun _ => ?_⟩
  try simp (maxSteps := 3000000) (disch := first | omega | (simp only [len_new, len_put, len_kill]; omega)) only [↓xpre, xpost, ↓reduceIte, Nat.reduceEqDiff, Nat.reduceAdd, Nat.reduceSub, Nat.reduceLeDiff, Nat.zero_add, Nat.sub_zero, rdn_of ba0, rdn_of bx0]
  try refine ⟨p26, ?_⟩
  refine gto_X (hv0.pre ph) hs0 fun vd0 H27 p27 od0 => ?_
  have l27 := pre_len p27
  have ph := ph.trans p27
  have ba0 := pre_get p27 ba0
  have bx0 := pre_get p27 bx0
  have ow := ow.pre p27
  have og := og.pre p27
  try simp (maxSteps := 3000000) (disch := first | omega | (simp only [len_new, len_put, len_kill]; omega)) only [↓xpre, xpost, ↓reduceIte, Nat.reduceEqDiff, Nat.reduceAdd, Nat.reduceSub, Nat.reduceLeDiff, Nat.zero_add, Nat.sub_zero, rdn_of ba0, rdn_of bx0]
  try refine ⟨p27, ?_⟩
  refine gto_M (hv2.pre ph) hs2 fun vd2 H28 p28 od2 => ?_
  have l28 := pre_len p28
  have ph := ph.trans p28
  have ba0 := pre_get p28 ba0
  have bx0 := pre_get p28 bx0
  have ow := ow.pre p28
  have od0 := od0.pre p28
  have og := og.pre p28
  try simp (maxSteps := 3000000) (disch := first | omega | (simp only [len_new, len_put, len_kill]; omega)) only [↓xpre, xpost, ↓reduceIte, Nat.reduceEqDiff, Nat.reduceAdd, Nat.reduceSub, Nat.reduceLeDiff, Nat.zero_add, Nat.sub_zero, rdn_of ba0, rdn_of bx0]
  try refine ⟨p28, ?_⟩
  refine gto_M (hv3.pre ph) hs3 fun vd3 H29 p29 od3 => ?_
  have l29 := pre_len p29
  have ph := ph.trans p29
  have ba0 := pre_get p29 ba0
  have bx0 := pre_get p29 bx0
  have ow := ow.pre p29
  have od0 := od0.pre p29
  have od2 := od2.pre p29
  have og := og.pre p29
  try simp (maxSteps := 3000000) (disch := first | omega | (simp only [len_new, len_put, len_kill]; omega)) only [↓xpre, xpost, ↓reduceIte, Nat.reduceEqDiff, Nat.reduceAdd, Nat.reduceSub, Nat.reduceLeDiff, Nat.zero_add, Nat.sub_zero, rdn_of ba0, rdn_of bx0]
  try refine ⟨p29, ?_⟩
  refine i_RunScheme od0.rd hs0 od2.rd hs2 od3.rd hs3 fun vh H30 p30 oh => ?_
  have l30 := pre_len p30
  have ph := ph.trans p30
  have ba0 := pre_get p30 ba0
  have bx0 := pre_get p30 bx0
  have ow := ow.pre p30
  have od0 := od0.pre p30
  have od2 := od2.pre p30
  have od3 := od3.pre p30
  have og := og.pre p30
  have oh := oh.inM
  try simp (maxSteps := 3000000) (disch := first | omega | (simp only [len_new, len_put, len_kill]; omega)) only [↓xpre, xpost, ↓reduceIte, Nat.reduceEqDiff, Nat.reduceAdd, Nat.reduceSub, Nat.reduceLeDiff, Nat.zero_add, Nat.sub_zero, ne_eq, not_true_eq_false, rdn_of ba0, rdn_of bx0]
  try refine ⟨p30, ?_⟩
  refine geq_M oh.rd ow.rd hR fun  H31 p31 => ?_
  have l31 := pre_len p31
  have ph := ph.trans p31
  have ba0 := pre_get p31 ba0
  have bx0 := pre_get p31 bx0
  have ow := ow.pre p31
  have oh := oh.pre p31
  have og := og.pre p31
  try simp (maxSteps := 3000000) (disch := first | omega | (simp only [len_new, len_put, len_kill]; omega)) only [↓xpre, xpost, ↓reduceIte, Nat.reduceEqDiff, Nat.reduceAdd, Nat.reduceSub, Nat.reduceLeDiff, Nat.zero_add, Nat.sub_zero, ne_eq, not_true_eq_false, rdn_of ba0, rdn_of bx0]
  try refine ⟨p31, ?_⟩
  try simp (maxSteps := 3000000) (disch := first | omega | (simp only [len_new, len_put, len_kill]; omega)) only [↓xpre, xpost, ↓reduceIte, Nat.reduceEqDiff, Nat.reduceAdd, Nat.reduceSub, Nat.reduceLeDiff, Nat.zero_add, Nat.sub_zero, ne_eq, not_true_eq_false, rdn_of ba0, rdn_of bx0]
  refine gheld_M og.rd hR (by omega) fun H32 p32 => ?_
  try simp (maxSteps := 3000000) (disch := first | omega | (simp only [len_new, len_put, len_kill]; omega)) only [↓xpre, xpost, ↓reduceIte, Nat.reduceEqDiff, Nat.reduceAdd, Nat.reduceSub, Nat.reduceLeDiff, Nat.zero_add, Nat.sub_zero, IfW_dec, ne_eq, not_true_eq_false, rdn_of ba0, rdn_of bx0]
  refine ⟨fun hlt => by omega, fun _ => ?_⟩
  trivial

end Go.Proofs.Ytilpnbejpndgpaa.X

/- From the readings of a row's arguments to the abstract machine's first heap, and back to the row. -/
set_option linter.unusedVariables false
set_option linter.unusedSimpArgs false
namespace Go.Proofs.Ytilpnbejpndgpaa.X
open Go Go.RowKit Go.ChangeShapes Go.WideShapes Go.Deep

/-- A heap of blocks that are read only, each in the world's memory. -/
structure Adm (P : Program) (W : World) (γ : List G) (h : AH) : Prop where
  rel : Rel P W.heap.size γ h W
  ro : ∀ n b, h.get n = some b → b.ro = true

theorem Adm.nil (P : Program) (W : World) : Adm P W [] [] where
  rel := {
    len := rfl
    cell := fun n b g h => by simp [AH.get] at h
    rw := fun n b g h => by simp [AH.get] at h
    ro := fun n b g h => by simp [AH.get] at h
    inj := fun n m bn bm g g' h => by simp [AH.get] at h
    base := Nat.le_refl _ }
  ro := fun n b h => by simp [AH.get] at h

theorem Adm.new {P : Program} {W : World} {γ : List G} {h : AH} (A : Adm P W γ h) {g : G} {cs : List Value} {e : TypeId} (hb : g.b < W.heap.size)
    (hc : ∀ j v, cs[j]? = some v → isOne v = true ∧ ∃ v', W.cell? ⟨g.b, g.o + j, none⟩ = some v' ∧ VR γ v v') : Adm P W (γ ++ [g]) (h.new ⟨cs, e, true, false⟩) := by
  have hl := A.rel.len
  have hp : γ <+: γ ++ [g] := List.prefix_append _ _
  have old : ∀ {n : Nat} {g' : G}, n < h.length → (γ ++ [g])[n]? = some g' → γ[n]? = some g' := fun hn hg => by
    rw [List.getElem?_append_left (by omega)] at hg
    exact hg
  have new : ∀ {g' : G}, (γ ++ [g])[h.length]? = some g' → g' = g := fun hg => by
    rw [← hl] at hg
    simpa using hg.symm
  refine ⟨⟨by simp [len_new, hl], ?_, ?_, ?_, ?_, Nat.le_refl _⟩, ?_⟩
  · intro n b g' hb' hg' j v hv
    rcases get_new_cases hb' with hb' | ⟨rfl, rfl⟩
    · obtain ⟨q1, v', q2, q3⟩ := A.rel.cell n b g' hb' (old (get_lt hb') hg') j v hv
      exact ⟨q1, v', q2, q3.mono hp⟩
    · obtain rfl := new hg'
      obtain ⟨q1, v', q2, q3⟩ := hc j v hv
      exact ⟨q1, v', q2, q3.mono hp⟩
  · intro n b g' hb' hg' hro
    rcases get_new_cases hb' with hb' | ⟨rfl, rfl⟩
    · rw [A.ro n b hb'] at hro
      cases hro
    · cases hro
  · intro n b g' hb' hg' hro
    rcases get_new_cases hb' with hb' | ⟨rfl, rfl⟩
    · exact A.rel.ro n b g' hb' (old (get_lt hb') hg') hro
    · obtain rfl := new hg'
      exact hb
  · intro n m bn bm g1 g2 h1 h2 h3 h4 hro
    rcases get_new_cases h1 with hb' | ⟨rfl, rfl⟩
    · rw [A.ro n bn hb'] at hro
      cases hro
    · cases hro
  · intro n b hb'
    rcases get_new_cases hb' with hb' | ⟨rfl, rfl⟩
    · exact A.ro n b hb'
    · rfl

section
variable {H : Type} {enc : TypeId × Value → H} {P : Program} {W : World}

theorem add_off (a : Addr) (ha : a.spot = none) (i : Nat) : a.add i = ⟨a.block, a.off + i, none⟩ := by
  unfold Addr.add
  split
  · rename_i h0
    subst h0
    obtain ⟨b, o, s⟩ := a
    simp at ha
    subst ha
    rfl
  · rfl

theorem adm_ints {γ : List G} {h : AH} (A : Adm P W γ h) {t e : TypeId} {n : Nat} {cs : List Value} {x : DataW H × List MemPlace} (ht : P.underlying t = some (.slice e)) (he : P.underlying e = some (.int .i64))
    (hc : P.cellsOf e = 1) (hx : DataW.trod enc P W 0 (fun _ => true) true n t cs = some x) :
    ∃ v' v ns γ' h', cs = [v'] ∧ γ <+: γ' ∧ h <+: h' ∧ Adm P W γ' h' ∧ VR γ' v v' ∧ Ints h' v ns ∧ ns.length ≤ maxLen := by
  rcases open_slice1 ht hc hx with ⟨rfl, _⟩ | ⟨a, len, cap, m, n', V, D, Pl, rfl, hb, hl, hm, hmm, _, hcell⟩
  · exact ⟨_, .slice none 0 0, [], γ, h, rfl, List.prefix_refl _, List.prefix_refl _, A, .nils, .inl ⟨rfl, 0, by omega, rfl⟩, Nat.zero_le _⟩
  · by_cases h0 : len = 0
    · subst h0
      exact ⟨_, .slice none 0 1, [], γ, h, rfl, List.prefix_refl _, List.prefix_refl _, A, .emp _ _, .inl ⟨rfl, 1, by omega, rfl⟩, Nat.zero_le _⟩
    · have hcell : ∀ i, i < cap → W.cell? (a.add i) = some (V i) ∧ DataW.trod enc P W 0 (fun _ => true) true n' e [V i] = some (D i, Pl i) := fun i hi => hcell i (by rw [show m = cap from hmm]; exact hi)
      have hz := (hcell 0 (by omega)).1
      have hsp : a.spot = none := by
        simp only [Addr.add, if_true] at hz
        unfold World.cell? at hz
        split at hz
        · split at hz
          · cases hz
          · rename_i hs
            simpa using hs
        · cases hz
      have hbl : a.block < W.heap.size := by
        have := World.block_lt_of_cell? W _ hz
        simpa [Addr.add] using this
      have hV : ∀ i, i < len → ∃ k, V i = .int .i64 k := fun i hi => by
        obtain ⟨k, hk, _⟩ := DataW.trod_int he (hcell i (by omega)).2
        exact ⟨k, by simpa using hk⟩
      let ns : List Int := (List.range len).map fun i => match V i with
        | .int _ k => k
        | _ => 0
      have hns : ns.length = len := by simp [ns]
      have hget : ∀ i, i < len → ns.getD i 0 = (match V i with
        | .int _ k => k
        | _ => 0) := fun i hi => by simp [ns, List.getD_eq_getElem?_getD, List.getElem?_map, List.getElem?_range hi]
      refine ⟨_, .slice (some ⟨h.length, 0, none⟩) ns.length 1, ns, γ ++ [⟨a.block, a.off, cap⟩], h.new ⟨ns.map (Value.int .i64), e, true, false⟩, rfl, List.prefix_append _ _, pre_new (List.prefix_refl _), ?_, ?_,
        Ints.own get_new_same rfl, by rw [hns]; omega⟩
      · refine A.new hbl fun j v hv => ?_
        rw [List.getElem?_map] at hv
        obtain ⟨k, hk, rfl⟩ := Option.map_eq_some_iff.1 hv
        have hj : j < len := by rw [← hns]; exact (List.getElem?_eq_some_iff.1 hk).1
        obtain ⟨k', hk'⟩ := hV j hj
        have hg := hget j hj
        rw [List.getD_eq_getElem?_getD, hk, hk'] at hg
        simp only [Option.getD_some] at hg
        subst hg
        refine ⟨rfl, _, ?_, .int _ _⟩
        have := (hcell j (by omega)).1
        rw [add_off a hsp, hk'] at this
        exact this
      · have := VR.slc (γ := γ ++ [⟨a.block, a.off, cap⟩]) h.length 0 ns.length 1 ⟨a.block, a.off, cap⟩ (by rw [← A.rel.len]; simp) (by omega) (by simp only; omega)
        have e1 : (some a : Option Addr) = some ⟨a.block, a.off + 0, none⟩ := by
          obtain ⟨b, o, s⟩ := a
          simp at hsp
          subst hsp
          rfl
        rw [e1]
        have e2 : (cap - 0) / 1 = cap := by simp
        rw [← hns, show (Value.slice (some ⟨a.block, a.off + 0, none⟩) ns.length cap) = Value.slice (some ⟨a.block, a.off + 0, none⟩) ns.length ((cap - 0) / 1) by rw [e2]]
        exact this

theorem trod_field {t : TypeId} {fs : Array Field} {n : Nat} {cs : List Value} {x : DataW H × List MemPlace} (hs : P.underlying t = some (.struct fs)) (hx : DataW.trod enc P W 0 (fun _ => true) true n t cs = some x)
    {i : Nat} {f : Field} (hf : fs[i]? = some f) : ∃ m y, DataW.trod enc P W 0 (fun _ => true) true m f.type ((cs.drop f.offset).take (P.cellsOf f.type)) = some y := by
  obtain ⟨xs, m, _, _, _, hl, hall⟩ := DataW.trod_struct hs hx
  have hi : i < xs.length := by
    rw [hl]
    exact (Array.getElem?_eq_some_iff.1 hf).1
  exact ⟨m, xs[i], by rw [hall i f hf, List.getElem?_eq_getElem hi]⟩
theorem trod_cells {t : TypeId} {fs : Array Field} {n : Nat} {cs : List Value} {x : DataW H × List MemPlace} (hs : P.underlying t = some (.struct fs)) (hx : DataW.trod enc P W 0 (fun _ => true) true n t cs = some x) : cs.length = P.cellsOf t := by
  obtain ⟨xs, m, _, _, hl, _, _⟩ := DataW.trod_struct hs hx
  exact hl
theorem trod_field_int {t : TypeId} {fs : Array Field} {n : Nat} {cs : List Value} {x : DataW H × List MemPlace} (hs : P.underlying t = some (.struct fs)) (hx : DataW.trod enc P W 0 (fun _ => true) true n t cs = some x)
    {i : Nat} {f : Field} (hf : fs[i]? = some f) (ht : P.underlying f.type = some (.int .i64)) : ∃ k, (cs.drop f.offset).take (P.cellsOf f.type) = [I64 k] ∧ (Lit.int .i64 k).wf = true := by
  obtain ⟨m, y, hy⟩ := trod_field hs hx hf
  obtain ⟨k, h1, _, h2⟩ := DataW.trod_int ht hy
  exact ⟨k, h1, h2⟩
theorem agg_of_cells {v : Value} {l : List Value} (h : v.cells.toList = l) (h2 : 2 ≤ l.length) : v = .agg l.toArray := by
  cases v with
  | agg cs =>
    simp only [Value.cells] at h
    rw [← h]
  | _ =>
    simp only [Value.cells] at h
    rw [← h] at h2
    simp at h2

/-- Four whole numbers and a list of them, side by side. -/
theorem adm_ints4 {γ : List G} {h : AH} (A : Adm P W γ h) {t e : TypeId} {f0 f1 f2 f3 f4 : Field} {v : Value} {d : DataW H} {ps : List MemPlace} (hs : P.underlying t = some (.struct #[f0, f1, f2, f3, f4]))
    (hct : P.cellsOf t = 5) (ho : f0.offset = 0 ∧ f1.offset = 1 ∧ f2.offset = 2 ∧ f3.offset = 3 ∧ f4.offset = 4)
    (hi : P.underlying f0.type = some (.int .i64) ∧ P.underlying f1.type = some (.int .i64) ∧ P.underlying f2.type = some (.int .i64) ∧ P.underlying f3.type = some (.int .i64))
    (hc : P.cellsOf f0.type = 1 ∧ P.cellsOf f1.type = 1 ∧ P.cellsOf f2.type = 1 ∧ P.cellsOf f3.type = 1 ∧ P.cellsOf f4.type = 1)
    (ht : P.underlying f4.type = some (.slice e)) (he : P.underlying e = some (.int .i64)) (hce : P.cellsOf e = 1) (hx : DataW.Trod enc P W 0 (fun _ => true) true t v d ps) :
    ∃ a b c d ns v' γ' h', γ <+: γ' ∧ h <+: h' ∧ Adm P W γ' h' ∧ VR γ' (.agg #[I64 a, I64 b, I64 c, I64 d, v']) v ∧ Ints h' v' ns ∧ ns.length ≤ maxLen := by
  obtain ⟨n, hx⟩ := hx
  have hl := trod_cells hs hx
  rw [hct] at hl
  obtain ⟨a, ha, _⟩ := trod_field_int hs hx (i := 0) (f := f0) rfl hi.1
  obtain ⟨b, hb, _⟩ := trod_field_int hs hx (i := 1) (f := f1) rfl hi.2.1
  obtain ⟨c, hcc, _⟩ := trod_field_int hs hx (i := 2) (f := f2) rfl hi.2.2.1
  obtain ⟨d, hd, _⟩ := trod_field_int hs hx (i := 3) (f := f3) rfl hi.2.2.2
  obtain ⟨m, y, hy⟩ := trod_field hs hx (i := 4) (f := f4) rfl
  obtain ⟨v', u, ns, γ', h', e1, q1, q2, q3, q4, q5, q6⟩ := adm_ints A ht he hce hy
  generalize hcs : v.cells.toList = cs at *
  rw [ho.1, hc.1] at ha
  rw [ho.2.1, hc.2.1] at hb
  rw [ho.2.2.1, hc.2.2.1] at hcc
  rw [ho.2.2.2.1, hc.2.2.2.1] at hd
  rw [ho.2.2.2.2, hc.2.2.2.2] at e1
  obtain ⟨c0, c1, c2, c3, c4, rfl⟩ : ∃ c0 c1 c2 c3 c4, cs = [c0, c1, c2, c3, c4] := by
    match cs, hl with
    | [c0, c1, c2, c3, c4], _ => exact ⟨_, _, _, _, _, rfl⟩
  simp at ha hb hcc hd e1
  subst ha hb hcc hd e1
  refine ⟨a, b, c, d, ns, u, γ', h', q1, q2, q3, ?_, q5, q6⟩
  rw [agg_of_cells hcs (by simp)]
  exact VR.aggL (VRL.cons (.int _ _) (VRL.cons (.int _ _) (VRL.cons (.int _ _) (VRL.cons (.int _ _) (VRL.cons q4 (VRL.nil _))))))

def tyInt (P : Program) (t : TypeId) : Bool := match P.underlying t with
  | some (.int .i64) => true
  | _ => false
def tySlice (P : Program) (t e : TypeId) : Bool := match P.underlying t with
  | some (.slice e') => e' == e
  | _ => false
theorem tyInt_eq {t : TypeId} (h : tyInt P t = true) : P.underlying t = some (.int .i64) := by
  unfold tyInt at h
  split at h
  · assumption
  · cases h
theorem tySlice_eq {t e : TypeId} (h : tySlice P t e = true) : P.underlying t = some (.slice e) := by
  unfold tySlice at h
  split at h
  · rename_i e' he
    have : e' = e := by simpa using h
    rw [he, this]
  · cases h
/-- .. the shape looked up by the kernel. -/
def isInts4 (P : Program) (t e : TypeId) : Bool := match P.underlying t with
  | some (.struct fs) => match fs.toList with
    | [f0, f1, f2, f3, f4] => P.cellsOf t == 5 && f0.offset == 0 && f1.offset == 1 && f2.offset == 2 && f3.offset == 3 && f4.offset == 4 &&
        [f0, f1, f2, f3].all (fun f => tyInt P f.type && P.cellsOf f.type == 1) && P.cellsOf f4.type == 1 && tySlice P f4.type e &&
        tyInt P e && P.cellsOf e == 1
    | _ => false
  | _ => false
theorem adm_tensor {γ : List G} {h : AH} (A : Adm P W γ h) {t : TypeId} (e : TypeId) (hk : isInts4 P t e = true) {v : Value} {d : DataW H} {ps : List MemPlace} (hx : DataW.Trod enc P W 0 (fun _ => true) true t v d ps) :
    ∃ a b c d ns v' γ' h', γ <+: γ' ∧ h <+: h' ∧ Adm P W γ' h' ∧ VR γ' (.agg #[I64 a, I64 b, I64 c, I64 d, v']) v ∧ Ints h' v' ns ∧ ns.length ≤ maxLen := by
  unfold isInts4 at hk
  split at hk
  · rename_i fs hs
    split at hk
    · rename_i f0 f1 f2 f3 f4 hf
      have hfs : fs = #[f0, f1, f2, f3, f4] := by
        rw [← hf]
      subst hfs
      simp only [List.all_cons, List.all_nil, Bool.and_true, Bool.and_eq_true, beq_iff_eq] at hk
      obtain ⟨⟨⟨⟨⟨⟨⟨⟨⟨⟨k0, k1⟩, k2⟩, k3⟩, k4⟩, k5⟩, ⟨i0, c0⟩, ⟨i1, c1⟩, ⟨i2, c2⟩, ⟨i3, c3⟩⟩, c4⟩, s4⟩, ie⟩, ce⟩ := hk
      exact adm_ints4 A hs k0 ⟨k1, k2, k3, k4, k5⟩ ⟨tyInt_eq i0, tyInt_eq i1, tyInt_eq i2, tyInt_eq i3⟩ ⟨c0, c1, c2, c3, c4⟩ (tySlice_eq s4) (tyInt_eq ie) ce hx
    · cases hk
  · cases hk

/-- Arguments read again in a world that kept what lay below. -/
theorem stays_all (hl : laidOutB P = true) {W W' : World} (bel : Below W.heap.size W W') : ∀ {ts : List TypeId} {vs : List Value} {ds : List (DataW H)} {ps : List MemPlace},
    (∀ t ∈ ts, P.readableRec t = true ∧ t < P.types.size) → DataW.TrodAll enc P W 0 (fun _ => true) true ts vs ds ps → DataW.TrodAll enc P W' 0 (fun b => decide (b < W.heap.size)) true ts vs ds ps
  | [], [], [], _, _, h => h
  | _ :: _, _ :: _, _ :: _, _, ht, ⟨p, q, h1, h2, e⟩ => by
    have hlt : ∀ r ∈ p, r.block < W.heap.size := by
      have hall : DataW.TrodAll enc P W 0 (fun _ => true) true [_] [_] [_] p := trodAll_mk1 h1
      exact hall.lt
    refine ⟨p, q, Go.WideElems.Trod_stays hl (ht _ (List.mem_cons.2 (.inl rfl))).1 (ht _ (List.mem_cons.2 (.inl rfl))).2 h1 (fun r hr => bel.same (hlt r hr)) (fun r hr => by simpa using hlt r hr), ?_, e⟩
    exact stays_all hl bel (fun t ht' => ht t (List.mem_cons.2 (.inr ht'))) h2

/-- What the abstract machine reaches, the program reaches. -/
theorem calls_of_WF {S : XS} (hm : P.follows .mixedOrders = true) (hE : ESound P S.E) (hT : TSound P S.T) {g : FuncId} {args args' : List Value} {γ : List G} {h : AH} {W : World} {Q : Value → AH → Prop}
    (A : Adm P W γ h) (hv : VRL γ args args') (hw : WF S g args h Q) :
    Calls P g args'.toArray W (fun e W' => ∃ v v' γ' h', e = .returned v' ∧ VR γ' v v' ∧ Q v h' ∧ Below W.heap.size W W') := by
  obtain ⟨k, v, h', h1, h2⟩ := hw
  have := (xcall_sound hm hE hT k g args h v h' h1).2 W.heap.size γ W args' A.rel hv
  refine this.mono fun e W' ⟨γ', v', q1, q2, q3⟩ => ⟨v, v', γ', h', q1, q2, h2, ?_⟩
  refine ⟨q3.os, q3.tape, q3.output, q3.size, fun b hb => q3.frame b hb fun ⟨n, blk, g, o1, o2, o3, o4⟩ => ?_⟩
  rw [A.ro n blk o1] at o3
  cases o3
end
end Go.Proofs.Ytilpnbejpndgpaa.X

/- From the readings of lists, and of lists of lists, to the first heap. -/
set_option linter.unusedVariables false
set_option linter.unusedSimpArgs false
namespace Go.Proofs.Ytilpnbejpndgpaa.X
open Go Go.RowKit Go.ChangeShapes Go.WideShapes Go.Deep

section
variable {H : Type} {enc : TypeId × Value → H} {P : Program} {W : World}

theorem cells_of_slice {t e : TypeId} {v : Value} {r : Reach} {base : Nat} (ht : P.underlying t = some (.slice e)) (hval : Value.okWide P W r base t v) : v.cells.toList = [v] := by
  cases v with
  | agg cs => simp [Value.okWide, ht, Cell.okWide, Cell.ok] at hval
  | _ => rfl

def isIntS (P : Program) (t e : TypeId) : Bool := tySlice P t e && tyInt P e && P.cellsOf e == 1
def isIntSS (P : Program) (t s e : TypeId) : Bool := tySlice P t s && P.cellsOf s == 1 && isIntS P s e

theorem getD_snoc {α : Type} {l : List α} {x d : α} {j : Nat} : (l ++ [x]).getD j d = if j < l.length then l.getD j d else if j = l.length then x else d := by
  rw [List.getD_eq_getElem?_getD, List.getD_eq_getElem?_getD]
  by_cases h : j < l.length
  · rw [List.getElem?_append_left h, if_pos h]
  · rw [List.getElem?_append_right (by omega), if_neg h]
    split
    · rename_i e
      simp [e]
    · rw [List.getElem?_eq_none (by simp; omega)]
      rfl

theorem adm_many {γ : List G} {h : AH} (A : Adm P W γ h) {e e' : TypeId} (he : isIntS P e e' = true) {V : Nat → Value} {len n : Nat} (hr : ∀ i, i < len → ∃ x : DataW H × List MemPlace, DataW.trod enc P W 0 (fun _ => true) true n e [V i] = some x) :
    ∀ k, k ≤ len → ∃ (γ' : List G) (h' : AH) (cs : List Value) (rows : List (List Int)), γ <+: γ' ∧ h <+: h' ∧ Adm P W γ' h' ∧ cs.length = k ∧ rows.length = k ∧
      ∀ j, j < k → VR γ' (cs.getD j undef) (V j) ∧ Ints h' (cs.getD j undef) (rows.getD j []) ∧ (rows.getD j []).length ≤ maxLen
  | 0, _ => ⟨γ, h, [], [], List.prefix_refl _, List.prefix_refl _, A, rfl, rfl, fun j hj => by omega⟩
  | k + 1, hk => by
    obtain ⟨γ1, h1, cs, rows, q1, q2, q3, q4, q5, q6⟩ := adm_many A he hr k (by omega)
    have he' := he
    simp only [isIntS, Bool.and_eq_true, beq_iff_eq] at he'
    obtain ⟨⟨k1, k2⟩, k3⟩ := he'
    obtain ⟨x, hx⟩ := hr k (by omega)
    obtain ⟨v', u, ns, γ2, h2, e1, r1, r2, r3, r4, r5, r6⟩ := adm_ints q3 (tySlice_eq k1) (tyInt_eq k2) k3 hx
    have e1 : V k = v' := by simpa using e1
    subst e1
    refine ⟨γ2, h2, cs ++ [u], rows ++ [ns], q1.trans r1, q2.trans r2, r3, by simp [q4], by simp [q5], fun j hj => ?_⟩
    rw [getD_snoc, getD_snoc, q4, q5]
    by_cases hjk : j < k
    · rw [if_pos hjk, if_pos hjk]
      obtain ⟨a1, a2, a3⟩ := q6 j hjk
      exact ⟨a1.mono r1, a2.pre r2, a3⟩
    · have : j = k := by omega
      subst this
      rw [if_neg hjk, if_neg hjk, if_pos rfl, if_pos rfl]
      exact ⟨r4, r5, r6⟩

theorem adm_rows {γ : List G} {h : AH} (A : Adm P W γ h) {t : TypeId} (s e : TypeId) (hk : isIntSS P t s e = true) {v : Value} {d : DataW H} {ps : List MemPlace} {r : Reach} {base : Nat} (hval : Value.okWide P W r base t v)
    (hx : DataW.Trod enc P W 0 (fun _ => true) true t v d ps) :
    ∃ (rows : List (List Int)) (u : Value) (γ' : List G) (h' : AH), γ <+: γ' ∧ h <+: h' ∧ Adm P W γ' h' ∧ VR γ' u v ∧ Rows h' u rows ∧ rows.length ≤ maxLen ∧ ∀ i, i < rows.length → (rows.getD i []).length ≤ maxLen := by
  simp only [isIntSS, Bool.and_eq_true, beq_iff_eq] at hk
  obtain ⟨⟨k1, k2⟩, k3⟩ := hk
  obtain ⟨n, hx⟩ := hx
  have hcl := cells_of_slice (tySlice_eq k1) hval
  rcases open_slice1 (tySlice_eq k1) k2 hx with ⟨hv, _⟩ | ⟨a, len, cap, m, n', V, D, Pl, hv, hb, hl, hm, hmm, _, hcell⟩
  · rw [hcl] at hv
    have hv : v = .slice none 0 0 := by simpa using hv
    subst hv
    exact ⟨[], .slice none 0 0, γ, h, List.prefix_refl _, List.prefix_refl _, A, .nils, ⟨[], .inl ⟨rfl, 0, by omega, rfl⟩, rfl, fun i hi => by simp at hi⟩, Nat.zero_le _, fun i hi => by simp at hi⟩
  · rw [hcl] at hv
    have hv : v = .slice (some a) len cap := by simpa using hv
    subst hv
    by_cases h0 : len = 0
    · subst h0
      exact ⟨[], .slice none 0 1, γ, h, List.prefix_refl _, List.prefix_refl _, A, .emp _ _, ⟨[], .inl ⟨rfl, 1, by omega, rfl⟩, rfl, fun i hi => by simp at hi⟩, Nat.zero_le _, fun i hi => by simp at hi⟩
    · have hcell : ∀ i, i < cap → W.cell? (a.add i) = some (V i) ∧ DataW.trod enc P W 0 (fun _ => true) true n' s [V i] = some (D i, Pl i) := fun i hi => hcell i (by rw [show m = cap from hmm]; exact hi)
      have hz := (hcell 0 (by omega)).1
      have hsp : a.spot = none := by
        simp only [Addr.add, if_true] at hz
        unfold World.cell? at hz
        split at hz
        · split at hz
          · cases hz
          · rename_i hs
            simpa using hs
        · cases hz
      have hbl : a.block < W.heap.size := by
        have := World.block_lt_of_cell? W _ hz
        simpa [Addr.add] using this
      obtain ⟨γ1, h1, cs, rows, q1, q2, q3, q4, q5, q6⟩ := adm_many A k3 (V := V) (len := len) (n := n') (fun i hi => ⟨_, (hcell i (by omega)).2⟩) len (Nat.le_refl _)
      have hget : ∀ (j : Nat) (x : Value), cs[j]? = some x → j < len ∧ cs.getD j undef = x := fun j x hx => by
        refine ⟨by rw [← q4]; exact (List.getElem?_eq_some_iff.1 hx).1, ?_⟩
        rw [List.getD_eq_getElem?_getD, hx]
        rfl
      refine ⟨rows, .slice (some ⟨h1.length, 0, none⟩) cs.length 1, γ1 ++ [⟨a.block, a.off, cap⟩], h1.new ⟨cs, s, true, false⟩, q1.trans (List.prefix_append _ _), q2.trans (pre_new (List.prefix_refl _)), ?_, ?_, ?_, by rw [q5]; omega, fun i hi => (q6 i (by omega)).2.2⟩
      · refine q3.new hbl fun j x hx => ?_
        obtain ⟨hj, hxx⟩ := hget j x hx
        obtain ⟨a1, a2, _⟩ := q6 j hj
        rw [hxx] at a1 a2
        refine ⟨a2.one, V j, ?_, a1⟩
        have := (hcell j (by omega)).1
        rw [add_off a hsp] at this
        exact this
      · have := VR.slc (γ := γ1 ++ [⟨a.block, a.off, cap⟩]) h1.length 0 cs.length 1 ⟨a.block, a.off, cap⟩ (by rw [← q3.rel.len]; simp) (by omega) (by simp only; omega)
        have e1 : (some a : Option Addr) = some ⟨a.block, a.off + 0, none⟩ := by
          obtain ⟨b, o, s⟩ := a
          simp at hsp
          subst hsp
          rfl
        rw [e1]
        have e2 : (cap - 0) / 1 = cap := by simp
        rw [show (Value.slice (some ⟨a.block, a.off + 0, none⟩) len cap) = Value.slice (some ⟨a.block, a.off + 0, none⟩) cs.length ((cap - 0) / 1) by rw [e2, q4]]
        exact this
      · refine ⟨cs, .inr ⟨h1.length, 0, _, rfl, get_new_same, by simp, fun i hi => ?_⟩, by omega, fun i hi => ((q6 i (by omega)).2.1).pre (pre_new (List.prefix_refl _))⟩
        rw [Nat.zero_add, List.getD_eq_getElem?_getD, List.getElem?_eq_getElem hi]
        rfl
end
end Go.Proofs.Ytilpnbejpndgpaa.X

/- From the readings of slices of flat elements, and of schemes, to the first heap. -/
set_option linter.unusedVariables false
set_option linter.unusedSimpArgs false
namespace Go.Proofs.Ytilpnbejpndgpaa.X
open Go Go.RowKit Go.ChangeShapes Go.WideShapes Go.Deep

theorem u8_in {n : Int} (h : (Lit.int .u8 n).wf = true) : 0 ≤ n ∧ n ≤ 255 := by
  simp [Lit.wf, IntKind.min, IntKind.max, IntKind.signed, IntKind.bits] at h
  omega
/-- Fields side by side. -/
def sideBy (P : Program) : List Field → Nat → Nat → Bool
  | [], o, m => o == m
  | f :: fs, o, m => f.offset == o && sideBy P fs (o + P.cellsOf f.type) m
/-- A type of whole numbers of one kind alone. -/
def flatK (P : Program) (k : IntKind) : Nat → TypeId → Bool
  | 0, _ => false
  | f + 1, t => match P.underlying t with
    | some (.int k') => decide (k' = k) && P.cellsOf t == 1
    | some (.array n e) => flatK P k f e && P.cellsOf t == n * P.cellsOf e
    | some (.struct fs) => sideBy P fs.toList 0 (P.cellsOf t) && fs.toList.all fun x => flatK P k f x.type
    | _ => false
theorem sideBy_at {P : Program} : ∀ {fs : List Field} {o m j : Nat}, sideBy P fs o m = true → o ≤ j → j < m → ∃ (i : Nat) (f : Field), fs[i]? = some f ∧ f.offset ≤ j ∧ j < f.offset + P.cellsOf f.type
  | [], o, m, j, h, h1, h2 => by
    simp only [sideBy, beq_iff_eq] at h
    omega
  | f :: fs, o, m, j, h, h1, h2 => by
    simp only [sideBy, Bool.and_eq_true, beq_iff_eq] at h
    by_cases hj : j < o + P.cellsOf f.type
    · exact ⟨0, f, rfl, by omega, by omega⟩
    · obtain ⟨i, g, q1, q2, q3⟩ := sideBy_at h.2 (by omega) h2
      exact ⟨i + 1, g, by rw [List.getElem?_cons_succ]; exact q1, q2, q3⟩
section
variable {H : Type} {enc : TypeId × Value → H} {P : Program} {W : World} {k : IntKind}
theorem flat_trod : ∀ (f : Nat) (t : TypeId) (n : Nat) (cs : List Value) (x : DataW H × List MemPlace), flatK P k f t = true → DataW.trod enc P W 0 (fun _ => true) true n t cs = some x →
    cs.length = P.cellsOf t ∧ ∀ (j : Nat) (v : Value), cs[j]? = some v → ∃ m, v = .int k m ∧ (Lit.int k m).wf = true
  | 0, _, _, _, _, h, _ => by cases h
  | f + 1, t, n, cs, x, h, hx => by
    unfold flatK at h
    split at h
    · rename_i k' ht
      simp only [Bool.and_eq_true, decide_eq_true_eq, beq_iff_eq] at h
      obtain ⟨rfl, hc⟩ := h
      obtain ⟨m, rfl, _, hw⟩ := DataW.trod_int ht hx
      refine ⟨by simpa using hc.symm, fun j v hv => ?_⟩
      have : j = 0 := by
        have := (List.getElem?_eq_some_iff.1 hv).1
        simp at this
        exact this
      subst this
      simp at hv
      exact ⟨m, hv.symm, hw⟩
    · rename_i c e ht
      simp only [Bool.and_eq_true, beq_iff_eq] at h
      obtain ⟨xs, m, _, _, hl, hxs, hall⟩ := DataW.trod_array ht hx
      refine ⟨hl, fun j v hv => ?_⟩
      have hj := (List.getElem?_eq_some_iff.1 hv).1
      rw [hl, h.2] at hj
      have hc : 0 < P.cellsOf e := Nat.pos_of_ne_zero fun e0 => by rw [e0] at hj; simp at hj
      have hi : j / P.cellsOf e < c := Nat.div_lt_of_lt_mul (by rw [Nat.mul_comm]; exact hj)
      have hy := hall _ hi
      rw [List.getElem?_eq_getElem (by omega)] at hy
      have hdm := Nat.div_add_mod j (P.cellsOf e)
      rw [Nat.mul_comm] at hdm
      refine (flat_trod f e m _ _ h.1 hy).2 (j % P.cellsOf e) v ?_
      rw [List.getElem?_take, if_pos (Nat.mod_lt _ hc), List.getElem?_drop, hdm]
      exact hv
    · rename_i fs ht
      simp only [Bool.and_eq_true] at h
      obtain ⟨xs, m, _, _, hl, hxs, hall⟩ := DataW.trod_struct ht hx
      refine ⟨hl, fun j v hv => ?_⟩
      have hj := (List.getElem?_eq_some_iff.1 hv).1
      rw [hl] at hj
      obtain ⟨i, g, q1, q2, q3⟩ := sideBy_at h.1 (Nat.zero_le _) hj
      have q1' : fs[i]? = some g := by simpa using q1
      have hy := hall i g q1'
      have hi : i < xs.length := by
        rw [hxs]
        exact (Array.getElem?_eq_some_iff.1 q1').1
      rw [List.getElem?_eq_getElem hi] at hy
      have hg : flatK P k f g.type = true := List.all_eq_true.1 h.2 g (List.mem_of_getElem? q1)
      refine (flat_trod f g.type m _ _ hg hy).2 (j - g.offset) v ?_
      rw [List.getElem?_take, if_pos (by omega), List.getElem?_drop, show g.offset + (j - g.offset) = j by omega]
      exact hv
    · cases h

theorem adm_elems {γ : List G} {h : AH} (A : Adm P W γ h) {t e : TypeId} {n w f : Nat} {cs : List Value} {x : DataW H × List MemPlace} (ht : P.underlying t = some (.slice e)) (hf : flatK P k f e = true)
    (hw : P.cellsOf e = w) (hw0 : 0 < w) (hx : DataW.trod enc P W 0 (fun _ => true) true n t cs = some x) :
    ∃ v' v L γ' h', cs = [v'] ∧ γ <+: γ' ∧ h <+: h' ∧ Adm P W γ' h' ∧ VR γ' v v' ∧ Els k w h' v L ∧ L.length ≤ maxLen ∧ ∀ i, i < L.length → ∀ j, j < w → (Lit.int k ((L.getD i []).getD j 0)).wf = true := by
  rcases open_slice ht hx with ⟨rfl, _⟩ | ⟨a, len, cap, m, n', D, Pl, rfl, hb, hl, hm, hmm, _, hcell⟩
  · exact ⟨_, .slice none 0 0, [], γ, h, rfl, List.prefix_refl _, List.prefix_refl _, A, .nils, .inl ⟨rfl, 0, by omega, rfl⟩, Nat.zero_le _, fun i hi => by simp at hi⟩
  · by_cases h0 : len = 0
    · subst h0
      exact ⟨_, .slice none 0 1, [], γ, h, rfl, List.prefix_refl _, List.prefix_refl _, A, .emp _ _, .inl ⟨rfl, 1, by omega, rfl⟩, Nat.zero_le _, fun i hi => by simp at hi⟩
    · have hmc : m = cap := hmm
      have cell : ∀ i, i < cap → ∀ r, r < w → ∃ z, W.cell? ((a.add (i * w)).add r) = some (.int k z) ∧ (Lit.int k z).wf = true := fun i hi r hr => by
        obtain ⟨cs', h1, h2⟩ := hcell i (by omega)
        rw [hw] at h1
        obtain ⟨_, hlen, hc⟩ := World.cells?_some h1
        obtain ⟨_, hall⟩ := flat_trod f e n' cs' _ hf h2
        have hr' : r < cs'.length := by omega
        obtain ⟨z, hz, hwf⟩ := hall r _ (List.getElem?_eq_getElem hr')
        refine ⟨z, ?_, hwf⟩
        rw [hc r hr, List.getElem?_eq_getElem hr', hz]
      obtain ⟨z0, hz, _⟩ := cell 0 (by omega) 0 hw0
      rw [Nat.zero_mul] at hz
      have a0 : a.add 0 = a := by simp [Addr.add]
      rw [a0, a0] at hz
      have hsp : a.spot = none := by
        unfold World.cell? at hz
        split at hz
        · split at hz
          · cases hz
          · rename_i hs
            simpa using hs
        · cases hz
      have hbl : a.block < W.heap.size := World.block_lt_of_cell? W _ hz
      have cell' : ∀ j, j < len * w → ∃ z, W.cell? ⟨a.block, a.off + j, none⟩ = some (.int k z) ∧ (Lit.int k z).wf = true := fun j hj => by
        have hi : j / w < len := Nat.div_lt_of_lt_mul (by rw [Nat.mul_comm]; exact hj)
        obtain ⟨z, q1, q2⟩ := cell (j / w) (by omega) (j % w) (Nat.mod_lt _ hw0)
        refine ⟨z, ?_, q2⟩
        rw [add_off a hsp, add_off _ rfl] at q1
        have hdm := Nat.div_add_mod j w
        rw [Nat.mul_comm] at hdm
        rw [show a.off + j = a.off + j / w * w + j % w by omega]
        exact q1
      obtain ⟨N, hN⟩ : ∃ N : Nat → Int, ∀ j, j < len * w → W.cell? ⟨a.block, a.off + j, none⟩ = some (.int k (N j)) ∧ (Lit.int k (N j)).wf = true := by
        refine ⟨fun j => if hj : j < len * w then (cell' j hj).choose else 0, fun j hj => ?_⟩
        simp only [dif_pos hj]
        exact (cell' j hj).choose_spec
      let L : List (List Int) := (List.range len).map fun i => (List.range w).map fun r => N (i * w + r)
      have hLl : L.length = len := by simp [L]
      have hLg : ∀ i, i < len → L.getD i [] = (List.range w).map fun r => N (i * w + r) := fun i hi => by simp [L, List.getD_eq_getElem?_getD, List.getElem?_map, List.getElem?_range hi]
      let C : List Value := cel k ((List.range (len * w)).map N)
      have hCl : C.length = len * w := by simp [C, cel_len]
      refine ⟨_, .slice (some ⟨h.length, 0, none⟩) L.length w, L, γ ++ [⟨a.block, a.off, cap * w⟩], h.new ⟨C, e, true, false⟩, rfl, List.prefix_append _ _, pre_new (List.prefix_refl _), ?_, ?_,
        .inr ⟨h.length, 0, _, rfl, get_new_same, fun i hi => ?_⟩, by rw [hLl]; omega, fun i hi j hj => ?_⟩
      · refine A.new hbl fun j v hv => ?_
        have hj : j < len * w := by rw [← hCl]; exact (List.getElem?_eq_some_iff.1 hv).1
        have hv' : C[j]? = some (.int k (N j)) := by simp [C, cel, hj]
        rw [hv'] at hv
        obtain rfl := Option.some.inj hv
        exact ⟨rfl, _, (hN j hj).1, .int _ _⟩
      · have hcw : len * w ≤ cap * w := Nat.mul_le_mul_right _ hl
        have := VR.slc (γ := γ ++ [⟨a.block, a.off, cap * w⟩]) h.length 0 L.length w ⟨a.block, a.off, cap * w⟩ (by rw [← A.rel.len]; simp) hw0 (by rw [hLl]; simp only; omega)
        have e1 : (some a : Option Addr) = some ⟨a.block, a.off + 0, none⟩ := by
          obtain ⟨b, o, s⟩ := a
          simp at hsp
          subst hsp
          rfl
        rw [e1]
        have e2 : (cap * w - 0) / w = cap := by rw [Nat.sub_zero]; exact Nat.mul_div_cancel _ hw0
        simp only [e2, hLl] at this
        rw [hLl]
        exact this
      · rw [hLl] at hi
        have hr : i * w + w ≤ len * w := mul_row hi
        refine ⟨by simp only [hCl]; omega, ?_⟩
        rw [hLg i hi]
        simp only [C, cel_drop, cel_take, Nat.zero_add]
        congr 1
        refine List.ext_getElem? fun r => ?_
        rw [List.getElem?_take, List.getElem?_drop, List.getElem?_map, List.getElem?_map]
        by_cases hr' : r < w
        · rw [if_pos hr', List.getElem?_range hr', List.getElem?_range (by omega)]
          rfl
        · rw [if_neg hr', List.getElem?_eq_none (by simp; omega)]
          rfl
      · rw [hLl] at hi
        have hr : i * w + w ≤ len * w := mul_row hi
        rw [hLg i hi]
        have : ((List.range w).map fun r => N (i * w + r)).getD j 0 = N (i * w + j) := by simp [List.getD_eq_getElem?_getD, List.getElem?_map, List.getElem?_range hj]
        rw [this]
        exact (hN _ (by omega)).2

/-- Four whole numbers and a slice of elements, side by side. -/
def isSch (P : Program) (t e : TypeId) (k : IntKind) (f w : Nat) : Bool := match P.underlying t with
  | some (.struct fs) => match fs.toList with
    | [f0, f1, f2, f3, f4] => P.cellsOf t == 5 && f0.offset == 0 && f1.offset == 1 && f2.offset == 2 && f3.offset == 3 && f4.offset == 4 &&
        [f0, f1, f2, f3].all (fun f => tyInt P f.type && P.cellsOf f.type == 1) && P.cellsOf f4.type == 1 && tySlice P f4.type e &&
        flatK P k f e && P.cellsOf e == w && decide (0 < w)
    | _ => false
  | _ => false
theorem adm_sch {γ : List G} {h : AH} (A : Adm P W γ h) {t : TypeId} (e : TypeId) (f w : Nat) (hk : isSch P t e k f w = true) {v : Value} {d : DataW H} {ps : List MemPlace} (hx : DataW.Trod enc P W 0 (fun _ => true) true t v d ps) :
    ∃ a b c d L v' γ' h', γ <+: γ' ∧ h <+: h' ∧ Adm P W γ' h' ∧ VR γ' (.agg #[I64 a, I64 b, I64 c, I64 d, v']) v ∧ Els k w h' v' L ∧ L.length ≤ maxLen ∧
      ∀ i, i < L.length → ∀ j, j < w → (Lit.int k ((L.getD i []).getD j 0)).wf = true := by
  unfold isSch at hk
  split at hk
  · rename_i fs hs
    split at hk
    · rename_i f0 f1 f2 f3 f4 hf
      have hfs : fs = #[f0, f1, f2, f3, f4] := by
        rw [← hf]
      subst hfs
      simp only [List.all_cons, List.all_nil, Bool.and_true, Bool.and_eq_true, beq_iff_eq, decide_eq_true_eq] at hk
      obtain ⟨⟨⟨⟨⟨⟨⟨⟨⟨⟨⟨hct, o0⟩, o1⟩, o2⟩, o3⟩, o4⟩, ⟨i0, c0⟩, ⟨i1, c1⟩, ⟨i2, c2⟩, ⟨i3, c3⟩⟩, c4⟩, s4⟩, fl⟩, ce⟩, cw⟩ := hk
      obtain ⟨n, hx⟩ := hx
      have hl := trod_cells hs hx
      rw [hct] at hl
      obtain ⟨a, ha, _⟩ := trod_field_int hs hx (i := 0) (f := f0) rfl (tyInt_eq i0)
      obtain ⟨b, hb, _⟩ := trod_field_int hs hx (i := 1) (f := f1) rfl (tyInt_eq i1)
      obtain ⟨c, hcc, _⟩ := trod_field_int hs hx (i := 2) (f := f2) rfl (tyInt_eq i2)
      obtain ⟨d, hd, _⟩ := trod_field_int hs hx (i := 3) (f := f3) rfl (tyInt_eq i3)
      obtain ⟨m, y, hy⟩ := trod_field hs hx (i := 4) (f := f4) rfl
      obtain ⟨v', u, L, γ', h', e1, q1, q2, q3, q4, q5, q6, q7⟩ := adm_elems A (tySlice_eq s4) fl ce cw hy
      generalize hcs : v.cells.toList = cs at *
      rw [o0, c0] at ha
      rw [o1, c1] at hb
      rw [o2, c2] at hcc
      rw [o3, c3] at hd
      rw [o4, c4] at e1
      obtain ⟨z0, z1, z2, z3, z4, rfl⟩ : ∃ z0 z1 z2 z3 z4, cs = [z0, z1, z2, z3, z4] := by
        match cs, hl with
        | [z0, z1, z2, z3, z4], _ => exact ⟨_, _, _, _, _, rfl⟩
      simp at ha hb hcc hd e1
      subst ha hb hcc hd e1
      refine ⟨a, b, c, d, L, u, γ', h', q1, q2, q3, ?_, q5, q6, q7⟩
      rw [agg_of_cells hcs (by simp)]
      exact VR.aggL (VRL.cons (.int _ _) (VRL.cons (.int _ _) (VRL.cons (.int _ _) (VRL.cons (.int _ _) (VRL.cons q4 (VRL.nil _))))))
    · cases hk
  · cases hk
end
end Go.Proofs.Ytilpnbejpndgpaa.X

/- The row of RunScheme (printed by row.py). -/
namespace Go.Proofs.Ytilpnbejpndgpaa.fnExactRunScheme
open Go Go.ChangeShapes Go.WideShapes Go.ChangeAt Go.RowKit Go.Proofs.Ytilpnbejpndgpaa.X
set_option linter.unusedVariables false
theorem own : ownKnob Try.prog.godebug = none := by kernel_rfl
theorem laid : laidOutB Try.prog = true := by kernel_rfl
theorem shapeX : isSch Try.prog 66 159 .u8 4 27 = true := by kernel_rfl
theorem shapeS : isIntS Try.prog 22 2 = true := by kernel_rfl
theorem shapeM : isIntSS Try.prog 32 22 2 = true := by kernel_rfl
theorem readable0 : Try.prog.readableRec 66 = true := by kernel_rfl
theorem intable0 : 66 < Try.prog.types.size := of_decide_eq_true (by kernel_rfl)
theorem readable1 : Try.prog.readableRec 4 = true := by kernel_rfl
theorem intable1 : 4 < Try.prog.types.size := of_decide_eq_true (by kernel_rfl)
theorem readable2 : Try.prog.readableRec 32 = true := by kernel_rfl
theorem intable2 : 32 < Try.prog.types.size := of_decide_eq_true (by kernel_rfl)
theorem isbool : Try.prog.underlying 4 = some .bool := by kernel_rfl
theorem isint : Try.prog.underlying 2 = some (.int .i64) := by kernel_rfl
set_option maxRecDepth 100000 in
theorem lifted (os : Os) (started : os.Started) (H : Type) (enc : TypeId × Value → H) :
    ReturnsInHanded {} Try.checked os 14 .any (Rows.fnExactRunSchemeSpec.pre6 enc Try.prog Try.f14 Rows.fnExactRunSchemeRow.domain false) (Rows.fnExactRunSchemeSpec.post enc Try.prog Try.f14 false true false false) := by
  refine returnsInHanded_of_change_sized (C := Try.checked) own started (by kernel_rfl) Try.func14
    (ChangeSpec.witness6 (enc := enc) (C := Try.checked) false ⟨#[], #[.agg #[.int .i64 0, .int .i64 0, .int .i64 0, .int .i64 0, .slice none 0 0], .bool false, .slice none 0 0, .slice none 0 0], []⟩ 8 (by kernel_rfl) (by kernel_rfl) (by kernel_rfl) (by kernel_rfl)) ?_
  intro W base args ds gs before hval0 hW hcnd hsz0 _
  have hval : ∀ (j : Nat) t v, Try.f14.params[j]? = some t → args[j]? = some v → Value.okWide Try.prog W .any base t v := hval0
  have hW' := hW
  obtain ⟨p, q, hA0, hV, rfl, hfz, hnd⟩ := hW
  have hA : DataW.TrodAll enc Try.prog W 0 (fun _ => true) true Try.f14.params.toList args.toList ds p := hA0
  rw [Try.params14] at hA hval
  obtain ⟨v0, vs0, d0, ds0, p0, q0, hargs0, rfl, rfl, h0, r0⟩ := trodAll_cons hA
  obtain ⟨v1, vs1, d1, ds1, p1, q1, hargs1, rfl, rfl, h1, r1⟩ := trodAll_cons r0
  obtain ⟨v2, vs2, d2, ds2, p2, q2, hargs2, rfl, rfl, h2, r2⟩ := trodAll_cons r1
  obtain ⟨v3, vs3, d3, ds3, p3, q3, hargs3, rfl, rfl, h3, r3⟩ := trodAll_cons r2
  obtain ⟨rfl, rfl, rfl⟩ := trodAll_nil r3
  obtain rfl : args = #[v0, v1, v2, v3] := by cases args; simp_all
  obtain ⟨rfl, rfl⟩ := trodVars_none hV
  obtain ⟨a0, b0, c0, e0, ns0, u0, γ0, g0, pg0, ph0, A0, hv0, hy0, hl0, hw0⟩ := adm_sch (Adm.nil Try.prog W) 159 4 27 shapeX h0
  have hi0 : Prods g0 u0 ns0 := ⟨hy0, fun i hi j hj => u8_in (hw0 i hi j hj)⟩
  have hl0' : (ns0.length : Int) ≤ 9223372036854775807 := by
    have : ns0.length ≤ 2 ^ 63 - 1 := hl0
    omega
  obtain ⟨b1, rfl, rfl, rfl⟩ := open_bool isbool (hval 1 4 v1 rfl rfl) h1
  obtain ⟨ns2, u2, γ2, g2, pg2, ph2, A2, hv2, hi2, hl2, hm2⟩ := adm_rows A0 22 2 shapeM (hval 2 _ v2 rfl rfl) h2
  have hl2' : (ns2.length : Int) ≤ 9223372036854775807 := by
    have : ns2.length ≤ 2 ^ 63 - 1 := hl2
    omega
  have hm2' : ∀ i, i < ns2.length → ((ns2.getD i []).length : Int) ≤ 9223372036854775807 := fun i hi => by
    have : (ns2.getD i []).length ≤ 2 ^ 63 - 1 := hm2 i hi
    omega
  obtain ⟨ns3, u3, γ3, g3, pg3, ph3, A3, hv3, hi3, hl3, hm3⟩ := adm_rows A2 22 2 shapeM (hval 3 _ v3 rfl rfl) h3
  have hl3' : (ns3.length : Int) ≤ 9223372036854775807 := by
    have : ns3.length ≤ 2 ^ 63 - 1 := hl3
    omega
  have hm3' : ∀ i, i < ns3.length → ((ns3.getD i []).length : Int) ≤ 9223372036854775807 := fun i hi => by
    have : (ns3.getD i []).length ≤ 2 ^ 63 - 1 := hm3 i hi
    omega
  have hi0' := hi0.pre ((ph2).trans ph3)
  have hi2' := hi2.pre (ph3)
  have hi3' := hi3
  have key := law_RunScheme (x0 := ⟨a0, b0, c0, e0, ns0⟩) (b1 := b1) hi0' hl0' hi2' hl2' hm2' hi3' hl3' hm3'
  refine (calls_of_WF (S := S) orders esound tsound A3 (VRL.cons (hv0.mono ((pg2).trans pg3)) (VRL.cons (.bool _) (VRL.cons (hv2.mono (pg3)) (VRL.cons hv3 (VRL.nil _))))) key).mono fun e W' ⟨v, u, γ1, h1, he, hvr, hb, bel⟩ => ?_
  subst hb
  obtain rfl := hvr.bool_inv
  subst he
  have st := stays_all laid bel (ts := [66, 4, 32, 32]) (fun t ht => by
    simp only [List.mem_cons, List.not_mem_nil, or_false] at ht
    rcases ht with rfl | rfl | rfl | rfl
    · exact ⟨readable0, intable0⟩
    · exact ⟨readable1, intable1⟩
    · exact ⟨readable2, intable2⟩
    · exact ⟨readable2, intable2⟩) hA
  exact ⟨_, rfl, _, _, _, [], _, [], hW', trodAll_mk1 (shut_bool isbool _), st, rfl, bel.frame _, fun h => by cases h⟩
theorem over : Rows.fnExactRunSchemeRow.holds Try.pinned (OpenSpec.ofChange Rows.fnExactRunSchemeSpec) :=
  OpenClaim.holds_of_wide 14 Try.f14 rfl rfl rfl rfl rfl rfl rfl ⟨rfl, rfl, rfl, rfl, rfl⟩ rfl rfl rfl rfl rfl (by kernel_rfl) Try.func14 (by kernel_rfl)
    (of_decide_eq_true (by kernel_rfl)) (by unfold Func.isWrapper; first | (rw [if_pos (by decide +kernel)]; kernel_rfl) | (rw [if_neg (by decide +kernel)]; exact ⟨rfl, rfl⟩))
    (fun os started H enc _ => lifted os started H enc)
end Go.Proofs.Ytilpnbejpndgpaa.fnExactRunScheme
namespace Go.Proofs.Ytilpnbejpndgpaa
theorem fnExactRunScheme_holds : Rows.FnExactRunSchemeSaid := fnExactRunScheme.over
end Go.Proofs.Ytilpnbejpndgpaa
