/- Texts of one claim, put together by merge.py: XP5. -/
import Derived.Test.YtilpnbejpndgpaaM4
/- Marks on programs (printed by wip/tools/mkP5.py). -/
set_option linter.unusedVariables false
set_option linter.unusedSimpArgs false
set_option maxRecDepth 20000
set_option maxHeartbeats 4000000
namespace Go.Proofs.Ytilpnbejpndgpaa.X
open Go Go.RowKit

def mkRow (w : Nat) (k : Int) (i : Nat) : List Int := (List.range w).map fun r => k + ((i * w + r : Nat) : Int)
def mkE (w : Nat) (k : Int) : Nat → List (List Int)
  | 0 => []
  | n + 1 => mkE w k n ++ [mkRow w k n]
theorem mkE_len {w : Nat} {k : Int} : ∀ {n : Nat}, (mkE w k n).length = n
  | 0 => rfl
  | n + 1 => by simp [mkE, mkE_len (n := n)]
theorem mkRow_len {w i : Nat} {k : Int} : (mkRow w k i).length = w := by simp [mkRow]
theorem mkE_get {w i : Nat} {k : Int} : ∀ {n : Nat}, i < n → (mkE w k n).getD i [] = mkRow w k i
  | 0, h => by omega
  | n + 1, h => by
    unfold mkE
    by_cases hi : i < n
    · rw [getD_app_l (by rw [mkE_len]; exact hi), mkE_get hi]
    · have : i = n := by omega
      subst this
      rw [getD_app_r (by rw [mkE_len]; exact Nat.le_refl _), mkE_len, Nat.sub_self]
      rfl
theorem mkE_wid {w n : Nat} {k : Int} : Wid w (mkE w k n) := wid_of fun i hi => by
  rw [mkE_len] at hi
  rw [mkE_get hi, mkRow_len]
theorem mkE_cells {w n : Nat} {k : Int} {c : List Value} (hc : c.length = n * w) (hm : ∀ j, j < n * w → c[j]? = some (I64 (k + (j : Nat)))) (hw : 0 < w) : c = cel .i64 (mkE w k n).flatten := by
  have hf := flat_len (mkE_wid (w := w) (n := n) (k := k))
  rw [mkE_len] at hf
  refine List.ext_getElem? fun j => ?_
  by_cases hj : j < n * w
  · have hi : j / w < n := Nat.div_lt_of_lt_mul (by rw [Nat.mul_comm]; exact hj)
    have hr : j % w < w := Nat.mod_lt _ hw
    have hdm := Nat.div_add_mod j w
    rw [Nat.mul_comm] at hdm
    have hg := flat_get (mkE_wid (w := w) (n := n) (k := k)) (i := j / w) (by rw [mkE_len]; exact hi)
    rw [mkE_get hi] at hg
    have h1 := congrArg (fun l => l[j % w]?) hg
    simp only [List.getElem?_take, hr, if_true, List.getElem?_drop, hdm] at h1
    have h2 : (mkRow w k (j / w))[j % w]? = some (k + ((j : Nat) : Int)) := by
      unfold mkRow
      rw [List.getElem?_map, List.getElem?_range hr, Option.map_some, hdm]
    rw [h2] at h1
    rw [hm j hj]
    unfold cel
    rw [List.getElem?_map, h1]
    rfl
  · rw [List.getElem?_eq_none (by omega), List.getElem?_eq_none (by rw [cel_len]; omega)]
theorem set_step {c : List Value} {g : Nat → Value} {m : Nat} (hm : ∀ j, j < m → c[j]? = some (g j)) (hl : m < c.length) : ∀ j, j < m + 1 → (c.set m (g m))[j]? = some (g j) := fun j hj => by
  rw [List.getElem?_set]
  by_cases h : m = j
  · subst h
    simp [hl]
  · rw [if_neg h]
    exact hm j (by omega)
theorem l_markStepS {v : Value} {L : List (List Int)} {k : Int} {a b : Nat} {h : AH} {Q : Value → AH → Prop} (o : InE .i64 3 a b h v L) (hl : SmallE L) (hk : 0 ≤ k ∧ k ≤ 549755813888)
    (hQ : ∀ h', OnlyR a b h h' → InE .i64 3 a b h' v (mkE 3 k L.length) → Q (I64 (k + ((L.length * 3 : Nat) : Int))) h') : WF S 81 [v, I64 k] h Q := by
  refine WF_fn (fn := c81) rfl rfl ?_
  unfold c81
  unfold SmallE at hl
  rcases o with ⟨rfl, rfl⟩ | ⟨n, e, full, hab, rfl, hg, hw⟩
  · ((try simp (maxSteps := 3000000) (dsimp := false) (disch := first | omega | (simp only [len_new, len_put, len_kill]; omega)) only [↓ypre, ypost, ↓reduceIte, Nat.reduceEqDiff, Nat.reduceAdd, Nat.reduceSub, Nat.reduceLeDiff, Nat.zero_add, Nat.sub_zero, ynew]); try simp only [yback])
    refine WC_loop ?_
    ((try simp (maxSteps := 3000000) (dsimp := false) (disch := first | omega | (simp only [len_new, len_put, len_kill]; omega)) only [↓ypre, ypost, ↓reduceIte, Nat.reduceEqDiff, Nat.reduceAdd, Nat.reduceSub, Nat.reduceLeDiff, Nat.zero_add, Nat.sub_zero, ynew, decide_eq_false (show ¬ (0 : Int) < ((0 : Nat) : Int) by decide)]); try simp only [yback])
    have := hQ h (OnlyR.refl _ _ _) (.inl ⟨rfl, rfl⟩)
    simpa using this
  · ((try simp (maxSteps := 3000000) (dsimp := false) (disch := first | omega | (simp only [len_new, len_put, len_kill]; omega)) only [↓ypre, ypost, ↓reduceIte, Nat.reduceEqDiff, Nat.reduceAdd, Nat.reduceSub, Nat.reduceLeDiff, Nat.zero_add, Nat.sub_zero, ynew]); try simp only [yback])
    have c0 : (cel .i64 L.flatten).length = L.length * 3 := by rw [cel_len, flat_len hw]
    refine WC_loop_inv (fun m f K1 => ∃ (i : Nat) (c : List Value), m = L.length - i ∧ i ≤ L.length ∧ f 0 = .slice (some ⟨n, 0, none⟩) L.length 3 ∧ f 1 = I64 (k + ((i * 3 : Nat) : Int)) ∧ f 5 = I64 i ∧ (c.length = L.length * 3) ∧ (K1.get n = some ⟨c, e, false, full⟩) ∧ (OnlyR a b h K1) ∧ (∀ j : Nat, j < i * 3 → c[j]? = some (I64 (k + (j : Int))))) ?_ (L.length - 0) _ _ ⟨0, cel .i64 L.flatten, rfl, by omega, (by first | rfl | (simp [upd_apply]; done)), (by first | rfl | (simp [upd_apply]; done)), (by first | rfl | (simp [upd_apply]; done)), c0, hg, OnlyR.refl _ _ _, (by omega)⟩
    rintro m f K1 ⟨i, c, rfl, hi, f0, f1, f5, hc, hgc, wc, hm⟩
    by_cases hlt : (i : Int) < L.length
    · have hi' : i < L.length := by omega
      have hrow := mul_row (w := 3) hi'
      have ltc := get_lt hgc
      have ixd : ixsV 3 (.slice (some ⟨n, 0, none⟩) L.length 3) (I64 i) = some (.pointer (some ⟨n, i * 3, none⟩)) := by
        rw [ixsV_some, if_pos (by omega)]
        simp
      have s1 : ∀ x : Value, splice c (i * 3) [x] = c.set (i * 3) x := fun x => splice_set (by omega)
      have a1 : k + ((i * 3 : Nat) : Int) + 1 = k + ((i * 3 + 1 : Nat) : Int) := by omega
      have s2 : ∀ x y : Value, splice (c.set (i * 3) x) (i * 3 + 1) [y] = (c.set (i * 3) x).set (i * 3 + 1) y := fun x y => splice_set (by simp only [List.length_set]; omega)
      have a2 : k + ((i * 3 + 1 : Nat) : Int) + 1 = k + ((i * 3 + 2 : Nat) : Int) := by omega
      have s3 : ∀ x y z : Value, splice ((c.set (i * 3) x).set (i * 3 + 1) y) (i * 3 + 2) [z] = ((c.set (i * 3) x).set (i * 3 + 1) y).set (i * 3 + 2) z := fun x y z => splice_set (by simp only [List.length_set]; omega)
      have a3 : k + ((i * 3 + 2 : Nat) : Int) + 1 = k + ((i * 3 + 3 : Nat) : Int) := by omega
      ((try simp (maxSteps := 3000000) (dsimp := false) (disch := first | omega | (simp only [len_new, len_put, len_kill]; omega)) only [↓ypre, ypost, ↓reduceIte, Nat.reduceEqDiff, Nat.reduceAdd, Nat.reduceSub, Nat.reduceLeDiff, Nat.zero_add, Nat.sub_zero, ynew, f0, f1, f5, decide_eq_true hlt, Nat.add_zero, ixd, wr_of hgc, wrap64_in, List.length_set, hc, s1, s2, s3, a1, a2, a3]); try simp only [yback])
      refine ⟨by omega, by omega, by omega, ?_⟩
      have hm' := set_step (g := fun j => I64 (k + (j : Int))) (set_step (g := fun j => I64 (k + (j : Int))) (set_step (g := fun j => I64 (k + (j : Int))) hm (by omega)) (by simp only [List.length_set]; omega)) (by simp only [List.length_set]; omega)
      refine InvQ_go (L.length - (i + 1)) (by omega) ⟨(i + 1), _, rfl, by omega, (by first | rfl | exact f0 | (simp only [upd_apply]; rfl) | (show I64 _ = _; congr 1; omega)), (by show I64 _ = I64 _; congr 1; omega), (by first | rfl | exact f5 | (simp only [upd_apply]; rfl) | (show I64 _ = _; congr 1; omega)), (by simp only [List.length_set]; exact hc), (get_put_same ltc), ⟨by rw [len_put]; exact wc.len, fun m hm => by unfold AH.put; rw [List.getElem?_set_ne (fun e => hm (by omega))]; exact wc.same m hm⟩, (fun j hj => hm' j (by omega))⟩
    · have ei : i = L.length := by omega
      subst ei
      ((try simp (maxSteps := 3000000) (dsimp := false) (disch := first | omega | (simp only [len_new, len_put, len_kill]; omega)) only [↓ypre, ypost, ↓reduceIte, Nat.reduceEqDiff, Nat.reduceAdd, Nat.reduceSub, Nat.reduceLeDiff, Nat.zero_add, Nat.sub_zero, ynew, f0, f1, f5, decide_eq_false hlt]); try simp only [yback])
      have ec := mkE_cells hc hm (by decide)
      refine hQ _ wc (.inr ⟨n, e, full, hab, by rw [mkE_len], ?_, mkE_wid⟩)
      rw [hgc, ec]
theorem l_heldStepS {v : Value} {k : Int} {n : Nat} {h : AH} {Q : Value → AH → Prop} (hv : Els .i64 3 h v (mkE 3 k n)) (hl : n ≤ 1048576) (hk : 0 ≤ k ∧ k ≤ 549755813888)
    (hQ : Q (I64 (k + ((n * 3 : Nat) : Int))) h) : WF S 87 [v, I64 k] h Q := by
  refine WF_fn (fn := c87) rfl rfl ?_
  unfold c87
  have hlen := hv.len
  rw [mkE_len] at hlen
  ((try simp (maxSteps := 3000000) (dsimp := false) (disch := first | omega | (simp only [len_new, len_put, len_kill]; omega)) only [↓ypre, ypost, ↓reduceIte, Nat.reduceEqDiff, Nat.reduceAdd, Nat.reduceSub, Nat.reduceLeDiff, Nat.zero_add, Nat.sub_zero, ynew]); try simp only [yback])
  refine WC_loop_inv (fun m f K1 => ∃ (i : Nat), m = n - i ∧ i ≤ n ∧ f 0 = v ∧ f 1 = I64 (k + ((i * 3 : Nat) : Int)) ∧ f 5 = I64 i ∧ (K1 = h)) ?_ (n - 0) _ _ ⟨0, rfl, by omega, (by first | rfl | (simp [upd_apply]; done)), (by first | rfl | (simp [upd_apply]; done)), (by first | rfl | (simp [upd_apply]; done)), rfl⟩
  rintro m f K1 ⟨i, rfl, hi, f0, f1, f5, hK⟩
  subst hK
  by_cases hlt : (i : Int) < n
  · have hi' : i < n := by omega
    obtain ⟨m, off, hix, hrn, hr1⟩ := hv.at (show i < (mkE 3 k n).length by rw [mkE_len]; exact hi')
    rw [mkE_get hi'] at hr1
    have hrow := mul_row (w := 3) hi'
    have r0 := hr1 0 (by omega)
    rw [show (mkRow 3 k i).getD 0 0 = k + ((i * 3 + 0 : Nat) : Int) from rfl] at r0
    have a1 : k + ((i * 3 : Nat) : Int) + 1 = k + ((i * 3 + 1 : Nat) : Int) := by omega
    have r1 := hr1 1 (by omega)
    rw [show (mkRow 3 k i).getD 1 0 = k + ((i * 3 + 1 : Nat) : Int) from rfl] at r1
    have a2 : k + ((i * 3 + 1 : Nat) : Int) + 1 = k + ((i * 3 + 2 : Nat) : Int) := by omega
    have r2 := hr1 2 (by omega)
    rw [show (mkRow 3 k i).getD 2 0 = k + ((i * 3 + 2 : Nat) : Int) from rfl] at r2
    have a3 : k + ((i * 3 + 2 : Nat) : Int) + 1 = k + ((i * 3 + 3 : Nat) : Int) := by omega
    simp only [Nat.add_zero] at r0
    ((try simp (maxSteps := 3000000) (dsimp := false) (disch := first | omega | (simp only [len_new, len_put, len_kill]; omega)) only [↓ypre, ypost, ↓reduceIte, Nat.reduceEqDiff, Nat.reduceAdd, Nat.reduceSub, Nat.reduceLeDiff, Nat.zero_add, Nat.sub_zero, ynew, f0, f1, f5, hlen, decide_eq_true hlt, Nat.add_zero, hix, r0, r1, r2, a1, a2, a3, wrap64_in, ne_eq, not_true_eq_false]); try simp only [yback])
    refine InvQ_go (n - (i + 1)) (by omega) ⟨(i + 1), rfl, by omega, (by first | rfl | exact f0 | (simp only [upd_apply]; rfl) | (show I64 _ = _; congr 1; omega)), (by show I64 _ = I64 _; congr 1; omega), (by first | rfl | exact f5 | (simp only [upd_apply]; rfl) | (show I64 _ = _; congr 1; omega)), rfl⟩
  · have ei : i = n := by omega
    subst ei
    ((try simp (maxSteps := 3000000) (dsimp := false) (disch := first | omega | (simp only [len_new, len_put, len_kill]; omega)) only [↓ypre, ypost, ↓reduceIte, Nat.reduceEqDiff, Nat.reduceAdd, Nat.reduceSub, Nat.reduceLeDiff, Nat.zero_add, Nat.sub_zero, ynew, f0, f1, f5, hlen, decide_eq_false hlt]); try simp only [yback])
    exact hQ
theorem l_markOutputS {v : Value} {L : List (List Int)} {k : Int} {a b : Nat} {h : AH} {Q : Value → AH → Prop} (o : InE .i64 2 a b h v L) (hl : SmallE L) (hk : 0 ≤ k ∧ k ≤ 549755813888)
    (hQ : ∀ h', OnlyR a b h h' → InE .i64 2 a b h' v (mkE 2 k L.length) → Q (I64 (k + ((L.length * 2 : Nat) : Int))) h') : WF S 82 [v, I64 k] h Q := by
  refine WF_fn (fn := c82) rfl rfl ?_
  unfold c82
  unfold SmallE at hl
  rcases o with ⟨rfl, rfl⟩ | ⟨n, e, full, hab, rfl, hg, hw⟩
  · ((try simp (maxSteps := 3000000) (dsimp := false) (disch := first | omega | (simp only [len_new, len_put, len_kill]; omega)) only [↓ypre, ypost, ↓reduceIte, Nat.reduceEqDiff, Nat.reduceAdd, Nat.reduceSub, Nat.reduceLeDiff, Nat.zero_add, Nat.sub_zero, ynew]); try simp only [yback])
    refine WC_loop ?_
    ((try simp (maxSteps := 3000000) (dsimp := false) (disch := first | omega | (simp only [len_new, len_put, len_kill]; omega)) only [↓ypre, ypost, ↓reduceIte, Nat.reduceEqDiff, Nat.reduceAdd, Nat.reduceSub, Nat.reduceLeDiff, Nat.zero_add, Nat.sub_zero, ynew, decide_eq_false (show ¬ (0 : Int) < ((0 : Nat) : Int) by decide)]); try simp only [yback])
    have := hQ h (OnlyR.refl _ _ _) (.inl ⟨rfl, rfl⟩)
    simpa using this
  · ((try simp (maxSteps := 3000000) (dsimp := false) (disch := first | omega | (simp only [len_new, len_put, len_kill]; omega)) only [↓ypre, ypost, ↓reduceIte, Nat.reduceEqDiff, Nat.reduceAdd, Nat.reduceSub, Nat.reduceLeDiff, Nat.zero_add, Nat.sub_zero, ynew]); try simp only [yback])
    have c0 : (cel .i64 L.flatten).length = L.length * 2 := by rw [cel_len, flat_len hw]
    refine WC_loop_inv (fun m f K1 => ∃ (i : Nat) (c : List Value), m = L.length - i ∧ i ≤ L.length ∧ f 0 = .slice (some ⟨n, 0, none⟩) L.length 2 ∧ f 1 = I64 (k + ((i * 2 : Nat) : Int)) ∧ f 5 = I64 i ∧ (c.length = L.length * 2) ∧ (K1.get n = some ⟨c, e, false, full⟩) ∧ (OnlyR a b h K1) ∧ (∀ j : Nat, j < i * 2 → c[j]? = some (I64 (k + (j : Int))))) ?_ (L.length - 0) _ _ ⟨0, cel .i64 L.flatten, rfl, by omega, (by first | rfl | (simp [upd_apply]; done)), (by first | rfl | (simp [upd_apply]; done)), (by first | rfl | (simp [upd_apply]; done)), c0, hg, OnlyR.refl _ _ _, (by omega)⟩
    rintro m f K1 ⟨i, c, rfl, hi, f0, f1, f5, hc, hgc, wc, hm⟩
    by_cases hlt : (i : Int) < L.length
    · have hi' : i < L.length := by omega
      have hrow := mul_row (w := 2) hi'
      have ltc := get_lt hgc
      have ixd : ixsV 2 (.slice (some ⟨n, 0, none⟩) L.length 2) (I64 i) = some (.pointer (some ⟨n, i * 2, none⟩)) := by
        rw [ixsV_some, if_pos (by omega)]
        simp
      have s1 : ∀ x : Value, splice c (i * 2) [x] = c.set (i * 2) x := fun x => splice_set (by omega)
      have a1 : k + ((i * 2 : Nat) : Int) + 1 = k + ((i * 2 + 1 : Nat) : Int) := by omega
      have s2 : ∀ x y : Value, splice (c.set (i * 2) x) (i * 2 + 1) [y] = (c.set (i * 2) x).set (i * 2 + 1) y := fun x y => splice_set (by simp only [List.length_set]; omega)
      have a2 : k + ((i * 2 + 1 : Nat) : Int) + 1 = k + ((i * 2 + 2 : Nat) : Int) := by omega
      ((try simp (maxSteps := 3000000) (dsimp := false) (disch := first | omega | (simp only [len_new, len_put, len_kill]; omega)) only [↓ypre, ypost, ↓reduceIte, Nat.reduceEqDiff, Nat.reduceAdd, Nat.reduceSub, Nat.reduceLeDiff, Nat.zero_add, Nat.sub_zero, ynew, f0, f1, f5, decide_eq_true hlt, Nat.add_zero, ixd, wr_of hgc, wrap64_in, List.length_set, hc, s1, s2, a1, a2]); try simp only [yback])
      refine ⟨by omega, by omega, ?_⟩
      have hm' := set_step (g := fun j => I64 (k + (j : Int))) (set_step (g := fun j => I64 (k + (j : Int))) hm (by omega)) (by simp only [List.length_set]; omega)
      refine InvQ_go (L.length - (i + 1)) (by omega) ⟨(i + 1), _, rfl, by omega, (by first | rfl | exact f0 | (simp only [upd_apply]; rfl) | (show I64 _ = _; congr 1; omega)), (by show I64 _ = I64 _; congr 1; omega), (by first | rfl | exact f5 | (simp only [upd_apply]; rfl) | (show I64 _ = _; congr 1; omega)), (by simp only [List.length_set]; exact hc), (get_put_same ltc), ⟨by rw [len_put]; exact wc.len, fun m hm => by unfold AH.put; rw [List.getElem?_set_ne (fun e => hm (by omega))]; exact wc.same m hm⟩, (fun j hj => hm' j (by omega))⟩
    · have ei : i = L.length := by omega
      subst ei
      ((try simp (maxSteps := 3000000) (dsimp := false) (disch := first | omega | (simp only [len_new, len_put, len_kill]; omega)) only [↓ypre, ypost, ↓reduceIte, Nat.reduceEqDiff, Nat.reduceAdd, Nat.reduceSub, Nat.reduceLeDiff, Nat.zero_add, Nat.sub_zero, ynew, f0, f1, f5, decide_eq_false hlt]); try simp only [yback])
      have ec := mkE_cells hc hm (by decide)
      refine hQ _ wc (.inr ⟨n, e, full, hab, by rw [mkE_len], ?_, mkE_wid⟩)
      rw [hgc, ec]
theorem l_heldOutputS {v : Value} {k : Int} {n : Nat} {h : AH} {Q : Value → AH → Prop} (hv : Els .i64 2 h v (mkE 2 k n)) (hl : n ≤ 1048576) (hk : 0 ≤ k ∧ k ≤ 549755813888)
    (hQ : Q (I64 (k + ((n * 2 : Nat) : Int))) h) : WF S 88 [v, I64 k] h Q := by
  refine WF_fn (fn := c88) rfl rfl ?_
  unfold c88
  have hlen := hv.len
  rw [mkE_len] at hlen
  ((try simp (maxSteps := 3000000) (dsimp := false) (disch := first | omega | (simp only [len_new, len_put, len_kill]; omega)) only [↓ypre, ypost, ↓reduceIte, Nat.reduceEqDiff, Nat.reduceAdd, Nat.reduceSub, Nat.reduceLeDiff, Nat.zero_add, Nat.sub_zero, ynew]); try simp only [yback])
  refine WC_loop_inv (fun m f K1 => ∃ (i : Nat), m = n - i ∧ i ≤ n ∧ f 0 = v ∧ f 1 = I64 (k + ((i * 2 : Nat) : Int)) ∧ f 5 = I64 i ∧ (K1 = h)) ?_ (n - 0) _ _ ⟨0, rfl, by omega, (by first | rfl | (simp [upd_apply]; done)), (by first | rfl | (simp [upd_apply]; done)), (by first | rfl | (simp [upd_apply]; done)), rfl⟩
  rintro m f K1 ⟨i, rfl, hi, f0, f1, f5, hK⟩
  subst hK
  by_cases hlt : (i : Int) < n
  · have hi' : i < n := by omega
    obtain ⟨m, off, hix, hrn, hr1⟩ := hv.at (show i < (mkE 2 k n).length by rw [mkE_len]; exact hi')
    rw [mkE_get hi'] at hr1
    have hrow := mul_row (w := 2) hi'
    have r0 := hr1 0 (by omega)
    rw [show (mkRow 2 k i).getD 0 0 = k + ((i * 2 + 0 : Nat) : Int) from rfl] at r0
    have a1 : k + ((i * 2 : Nat) : Int) + 1 = k + ((i * 2 + 1 : Nat) : Int) := by omega
    have r1 := hr1 1 (by omega)
    rw [show (mkRow 2 k i).getD 1 0 = k + ((i * 2 + 1 : Nat) : Int) from rfl] at r1
    have a2 : k + ((i * 2 + 1 : Nat) : Int) + 1 = k + ((i * 2 + 2 : Nat) : Int) := by omega
    simp only [Nat.add_zero] at r0
    ((try simp (maxSteps := 3000000) (dsimp := false) (disch := first | omega | (simp only [len_new, len_put, len_kill]; omega)) only [↓ypre, ypost, ↓reduceIte, Nat.reduceEqDiff, Nat.reduceAdd, Nat.reduceSub, Nat.reduceLeDiff, Nat.zero_add, Nat.sub_zero, ynew, f0, f1, f5, hlen, decide_eq_true hlt, Nat.add_zero, hix, r0, r1, a1, a2, wrap64_in, ne_eq, not_true_eq_false]); try simp only [yback])
    refine InvQ_go (n - (i + 1)) (by omega) ⟨(i + 1), rfl, by omega, (by first | rfl | exact f0 | (simp only [upd_apply]; rfl) | (show I64 _ = _; congr 1; omega)), (by show I64 _ = I64 _; congr 1; omega), (by first | rfl | exact f5 | (simp only [upd_apply]; rfl) | (show I64 _ = _; congr 1; omega)), rfl⟩
  · have ei : i = n := by omega
    subst ei
    ((try simp (maxSteps := 3000000) (dsimp := false) (disch := first | omega | (simp only [len_new, len_put, len_kill]; omega)) only [↓ypre, ypost, ↓reduceIte, Nat.reduceEqDiff, Nat.reduceAdd, Nat.reduceSub, Nat.reduceLeDiff, Nat.zero_add, Nat.sub_zero, ynew, f0, f1, f5, hlen, decide_eq_false hlt]); try simp only [yback])
    exact hQ
def marksP (k : Int) (x : Prg) : Prg := ⟨x.p, x.n, mkE 3 k x.st.length, mkE 2 (k + ((x.st.length * 3 : Nat) : Int)) x.out.length⟩
theorem InE.cut {k : IntKind} {w a b : Nat} {h : AH} {v : Value} {L : List (List Int)} (o : InE k w a b h v L) : InE k w a (min b h.length) h v L := by
  rcases o with o | ⟨n, e, full, h1, rfl, h2, h3⟩
  · exact .inl o
  · have := get_lt h2
    exact .inr ⟨n, e, full, by omega, rfl, h2, h3⟩
theorem OnlyR.wide {a b c d : Nat} {h h' : AH} (w : OnlyR a b h h') (h1 : c ≤ a) (h2 : b ≤ d) : OnlyR c d h h' := ⟨w.len, fun n hn => w.same n (fun q => hn (by omega))⟩
theorem gmark_P {v w : Value} {x : Prg} {k : Int} {a b : Nat} {h : AH} {Q : Value → AH → Prop} (o : InP a b h v w x) (hl : SmallP x) (hk : 0 ≤ k ∧ k ≤ 274877906944)
    (hQ : ∀ J h', h <+: J → OnlyR a b J h' → InP a b h' v w (marksP k x) → Q (I64 (k + cntP x)) h') : WF S 32 [prgV x v w, I64 k] h Q := by
  refine WF_fn (fn := c32) rfl rfl ?_
  unfold c32
  obtain ⟨c, h1, h2, o1, o2⟩ := o
  have hl1 := hl.1
  have hl2 := hl.2
  unfold SmallE at hl1 hl2
  have o1 := o1.cut
  have o2 := o2.cut
  ((try simp (maxSteps := 3000000) (dsimp := false) (disch := first | omega | (simp only [len_new, len_put, len_kill]; omega)) only [↓ypre, ypost, ↓reduceIte, Nat.reduceEqDiff, Nat.reduceAdd, Nat.reduceSub, Nat.reduceLeDiff, Nat.zero_add, Nat.sub_zero, ynew, prgV, o1.rd.one, o2.rd.one]); try simp only [yback])
  generalize hH1 : AH.new h _ = H1
  obtain ⟨hb1, p1, n1⟩ := new_facts hH1
  refine l_markStepS (o1.pre p1) hl.1 (by omega) fun H2 w2 m1 => ?_
  have hb2 := w2.get' hb1 (by omega)
  ((try simp (maxSteps := 3000000) (dsimp := false) (disch := first | omega | (simp only [len_new, len_put, len_kill]; omega)) only [↓ypre, ypost, ↓reduceIte, Nat.reduceEqDiff, Nat.reduceAdd, Nat.reduceSub, Nat.reduceLeDiff, Nat.zero_add, Nat.sub_zero, ynew, rd1_of hb2]); try simp only [yback])
  refine l_markOutputS ((o2.pre p1).only w2 (by omega)) hl.2 (by omega) fun H3 w3 m2 => ?_
  ((try simp (maxSteps := 3000000) (dsimp := false) (disch := first | omega | (simp only [len_new, len_put, len_kill]; omega)) only [↓ypre, ypost, ↓reduceIte, Nat.reduceEqDiff, Nat.reduceAdd, Nat.reduceSub, Nat.reduceLeDiff, Nat.zero_add, Nat.sub_zero, ynew]); try simp only [yback])
  have ec : k + ((x.st.length * 3 : Nat) : Int) + ((x.out.length * 2 : Nat) : Int) = k + cntP x := by unfold cntP; omega
  rw [ec]
  refine hQ H1 H3 p1 ((w2.wide (Nat.le_refl _) (by omega)).trans (w3.wide (by omega) (by omega))) ⟨c, h1, h2, ?_, ?_⟩
  · exact (m1.only w3 (by omega)).mono (Nat.le_refl _) (by omega)
  · exact m2.mono (Nat.le_refl _) (by omega)
theorem gheld_P {v w : Value} {x : Prg} {k : Int} {h : AH} {Q : Value → AH → Prop} (hv : PrgR h v w (marksP k x)) (hl : SmallP x) (hk : 0 ≤ k ∧ k ≤ 274877906944)
    (hQ : ∀ h', h <+: h' → Q (I64 (k + cntP x)) h') : WF S 40 [prgV x v w, I64 k] h Q := by
  refine WF_fn (fn := c40) rfl rfl ?_
  unfold c40
  have hl1 := hl.1
  have hl2 := hl.2
  unfold SmallE at hl1 hl2
  obtain ⟨e1, e2⟩ := hv
  simp only [marksP] at e1 e2
  ((try simp (maxSteps := 3000000) (dsimp := false) (disch := first | omega | (simp only [len_new, len_put, len_kill]; omega)) only [↓ypre, ypost, ↓reduceIte, Nat.reduceEqDiff, Nat.reduceAdd, Nat.reduceSub, Nat.reduceLeDiff, Nat.zero_add, Nat.sub_zero, ynew, prgV, e1.one, e2.one]); try simp only [yback])
  generalize hH1 : AH.new h _ = H1
  obtain ⟨hb1, p1, n1⟩ := new_facts hH1
  refine l_heldStepS (e1.pre p1) (by omega) (by omega) ?_
  ((try simp (maxSteps := 3000000) (dsimp := false) (disch := first | omega | (simp only [len_new, len_put, len_kill]; omega)) only [↓ypre, ypost, ↓reduceIte, Nat.reduceEqDiff, Nat.reduceAdd, Nat.reduceSub, Nat.reduceLeDiff, Nat.zero_add, Nat.sub_zero, ynew, rd1_of hb1, decide_eq_false (show ¬ k + ((x.st.length * 3 : Nat) : Int) < 0 by omega)]); try simp only [yback])
  refine l_heldOutputS (e2.pre p1) (by omega) (by omega) ?_
  ((try simp (maxSteps := 3000000) (dsimp := false) (disch := first | omega | (simp only [len_new, len_put, len_kill]; omega)) only [↓ypre, ypost, ↓reduceIte, Nat.reduceEqDiff, Nat.reduceAdd, Nat.reduceSub, Nat.reduceLeDiff, Nat.zero_add, Nat.sub_zero, ynew, decide_eq_false (show ¬ k + ((x.st.length * 3 : Nat) : Int) + ((x.out.length * 2 : Nat) : Int) < 0 by omega)]); try simp only [yback])
  have ec : k + ((x.st.length * 3 : Nat) : Int) + ((x.out.length * 2 : Nat) : Int) = k + cntP x := by unfold cntP; omega
  rw [ec]
  exact hQ _ p1
end Go.Proofs.Ytilpnbejpndgpaa.X
