/- Texts of one claim, put together by merge.py: XD4, XD5, XD6, XD7, XD8, XQ1, XR1, XQ2, XF34, XF35, XR2, XF11, XF12, XF13, XF14, XF15, XQ3, XD9, XDA. -/
import Derived.Test.YtapafdpnmakekaaSI10
import Derived.Test.YtapafdpnmakekaaSI8
import Derived.Test.YtapafdpnmakekaaSI9
set_option linter.unusedVariables false
set_option linter.unusedSimpArgs false
set_option maxRecDepth 20000
set_option maxHeartbeats 4000000
namespace Go.Proofs.Ytapafdpnmakekaa.X
open Go Go.RowKit
theorem sp27 {a b c : List Int} (ha : a.length = 9) (hb : b.length = 9) (hc : c.length = 9) :
    (splice (cel .u8 (List.replicate 27 0)) 0 (cel .u8 a)).length = 27 ∧ (splice (splice (cel .u8 (List.replicate 27 0)) 0 (cel .u8 a)) 9 (cel .u8 b)).length = 27 ∧
    splice (splice (splice (cel .u8 (List.replicate 27 0)) 0 (cel .u8 a)) 9 (cel .u8 b)) 18 (cel .u8 c) = cel .u8 (a ++ b ++ c) := by
  have l27 : (cel .u8 (List.replicate 27 0)).length = 27 := rfl
  have s1 : (splice (cel .u8 (List.replicate 27 0)) 0 (cel .u8 a)).length = 27 := by rw [splice_lenW (by rw [cel_len, ha, l27]; omega), l27]
  have s2 : (splice (splice (cel .u8 (List.replicate 27 0)) 0 (cel .u8 a)) 9 (cel .u8 b)).length = 27 := by rw [splice_lenW (by rw [cel_len, hb, s1]; omega), s1]
  refine ⟨s1, s2, ?_⟩
  rw [cel_splice, cel_splice, cel_splice]
  congr 1
  have h0 : (List.replicate 27 (0 : Int)).length = 27 := rfl
  generalize List.replicate 27 (0 : Int) = o at h0
  simp [List.take_append, List.drop_append, ha, hb, hc, h0, List.take_of_length_le, List.drop_of_length_le]
section
variable {a b c : List Int}
theorem seg_0 (ha : a.length = 9) : seg (a ++ b ++ c) 0 = a := by simp [seg, ha, List.append_assoc]
theorem seg_1 (ha : a.length = 9) (hb : b.length = 9) : seg (a ++ b ++ c) 1 = b := by
  unfold seg
  rw [List.append_assoc, List.drop_append, List.drop_of_length_le (by omega), ha]
  simp [hb]
theorem seg_2 (ha : a.length = 9) (hb : b.length = 9) (hc : c.length = 9) : seg (a ++ b ++ c) 2 = c := by
  unfold seg
  rw [List.drop_append, List.drop_of_length_le (by simp [ha, hb]), List.length_append, ha, hb]
  simp [hc, List.take_of_length_le]
theorem by_27 (ha : By 9 a) (hb : By 9 b) (hc : By 9 c) : By 27 (a ++ b ++ c) := by
  refine ⟨by simp [ha.1, hb.1, hc.1], fun j hj => ?_⟩
  by_cases h1 : j < 9
  · rw [List.append_assoc, getD_app_l (by rw [ha.1]; exact h1)]
    exact ha.2 j h1
  · by_cases h2 : j < 18
    · rw [getD_app_l (by simp [ha.1, hb.1]; omega), getD_app_r (by rw [ha.1]; omega), ha.1]
      exact hb.2 _ (by omega)
    · rw [getD_app_r (by simp [ha.1, hb.1]; omega)]
      simp only [List.length_append, ha.1, hb.1]
      exact hc.2 _ (by omega)
end
theorem okProd_of {x : Sch} {a b c : List Int} (fa : FQ x.p (pl x 0) a) (fb : FQ x.p (pl x 1) b) (fc : FQ x.p (pl x 2) c) (za : isZ a = false) (zb : isZ b = false) (zc : isZ c = false) : okProd x (a ++ b ++ c) = true := by
  unfold okProd hasZ
  rw [seg_0 fa.1.1, seg_1 fa.1.1 fb.1.1, seg_2 fa.1.1 fb.1.1 fc.1.1, fa.2, fb.2, fc.2, za, zb, zc]
  rfl
theorem s_l01DrawOf {h0 h : AH} {n : Nat} {x : Sch} {v : Value} {Q : Value → AH → Prop} (s : Src h0 h n) (z : SZ x) (hv : isOne v = true)
    (hQ : ∀ q h', Kp n h h' → Src h0 h' n → By 27 q → okProd x q = true → Q (aggV .u8 q) h') : WF S 305 [srcP n, schV x v] h Q := by
  refine WF_fn (fn := c305) rfl rfl ?_
  unfold c305
  have lt := s.lt
  have l0 := pre_len s.p
  have znm := z.nm
  have zmk := z.mk2
  have znk := z.nk
  obtain ⟨A, hA⟩ : ∃ A : Nat, x.n * x.m = A := ⟨(x.n * x.m).toNat, by omega⟩
  obtain ⟨B, hB⟩ : ∃ B : Nat, x.m * x.k = B := ⟨(x.m * x.k).toNat, by omega⟩
  obtain ⟨C, hC⟩ : ∃ C : Nat, x.n * x.k = C := ⟨(x.n * x.k).toNat, by omega⟩
  ((try simp (maxSteps := 3000000) (dsimp := false) (disch := first | omega | (simp only [len_new, len_put, len_kill]; omega)) only [↓ypre, ypost, ↓reduceIte, Nat.reduceEqDiff, Nat.reduceAdd, Nat.reduceSub, Nat.reduceLeDiff, Nat.zero_add, Nat.sub_zero, ynew, schV, hv, zeros27]); try simp only [yback])
  generalize hH1 : AH.new h _ = H1
  obtain ⟨hb1, p1, n1⟩ := new_facts hH1
  generalize hH2 : AH.new H1 _ = H2
  obtain ⟨hb2, p2, n2⟩ := new_facts hH2
  have hb1 := pre_get p2 hb1
  ((try simp (maxSteps := 3000000) (dsimp := false) (disch := first | omega | (simp only [len_new, len_put, len_kill]; omega)) only [↓ypre, ypost, ↓reduceIte, Nat.reduceEqDiff, Nat.reduceAdd, Nat.reduceSub, Nat.reduceLeDiff, Nat.zero_add, Nat.sub_zero, ynew, rdn_of hb1, List.length_cons, List.length_nil, List.drop_zero, List.take_succ_cons, List.take_nil]); try simp only [yback])
  refine s_l01Lengths hv z fun H3 p3 => ?_
  have k3 : Kp n h H3 := Kp.of ((p1.trans p2).trans p3)
  have s3 : Src h0 H3 n := s.kp ((p1.trans p2).trans p3)
  have g1 := pre_get p3 hb1
  have g2 := pre_get p3 hb2
  rw [hA, hB, hC]
  ((try simp (maxSteps := 3000000) (dsimp := false) (disch := first | omega | (simp only [len_new, len_put, len_kill]; omega)) only [↓ypre, ypost, ↓reduceIte, Nat.reduceEqDiff, Nat.reduceAdd, Nat.reduceSub, Nat.reduceLeDiff, Nat.zero_add, Nat.sub_zero, ynew, rd1_of g1]); try simp only [yback])
  refine s_l01DrawForm s3 z.p (by omega) fun a H4 k4 s4 fa za => ?_
  have g1 := k4.get (by omega) g1
  have g2 := k4.get (by omega) g2
  ((try simp (maxSteps := 3000000) (dsimp := false) (disch := first | omega | (simp only [len_new, len_put, len_kill]; omega)) only [↓ypre, ypost, ↓reduceIte, Nat.reduceEqDiff, Nat.reduceAdd, Nat.reduceSub, Nat.reduceLeDiff, Nat.zero_add, Nat.sub_zero, ynew, rd1_of g1]); try simp only [yback])
  refine ⟨k4, by omega, ?_⟩
  refine s_l01DrawForm s4 z.p (by omega) fun b H5 k5 s5 fb zb => ?_
  have g1 := k5.get (by omega) g1
  have g2 := k5.get (by omega) g2
  ((try simp (maxSteps := 3000000) (dsimp := false) (disch := first | omega | (simp only [len_new, len_put, len_kill]; omega)) only [↓ypre, ypost, ↓reduceIte, Nat.reduceEqDiff, Nat.reduceAdd, Nat.reduceSub, Nat.reduceLeDiff, Nat.zero_add, Nat.sub_zero, ynew, rd1_of g1]); try simp only [yback])
  refine ⟨k5, by omega, ?_⟩
  refine s_l01DrawForm s5 z.p (by omega) fun c H6 k6 s6 fc zc => ?_
  have g2 := k6.get (by omega) g2
  have ha := fa.1.1
  have hb := fb.1.1
  have hc := fc.1.1
  have lf : (a ++ b ++ c).length = 27 := by simp [ha, hb, hc]
  have w5 := wr_full (vs := cel .u8 (a ++ b ++ c)) g2 (by rw [cel_len, lf]; rfl)
  have tk : (cel .u8 (a ++ b ++ c)).take 27 = cel .u8 (a ++ b ++ c) := List.take_of_length_le (by rw [cel_len, lf]; exact Nat.le_refl _)
  have lg := get_lt g2
  obtain ⟨sp1, sp2, sp3⟩ := sp27 ha hb hc
  ((try simp (maxSteps := 3000000) (dsimp := false) (disch := first | omega | (simp only [len_new, len_put, len_kill]; omega)) only [↓ypre, ypost, ↓reduceIte, Nat.reduceEqDiff, Nat.reduceAdd, Nat.reduceSub, Nat.reduceLeDiff, Nat.zero_add, Nat.sub_zero, ynew, aggV, zeros27, ha, hb, hc, List.length_replicate, sp1, sp2, sp3, cel_all, cel_len, lf, w5, rdn_put_same, tk]); try simp only [yback])
  refine hQ _ _ (Kp.putb (m := H1.length) ((k3.trans (k4.trans k5)).trans k6) (by omega)) (Src.putb (m := H1.length) s6 (by omega) (by omega)) (by_27 fa.1 fb.1 fc.1) (okProd_of ?_ ?_ ?_ za zb zc)
  · show FQ x.p (x.n * x.m) a
    rw [hA]; exact fa
  · show FQ x.p (x.m * x.k) b
    rw [hB]; exact fb
  · show FQ x.p (x.n * x.k) c
    rw [hC]; exact fc
end Go.Proofs.Ytapafdpnmakekaa.X

set_option linter.unusedVariables false
set_option linter.unusedSimpArgs false
set_option maxRecDepth 20000
set_option maxHeartbeats 4000000
namespace Go.Proofs.Ytapafdpnmakekaa.X
open Go Go.RowKit
theorem sz_of {n : Int} (h : n = 1 ∨ n = 2 ∨ n = 3) : sz n = true := by
  rcases h with rfl | rfl | rfl <;> rfl
theorem isP_of {p : Int} (h : p = 2 ∨ p = 3 ∨ p = 5) : isP p = true := by
  rcases h with rfl | rfl | rfl <;> rfl
theorem s_l01DrawSizes {h0 h : AH} {n : Nat} {Q : Value → AH → Prop} (s : Src h0 h n)
    (hQ : ∀ (p a b c : Int) (nb : Nat) h', Kp n h h' → Src h0 h' n → h.length ≤ nb → h'.get nb = some ⟨[], 138, false, true⟩ → (p = 2 ∨ p = 3 ∨ p = 5) → (a = 1 ∨ a = 2 ∨ a = 3) → (b = 1 ∨ b = 2 ∨ b = 3) → (c = 1 ∨ c = 2 ∨ c = 3) →
      Q (schV ⟨p, a, b, c, []⟩ (.slice (some ⟨nb, 0, none⟩) 0 27)) h') : WF S 320 [srcP n] h Q := by
  refine WF_fn (fn := c320) rfl rfl ?_
  unfold c320
  have lt := s.lt
  have l0 := pre_len s.p
  ((try simp (maxSteps := 3000000) (dsimp := false) (disch := first | omega | (simp only [len_new, len_put, len_kill]; omega)) only [↓ypre, ypost, ↓reduceIte, Nat.reduceEqDiff, Nat.reduceAdd, Nat.reduceSub, Nat.reduceLeDiff, Nat.zero_add, Nat.sub_zero, ynew]); try simp only [yback])
  generalize hH1 : AH.new h _ = H1
  obtain ⟨hb1, p1, n1⟩ := new_facts hH1
  ((try simp (maxSteps := 3000000) (dsimp := false) (disch := first | omega | (simp only [len_new, len_put, len_kill]; omega)) only [↓ypre, ypost, ↓reduceIte, Nat.reduceEqDiff, Nat.reduceAdd, Nat.reduceSub, Nat.reduceLeDiff, Nat.zero_add, Nat.sub_zero, ynew, fillL, zrep]); try simp only [yback])
  generalize hH2 : AH.new H1 _ = H2
  obtain ⟨hb2, p2, n2⟩ := new_facts hH2
  have kv := kp_new (n := n) (ns := [2, 2, 2, 3, 5]) hH2 (by omega)
  refine s_l01Pick (s.kp (p1.trans p2)) kv (by simp) (by simp) fun j H3 k3 l3 s3 hj => ?_
  have hp : ([2, 2, 2, 3, 5] : List Int).getD j 0 = 2 ∨ ([2, 2, 2, 3, 5] : List Int).getD j 0 = 3 ∨ ([2, 2, 2, 3, 5] : List Int).getD j 0 = 5 := by
    simp at hj
    have : j = 0 ∨ j = 1 ∨ j = 2 ∨ j = 3 ∨ j = 4 := by omega
    rcases this with rfl | rfl | rfl | rfl | rfl <;> simp
  generalize ([2, 2, 2, 3, 5] : List Int).getD j 0 = p at hp
  have g1 := k3.get (by omega) (pre_get p2 hb1)
  ((try simp (maxSteps := 3000000) (dsimp := false) (disch := first | omega | (simp only [len_new, len_put, len_kill]; omega)) only [↓ypre, ypost, ↓reduceIte, Nat.reduceEqDiff, Nat.reduceAdd, Nat.reduceSub, Nat.reduceLeDiff, Nat.zero_add, Nat.sub_zero, ynew, fillL, zrep]); try simp only [yback])
  generalize hH4 : AH.new H3 _ = H4
  obtain ⟨hb4, p4, n4⟩ := new_facts hH4
  ((try simp (maxSteps := 3000000) (dsimp := false) (disch := first | omega | (simp only [len_new, len_put, len_kill]; omega)) only [↓ypre, ypost, ↓reduceIte, Nat.reduceEqDiff, Nat.reduceAdd, Nat.reduceSub, Nat.reduceLeDiff, Nat.zero_add, Nat.sub_zero, ynew, fillL, zrep]); try simp only [yback])
  generalize hH5 : AH.new H4 _ = H5
  obtain ⟨hb5, p5, n5⟩ := new_facts hH5
  have k5 : Kp n h H5 := (Kp.of (p1.trans p2)).trans (k3.trans (Kp.of (p4.trans p5)))
  have s5 : Src h0 H5 n := s3.kp (p4.trans p5)
  have g1 := pre_get (p4.trans p5) g1
  have g4 := pre_get p5 hb4
  have g5 := hb5
  have fin : ∀ (a b c : Int) (h' : AH), Kp n h h' → Src h0 h' n → h'.get h.length = some ⟨[.int .i64 0, .int .i64 0, .int .i64 0, .int .i64 0, .slice none 0 0], 26, false, true⟩ → h'.get H3.length = some ⟨[], 138, false, true⟩ →
      (a = 1 ∨ a = 2 ∨ a = 3) → (b = 1 ∨ b = 2 ∨ b = 3) → (c = 1 ∨ c = 2 ∨ c = 3) →
      Q (schV ⟨p, a, b, c, []⟩ (.slice (some ⟨H3.length, 0, none⟩) 0 27)) (h'.put h.length ⟨[I64 p, I64 a, I64 b, I64 c, .slice (some ⟨H3.length, 0, none⟩) 0 27], 26, false, true⟩) := fun a b c h' kk ss gg g4 ha hb hc =>
    hQ p a b c H3.length _ (kk.putb (Nat.le_refl _)) (ss.putb (by omega) (by omega)) (by omega) (by rw [get_put_ne (by omega)]; exact g4) hp ha hb hc
  have pick3 : ∀ j, j < ([1, 2, 3] : List Int).length → (([1, 2, 3] : List Int).getD j 0 = 1 ∨ ([1, 2, 3] : List Int).getD j 0 = 2 ∨ ([1, 2, 3] : List Int).getD j 0 = 3) := fun j hj => by
    simp at hj
    have : j = 0 ∨ j = 1 ∨ j = 2 := by omega
    rcases this with rfl | rfl | rfl <;> simp
  ((try simp (maxSteps := 3000000) (dsimp := false) (disch := first | omega | (simp only [len_new, len_put, len_kill]; omega)) only [↓ypre, ypost, ↓reduceIte, Nat.reduceEqDiff, Nat.reduceAdd, Nat.reduceSub, Nat.reduceLeDiff, Nat.zero_add, Nat.sub_zero, ynew]); try simp only [yback])
  refine s_l01Next s5 fun r H6 k6 l6 s6 hr _ => ?_
  have g1 := k6.get (by omega) g1
  have g4 := k6.get (by omega) g4
  have g5 := k6.get (by omega) g5
  by_cases h0' : r = 0
  case neg =>
    have lg := get_lt g1
    ((try simp (maxSteps := 3000000) (dsimp := false) (disch := first | omega | (simp only [len_new, len_put, len_kill]; omega)) only [↓ypre, ypost, ↓reduceIte, Nat.reduceEqDiff, Nat.reduceAdd, Nat.reduceSub, Nat.reduceLeDiff, Nat.zero_add, Nat.sub_zero, ynew, decide_eq_false h0', rdn_of g5, wr_of g1, splice_eq, rdn_put_same]); try simp only [yback])
    exact fin 2 2 2 H6 (k5.trans k6) s6 g1 g4 (by omega) (by omega) (by omega)
  ((try simp (maxSteps := 3000000) (dsimp := false) (disch := first | omega | (simp only [len_new, len_put, len_kill]; omega)) only [↓ypre, ypost, ↓reduceIte, Nat.reduceEqDiff, Nat.reduceAdd, Nat.reduceSub, Nat.reduceLeDiff, Nat.zero_add, Nat.sub_zero, ynew, decide_eq_true h0', fillL, zrep]); try simp only [yback])
  generalize hH7 : AH.new H6 _ = H7
  obtain ⟨hb7, p7, n7⟩ := new_facts hH7
  have kv := kp_new (n := n) (ns := [1, 2, 3]) hH7 (by omega)
  refine s_l01Pick (s6.kp p7) kv (by simp) (by simp) fun j1 H8 k8 l8 s8 hj1 => ?_
  have ha := pick3 j1 hj1
  generalize ([1, 2, 3] : List Int).getD j1 0 = a at ha
  have g1 := k8.get (by omega) (pre_get p7 g1)
  have g4 := k8.get (by omega) (pre_get p7 g4)
  have g5 := k8.get (by omega) (pre_get p7 g5)
  have k8' : Kp n h H8 := (k5.trans k6).trans ((Kp.of p7).trans k8)
  ((try simp (maxSteps := 3000000) (dsimp := false) (disch := first | omega | (simp only [len_new, len_put, len_kill]; omega)) only [↓ypre, ypost, ↓reduceIte, Nat.reduceEqDiff, Nat.reduceAdd, Nat.reduceSub, Nat.reduceLeDiff, Nat.zero_add, Nat.sub_zero, ynew, wr_of g5, splice_eq]); try simp only [yback])
  generalize hH9 : AH.put H8 _ _ = H9
  obtain ⟨q9, l9, o9, u9⟩ := put_facts hH9
  have k9 := u9 _ _ k8' (by omega)
  have s9 := s8.put hH9 (by omega) (by omega)
  have g1 := q9 _ _ (by omega) g1
  have g4 := q9 _ _ (by omega) g4
  have g5' := o9 (get_lt g5)
  ((try simp (maxSteps := 3000000) (dsimp := false) (disch := first | omega | (simp only [len_new, len_put, len_kill]; omega)) only [↓ypre, ypost, ↓reduceIte, Nat.reduceEqDiff, Nat.reduceAdd, Nat.reduceSub, Nat.reduceLeDiff, Nat.zero_add, Nat.sub_zero, ynew, fillL, zrep]); try simp only [yback])
  generalize hH7 : AH.new H9 _ = HA
  obtain ⟨hbA, pA, nA⟩ := new_facts hH7
  have kv := kp_new (n := n) (ns := [1, 2, 3]) hH7 (by have := s9.lt; omega)
  refine s_l01Pick (s9.kp pA) kv (by simp) (by simp) fun j2 HB kB lB sB hj2 => ?_
  have hb := pick3 j2 hj2
  generalize ([1, 2, 3] : List Int).getD j2 0 = b at hb
  have g1 := kB.get (by omega) (pre_get pA g1)
  have g4 := kB.get (by omega) (pre_get pA g4)
  have g5 := kB.get (by omega) (pre_get pA g5')
  have kB' : Kp n h HB := k9.trans ((Kp.of pA).trans kB)
  ((try simp (maxSteps := 3000000) (dsimp := false) (disch := first | omega | (simp only [len_new, len_put, len_kill]; omega)) only [↓ypre, ypost, ↓reduceIte, Nat.reduceEqDiff, Nat.reduceAdd, Nat.reduceSub, Nat.reduceLeDiff, Nat.zero_add, Nat.sub_zero, ynew, wr_of g5, splice_eq]); try simp only [yback])
  generalize hHC : AH.put HB _ _ = HC
  obtain ⟨qC, lC, oC, uC⟩ := put_facts hHC
  have kC := uC _ _ kB' (by omega)
  have sC := sB.put hHC (by omega) (by omega)
  have g1 := qC _ _ (by omega) g1
  have g4 := qC _ _ (by omega) g4
  have g5' := oC (get_lt g5)
  ((try simp (maxSteps := 3000000) (dsimp := false) (disch := first | omega | (simp only [len_new, len_put, len_kill]; omega)) only [↓ypre, ypost, ↓reduceIte, Nat.reduceEqDiff, Nat.reduceAdd, Nat.reduceSub, Nat.reduceLeDiff, Nat.zero_add, Nat.sub_zero, ynew, fillL, zrep]); try simp only [yback])
  generalize hH7 : AH.new HC _ = HD
  obtain ⟨hbD, pD, nD⟩ := new_facts hH7
  have kv := kp_new (n := n) (ns := [1, 2, 3]) hH7 (by have := sC.lt; omega)
  refine s_l01Pick (sC.kp pD) kv (by simp) (by simp) fun j3 HE kE lE sE hj3 => ?_
  have hc := pick3 j3 hj3
  generalize ([1, 2, 3] : List Int).getD j3 0 = c at hc
  have g1 := kE.get (by omega) (pre_get pD g1)
  have g4 := kE.get (by omega) (pre_get pD g4)
  have g5 := kE.get (by omega) (pre_get pD g5')
  have kE' : Kp n h HE := kC.trans ((Kp.of pD).trans kE)
  have lg := get_lt g1
  have lg5 := get_lt g5
  ((try simp (maxSteps := 3000000) (dsimp := false) (disch := first | omega | (simp only [len_new, len_put, len_kill]; omega)) only [↓ypre, ypost, ↓reduceIte, Nat.reduceEqDiff, Nat.reduceAdd, Nat.reduceSub, Nat.reduceLeDiff, Nat.zero_add, Nat.sub_zero, ynew, wr_of g5, wr_of g1, splice_eq, rdn_put_same]); try simp only [yback])
  exact hQ p a b c H3.length _ ((kE'.putb (m := h.length) (Nat.le_refl _)).putb (m := H4.length) (by omega)) ((sE.putb (m := h.length) (by omega) (by omega)).putb (m := H4.length) (by omega) (by omega)) (by omega) (by rw [get_put_ne (by omega), get_put_ne (by omega)]; exact g4) hp ha hb hc
end Go.Proofs.Ytapafdpnmakekaa.X

set_option linter.unusedVariables false
set_option linter.unusedSimpArgs false
set_option maxRecDepth 20000
set_option maxHeartbeats 4000000
namespace Go.Proofs.Ytapafdpnmakekaa.X
open Go Go.RowKit
def stra (m : Int) : List (List Int) := [[1, 0, 0, 1, 0, 0, 0, 0, 0, 1, 0, 0, 1, 0, 0, 0, 0, 0, 1, 0, 0, 1, 0, 0, 0, 0, 0],
  [0, 0, 1, 1, 0, 0, 0, 0, 0, 1, 0, 0, 0, 0, 0, 0, 0, 0, 0, 0, 1, m, 0, 0, 0, 0, 0],
  [1, 0, 0, 0, 0, 0, 0, 0, 0, 0, 1, 0, m, 0, 0, 0, 0, 0, 0, 1, 0, 1, 0, 0, 0, 0, 0],
  [0, 0, 0, 1, 0, 0, 0, 0, 0, m, 0, 1, 0, 0, 0, 0, 0, 0, 1, 0, 1, 0, 0, 0, 0, 0, 0],
  [1, 1, 0, 0, 0, 0, 0, 0, 0, 0, 0, 0, 1, 0, 0, 0, 0, 0, m, 1, 0, 0, 0, 0, 0, 0, 0],
  [m, 0, 1, 0, 0, 0, 0, 0, 0, 1, 1, 0, 0, 0, 0, 0, 0, 0, 0, 0, 0, 1, 0, 0, 0, 0, 0],
  [0, 1, 0, m, 0, 0, 0, 0, 0, 0, 0, 1, 1, 0, 0, 0, 0, 0, 1, 0, 0, 0, 0, 0, 0, 0, 0]]
theorem app_zeroW {e : TypeId} {w bytes : Nat} {h : AH} {k n' off m : Nat} {news : List Value} {full : Bool} (hk : h.get k = some ⟨[], e, false, full⟩) (hn : h.rdn n' off (m * w) = some news) (hm : 0 < m)
    (hs : (m : Int) * bytes ≤ 140737488355328 ∧ (m : Int) ≤ 9223372036854775807) :
    appV e w bytes (.slice (some ⟨k, 0, none⟩) 0 w) (.slice (some ⟨n', off, none⟩) m w) h = some (.slice (some ⟨h.length, 0, none⟩) m w, (h.kill k).new ⟨news, e, false, false⟩) := by
  simp only [appV, xop, ev, if_true, hn, hk]
  rw [if_pos (by simpa using hs), if_neg (by omega)]
  simp
theorem s_l01Strassen {h : AH} {p : Int} {Q : Value → AH → Prop} (hp : 2 ≤ p ∧ p ≤ 5)
    (hQ : ∀ (nb : Nat) (h' : AH), h <+: h' → h.length ≤ nb → h'.get nb = some ⟨cel .u8 (stra (p - 1)).flatten, 138, false, false⟩ → Q (schV ⟨p, 2, 2, 2, stra (p - 1)⟩ (.slice (some ⟨nb, 0, none⟩) 7 27)) h') : WF S 321 [I64 p] h Q := by
  refine WF_fn (fn := c321) rfl rfl ?_
  unfold c321
  ((try simp (maxSteps := 3000000) (dsimp := false) (disch := first | omega | (simp only [len_new, len_put, len_kill]; omega)) only [↓ypre, ypost, ↓reduceIte, Nat.reduceEqDiff, Nat.reduceAdd, Nat.reduceSub, Nat.reduceLeDiff, Nat.zero_add, Nat.sub_zero, ynew]); try simp only [yback])
  generalize hH1 : AH.new h _ = H1
  obtain ⟨hb1, p1, n1⟩ := new_facts hH1
  ((try simp (maxSteps := 3000000) (dsimp := false) (disch := first | omega | (simp only [len_new, len_put, len_kill]; omega)) only [↓ypre, ypost, ↓reduceIte, Nat.reduceEqDiff, Nat.reduceAdd, Nat.reduceSub, Nat.reduceLeDiff, Nat.zero_add, Nat.sub_zero, ynew, fillL, zrep]); try simp only [yback])
  generalize hH2 : AH.new H1 _ = H2
  obtain ⟨hb2, p2, n2⟩ := new_facts hH2
  ((try simp (maxSteps := 3000000) (dsimp := false) (disch := first | omega | (simp only [len_new, len_put, len_kill]; omega)) only [↓ypre, ypost, ↓reduceIte, Nat.reduceEqDiff, Nat.reduceAdd, Nat.reduceSub, Nat.reduceLeDiff, Nat.zero_add, Nat.sub_zero, ynew, fillL, zrep]); try simp only [yback])
  generalize hH3 : AH.new H2 _ = H3
  obtain ⟨hb3, p3, n3⟩ := new_facts hH3
  ((try simp (maxSteps := 3000000) (dsimp := false) (disch := first | omega | (simp only [len_new, len_put, len_kill]; omega)) only [↓ypre, ypost, ↓reduceIte, Nat.reduceEqDiff, Nat.reduceAdd, Nat.reduceSub, Nat.reduceLeDiff, Nat.zero_add, Nat.sub_zero, ynew, wrap64_in, wrap8_in, rd1_of hb3, zrep, fillL]); try simp only [yback])
  generalize hH4 : AH.new H3 _ = H4
  obtain ⟨hb4, p4, n4⟩ := new_facts hH4
  have hb4 : H4.get H3.length = some ⟨cel .u8 (stra (p - 1)).flatten, 138, false, true⟩ := hb4
  have g2 := pre_get (p3.trans p4) hb2
  have g3 := pre_get p4 hb3
  have g1 := pre_get (p2.trans (p3.trans p4)) hb1
  have l189 : (cel .u8 (stra (p - 1)).flatten).length = 189 := rfl
  have rd : H4.rdn H3.length 0 (7 * 27) = some (cel .u8 (stra (p - 1)).flatten) := by
    rw [rdn_of hb4]
    rfl
  rw [app_zeroW g2 rd (by omega) (by omega), OQ_some]
  generalize hH5 : AH.new _ _ = H5
  have k5 : ∀ m b, m ≠ H1.length → H4.get m = some b → H5.get m = some b := fun m b hm g => by
    rw [← hH5]
    exact get_new_any (by rw [get_kill_ne (Ne.symm hm)]; exact g)
  have g5 : H5.get H4.length = some ⟨cel .u8 (stra (p - 1)).flatten, 138, false, false⟩ := by
    rw [← hH5]
    exact get_new_eq (by rw [len_kill])
  have l5 : H5.length = H4.length + 1 := by rw [← hH5, len_new, len_kill]
  have q5 : h <+: H5 := by
    rw [← hH5]
    exact pre_new (pre_kill (p1.trans (p2.trans (p3.trans p4))) (by omega))
  have g3 := k5 _ _ (by omega) g3
  have g1 := k5 _ _ (by omega) g1
  have lg := get_lt g1
  have lg3 := get_lt g3
  ((try simp (maxSteps := 3000000) (dsimp := false) (disch := first | omega | (simp only [len_new, len_put, len_kill]; omega)) only [↓ypre, ypost, ↓reduceIte, Nat.reduceEqDiff, Nat.reduceAdd, Nat.reduceSub, Nat.reduceLeDiff, Nat.zero_add, Nat.sub_zero, ynew, wr_of g3, wr_of g1, splice_eq, rdn_put_same]); try simp only [yback])
  exact hQ H4.length _ (pre_put (pre_put q5 (Nat.le_refl _)) (by omega)) (by omega) (by rw [get_put_ne (by omega), get_put_ne (by omega)]; exact g5)
end Go.Proofs.Ytapafdpnmakekaa.X

set_option linter.unusedVariables false
set_option linter.unusedSimpArgs false
set_option maxRecDepth 20000
set_option maxHeartbeats 4000000
namespace Go.Proofs.Ytapafdpnmakekaa.X
open Go Go.RowKit
section
variable {n m : Nat} {h0 h h' h'' : AH}
theorem Kp.over (k : Kp n h h') (d : Kp m h' h'') (hm : h.length ≤ m) : Kp n h h'' := ⟨Nat.le_trans k.1 d.1, fun j hj hn => (d.2 j (Nat.lt_of_lt_of_le hj k.1) (by omega)).trans (k.2 j hj hn)⟩
theorem Src.over (s : Src h0 h' n) (d : Kp m h' h'') (hm : m ≠ n) (hl : h0.length ≤ m) : Src h0 h'' n := s.keep (d.pre s.p hl) fun _ g => d.get (Ne.symm hm) g
end
theorem app_kp {e : TypeId} {k : IntKind} {w bytes nb : Nat} {L : List (List Int)} {q : List Int} {full ro fu : Bool} {H : AH} {e' : TypeId} (hk : H.get nb = some ⟨cel k L.flatten, e, false, full⟩) (hw : Wid w L) (hq : q.length = w)
    (hl : ((L.length : Int) + 1) * bytes ≤ 140737488355328) (hn : (L.length : Int) < 1048576) {Q : Value → AH → Prop}
    (hQ : ∀ H' : AH, H'.length = H.length + 2 → Kp nb H H' → H'.get (H.length + 1) = some ⟨cel k (L ++ [q]).flatten, e, false, false⟩ → Wid w (L ++ [q]) → Q (.slice (some ⟨H.length + 1, 0, none⟩) (L.length + 1) w) H') :
    OQ (appV e w bytes (.slice (some ⟨nb, 0, none⟩) L.length w) (.slice (some ⟨H.length, 0, none⟩) 1 w) (H.new ⟨cel k q, e', ro, fu⟩)) Q := by
  have hr : (H.new ⟨cel k q, e', ro, fu⟩).rdn H.length 0 w = some (cel k q) := by
    rw [rdn_of get_new_same]
    simp only
    rw [if_pos (by rw [cel_len, hq]; omega), List.drop_zero, List.take_of_length_le (by rw [cel_len, hq]; omega)]
  have hk' : (H.new ⟨cel k q, e', ro, fu⟩).get nb = some ⟨cel k L.flatten, e, false, full⟩ := get_new_any hk
  have hkb := get_lt hk
  rw [app_ownW hk' (by rw [cel_len, flat_len hw]) hr ⟨hl, by omega⟩, OQ_some, len_new]
  refine hQ _ (by rw [len_new, len_kill, len_new]) ⟨by rw [len_new, len_kill, len_new]; omega, fun j hj hne => ?_⟩ ?_ ?_
  · have e1 : (((H.new ⟨cel k q, e', ro, fu⟩).kill nb).new ⟨cel k L.flatten ++ cel k q, e, false, false⟩).get j = ((H.new ⟨cel k q, e', ro, fu⟩).kill nb).get j := prefix_get (pre_new (List.prefix_refl _)) (by rw [len_kill, len_new]; omega)
    rw [e1, get_kill_ne (Ne.symm hne)]
    exact prefix_get (pre_new (List.prefix_refl _)) hj
  · rw [get_new_eq (by rw [len_kill, len_new])]
    simp [cel_app]
  · intro r hr
    rcases List.mem_append.1 hr with hr | hr
    · exact hw r hr
    · rw [List.mem_singleton.1 hr, hq]
theorem InE.kN {k : IntKind} {w a b lo : Nat} {h : AH} {v : Value} {L : List (List Int)} (o : InE k w a b h v L) (hn : lo ≤ a) : KN lo h fun h' => Els k w h' v L := by
  intro h' l g
  rcases o with ⟨rfl, rfl⟩ | ⟨m, e, full, h1, rfl, h2, h3⟩
  · exact .inl ⟨rfl, 0, by omega, rfl⟩
  · exact InE.rd (.inr ⟨m, e, full, h1, rfl, by rw [g m (by omega) (get_lt h2)]; exact h2, h3⟩)
theorem blk_kN {k : IntKind} {w lo m : Nat} {h : AH} {L : List (List Int)} {e : TypeId} {full : Bool} (hg : h.get m = some ⟨cel k L.flatten, e, false, full⟩) (hw : Wid w L) (hn : lo ≤ m) : KN lo h fun h' => Els k w h' (.slice (some ⟨m, 0, none⟩) L.length w) L :=
  fun h' l g => InE.rd (.inr ⟨m, e, full, ⟨Nat.le_refl _, Nat.lt_succ_self _⟩, rfl, by rw [g m hn (get_lt hg)]; exact hg, hw⟩)
theorem stra_wid {m : Int} : Wid 27 (stra m) := by
  intro q hq
  simp only [stra, List.mem_cons, List.not_mem_nil, or_false] at hq
  rcases hq with rfl | rfl | rfl | rfl | rfl | rfl | rfl <;> rfl
theorem stra_isX {p : Int} (hp : p = 2 ∨ p = 3 ∨ p = 5) : isX ⟨p, 2, 2, 2, stra (p - 1)⟩ = true := by
  rcases hp with rfl | rfl | rfl <;> decide
theorem byt_isX {x : Sch} (hx : isX x = true) (hw : Wid 27 x.ps) (hb : ∀ q ∈ x.ps, ∀ j, j < 27 → 0 ≤ q.getD j 0) : Byt 27 x.ps := by
  obtain ⟨z, hp, _, ho⟩ := isX_facts hx
  have zp := z.p
  intro i hi j hj
  have hm : x.ps.getD i [] ∈ x.ps := by
    rw [List.getD_eq_getElem?_getD, List.getElem?_eq_getElem hi]
    exact List.getElem_mem _
  refine ⟨hb _ hm j hj, ?_⟩
  have h1 := ho i hi
  unfold okProd at h1
  simp only [Bool.and_eq_true] at h1
  have at9 : ∀ s, s < 3 → ∀ l, l < 9 → (seg (x.ps.getD i []) s).getD l 0 < x.p := fun s hs l hl => by
    have : s = 0 ∨ s = 1 ∨ s = 2 := by omega
    rcases this with rfl | rfl | rfl
    · exact (okForm_at h1.1.1.1 hl).1
    · exact (okForm_at h1.1.1.2 hl).1
    · exact (okForm_at h1.1.2 hl).1
  have h2 := at9 (j / 9) (by omega) (j % 9) (by omega)
  have e : (seg (x.ps.getD i []) (j / 9)).getD (j % 9) 0 = (x.ps.getD i []).getD j 0 := by
    unfold seg
    rw [cut_get (by omega)]
    congr 1
    omega
  rw [e] at h2
  omega
theorem std_isX {p n m k : Int} (hp : p = 2 ∨ p = 3 ∨ p = 5) (hn : n = 1 ∨ n = 2 ∨ n = 3) (hm : m = 1 ∨ m = 2 ∨ m = 3) (hk : k = 1 ∨ k = 2 ∨ k = 3) : isX (stdX p n m k) = true := by
  rcases hp with rfl | rfl | rfl <;> rcases hn with rfl | rfl | rfl <;> rcases hm with rfl | rfl | rfl <;> rcases hk with rfl | rfl | rfl <;> decide +kernel
end Go.Proofs.Ytapafdpnmakekaa.X

set_option linter.unusedVariables false
set_option linter.unusedSimpArgs false
set_option maxRecDepth 20000
set_option maxHeartbeats 4000000
namespace Go.Proofs.Ytapafdpnmakekaa.X
open Go Go.RowKit
theorem By.nn {w : Nat} {q : List Int} (h : By w q) : ∀ j, j < w → 0 ≤ q.getD j 0 := fun j hj => (h.2 j hj).1
structure DL (x : Sch) (L : List (List Int)) : Prop where
  w : Wid 27 L
  by' : ∀ q ∈ L, By 27 q
  ok : ∀ q ∈ L, okProd x q = true
theorem DL.nil {x : Sch} : DL x [] := ⟨fun q h => by simp at h, fun q h => by simp at h, fun q h => by simp at h⟩
theorem DL.snoc {x : Sch} {L : List (List Int)} {q : List Int} (d : DL x L) (hb : By 27 q) (ho : okProd x q = true) : DL x (L ++ [q]) := by
  refine ⟨fun r h => ?_, fun r h => ?_, fun r h => ?_⟩ <;> rcases List.mem_append.1 h with h | h
  · exact d.w r h
  · rw [List.mem_singleton.1 h]; exact hb.1
  · exact d.by' r h
  · rw [List.mem_singleton.1 h]; exact hb
  · exact d.ok r h
  · rw [List.mem_singleton.1 h]; exact ho
theorem DL.byt {x : Sch} {L : List (List Int)} (d : DL x L) : Byt 27 L := fun i hi j hj => by
  have hm : L.getD i [] ∈ L := by
    rw [List.getD_eq_getElem?_getD, List.getElem?_eq_getElem hi]
    exact List.getElem_mem _
  exact (d.by' _ hm).2 j hj
theorem DL.isX {x : Sch} (d : DL x x.ps) (hs : szX x = true) (hl : x.ps.length ≤ 30) : isX x = true := by
  unfold X.isX
  rw [hs, decide_eq_true hl]
  simp only [Bool.true_and]
  exact List.all_eq_true.2 d.ok
def SchD (lo : Nat) (h : AH) (v : Value) (x : Sch) : Prop := KN lo h fun h' => Prods h' v x.ps
theorem zrep27 : zrep 1 [.int .u8 0, .int .u8 0, .int .u8 0, .int .u8 0, .int .u8 0, .int .u8 0, .int .u8 0, .int .u8 0, .int .u8 0, .int .u8 0, .int .u8 0, .int .u8 0, .int .u8 0, .int .u8 0, .int .u8 0, .int .u8 0, .int .u8 0, .int .u8 0, .int .u8 0, .int .u8 0, .int .u8 0, .int .u8 0, .int .u8 0, .int .u8 0, .int .u8 0, .int .u8 0, .int .u8 0] = cel .u8 (List.replicate 27 0) := rfl
theorem sp27z {q : List Int} (hq : q.length = 27) : splice (cel .u8 (List.replicate 27 0)) 0 (cel .u8 q) = cel .u8 q := splice_27 hq
theorem s_l01Draw {h0 h : AH} {n : Nat} {Q : Value → AH → Prop} (s : Src h0 h n)
    (hQ : ∀ x v h', Kp n h h' → Src h0 h' n → SchD h.length h' v x → X.isX x = true → Q (schV x v) h') : WF S 266 [srcP n] h Q := by
  refine WF_fn (fn := c266) rfl rfl ?_
  unfold c266
  have lt := s.lt
  have l0 := pre_len s.p
  ((try simp (maxSteps := 3000000) (dsimp := false) (disch := first | omega | (simp only [len_new, len_put, len_kill]; omega)) only [↓ypre, ypost, ↓reduceIte, Nat.reduceEqDiff, Nat.reduceAdd, Nat.reduceSub, Nat.reduceLeDiff, Nat.zero_add, Nat.sub_zero, ynew]); try simp only [yback])
  generalize hH1 : AH.new h _ = H1
  obtain ⟨hb1, p1, n1⟩ := new_facts hH1
  refine s_l01DrawSizes (s.kp p1) fun p a b c nb H2 k2 s2 hnb gnb hp ha hb hc => ?_
  have g1 := k2.get (by omega) hb1
  ((try simp (maxSteps := 3000000) (dsimp := false) (disch := first | omega | (simp only [len_new, len_put, len_kill]; omega)) only [↓ypre, ypost, ↓reduceIte, Nat.reduceEqDiff, Nat.reduceAdd, Nat.reduceSub, Nat.reduceLeDiff, Nat.zero_add, Nat.sub_zero, ynew, schV, one_slice]); try simp only [yback])
  generalize hH3 : AH.new H2 _ = H3
  obtain ⟨hb3, p3, n3⟩ := new_facts hH3
  have k3 : Kp n h H3 := (Kp.of p1).trans (k2.trans (Kp.of p3))
  have l2 := k2.len
  have szx : szX ⟨p, a, b, c, []⟩ = true := by
    unfold szX
    rw [isP_of hp, sz_of ha, sz_of hb, sz_of hc]
    rfl
  have z := szX_facts szx
  have zp := z.p
  ((try simp (maxSteps := 3000000) (dsimp := false) (disch := first | omega | (simp only [len_new, len_put, len_kill]; omega)) only [↓ypre, ypost, ↓reduceIte, Nat.reduceEqDiff, Nat.reduceAdd, Nat.reduceSub, Nat.reduceLeDiff, Nat.zero_add, Nat.sub_zero, ynew]); try simp only [yback])
  refine s_l01Next (s2.kp p3) fun r H4 k4 l4 s4 hr _ => ?_
  have g1 := k4.get (by omega) (pre_get p3 g1)
  have g3 := k4.get (by omega) hb3
  have gn := k4.get (by omega) (pre_get p3 gnb)
  have fin : ∀ (x : Sch) (v : Value) (h' : AH), Kp n h h' → Src h0 h' n → SchD h.length (h'.put h.length ⟨[I64 x.p, I64 x.n, I64 x.m, I64 x.k, v], 26, false, true⟩) v x → X.isX x = true →
      Q (schV x v) (h'.put h.length ⟨[I64 x.p, I64 x.n, I64 x.m, I64 x.k, v], 26, false, true⟩) := fun x v h' kk ss sd hx =>
    hQ x v _ (kk.putb (Nat.le_refl _)) (ss.putb (by omega) (by omega)) sd hx
  have k4' := k3.trans k4
  by_cases r0 : r = 0
  · ((try simp (maxSteps := 3000000) (dsimp := false) (disch := first | omega | (simp only [len_new, len_put, len_kill]; omega)) only [↓ypre, ypost, ↓reduceIte, Nat.reduceEqDiff, Nat.reduceAdd, Nat.reduceSub, Nat.reduceLeDiff, Nat.zero_add, Nat.sub_zero, ynew, decide_eq_true r0, rd1_of g3]); try simp only [yback])
    refine s_l01Strassen zp fun m H5 p5 hm gm => ?_
    have g1 := pre_get p5 g1
    have lg := get_lt g1
    ((try simp (maxSteps := 3000000) (dsimp := false) (disch := first | omega | (simp only [len_new, len_put, len_kill]; omega)) only [↓ypre, ypost, ↓reduceIte, Nat.reduceEqDiff, Nat.reduceAdd, Nat.reduceSub, Nat.reduceLeDiff, Nat.zero_add, Nat.sub_zero, ynew, schV, wr_of g1, splice_eq, rdn_put_same]); try simp only [yback])
    have l5 := pre_len p5
    exact fin ⟨p, 2, 2, 2, stra (p - 1)⟩ _ H5 (k4'.trans (Kp.of p5)) (s4.kp p5) (fun h' d d' => ⟨blk_kN (L := stra (p - 1)) (by rw [get_put_ne (by omega)]; exact gm) stra_wid (by omega) h' d d',
      byt_isX (x := ⟨p, 2, 2, 2, stra (p - 1)⟩) (stra_isX hp) stra_wid (fun q hq j hj => by
        simp only [stra, List.mem_cons, List.not_mem_nil, or_false] at hq
        have : ∀ l : List Int, (∀ x ∈ l, 0 ≤ x) → 0 ≤ l.getD j 0 := fun l hl => by
          by_cases hj : j < l.length
          · rw [List.getD_eq_getElem?_getD, List.getElem?_eq_getElem hj]
            exact hl _ (List.getElem_mem _)
          · rw [List.getD_eq_getElem?_getD, List.getElem?_eq_none (by omega)]
            exact Int.le_refl _
        refine this q ?_
        rcases hq with rfl | rfl | rfl | rfl | rfl | rfl | rfl <;> intro x hx <;> simp only [List.mem_cons, List.not_mem_nil, or_false] at hx <;> omega)⟩) (stra_isX hp)
  by_cases r1 : r = 1
  · ((try simp (maxSteps := 3000000) (dsimp := false) (disch := first | omega | (simp only [len_new, len_put, len_kill]; omega)) only [↓ypre, ypost, ↓reduceIte, Nat.reduceEqDiff, Nat.reduceAdd, Nat.reduceSub, Nat.reduceLeDiff, Nat.zero_add, Nat.sub_zero, ynew, decide_eq_false r0, decide_eq_true r1, rd1_of g3]); try simp only [yback])
    refine s_l01Standard (szX_facts (x := stdX p a b c) szx) fun v H5 p5 o5 => ?_
    have g1 := pre_get p5 g1
    have lg := get_lt g1
    have l5 := pre_len p5
    ((try simp (maxSteps := 3000000) (dsimp := false) (disch := first | omega | (simp only [len_new, len_put, len_kill]; omega)) only [↓ypre, ypost, ↓reduceIte, Nat.reduceEqDiff, Nat.reduceAdd, Nat.reduceSub, Nat.reduceLeDiff, Nat.zero_add, Nat.sub_zero, ynew, schV, o5.rd.one, wr_of g1, splice_eq, rdn_put_same]); try simp only [yback])
    have o6 : InX H4.length H5.length (AH.put H5 h.length ⟨[I64 p, I64 a, I64 b, I64 c, v], 26, false, true⟩) v (stdX p a b c).ps := ⟨o5.1.putb (by omega), o5.2⟩
    exact fin (stdX p a b c) v H5 (k4'.trans (Kp.of p5)) (s4.kp p5) (fun h' d d' => ⟨o6.1.kN (by omega) h' d d', o6.2⟩) (std_isX hp ha hb hc)
  ((try simp (maxSteps := 3000000) (dsimp := false) (disch := first | omega | (simp only [len_new, len_put, len_kill]; omega)) only [↓ypre, ypost, ↓reduceIte, Nat.reduceEqDiff, Nat.reduceAdd, Nat.reduceSub, Nat.reduceLeDiff, Nat.zero_add, Nat.sub_zero, ynew, decide_eq_false r0, decide_eq_false r1]); try simp only [yback])
  refine s_l01Next s4 fun N H5 k5 l5 s5 hN _ => ?_
  have hN := hN (by omega)
  have g1 := k5.get (by omega) g1
  have g3 := k5.get (by omega) g3
  have gn := k5.get (by omega) gn
  obtain ⟨M, rfl⟩ : ∃ M : Nat, N = M := ⟨N.toNat, by omega⟩
  ((try simp (maxSteps := 3000000) (dsimp := false) (disch := first | omega | (simp only [len_new, len_put, len_kill]; omega)) only [↓ypre, ypost, ↓reduceIte, Nat.reduceEqDiff, Nat.reduceAdd, Nat.reduceSub, Nat.reduceLeDiff, Nat.zero_add, Nat.sub_zero, ynew]); try simp only [yback])
  refine WC_loop_inv (fun m f K1 => ∃ (i : Nat) (L : List (List Int)) (b2 : Nat) (fu : Bool), m = M - i ∧ i ≤ M ∧ f 0 = srcP n ∧ f 2 = .pointer (some ⟨h.length, 0, none⟩) ∧ f 3 = .pointer (some ⟨H2.length, 0, none⟩) ∧ f 4 = I64 ((M - i : Nat) : Int) ∧ (Kp n h K1) ∧ (Src h0 K1 n) ∧ (L.length = i) ∧ (DL ⟨p, a, b, c, []⟩ L) ∧ (h.length < b2 ∧ b2 ≠ H2.length ∧ b2 ≠ n) ∧ (K1.get h.length = some ⟨[.int .i64 0, .int .i64 0, .int .i64 0, .int .i64 0, .slice none 0 0], 26, false, true⟩) ∧ (K1.get H2.length = some ⟨[I64 p, I64 a, I64 b, I64 c, .slice (some ⟨b2, 0, none⟩) L.length 27], 26, false, true⟩) ∧ (K1.get b2 = some ⟨cel .u8 L.flatten, 138, false, fu⟩)) ?_ (M - 0) _ _ ⟨0, [], nb, true, rfl, by omega, (by first | rfl | simp [upd_apply]), (by first | rfl | simp [upd_apply]), (by first | rfl | simp [upd_apply]), (by first | rfl | simp [upd_apply]), k4'.trans k5, s5, rfl, DL.nil, (by have := get_lt gnb; omega), g1, g3, gn⟩
  rintro m f K1 ⟨i, L, b2, fu, rfl, hi, f0, f2, f3, f4, kk, ss, li, dl, hb2, q1, q3, qn⟩
  by_cases hlt : (0 : Int) < ((M - i : Nat) : Int)
  · ((try simp (maxSteps := 3000000) (dsimp := false) (disch := first | omega | (simp only [len_new, len_put, len_kill]; omega)) only [↓ypre, ypost, ↓reduceIte, Nat.reduceEqDiff, Nat.reduceAdd, Nat.reduceSub, Nat.reduceLeDiff, Nat.zero_add, Nat.sub_zero, ynew, f0, f2, f3, f4, decide_eq_true hlt, rd1_of q3, rdn_of q3, List.length_cons, List.length_nil, List.drop_zero, List.take_succ_cons, List.take_nil]); try simp only [yback])
    refine ⟨by omega, ?_⟩
    refine s_l01DrawOf ss (x := ⟨p, a, b, c, []⟩) z rfl fun q H6 k6 s6 hq oq => ?_
    have q1 := k6.get (by omega) q1
    have q3 := k6.get (by omega) q3
    have qn := k6.get (by omega) qn
    have lq6 := get_lt q3
    have ln6 := s6.lt
    have lh6 := get_lt q1
    refine ⟨⟨n, rfl, k6⟩, ?_⟩
    ((try simp (maxSteps := 3000000) (dsimp := false) (disch := first | omega | (simp only [len_new, len_put, len_kill]; omega)) only [↓ypre, ypost, ↓reduceIte, Nat.reduceEqDiff, Nat.reduceAdd, Nat.reduceSub, Nat.reduceLeDiff, Nat.zero_add, Nat.sub_zero, ynew, f0, f2, f3, f4, aggV, zrep27, hq.1, cel_len, sp27z, List.append_nil, cel_all]); try simp only [yback])
    refine app_kp (bytes := 27) qn dl.w hq.1 (by omega) (by omega) fun H7 l7 k7 q7 w7 => ?_
    have q1 := k7.get (by omega) q1
    have q3 := k7.get (by omega) q3
    ((try simp (maxSteps := 3000000) (dsimp := false) (disch := first | omega | (simp only [len_new, len_put, len_kill]; omega)) only [↓ypre, ypost, ↓reduceIte, Nat.reduceEqDiff, Nat.reduceAdd, Nat.reduceSub, Nat.reduceLeDiff, Nat.zero_add, Nat.sub_zero, ynew, f0, f2, f3, f4, wr_of q3, splice_eq, wrap64_in]); try simp only [yback])
    have lt6 := s6.lt
    have lq3 := get_lt q3
    refine InvQ_go (M - (i + 1)) (by omega) ⟨(i + 1), (L ++ [q]), (H6.length + 1), false, rfl, by omega, (by first | rfl | exact f0 | (simp only [upd_apply]; rfl) | (show I64 _ = _; congr 1; omega)), (by first | rfl | exact f2 | (simp only [upd_apply]; rfl) | (show I64 _ = _; congr 1; omega)), (by first | rfl | exact f3 | (simp only [upd_apply]; rfl) | (show I64 _ = _; congr 1; omega)), (by first | rfl | exact f4 | (simp only [upd_apply]; rfl) | (show I64 _ = _; congr 1; omega)), (Kp.putb (m := H2.length) ((kk.trans k6).over k7 (by omega)) (by omega)), (Src.putb (m := H2.length) (s6.over k7 (by omega) (by omega)) (by omega) (by omega)), (by rw [List.length_append, li]; rfl), (dl.snoc hq oq), (by have := k6.len; have := kk.len; omega), (by rw [get_put_ne (by omega)]; exact q1), (by rw [get_put_same (by omega), List.length_append]; rfl), (by rw [get_put_ne (by omega)]; exact q7)⟩
  · ((try simp (maxSteps := 3000000) (dsimp := false) (disch := first | omega | (simp only [len_new, len_put, len_kill]; omega)) only [↓ypre, ypost, ↓reduceIte, Nat.reduceEqDiff, Nat.reduceAdd, Nat.reduceSub, Nat.reduceLeDiff, Nat.zero_add, Nat.sub_zero, ynew, f0, f2, f3, f4, decide_eq_false hlt]); try simp only [yback])
    have lg := get_lt q1
    ((try simp (maxSteps := 3000000) (dsimp := false) (disch := first | omega | (simp only [len_new, len_put, len_kill]; omega)) only [↓ypre, ypost, ↓reduceIte, Nat.reduceEqDiff, Nat.reduceAdd, Nat.reduceSub, Nat.reduceLeDiff, Nat.zero_add, Nat.sub_zero, ynew, f0, f2, f3, f4, rdn_of q3, wr_of q1, splice_eq, rdn_put_same]); try simp only [yback])
    exact fin ⟨p, a, b, c, L⟩ _ K1 kk ss (fun h' d d' => ⟨blk_kN (L := L) (by rw [get_put_ne (by omega)]; exact qn) dl.w (by omega) h' d d', dl.byt⟩) (DL.isX (x := ⟨p, a, b, c, L⟩) ⟨dl.w, dl.by', dl.ok⟩ szx (by show L.length ≤ 30; omega))
end Go.Proofs.Ytapafdpnmakekaa.X

set_option linter.unusedVariables false
set_option linter.unusedSimpArgs false
set_option maxRecDepth 20000
set_option maxHeartbeats 4000000
namespace Go.Proofs.Ytapafdpnmakekaa.X
def sm : Nat → (Nat → Int) → Int
  | 0, _ => 0
  | n + 1, f => sm n f + f n
theorem sm_ext {f g : Nat → Int} : ∀ {n : Nat}, (∀ i, i < n → f i = g i) → sm n f = sm n g
  | 0, _ => rfl
  | n + 1, h => by rw [sm, sm, sm_ext (fun i hi => h i (by omega)), h n (by omega)]
theorem sm_zero {n : Nat} : sm n (fun _ => 0) = 0 := by
  induction n with
  | zero => rfl
  | succ n ih => rw [sm, ih]; rfl
theorem sm_zero' {f : Nat → Int} {n : Nat} (h : ∀ i, i < n → f i = 0) : sm n f = 0 := by rw [sm_ext h, sm_zero]
theorem sm_add {f g : Nat → Int} {n : Nat} : sm n (fun i => f i + g i) = sm n f + sm n g := by
  induction n with
  | zero => rfl
  | succ n ih => simp only [sm, ih]; omega
theorem sm_mul {f : Nat → Int} {c : Int} {n : Nat} : sm n (fun i => c * f i) = c * sm n f := by
  induction n with
  | zero => simp [sm]
  | succ n ih => simp only [sm, ih, Int.mul_add]
theorem sm_mulr {f : Nat → Int} {c : Int} {n : Nat} : sm n (fun i => f i * c) = sm n f * c := by
  induction n with
  | zero => simp [sm]
  | succ n ih => simp only [sm, ih, Int.add_mul]
theorem sm_comm {f : Nat → Nat → Int} {n m : Nat} : sm n (fun i => sm m (fun j => f i j)) = sm m (fun j => sm n (fun i => f i j)) := by
  induction n with
  | zero => simp only [sm]; exact sm_zero.symm
  | succ n ih => simp only [sm, ih]; rw [← sm_add]
theorem sm_left {f : Nat → Int} {n : Nat} : sm (n + 1) f = f 0 + sm n (fun i => f (i + 1)) := by
  induction n with
  | zero => simp [sm]
  | succ n ih => rw [sm, ih, sm]; omega
theorem sm_split {f : Nat → Int} {n m : Nat} : sm (n + m) f = sm n f + sm m (fun i => f (n + i)) := by
  induction m with
  | zero => simp [sm]
  | succ m ih => rw [← Nat.add_assoc, sm, ih, sm]; omega
theorem sm_rows {f : Nat → Int} {n m : Nat} : sm (n * m) f = sm n (fun a => sm m (fun b => f (a * m + b))) := by
  induction n with
  | zero => simp [sm]
  | succ n ih => rw [Nat.succ_mul, sm_split, ih, sm]
theorem sm_delta {f : Nat → Int} {n a : Nat} (h : a < n) : sm n (fun i => if i = a then f i else 0) = f a := by
  induction n with
  | zero => omega
  | succ n ih =>
    rw [sm]
    by_cases e : a = n
    · subst e
      rw [if_pos rfl, sm_zero' (fun i hi => if_neg (by omega))]
      omega
    · rw [ih (by omega), if_neg (by omega)]
      omega
def Cg (p a b : Int) : Prop := p ∣ a - b
theorem Cg.rfl' {p a : Int} : Cg p a a := ⟨0, by omega⟩
theorem Cg.of {p a b : Int} (h : a = b) : Cg p a b := by subst h; exact .rfl'
theorem Cg.symm {p a b : Int} (h : Cg p a b) : Cg p b a := by
  obtain ⟨k, h⟩ := h
  exact ⟨-k, by rw [Int.mul_neg]; omega⟩
theorem Cg.trans {p a b c : Int} (h : Cg p a b) (g : Cg p b c) : Cg p a c := by
  obtain ⟨k, h⟩ := h
  obtain ⟨l, g⟩ := g
  exact ⟨k + l, by rw [Int.mul_add]; omega⟩
theorem Cg.add {p a b c d : Int} (h : Cg p a b) (g : Cg p c d) : Cg p (a + c) (b + d) := by
  obtain ⟨k, h⟩ := h
  obtain ⟨l, g⟩ := g
  exact ⟨k + l, by rw [Int.mul_add]; omega⟩
theorem Cg.mul {p a b c d : Int} (h : Cg p a b) (g : Cg p c d) : Cg p (a * c) (b * d) := by
  obtain ⟨k, h⟩ := h
  obtain ⟨l, g⟩ := g
  exact ⟨k * c + b * l, by grind⟩
theorem Cg.sm {p : Int} {f g : Nat → Int} : ∀ {n : Nat}, (∀ i, i < n → Cg p (f i) (g i)) → Cg p (sm n f) (sm n g)
  | 0, _ => .rfl'
  | n + 1, h => (Cg.sm fun i hi => h i (by omega)).add (h n (by omega))
def Fld (p : Int) : Prop := 2 ≤ p ∧ ∀ x, ¬ p ∣ x → ∃ w, Cg p (w * x) 1
def dl (a b : Nat) : Int := if a = b then 1 else 0
theorem dim_le {p : Int} (hp : Fld p) : ∀ (r s : Nat) (U V : Nat → Nat → Int), (∀ i j, i < s → j < s → Cg p (sm r fun k => U i k * V k j) (dl i j)) → s ≤ r
  | 0, 0, U, V, h => Nat.le_refl _
  | 0, s + 1, U, V, h => by
    have := h 0 0 (by omega) (by omega)
    obtain ⟨k, hk⟩ := this
    simp only [sm, dl, if_true] at hk
    have : p ∣ 1 := ⟨-k, by rw [Int.mul_neg]; omega⟩
    have := Int.le_of_dvd (by omega) this
    have := hp.1
    omega
  | r + 1, 0, U, V, h => by omega
  | r + 1, s + 1, U, V, h => by
    -- a place where the last row is not 0
    have h1 : ∃ k, k < r + 1 ∧ ¬ p ∣ U s k := by
      refine Classical.byContradiction fun hn => ?_
      have hz : ∀ k, k < r + 1 → p ∣ U s k := fun k hk => Classical.byContradiction fun hd => hn ⟨k, hk, hd⟩
      have h2 := h s s (by omega) (by omega)
      have h3 : Cg p (sm (r + 1) fun k => U s k * V k s) (sm (r + 1) fun _ => 0) := Cg.sm fun k hk => by
        obtain ⟨q, hq⟩ := hz k hk
        exact ⟨q * V k s, by rw [hq, ← Int.mul_assoc]; omega⟩
      rw [sm_zero] at h3
      have h4 := h3.symm.trans h2
      obtain ⟨k, hk⟩ := h4
      simp only [dl, if_true] at hk
      have h5 : p ∣ 1 := ⟨-k, by rw [Int.mul_neg]; omega⟩
      have := Int.le_of_dvd (by omega) h5
      have := hp.1
      omega
    obtain ⟨k0, hk0, hd⟩ := h1
    obtain ⟨w, hw⟩ := hp.2 _ hd
    -- the places without k0
    let nx : Nat → Nat := fun k => if k = k0 then r else k
    have hsum : ∀ (f : Nat → Int), sm (r + 1) f = sm r (fun k => f (nx k)) + f k0 := fun f => by
      by_cases e : k0 = r
      · subst e
        rw [sm, sm_ext (f := fun k => f (nx k)) (g := f) fun i hi => by show f (if i = k0 then k0 else i) = f i; rw [if_neg (by omega)]]
      · have e1 : sm r (fun k => f (nx k)) = sm r f + sm r (fun k => if k = k0 then f r - f k else 0) := by
          rw [← sm_add]
          refine sm_ext fun i hi => ?_
          show f (if i = k0 then r else i) = _
          by_cases e2 : i = k0
          · rw [if_pos e2, if_pos e2]; omega
          · rw [if_neg e2, if_neg e2]; omega
        rw [e1, sm_delta (f := fun k => f r - f k) (by omega), sm]
        show _ + f r = _ + (f r - f k0) + f k0
        omega
    refine Nat.succ_le_succ (dim_le hp r s (fun i k => U i (nx k) - U i k0 * w * U s (nx k)) (fun k j => V (nx k) j) fun i j hi hj => ?_)
    have a1 := h i j (by omega) (by omega)
    have a2 := h s j (by omega) (by omega)
    rw [hsum] at a1 a2
    have a3 : sm r (fun k => (U i (nx k) - U i k0 * w * U s (nx k)) * V (nx k) j) = sm r (fun k => U i (nx k) * V (nx k) j) + (- (U i k0 * w)) * sm r (fun k => U s (nx k) * V (nx k) j) := by
      rw [← sm_mul, ← sm_add]
      exact sm_ext fun k hk => by grind
    rw [a3]
    have e0 : dl s j = 0 := if_neg (by omega)
    rw [e0] at a2
    generalize sm r (fun k => U i (nx k) * V (nx k) j) = x1 at *
    generalize sm r (fun k => U s (nx k) * V (nx k) j) = x2 at *
    obtain ⟨q1, a1⟩ := a1
    obtain ⟨q2, a2⟩ := a2
    obtain ⟨q3, hw⟩ := hw
    exact ⟨q1 - U i k0 * w * q2 + U i k0 * V k0 j * q3, by grind⟩
structure Rk (p : Int) (A : Nat → Nat → Int) (n w R : Nat) : Prop where
  up : ∃ X Y : Nat → Nat → Int, ∀ i j, i < n → j < w → Cg p (A i j) (sm R fun r => X i r * Y r j)
  lo : ∃ P Q : Nat → Nat → Int, ∀ a b, a < R → b < R → Cg p (sm n fun i => sm w fun j => P a i * A i j * Q j b) (dl a b)
theorem Rk.nil {p : Int} {A : Nat → Nat → Int} {n : Nat} : Rk p A n 0 0 :=
  ⟨⟨fun _ _ => 0, fun _ _ => 0, fun _ _ _ h => by omega⟩, ⟨fun _ _ => 0, fun _ _ => 0, fun _ _ h => by omega⟩⟩
theorem Rk.none {p : Int} {A : Nat → Nat → Int} {w : Nat} : Rk p A 0 w 0 :=
  ⟨⟨fun _ _ => 0, fun _ _ => 0, fun _ _ h => by omega⟩, ⟨fun _ _ => 0, fun _ _ => 0, fun _ _ h => by omega⟩⟩
theorem Rk.pivot {p : Int} {A B : Nat → Nat → Int} {n w R : Nat} (hp : Fld p) (h : Rk p B n w R) (hs : ¬ p ∣ A 0 0) (hz : ∀ i, i < n → Cg p (A (i + 1) 0) 0) (hB : ∀ i j, i < n → j < w → B i j = A (i + 1) (j + 1)) : Rk p A (n + 1) (w + 1) (R + 1) := by
  obtain ⟨⟨X, Y, hu⟩, ⟨P, Q, hl⟩⟩ := h
  obtain ⟨s', hw⟩ := hp.2 _ hs
  refine ⟨⟨fun i r => if r = 0 then (if i = 0 then 1 else 0) else (if i = 0 then 0 else X (i - 1) (r - 1)), fun r j => if r = 0 then A 0 j else if j = 0 then 0 else Y (r - 1) (j - 1), fun i j hi hj => ?_⟩,
    ⟨fun a i => if a = 0 then (if i = 0 then s' else 0) else (if i = 0 then 0 else P (a - 1) (i - 1)),
     fun j b => if b = 0 then (if j = 0 then 1 else 0) else (if j = 0 then - (s' * sm w fun l => A 0 (l + 1) * Q l (b - 1)) else Q (j - 1) (b - 1)), fun a b ha hb => ?_⟩⟩
  · rw [sm_left]
    simp only [if_true, Nat.add_sub_cancel, Nat.succ_ne_zero, if_false, Nat.add_one_ne_zero]
    cases i with
    | zero =>
      simp only [if_true]
      rw [sm_zero' fun r _ => by simp]
      exact .of (by omega)
    | succ i =>
      simp only [Nat.succ_ne_zero, if_false, Nat.add_sub_cancel, Nat.add_one_ne_zero]
      cases j with
      | zero =>
        refine (hz i (by omega)).trans (.of ?_)
        rw [sm_zero' fun r _ => by simp]
        omega
      | succ j =>
        have := hu i j (by omega) (by omega)
        rw [hB i j (by omega) (by omega)] at this
        refine this.trans (.of ?_)
        simp only [Nat.succ_ne_zero, if_false, Nat.add_sub_cancel, Nat.add_one_ne_zero, Int.zero_mul, Int.zero_add]
  · rw [sm_left]
    simp only [if_true, Nat.add_sub_cancel, Nat.succ_ne_zero, if_false, Nat.add_one_ne_zero]
    cases a with
    | zero =>
      simp only [if_true, Int.zero_mul, sm_zero, Int.add_zero]
      rw [sm_left]
      simp only [if_true, Nat.add_sub_cancel, Nat.succ_ne_zero, if_false, Nat.add_one_ne_zero]
      cases b with
      | zero =>
        simp only [if_true, Int.mul_zero, sm_zero, Int.add_zero, Int.mul_one]
        exact hw
      | succ b =>
        simp only [Nat.succ_ne_zero, if_false, Nat.add_sub_cancel, Nat.add_one_ne_zero]
        have e : (sm w fun i => s' * A 0 (i + 1) * Q i b) = s' * sm w fun l => A 0 (l + 1) * Q l b := by
          rw [← sm_mul]
          exact sm_ext fun l _ => Int.mul_assoc _ _ _
        rw [e]
        have e0 : dl 0 (b + 1) = 0 := if_neg (by omega)
        rw [e0]
        generalize (sm w fun l => A 0 (l + 1) * Q l b) = z
        obtain ⟨q, hq⟩ := hw
        exact ⟨- (s' * z) * q, by grind⟩
    | succ a =>
      simp only [Nat.succ_ne_zero, if_false, Nat.add_sub_cancel, Nat.add_one_ne_zero, Int.zero_mul, sm_zero, Int.zero_add]
      cases b with
      | zero =>
        have e0 : dl (a + 1) 0 = 0 := if_neg (by omega)
        rw [e0]
        have : Cg p (sm n fun i => sm (w + 1) fun j => P a i * A (i + 1) j * if j = 0 then 1 else 0) (sm n fun i => 0) := Cg.sm fun i hi => by
          rw [sm_left]
          simp only [if_true, Nat.succ_ne_zero, if_false, Nat.add_one_ne_zero, Int.mul_zero, sm_zero, Int.add_zero, Int.mul_one]
          have := (Cg.rfl' (a := P a i)).mul (hz i hi)
          rwa [Int.mul_zero] at this
        rw [sm_zero] at this
        simpa using this
      | succ b =>
        have e0 : dl (a + 1) (b + 1) = dl a b := by simp [dl]
        rw [e0]
        simp only [Nat.succ_ne_zero, if_false, Nat.add_sub_cancel, Nat.add_one_ne_zero]
        refine Cg.trans ?_ (hl a b (by omega) (by omega))
        refine Cg.sm fun i hi => ?_
        rw [sm_left]
        simp only [if_true, Nat.succ_ne_zero, if_false, Nat.add_sub_cancel, Nat.add_one_ne_zero]
        have e1 : (sm w fun j => P a i * B i j * Q j b) = sm w fun j => P a i * A (i + 1) (j + 1) * Q j b := sm_ext fun j hj => by rw [hB i j hi hj]
        rw [e1]
        have z := hz i hi
        generalize (sm w fun j => P a i * A (i + 1) (j + 1) * Q j b) = y
        generalize (sm w fun l => A 0 (l + 1) * Q l b) = x
        obtain ⟨q, hq⟩ := z
        exact ⟨- (P a i * s' * x) * q, by grind⟩
theorem Rk.rows {p : Int} {A B : Nat → Nat → Int} {n w R : Nat} (h : Rk p B n w R) (G H : Nat → Nat → Int) (hG : ∀ l j, l < n → j < w → Cg p (B l j) (sm n fun i => G l i * A i j)) (hH : ∀ i j, i < n → j < w → Cg p (A i j) (sm n fun l => H i l * B l j)) : Rk p A n w R := by
  obtain ⟨⟨X, Y, hu⟩, ⟨P, Q, hl⟩⟩ := h
  refine ⟨⟨fun i r => sm n fun l => H i l * X l r, Y, fun i j hi hj => ?_⟩, ⟨fun a i => sm n fun l => P a l * G l i, Q, fun a b ha hb => ?_⟩⟩
  · refine (hH i j hi hj).trans ?_
    have h1 : Cg p (sm n fun l => H i l * B l j) (sm n fun l => H i l * sm R fun r => X l r * Y r j) := Cg.sm fun l hl' => Cg.rfl'.mul (hu l j hl' hj)
    refine h1.trans (.of ?_)
    have h2 : (sm n fun l => H i l * sm R fun r => X l r * Y r j) = sm n fun l => sm R fun r => H i l * X l r * Y r j := sm_ext fun l _ => by
      rw [← sm_mul]
      exact sm_ext fun r _ => (Int.mul_assoc _ _ _).symm
    rw [h2, sm_comm]
    exact sm_ext fun r _ => sm_mulr
  · refine Cg.trans ?_ (hl a b ha hb)
    have h1 : Cg p (sm n fun l => sm w fun j => P a l * B l j * Q j b) (sm n fun l => sm w fun j => P a l * (sm n fun i => G l i * A i j) * Q j b) :=
      Cg.sm fun l hl' => Cg.sm fun j hj => (Cg.rfl'.mul (hG l j hl' hj)).mul .rfl'
    refine Cg.trans (.of ?_) h1.symm
    have h2 : (sm n fun i => sm w fun j => (sm n fun l => P a l * G l i) * A i j * Q j b) = sm n fun i => sm w fun j => sm n fun l => P a l * G l i * A i j * Q j b := sm_ext fun i _ => sm_ext fun j _ => by
      rw [← sm_mulr, ← sm_mulr]
    have h3 : (sm n fun l => sm w fun j => P a l * (sm n fun i => G l i * A i j) * Q j b) = sm n fun l => sm w fun j => sm n fun i => P a l * G l i * A i j * Q j b := sm_ext fun l _ => sm_ext fun j _ => by
      rw [← sm_mul, ← sm_mulr]
      exact sm_ext fun i _ => by grind
    rw [h2, h3]
    have h4 : (sm n fun i => sm w fun j => sm n fun l => P a l * G l i * A i j * Q j b) = sm n fun i => sm n fun l => sm w fun j => P a l * G l i * A i j * Q j b := sm_ext fun i _ => sm_comm
    have h5 : (sm n fun l => sm w fun j => sm n fun i => P a l * G l i * A i j * Q j b) = sm n fun l => sm n fun i => sm w fun j => P a l * G l i * A i j * Q j b := sm_ext fun l _ => sm_comm
    rw [h4, h5]
    exact sm_comm
structure Rk3 (p : Int) (T : Nat → Nat → Nat → Int) (I J K R : Nat) : Prop where
  up : ∃ (X : Nat → Nat → Int) (Y : Nat → Nat → Nat → Int), ∀ i j k, i < I → j < J → k < K → Cg p (T i j k) (sm R fun r => X i r * Y r j k)
  lo : ∃ (P : Nat → Nat → Int) (Q : Nat → Nat → Nat → Int), ∀ a b, a < R → b < R → Cg p (sm I fun i => sm J fun j => sm K fun k => P a i * T i j k * Q j k b) (dl a b)
theorem lin_lt {j k J K : Nat} (hj : j < J) (hk : k < K) : j * K + k < J * K := by
  have := Nat.mul_le_mul_right K (show j + 1 ≤ J from hj)
  rw [Nat.succ_mul] at this
  omega
theorem Rk.three {p : Int} {A : Nat → Nat → Int} {T : Nat → Nat → Nat → Int} {I J K R : Nat} (h : Rk p A I (J * K) R) (hT : ∀ i j k, i < I → j < J → k < K → T i j k = A i (j * K + k)) : Rk3 p T I J K R := by
  obtain ⟨⟨X, Y, hu⟩, ⟨P, Q, hl⟩⟩ := h
  refine ⟨⟨X, fun r j k => Y r (j * K + k), fun i j k hi hj hk => ?_⟩, ⟨P, fun j k b => Q (j * K + k) b, fun a b ha hb => ?_⟩⟩
  · rw [hT i j k hi hj hk]
    exact hu i _ hi (lin_lt hj hk)
  · refine Cg.trans (.of ?_) (hl a b ha hb)
    refine sm_ext fun i hi => ?_
    rw [sm_rows]
    exact sm_ext fun j hj => sm_ext fun k hk => by rw [hT i j k hi hj hk]
theorem Rk3.le {p : Int} {T : Nat → Nat → Nat → Int} {I J K R S : Nat} (hp : Fld p) (h : Rk3 p T I J K R) {X : Nat → Nat → Int} {Y : Nat → Nat → Nat → Int} (hu : ∀ i j k, i < I → j < J → k < K → Cg p (T i j k) (sm S fun r => X i r * Y r j k)) : R ≤ S := by
  obtain ⟨_, ⟨P, Q, hl⟩⟩ := h
  refine dim_le hp S R (fun a r => sm I fun i => P a i * X i r) (fun r b => sm J fun j => sm K fun k => Y r j k * Q j k b) fun a b ha hb => ?_
  refine Cg.trans ?_ (hl a b ha hb)
  have h1 : Cg p (sm I fun i => sm J fun j => sm K fun k => P a i * T i j k * Q j k b) (sm I fun i => sm J fun j => sm K fun k => P a i * (sm S fun r => X i r * Y r j k) * Q j k b) :=
    Cg.sm fun i hi => Cg.sm fun j hj => Cg.sm fun k hk => (Cg.rfl'.mul (hu i j k hi hj hk)).mul .rfl'
  refine Cg.trans (.of ?_) h1.symm
  have h2 : (sm I fun i => sm J fun j => sm K fun k => P a i * (sm S fun r => X i r * Y r j k) * Q j k b) = sm I fun i => sm S fun r => sm J fun j => sm K fun k => P a i * X i r * (Y r j k * Q j k b) := sm_ext fun i _ => by
    rw [sm_comm (n := S)]
    refine sm_ext fun j _ => ?_
    rw [sm_comm (n := S)]
    refine sm_ext fun k _ => ?_
    rw [← sm_mul, ← sm_mulr]
    exact sm_ext fun r _ => by grind
  rw [h2, sm_comm (n := I)]
  refine sm_ext fun r _ => ?_
  rw [← sm_mulr]
  refine sm_ext fun i _ => ?_
  rw [← sm_mul]
  refine sm_ext fun j _ => ?_
  rw [← sm_mul]
theorem Rk3.eq {p : Int} {T : Nat → Nat → Nat → Int} {I J K R S : Nat} (hp : Fld p) (h : Rk3 p T I J K R) (g : Rk3 p T I J K S) : R = S := by
  obtain ⟨X, Y, hu⟩ := h.up
  obtain ⟨X', Y', hu'⟩ := g.up
  exact Nat.le_antisymm (h.le hp hu') (g.le hp hu)
theorem Rk3.add {p : Int} {T A B : Nat → Nat → Nat → Int} {c : Int} {I J K R a b : Nat} (hp : Fld p) (h : Rk3 p T I J K R) (hA : Rk3 p A I J K a) (hB : Rk3 p B I J K b) (e : ∀ i j k, i < I → j < J → k < K → Cg p (T i j k) (A i j k + c * B i j k)) : R ≤ a + b := by
  obtain ⟨X, Y, hu⟩ := hA.up
  obtain ⟨X', Y', hu'⟩ := hB.up
  refine h.le hp (X := fun i r => if r < a then X i r else X' i (r - a)) (Y := fun r j k => if r < a then Y r j k else c * Y' (r - a) j k) fun i j k hi hj hk => ?_
  refine (e i j k hi hj hk).trans (((hu i j k hi hj hk).add (Cg.rfl'.mul (hu' i j k hi hj hk))).trans (.of ?_))
  rw [sm_split, ← sm_mul]
  congr 1
  · exact sm_ext fun r hr => by rw [if_pos hr, if_pos hr]
  · exact sm_ext fun r hr => by rw [if_neg (by omega), if_neg (by omega), Nat.add_sub_cancel_left]; grind
end Go.Proofs.Ytapafdpnmakekaa.X

set_option linter.unusedVariables false
set_option linter.unusedSimpArgs false
set_option maxRecDepth 20000
set_option maxHeartbeats 4000000
namespace Go.Proofs.Ytapafdpnmakekaa.X
open Go Go.RowKit
theorem tmod_dvd (x p : Int) : p ∣ x - x.tmod p := ⟨x.tdiv p, by have := Int.mul_tdiv_add_tmod x p; omega⟩
theorem dvd_small {p x : Int} (h : p ∣ x) (h0 : 0 ≤ x ∧ x < p) : x = 0 := by
  have := Int.emod_eq_zero_of_dvd h
  rw [Int.emod_eq_of_lt h0.1 h0.2] at this
  exact this
theorem dvd_eq {p x y : Int} (h : p ∣ x - y) (hx : 0 ≤ x ∧ x < p) (hy : 0 ≤ y ∧ y < p) : x = y := by
  by_cases hxy : y ≤ x
  · have := dvd_small h ⟨by omega, by omega⟩
    omega
  · have h2 : p ∣ y - x := by
      obtain ⟨c, hc⟩ := h
      exact ⟨-c, by rw [Int.mul_neg]; omega⟩
    have := dvd_small h2 ⟨by omega, by omega⟩
    omega
theorem md_dvd (p x : Int) : p ∣ x - md p x := by
  unfold md
  obtain ⟨a, ha⟩ := tmod_dvd x p
  obtain ⟨b, hb⟩ := tmod_dvd (x.tmod p + p) p
  exact ⟨a + b - 1, by grind⟩
theorem inv_dvd {p n w : Int} (h : IsInv p n w) : ∃ q, w * n = 1 + p * q := by
  obtain ⟨q, hq⟩ := tmod_dvd (w * n) p
  rw [h.2.2.1] at hq
  exact ⟨q, by omega⟩
def R1 (p : Int) (T : List (List Int)) (w : Nat) : Prop :=
  (∃ i c, i < T.length ∧ c < w ∧ tb T i c ≠ 0) ∧ ∀ i i' c c', i < T.length → i' < T.length → c < w → c' < w → p ∣ tb T i c * tb T i' c' - tb T i c' * tb T i' c
theorem pivot_none {T : List (List Int)} {c : Nat} : ∀ {m r : Nat}, pivot T c m r = r + m → ∀ i, r ≤ i → i < r + m → tb T i c = 0
  | 0, r, h, i, h1, h2 => by omega
  | m + 1, r, h, i, h1, h2 => by
    unfold pivot at h
    by_cases h0 : tb T r c = 0
    · rw [if_pos h0] at h
      by_cases hi : i = r
      · subst hi
        exact h0
      · exact pivot_none (m := m) (r := r + 1) (by omega) i (by omega) (by omega)
    · rw [if_neg h0] at h
      omega
theorem elim_ge {p : Int} : ∀ {m : Nat} {T : List (List Int)} {r c : Nat}, r ≤ elim p T r c m
  | 0, T, r, c => Nat.le_refl _
  | m + 1, T, r, c => by
    unfold elim
    refine Nat.le_trans ?_ elim_ge
    unfold colStep
    split
    · exact Nat.le_refl _
    · simp
theorem elim_one {p : Int} : ∀ {m : Nat} {T : List (List Int)} {c : Nat}, 1 ≤ T.length → (elim p T 1 c m = 1 ↔ ∀ i, 1 ≤ i → i < T.length → ∀ l, c ≤ l → l < c + m → tb T i l = 0)
  | 0, T, c, h => by
    unfold elim
    exact ⟨fun _ i h1 h2 l h3 h4 => by omega, fun _ => rfl⟩
  | m + 1, T, c, h => by
    unfold elim colStep
    by_cases hp : pivot T c (T.length - 1) 1 = T.length
    · rw [if_pos hp]
      have hz := pivot_none (T := T) (c := c) (m := T.length - 1) (r := 1) (by omega)
      rw [elim_one h]
      constructor
      · intro hh i h1 h2 l h3 h4
        by_cases hl : l = c
        · subst hl
          exact hz i h1 (by omega)
        · exact hh i h1 h2 l (by omega) (by omega)
      · intro hh i h1 h2 l h3 h4
        exact hh i h1 h2 l (by omega) (by omega)
    · rw [if_neg hp]
      have hr := pivot_le (T := T) (c := c) (m := T.length - 1) (r := 1)
      have hne := pivot_ne (T := T) (c := c) (m := T.length - 1) (r := 1) (by omega)
      constructor
      · intro hh
        have := elim_ge (p := p) (m := m) (T := swept p (swapped T 1 (pivot T c (T.length - 1) 1)) 1 c T.length) (r := 1 + 1) (c := c + 1)
        simp only at hh
        omega
      · intro hh
        exact absurd (hh _ hr.1 (by omega) c (Nat.le_refl _) (by omega)) hne
theorem tb_swapped {T : List (List Int)} {r i j l : Nat} (hr : r < T.length) (hi : i < T.length) : tb (swapped T r i) j l = if j = r then tb T i l else if j = i then tb T r l else tb T j l := by
  unfold tb
  rw [swapped_get hr hi]
  split
  · rfl
  · split <;> rfl
theorem R1_swapped {p : Int} {T : List (List Int)} {w r i : Nat} (hr : r < T.length) (hi : i < T.length) : R1 p (swapped T r i) w ↔ R1 p T w := by
  have ex : ∀ j, j < T.length → ∃ j', j' < T.length ∧ ∀ l, tb (swapped T r i) j l = tb T j' l := fun j hj => by
    by_cases h1 : j = r
    · exact ⟨i, hi, fun l => by rw [tb_swapped hr hi, if_pos h1]⟩
    · by_cases h2 : j = i
      · exact ⟨r, hr, fun l => by rw [tb_swapped hr hi, if_neg h1, if_pos h2]⟩
      · exact ⟨j, hj, fun l => by rw [tb_swapped hr hi, if_neg h1, if_neg h2]⟩
  have ex' : ∀ j, j < T.length → ∃ j', j' < T.length ∧ ∀ l, tb T j l = tb (swapped T r i) j' l := fun j hj => by
    by_cases h1 : j = i
    · exact ⟨r, hr, fun l => by rw [tb_swapped hr hi, if_pos rfl, h1]⟩
    · by_cases h2 : j = r
      · refine ⟨i, hi, fun l => ?_⟩
        rw [tb_swapped hr hi]
        by_cases h3 : i = r
        · omega
        · rw [if_neg h3, if_pos rfl, h2]
      · exact ⟨j, hj, fun l => by rw [tb_swapped hr hi, if_neg h2, if_neg h1]⟩
  constructor
  · rintro ⟨⟨j, c, h1, h2, h3⟩, h4⟩
    rw [swapped_len] at h1
    obtain ⟨j', hj', e⟩ := ex j h1
    refine ⟨⟨j', c, hj', h2, by rw [← e]; exact h3⟩, fun a b c c' ha hb hc hc' => ?_⟩
    obtain ⟨a', ha', ea⟩ := ex' a ha
    obtain ⟨b', hb', eb⟩ := ex' b hb
    rw [ea, ea, eb, eb]
    exact h4 a' b' c c' (by rw [swapped_len]; exact ha') (by rw [swapped_len]; exact hb') hc hc'
  · rintro ⟨⟨j, c, h1, h2, h3⟩, h4⟩
    obtain ⟨j', hj', e⟩ := ex' j h1
    refine ⟨⟨j', c, by rw [swapped_len]; exact hj', h2, by rw [← e]; exact h3⟩, fun a b c c' ha hb hc hc' => ?_⟩
    rw [swapped_len] at ha hb
    obtain ⟨a', ha', ea⟩ := ex a ha
    obtain ⟨b', hb', eb⟩ := ex b hb
    rw [ea, ea, eb, eb]
    exact h4 a' b' c c' ha' hb' hc hc'
theorem minor_of {p a a' b b' s t x x' d e q : Int} (h1 : p ∣ a * d - s * x) (h2 : p ∣ b' * d - t * x') (h3 : p ∣ a' * d - s * x') (h4 : p ∣ b * d - t * x) (he : e * d = 1 + p * q) : p ∣ a * b' - a' * b := by
  obtain ⟨k1, h1⟩ := h1
  obtain ⟨k2, h2⟩ := h2
  obtain ⟨k3, h3⟩ := h3
  obtain ⟨k4, h4⟩ := h4
  exact ⟨e * e * (s * x * k2 + k1 * t * x' + p * k1 * k2 - s * x' * k4 - k3 * t * x - p * k3 * k4) - (2 * q + p * q * q) * (a * b' - a' * b), by grind⟩
theorem swept_one {p : Int} {S : List (List Int)} {w c : Nat} (g : Good p S w) (hP : isP p = true) (hS : 1 ≤ S.length) (hc : c < w) (hd : tb S 0 c ≠ 0) (hz : ∀ i, i < S.length → ∀ l, l < c → tb S i l = 0) :
    (∀ i, 1 ≤ i → i < S.length → ∀ l, c + 1 ≤ l → l < w → tb (swept p S 0 c S.length) i l = 0) ↔ R1 p S w := by
  have hp := isP_in hP
  have g0 := (g 0 (by omega)).2
  have iv := invN_is hP (n := tb S 0 c) (by have := g0 c hc; omega)
  obtain ⟨q, hq⟩ := inv_dvd iv
  have el : ∀ i, 1 ≤ i → i < S.length → ∀ l, l < w → tb (swept p S 0 c S.length) i l = md p (tb S i l - (tb S i c * invN p (tb S 0 c)).tmod p * tb S 0 l) := fun i h1 h2 l hl => by
    unfold tb
    rw [swept_get h2, if_pos ⟨by omega, h2⟩]
    unfold rowOp
    rw [gen_get (by rw [(g i h2).1]; exact hl)]
  have key : ∀ i, 1 ≤ i → i < S.length → ∀ l, l < w → (tb (swept p S 0 c S.length) i l = 0 ↔ p ∣ tb S i l * tb S 0 c - tb S i c * tb S 0 l) := fun i h1 h2 l hl => by
    rw [el i h1 h2 l hl]
    generalize tb S i l = a
    generalize tb S i c = s at *
    generalize tb S 0 l = x
    generalize tb S 0 c = d at *
    generalize invN p d = e at *
    obtain ⟨m1, hm1⟩ := md_dvd p (a - (s * e).tmod p * x)
    obtain ⟨m2, hm2⟩ := tmod_dvd (s * e) p
    have hb := md_in (x := a - (s * e).tmod p * x) (p := p) hp.1
    constructor
    · intro h0
      rw [h0] at hm1
      exact ⟨m1 * d - m2 * x * d + s * x * q, by grind⟩
    · rintro ⟨k, hk⟩
      refine dvd_small ?_ hb
      exact ⟨e * k + m2 * x - m1 - q * a, by grind⟩
  have all : (∀ i, 1 ≤ i → i < S.length → ∀ l, c + 1 ≤ l → l < w → tb (swept p S 0 c S.length) i l = 0) ↔ ∀ i, i < S.length → ∀ l, l < w → p ∣ tb S i l * tb S 0 c - tb S i c * tb S 0 l := by
    constructor
    · intro h i hi l hl
      by_cases h1 : 1 ≤ i
      · by_cases h2 : c + 1 ≤ l
        · exact (key i h1 hi l hl).1 (h i h1 hi l h2 hl)
        · by_cases h3 : l = c
          · subst h3
            exact ⟨0, by grind⟩
          · rw [hz i hi l (by omega), hz 0 (by omega) l (by omega)]
            exact ⟨0, by grind⟩
      · have : i = 0 := by omega
        subst this
        exact ⟨0, by grind⟩
    · intro h i h1 h2 l h3 h4
      exact (key i h1 h2 l h4).2 (h i h2 l h4)
  rw [all]
  constructor
  · intro h
    refine ⟨⟨0, c, by omega, hc, hd⟩, fun i i' l l' hi hi' hl hl' => ?_⟩
    exact minor_of (h i hi l hl) (h i' hi' l' hl') (h i hi l' hl') (h i' hi' l hl) hq
  · intro h i hi l hl
    obtain ⟨k, hk⟩ := h.2 i 0 l c hi (by omega) hl hc
    exact ⟨k, by rw [← hk]⟩
theorem rank1_col {p : Int} {w : Nat} (hP : isP p = true) : ∀ {m : Nat} {T : List (List Int)} {c : Nat}, Good p T w → 1 ≤ T.length → c + m = w → (∀ i, i < T.length → ∀ l, l < c → tb T i l = 0) → (elim p T 0 c m = 1 ↔ R1 p T w)
  | 0, T, c, g, h, hc, hz => by
    unfold elim
    refine ⟨fun h => by omega, ?_⟩
    rintro ⟨⟨i, l, h1, h2, h3⟩, _⟩
    exact absurd (hz i h1 l (by omega)) h3
  | m + 1, T, c, g, h, hc, hz => by
    unfold elim colStep
    by_cases hp : pivot T c (T.length - 0) 0 = T.length
    · rw [if_pos hp]
      have hzz := pivot_none (T := T) (c := c) (m := T.length - 0) (r := 0) (by omega)
      dsimp only
      refine rank1_col hP g h (by omega) fun i hi l hl => ?_
      by_cases e : l = c
      · subst e
        exact hzz i (by omega) (by omega)
      · exact hz i hi l (by omega)
    · rw [if_neg hp]
      have hr := pivot_le (T := T) (c := c) (m := T.length - 0) (r := 0)
      have hne := pivot_ne (T := T) (c := c) (m := T.length - 0) (r := 0) (by omega)
      generalize pivot T c (T.length - 0) 0 = i0 at *
      have hi0 : i0 < T.length := by omega
      simp only [Nat.zero_add]
      have hl := swapped_len (T := T) (r := 0) (i := i0)
      rw [elim_one (by rw [swept_len, hl]; exact h), swept_len, ← R1_swapped (r := 0) (i := i0) (by omega) hi0, ← swept_one (g.swapped (by omega) hi0) hP (by omega) (show c < w by omega) (by rw [tb_swapped (by omega) hi0, if_pos rfl]; exact hne) (fun i hi l hl' => by
        rw [hl] at hi
        rw [tb_swapped (by omega) hi0]
        split
        · exact hz _ hi0 l hl'
        · split
          · exact hz _ (by omega) l hl'
          · exact hz _ hi l hl')]
      rw [hl, show c + 1 + m = w by omega]
theorem rank1_iff {p : Int} {w : Nat} {T : List (List Int)} (hP : isP p = true) (g : Good p T w) (h : 1 ≤ T.length) : rankN p T = 1 ↔ R1 p T w := by
  unfold rankN
  rw [(g 0 (by omega)).1]
  exact rank1_col hP g h (by omega) (fun i _ l hl => by omega)
end Go.Proofs.Ytapafdpnmakekaa.X

set_option linter.unusedVariables false
set_option linter.unusedSimpArgs false
set_option maxRecDepth 20000
set_option maxHeartbeats 4000000
namespace Go.Proofs.Ytapafdpnmakekaa.X
end Go.Proofs.Ytapafdpnmakekaa.X

set_option linter.unusedVariables false
set_option linter.unusedSimpArgs false
set_option maxRecDepth 20000
set_option maxHeartbeats 4000000
namespace Go.Proofs.Ytapafdpnmakekaa.X
open Go Go.RowKit
theorem smallM_of {rows : List (List Int)} {A B : Nat} (h1 : rows.length ≤ A) (h2 : ∀ i, i < rows.length → (rows.getD i []).length ≤ B) (hAB : A ≤ 1000 ∧ B ≤ 1000) : SmallM rows := by
  have ht : ∀ i, i ≤ rows.length → tot rows i ≤ i * 1000 := fun i => by
    induction i with
    | zero => intro _; simp
    | succ i ih =>
      intro hi
      have e := tot_succ (rows := rows) (i := i) (by omega)
      have := ih (by omega)
      have := h2 i (by omega)
      omega
  have := ht rows.length (Nat.le_refl _)
  exact ⟨by omega, fun i hi => by have := h2 i hi; omega, by omega⟩
theorem smallM_nil : SmallM [] := ⟨by simp, by simp, by simp [tot]⟩
theorem slR_small (t : Ten) (s a : Int) : SmallM (slR t s a).1 := by
  unfold slR
  split
  · rename_i h
    have fu := TF.turnN (n := s.toNat) (isT_facts h)
    split
    · have := fu.j
      have := fu.k
      refine smallM_of (A := 9) (B := 9) (by rw [sliceT_len]; omega) (fun i hi => ?_) (by omega)
      rw [sliceT_len] at hi
      rw [sliceT_get hi, gen_len]
      omega
    · exact smallM_nil
  · exact smallM_nil
end Go.Proofs.Ytapafdpnmakekaa.X

set_option linter.unusedVariables false
set_option linter.unusedSimpArgs false
set_option maxRecDepth 20000
set_option maxHeartbeats 4000000
namespace Go.Proofs.Ytapafdpnmakekaa.X
open Go Go.RowKit
def flatU (u : Ten) : List (List Int) := parts u.ns (u.j * u.k).toNat u.i.toNat
theorem flatU_good {u : Ten} (f : TF u) : Good u.p (flatU u) (u.j * u.k).toNat ∧ (flatU u).length = u.i.toNat ∧ u.ns.length = u.i.toNat * (u.j * u.k).toNat := by
  have jk := mul_in1 (A := 9) (B := 9) f.j f.k
  have fi := f.i
  obtain ⟨w, hw⟩ : ∃ w : Nat, u.j * u.k = w := ⟨(u.j * u.k).toNat, by omega⟩
  obtain ⟨n, hn⟩ : ∃ n : Nat, u.i = n := ⟨u.i.toNat, by omega⟩
  have hl : u.ns.length = n * w := by
    have hl := f.len
    rw [Int.mul_assoc, hw, hn] at hl
    exact_mod_cast hl
  unfold flatU
  rw [hw, hn, Int.toNat_natCast, Int.toNat_natCast]
  refine ⟨fun i hi => ?_, parts_len, hl⟩
  rw [parts_len] at hi
  unfold tb
  rw [parts_get hi]
  have hr := mul_row (w := w) hi
  refine ⟨by simp; omega, fun l hl' => ?_⟩
  rw [cut_get hl']
  have := f.num ((i * w + l : Nat) : Int) (by omega) (by omega)
  unfold nth at this
  rw [Int.toNat_natCast] at this
  exact this
noncomputable def flG (t : Ten) (s : Nat) : Int := (rankN t.p (flatU (turnN s t)) : Nat)
noncomputable def flR (t : Ten) : List Int × Int := if isT t = true then (gen 3 (flG t), 0) else ([], 1)
theorem s_l05Ranks {v : Value} {t : Ten} {h : AH} {Q : Value → AH → Prop} (hv : Ints h v t.ns) (ft : TF t) (hp : isP t.p = true)
    (hQ : ∀ v' h', h <+: h' → OwnR h h' v' (gen 3 (flG t)) → Q v' h') : WF S 253 [tenV t v] h Q := by
  refine WF_fn (fn := c253) rfl rfl ?_
  unfold c253
  try simp (maxSteps := 3000000) (disch := first | omega | (simp only [len_new, len_put, len_kill]; omega)) only [↓xpre, xpost, ↓reduceIte, Nat.reduceEqDiff, Nat.reduceAdd, Nat.reduceSub, Nat.reduceLeDiff, Nat.zero_add, Nat.sub_zero, tenV, hv.one, fillL, zrep]
  generalize hH1 : AH.new h _ = H1
  obtain ⟨hb1, p1, n1⟩ := new_facts hH1
  generalize hH2 : AH.new H1 _ = H2
  obtain ⟨hb2, p2, n2⟩ := new_facts hH2
  refine WC_loop_inv (fun m f K1 => ∃ (s : Nat) (sv : Value), m = 3 - s ∧ s ≤ 3 ∧ f 1 = .pointer (some ⟨h.length, 0, none⟩) ∧ f 3 = sv ∧ f 4 = I64 s ∧ (H1 <+: K1) ∧ (WayF K1 H1.length sv (gen s (flG t)))) ?_ (3 - 0) _ _ ⟨0, .slice (some ⟨H1.length, 0, none⟩) 0 1, rfl, by omega, (by first | rfl | simp [upd_apply]), (by first | rfl | simp [upd_apply]), (by first | rfl | simp [upd_apply]), p2, ⟨H1.length, true, by rw [gen_len], Nat.le_refl _, hb2⟩⟩
  rintro m f K1 ⟨s, sv, rfl, hs, f1, f3, f4, pp, way⟩
  have hbK := pre_get pp hb1
  try simp (maxSteps := 3000000) (disch := first | omega | (simp only [len_new, len_put, len_kill]; omega)) only [↓xpre, xpost, ↓reduceIte, Nat.reduceEqDiff, Nat.reduceAdd, Nat.reduceSub, Nat.reduceLeDiff, Nat.zero_add, Nat.sub_zero, f1, f3, f4, IfW_dec]
  refine ⟨fun hlt => ?_, fun hge => ?_⟩
  · have fu := TF.turnN (n := s) ft
    have hg := flatU_good fu
    have jk := mul_in1 (A := 9) (B := 9) fu.j fu.k
    have fi := fu.i
    try simp (maxSteps := 3000000) (disch := first | omega | (simp only [len_new, len_put, len_kill]; omega)) only [↓xpre, xpost, ↓reduceIte, Nat.reduceEqDiff, Nat.reduceAdd, Nat.reduceSub, Nat.reduceLeDiff, Nat.zero_add, Nat.sub_zero, f1, f3, f4, rd1_of hbK, rdn_of hbK]
    refine s_l05Turned (hv.pre (p1.trans pp)) ft (by omega) fun v3 H3 p3 i3 => ?_
    try simp (maxSteps := 3000000) (disch := first | omega | (simp only [len_new, len_put, len_kill]; omega)) only [↓xpre, xpost, ↓reduceIte, Nat.reduceEqDiff, Nat.reduceAdd, Nat.reduceSub, Nat.reduceLeDiff, Nat.zero_add, Nat.sub_zero, f1, f3, f4]
    refine ⟨p3, ?_⟩
    refine s_l05Flat (w := ((turnN s t).j * (turnN s t).k).toNat) (n := (turnN s t).i.toNat) i3 fu (by omega) (by omega) fun v4 H4 p4 o4 => ?_
    try simp (maxSteps := 3000000) (disch := first | omega | (simp only [len_new, len_put, len_kill]; omega)) only [↓xpre, xpost, ↓reduceIte, Nat.reduceEqDiff, Nat.reduceAdd, Nat.reduceSub, Nat.reduceLeDiff, Nat.zero_add, Nat.sub_zero, f1, f3, f4]
    refine ⟨p4, ?_⟩
    refine s_l05Rank (rows := flatU (turnN s t)) o4.rows hp (by rw [hg.2.1]; omega) (by rw [← turnN_p (n := s) (t := t)]; exact hg.1) (by omega) fun H5 p5 => ?_
    try simp (maxSteps := 3000000) (disch := first | omega | (simp only [len_new, len_put, len_kill]; omega)) only [↓xpre, xpost, ↓reduceIte, Nat.reduceEqDiff, Nat.reduceAdd, Nat.reduceSub, Nat.reduceLeDiff, Nat.zero_add, Nat.sub_zero, f1, f3, f4, fillL, zrep]
    refine (way.pre (p3.trans (p4.trans p5))).app (by rw [gen_len]; omega) fun sv' h6 k6 pre6 way6 => ?_
    try simp (maxSteps := 3000000) (disch := first | omega | (simp only [len_new, len_put, len_kill]; omega)) only [↓xpre, xpost, ↓reduceIte, Nat.reduceEqDiff, Nat.reduceAdd, Nat.reduceSub, Nat.reduceLeDiff, Nat.zero_add, Nat.sub_zero, f1, f3, f4, wrap64_in]
    refine InvQ_go (3 - (s + 1)) (by omega) ⟨(s + 1), sv', rfl, by omega, (by first | rfl | exact f1 | (simp only [upd_apply]; rfl) | (show I64 _ = _; congr 1; omega)), (by first | rfl | exact f3 | (simp only [upd_apply]; rfl) | (show I64 _ = _; congr 1; omega)), (by first | rfl | exact f4 | (simp only [upd_apply]; rfl) | (show I64 _ = _; congr 1; omega)), (pre6 _ (Nat.le_refl _) (pp.trans (p3.trans (p4.trans p5)))), (by rw [gen_succ]; exact way6)⟩
  · have e : s = 3 := by omega
    subst e
    try simp (maxSteps := 3000000) (disch := first | omega | (simp only [len_new, len_put, len_kill]; omega)) only [↓xpre, xpost, ↓reduceIte, Nat.reduceEqDiff, Nat.reduceAdd, Nat.reduceSub, Nat.reduceLeDiff, Nat.zero_add, Nat.sub_zero, f1, f3, f4]
    obtain ⟨kb, fu, rfl, q2, q3⟩ := way
    exact hQ _ _ (p1.trans pp) (.inr ⟨kb, _, fu, by omega, rfl, q3⟩)
theorem i_flattenRanks {v : Value} {t : Ten} {h : AH} {Q : Value → AH → Prop} (hv : Ints h v t.ns) (ft : TF t) (hp : isP t.p = true)
    (hQ : ∀ v' h', h <+: h' → OwnR h h' v' (gen 3 (flG t)) → Q v' h') : WF S 185 [tenV t v] h Q := by
  refine WF_fn (fn := c185) rfl rfl ?_
  unfold c185
  try simp (maxSteps := 3000000) (disch := first | omega | (simp only [len_new, len_put, len_kill]; omega)) only [↓xpre, xpost, ↓reduceIte, Nat.reduceEqDiff, Nat.reduceAdd, Nat.reduceSub, Nat.reduceLeDiff, Nat.zero_add, Nat.sub_zero, tenV, hv.one, fillL, zrep]
  generalize hH1 : AH.new h _ = H1
  obtain ⟨hb1, p1, n1⟩ := new_facts hH1
  generalize hH2 : AH.new H1 _ = H2
  obtain ⟨hb2, p2, n2⟩ := new_facts hH2
  refine WC_loop_inv (fun m f K1 => ∃ (s : Nat) (sv : Value), m = 3 - s ∧ s ≤ 3 ∧ f 1 = .pointer (some ⟨h.length, 0, none⟩) ∧ f 3 = sv ∧ f 7 = I64 s ∧ (H1 <+: K1) ∧ (WayF K1 H1.length sv (gen s (flG t)))) ?_ (3 - 0) _ _ ⟨0, .slice (some ⟨H1.length, 0, none⟩) 0 1, rfl, by omega, (by first | rfl | simp [upd_apply]), (by first | rfl | simp [upd_apply]), (by first | rfl | simp [upd_apply]), p2, ⟨H1.length, true, by rw [gen_len], Nat.le_refl _, hb2⟩⟩
  rintro m f K1 ⟨s, sv, rfl, hs, f1, f3, f7, pp, way⟩
  have hbK := pre_get pp hb1
  try simp (maxSteps := 3000000) (disch := first | omega | (simp only [len_new, len_put, len_kill]; omega)) only [↓xpre, xpost, ↓reduceIte, Nat.reduceEqDiff, Nat.reduceAdd, Nat.reduceSub, Nat.reduceLeDiff, Nat.zero_add, Nat.sub_zero, f1, f3, f7, IfW_dec]
  refine ⟨fun hlt => ?_, fun hge => ?_⟩
  · have fu := TF.turnN (n := s) ft
    have hg := flatU_good fu
    have jk := mul_in1 (A := 9) (B := 9) fu.j fu.k
    have fi := fu.i
    try simp (maxSteps := 3000000) (disch := first | omega | (simp only [len_new, len_put, len_kill]; omega)) only [↓xpre, xpost, ↓reduceIte, Nat.reduceEqDiff, Nat.reduceAdd, Nat.reduceSub, Nat.reduceLeDiff, Nat.zero_add, Nat.sub_zero, f1, f3, f7, rdn_of hbK]
    refine i_turned (hv.pre (p1.trans pp)) ft (by omega) fun v3 H3 p3 i3 => ?_
    have hb3 := pre_get p3 hbK
    try simp (maxSteps := 3000000) (disch := first | omega | (simp only [len_new, len_put, len_kill]; omega)) only [↓xpre, xpost, ↓reduceIte, Nat.reduceEqDiff, Nat.reduceAdd, Nat.reduceSub, Nat.reduceLeDiff, Nat.zero_add, Nat.sub_zero, f1, f3, f7, tenV, i3.one]
    generalize hH4 : AH.new H3 _ = H4
    obtain ⟨hb4, p4, n4⟩ := new_facts hH4
    have hb5 := pre_get p4 hb3
    have ejk : (turnN s t).j * (turnN s t).k = (((turnN s t).j * (turnN s t).k).toNat : Int) := by omega
    try simp (maxSteps := 3000000) (disch := first | omega | (simp only [len_new, len_put, len_kill]; omega)) only [↓xpre, xpost, ↓reduceIte, Nat.reduceEqDiff, Nat.reduceAdd, Nat.reduceSub, Nat.reduceLeDiff, Nat.zero_add, Nat.sub_zero, f1, f3, f7, rd1_of hb5, rd1_of hb4, wrap64_in]
    rw [ejk]
    refine i_parted (n := (turnN s t).i.toNat) (i3.pre p4) fu.le (by omega) hg.2.2 fun v5 H5 p5 o5 => ?_
    try simp (maxSteps := 3000000) (disch := first | omega | (simp only [len_new, len_put, len_kill]; omega)) only [↓xpre, xpost, ↓reduceIte, Nat.reduceEqDiff, Nat.reduceAdd, Nat.reduceSub, Nat.reduceLeDiff, Nat.zero_add, Nat.sub_zero, f1, f3, f7]
    refine ⟨p5, ?_⟩
    refine i_rank _ (flatU (turnN s t)) _ _ _ _ o5.rows hp (by rw [hg.2.1]; omega) (by rw [← turnN_p (n := s) (t := t)]; exact hg.1) (by omega) fun H6 p6 => ?_
    try simp (maxSteps := 3000000) (disch := first | omega | (simp only [len_new, len_put, len_kill]; omega)) only [↓xpre, xpost, ↓reduceIte, Nat.reduceEqDiff, Nat.reduceAdd, Nat.reduceSub, Nat.reduceLeDiff, Nat.zero_add, Nat.sub_zero, f1, f3, f7, fillL, zrep]
    refine (way.pre ((p3.trans p4).trans (p5.trans p6))).app (by rw [gen_len]; omega) fun sv' h6 k6 pre6 way6 => ?_
    try simp (maxSteps := 3000000) (disch := first | omega | (simp only [len_new, len_put, len_kill]; omega)) only [↓xpre, xpost, ↓reduceIte, Nat.reduceEqDiff, Nat.reduceAdd, Nat.reduceSub, Nat.reduceLeDiff, Nat.zero_add, Nat.sub_zero, f1, f3, f7, wrap64_in]
    refine InvQ_go (3 - (s + 1)) (by omega) ⟨(s + 1), sv', rfl, by omega, (by first | rfl | exact f1 | (simp only [upd_apply]; rfl) | (show I64 _ = _; congr 1; omega)), (by first | rfl | exact f3 | (simp only [upd_apply]; rfl) | (show I64 _ = _; congr 1; omega)), (by first | rfl | exact f7 | (simp only [upd_apply]; rfl) | (show I64 _ = _; congr 1; omega)), (pre6 _ (Nat.le_refl _) (pp.trans ((p3.trans p4).trans (p5.trans p6)))), (by rw [gen_succ]; exact way6)⟩
  · have e : s = 3 := by omega
    subst e
    try simp (maxSteps := 3000000) (disch := first | omega | (simp only [len_new, len_put, len_kill]; omega)) only [↓xpre, xpost, ↓reduceIte, Nat.reduceEqDiff, Nat.reduceAdd, Nat.reduceSub, Nat.reduceLeDiff, Nat.zero_add, Nat.sub_zero, f1, f3, f7]
    obtain ⟨kb, fu, rfl, q2, q3⟩ := way
    exact hQ _ _ (p1.trans pp) (.inr ⟨kb, _, fu, by omega, rfl, q3⟩)
theorem isT_isP {t : Ten} (h : isT t = true) : isP t.p = true := by
  simp only [isT, Bool.and_eq_true, decide_eq_true_eq] at h
  exact h.1.1.1.1.1
theorem s_FlattenRanks {v : Value} {t : Ten} {h : AH} {Q : Value → AH → Prop} (hv : Ints h v t.ns) (hl : (t.ns.length : Int) ≤ 1048576)
    (hQ : ∀ v' h', h <+: h' → OwnR h h' v' (flR t).1 → Q (.tuple #[v', I64 (flR t).2]) h') : WF S 115 [tenV t v] h Q := by
  refine WF_fn (fn := c115) rfl rfl ?_
  unfold c115
  try simp (maxSteps := 3000000) (disch := first | omega | (simp only [len_new, len_put, len_kill]; omega)) only [↓xpre, xpost, ↓reduceIte, Nat.reduceEqDiff, Nat.reduceAdd, Nat.reduceSub, Nat.reduceLeDiff, Nat.zero_add, Nat.sub_zero, tenV, hv.one]
  generalize hH1 : AH.new h _ = H1
  obtain ⟨hb1, p1, n1⟩ := new_facts hH1
  try simp (maxSteps := 3000000) (disch := first | omega | (simp only [len_new, len_put, len_kill]; omega)) only [↓xpre, xpost, ↓reduceIte, Nat.reduceEqDiff, Nat.reduceAdd, Nat.reduceSub, Nat.reduceLeDiff, Nat.zero_add, Nat.sub_zero, rdn_of hb1]
  refine s_l05Is (hv.pre p1) hl fun H2 p2 => ?_
  have hb2 := pre_get p2 hb1
  unfold flR at hQ
  cases h1 : isT t with
  | false =>
    rw [h1, if_neg (by decide)] at hQ
    try simp (maxSteps := 3000000) (disch := first | omega | (simp only [len_new, len_put, len_kill]; omega)) only [↓xpre, xpost, ↓reduceIte, Nat.reduceEqDiff, Nat.reduceAdd, Nat.reduceSub, Nat.reduceLeDiff, Nat.zero_add, Nat.sub_zero]
    exact hQ _ _ (p1.trans p2) (.inl ⟨rfl, rfl⟩)
  | true =>
    rw [h1, if_pos rfl] at hQ
    try simp (maxSteps := 3000000) (disch := first | omega | (simp only [len_new, len_put, len_kill]; omega)) only [↓xpre, xpost, ↓reduceIte, Nat.reduceEqDiff, Nat.reduceAdd, Nat.reduceSub, Nat.reduceLeDiff, Nat.zero_add, Nat.sub_zero, rdn_of hb2]
    refine s_l05Ranks (hv.pre (p1.trans p2)) (isT_facts h1) (isT_isP h1) fun v3 H3 p3 o3 => ?_
    try simp (maxSteps := 3000000) (disch := first | omega | (simp only [len_new, len_put, len_kill]; omega)) only [↓xpre, xpost, ↓reduceIte, Nat.reduceEqDiff, Nat.reduceAdd, Nat.reduceSub, Nat.reduceLeDiff, Nat.zero_add, Nat.sub_zero]
    exact hQ _ _ ((p1.trans p2).trans p3) (o3.lo (pre_len (p1.trans p2)))
theorem i_FlattenRanks {v : Value} {t : Ten} {h : AH} {Q : Value → AH → Prop} (hv : Ints h v t.ns) (hl : (t.ns.length : Int) ≤ 1048576)
    (hQ : ∀ v' h', h <+: h' → OwnR h h' v' (flR t).1 → Q (.tuple #[v', I64 (flR t).2]) h') : WF S 30 [tenV t v] h Q := by
  refine WF_fn (fn := c30) rfl rfl ?_
  unfold c30
  try simp (maxSteps := 3000000) (disch := first | omega | (simp only [len_new, len_put, len_kill]; omega)) only [↓xpre, xpost, ↓reduceIte, Nat.reduceEqDiff, Nat.reduceAdd, Nat.reduceSub, Nat.reduceLeDiff, Nat.zero_add, Nat.sub_zero, tenV, hv.one]
  generalize hH1 : AH.new h _ = H1
  obtain ⟨hb1, p1, n1⟩ := new_facts hH1
  try simp (maxSteps := 3000000) (disch := first | omega | (simp only [len_new, len_put, len_kill]; omega)) only [↓xpre, xpost, ↓reduceIte, Nat.reduceEqDiff, Nat.reduceAdd, Nat.reduceSub, Nat.reduceLeDiff, Nat.zero_add, Nat.sub_zero, rdn_of hb1]
  refine i_IsTensor (hv.pre p1) hl fun H2 p2 => ?_
  have hb2 := pre_get p2 hb1
  unfold flR at hQ
  cases h1 : isT t with
  | false =>
    rw [h1, if_neg (by decide)] at hQ
    try simp (maxSteps := 3000000) (disch := first | omega | (simp only [len_new, len_put, len_kill]; omega)) only [↓xpre, xpost, ↓reduceIte, Nat.reduceEqDiff, Nat.reduceAdd, Nat.reduceSub, Nat.reduceLeDiff, Nat.zero_add, Nat.sub_zero]
    exact hQ _ _ (p1.trans p2) (.inl ⟨rfl, rfl⟩)
  | true =>
    rw [h1, if_pos rfl] at hQ
    try simp (maxSteps := 3000000) (disch := first | omega | (simp only [len_new, len_put, len_kill]; omega)) only [↓xpre, xpost, ↓reduceIte, Nat.reduceEqDiff, Nat.reduceAdd, Nat.reduceSub, Nat.reduceLeDiff, Nat.zero_add, Nat.sub_zero, rdn_of hb2]
    refine i_flattenRanks (hv.pre (p1.trans p2)) (isT_facts h1) (isT_isP h1) fun v3 H3 p3 o3 => ?_
    try simp (maxSteps := 3000000) (disch := first | omega | (simp only [len_new, len_put, len_kill]; omega)) only [↓xpre, xpost, ↓reduceIte, Nat.reduceEqDiff, Nat.reduceAdd, Nat.reduceSub, Nat.reduceLeDiff, Nat.zero_add, Nat.sub_zero]
    exact hQ _ _ ((p1.trans p2).trans p3) (o3.lo (pre_len (p1.trans p2)))
end Go.Proofs.Ytapafdpnmakekaa.X

set_option linter.unusedVariables false
set_option linter.unusedSimpArgs false
set_option maxRecDepth 20000
set_option maxHeartbeats 4000000
namespace Go.Proofs.Ytapafdpnmakekaa.X
open Go Go.RowKit
theorem firstAt_spec {q : Nat → Bool} : ∀ {m i : Nat}, (firstAt q m i = -1 ∧ ∀ j, i ≤ j → j < i + m → q j = false) ∨ ∃ r : Nat, firstAt q m i = r ∧ i ≤ r ∧ r < i + m ∧ q r = true
  | 0, i => .inl ⟨rfl, fun j h1 h2 => by omega⟩
  | m + 1, i => by
    unfold firstAt
    by_cases h : q i = true
    · rw [if_pos h]
      exact .inr ⟨i, rfl, Nat.le_refl _, by omega, h⟩
    · rw [if_neg h]
      rcases firstAt_spec (q := q) (m := m) (i := i + 1) with ⟨h1, h2⟩ | ⟨r, h1, h2, h3, h4⟩
      · refine .inl ⟨h1, fun j h3 h4 => ?_⟩
        by_cases e : j = i
        · subst e
          simpa using h
        · exact h2 j (by omega) (by omega)
      · exact .inr ⟨r, h1, by omega, by omega, h4⟩
theorem flat_tb {u : Ten} (f : TF u) {a b c : Int} (ha : 0 ≤ a ∧ a < u.i) (hb : 0 ≤ b ∧ b < u.j) (hc : 0 ≤ c ∧ c < u.k) :
    a.toNat < (flatU u).length ∧ (b * u.k + c).toNat < (u.j * u.k).toNat ∧ tb (flatU u) a.toNat (b * u.k + c).toNat = tat u a b c := by
  have g := flatU_good f
  have b1 := lin_in hb hc
  have jk := f.k
  refine ⟨by rw [g.2.1]; omega, by omega, ?_⟩
  unfold tb flatU tat nth
  rw [parts_get (by omega), cut_get (by omega)]
  congr 1
  have h1 := Int.mul_nonneg ha.1 (show 0 ≤ u.j * u.k by omega)
  have e : (a * u.j + b) * u.k + c = a * (u.j * u.k) + (b * u.k + c) := by grind
  rw [e]
  have e2 : ((a.toNat * (u.j * u.k).toNat : Nat) : Int) = a * (u.j * u.k) := by
    rw [Int.natCast_mul, Int.toNat_of_nonneg ha.1, Int.toNat_of_nonneg (by omega)]
  omega
theorem flat_at {u : Ten} (f : TF u) {l : Nat} (hl : l < (u.j * u.k).toNat) :
    ∃ b c : Int, (0 ≤ b ∧ b < u.j) ∧ (0 ≤ c ∧ c < u.k) ∧ ∀ a : Nat, a < (flatU u).length → tb (flatU u) a l = tat u a b c := by
  have g := flatU_good f
  have hk := f.k
  have hlI : (l : Int) < u.j * u.k := by omega
  have h1 : (l : Int) / u.k < u.j := Int.ediv_lt_of_lt_mul (by omega) hlI
  have h2 : 0 ≤ (l : Int) / u.k := Int.ediv_nonneg (by omega) (by omega)
  have h3 := Int.emod_nonneg (l : Int) (show u.k ≠ 0 by omega)
  have h4 := Int.emod_lt_of_pos (l : Int) (show 0 < u.k by omega)
  refine ⟨(l : Int) / u.k, (l : Int) % u.k, ⟨h2, h1⟩, ⟨h3, h4⟩, fun a ha => ?_⟩
  rw [g.2.1] at ha
  rw [← (flat_tb f (a := a) (by omega) ⟨h2, h1⟩ ⟨h3, h4⟩).2.2]
  have e := Int.mul_ediv_add_emod (l : Int) u.k
  rw [Int.mul_comm] at e
  rw [e, Int.toNat_natCast, Int.toNat_natCast]
def Mn (p : Int) (u : Ten) : Prop := ∀ a a' b b' c c', (0 ≤ a ∧ a < u.i) → (0 ≤ a' ∧ a' < u.i) → (0 ≤ b ∧ b < u.j) → (0 ≤ b' ∧ b' < u.j) → (0 ≤ c ∧ c < u.k) → (0 ≤ c' ∧ c' < u.k) →
  p ∣ tat u a b c * tat u a' b' c' - tat u a b' c' * tat u a' b c
def Nz (u : Ten) : Prop := ∃ a b c, (0 ≤ a ∧ a < u.i) ∧ (0 ≤ b ∧ b < u.j) ∧ (0 ≤ c ∧ c < u.k) ∧ tat u a b c ≠ 0
theorem R1_flat {p : Int} {u : Ten} (f : TF u) : R1 p (flatU u) (u.j * u.k).toNat ↔ Nz u ∧ Mn p u := by
  have g := flatU_good f
  have fi := f.i
  constructor
  · rintro ⟨⟨i, l, h1, h2, h3⟩, h4⟩
    obtain ⟨b, c, hb, hc, e⟩ := flat_at f h2
    have e := e i h1
    rw [g.2.1] at h1
    refine ⟨⟨i, b, c, by omega, hb, hc, by rw [← e]; exact h3⟩, fun a a' b b' c c' ha ha' hb hb' hc hc' => ?_⟩
    obtain ⟨x1, x2, x3⟩ := flat_tb f ha hb hc
    obtain ⟨y1, y2, y3⟩ := flat_tb f ha' hb' hc'
    obtain ⟨_, _, z3⟩ := flat_tb f ha hb' hc'
    obtain ⟨_, _, t3⟩ := flat_tb f ha' hb hc
    rw [← x3, ← y3, ← z3, ← t3]
    exact h4 _ _ _ _ x1 y1 x2 y2
  · rintro ⟨⟨a, b, c, ha, hb, hc, hn⟩, h4⟩
    obtain ⟨x1, x2, x3⟩ := flat_tb f ha hb hc
    refine ⟨⟨_, _, x1, x2, by rw [x3]; exact hn⟩, fun i i' l l' hi hi' hl hl' => ?_⟩
    obtain ⟨b, c, hb, hc, e1⟩ := flat_at f hl
    obtain ⟨b', c', hb', hc', e2⟩ := flat_at f hl'
    rw [e1 _ hi, e1 _ hi', e2 _ hi, e2 _ hi']
    rw [g.2.1] at hi hi'
    exact h4 _ _ _ _ _ _ (by omega) (by omega) hb hb' hc hc'
theorem rank_flat {u : Ten} (f : TF u) (hP : isP u.p = true) : rankN u.p (flatU u) = 1 ↔ Nz u ∧ Mn u.p u := by
  have g := flatU_good f
  have fi := f.i
  rw [rank1_iff hP g.1 (by rw [g.2.1]; omega), R1_flat f]
theorem tat_turn {t : Ten} (f : TF t) {a b c : Int} (ha : 0 ≤ a ∧ a < t.i) (hb : 0 ≤ b ∧ b < t.j) (hc : 0 ≤ c ∧ c < t.k) : tat (turnT t) b c a = tat t a b c := by
  have b1 := lin_in hb hc
  have b2 := lin_in b1.2 ha
  have e : tat (turnT t) b c a = turnG t ((b * t.k + c) * t.i + a).toNat := by
    show nth (gen _ _) _ = _
    unfold nth
    show (gen (t.j * t.k * t.i).toNat (turnG t)).getD ((b * t.k + c) * t.i + a).toNat 0 = _
    rw [gen_get (by omega)]
  rw [e]
  unfold turnG
  rw [Int.toNat_of_nonneg (show 0 ≤ (b * t.k + c) * t.i + a by omega)]
  have d1 : ((b * t.k + c) * t.i + a) % t.i = a := by rw [Int.add_comm, Int.add_mul_emod_self_right, Int.emod_eq_of_lt ha.1 ha.2]
  have d2 : ((b * t.k + c) * t.i + a) / t.i = b * t.k + c := by rw [Int.add_comm, Int.add_mul_ediv_right _ _ (by omega), Int.ediv_eq_zero_of_lt ha.1 ha.2, Int.zero_add]
  have d3 : (b * t.k + c) % t.k = c := by rw [Int.add_comm, Int.add_mul_emod_self_right, Int.emod_eq_of_lt hc.1 hc.2]
  have d4 : (b * t.k + c) / t.k = b := by rw [Int.add_comm, Int.add_mul_ediv_right _ _ (by omega), Int.ediv_eq_zero_of_lt hc.1 hc.2, Int.zero_add]
  rw [d1, d2, d3, d4]
section
variable (t : Ten) (f e : Int)
def fcI : Int := f / t.k / t.j
def fcJ : Int := f / t.k % t.j
def fcK : Int := f % t.k
def fcU : List Int := gen t.i.toNat fun a => (tat t a (fcJ t f) (fcK t f) * e).tmod t.p
def fcV : List Int := gen t.j.toNat fun b => (tat t (fcI t f) b (fcK t f) * e).tmod t.p
def fcW : List Int := gen t.k.toNat fun c => tat t (fcI t f) (fcJ t f) c
def fcAt (n : Nat) : Bool := decide (((fcU t f e).getD ((n : Int) / t.k / t.j).toNat 0 * (fcV t f e).getD ((n : Int) / t.k % t.j).toNat 0 * (fcW t f).getD ((n : Int) % t.k).toNat 0).tmod t.p = t.ns.getD n 0)
end
def fcF (t : Ten) : Int := firstAt (fun n => decide (t.ns.getD n 0 ≠ 0)) t.ns.length 0
noncomputable def fcE (t : Ten) : Int := invN t.p (nth t.ns (fcF t))
noncomputable def fcOK (t : Ten) : Bool := decide (0 ≤ fcF t) && allN t.ns.length (fcAt t (fcF t) (fcE t))
theorem prod_minor {p x1 x2 x3 x4 m1 m2 m3 m4 : Int} (h1 : p ∣ m1 - x1) (h2 : p ∣ m2 - x2) (h3 : p ∣ m3 - x3) (h4 : p ∣ m4 - x4) (e : m1 * m2 = m3 * m4) : p ∣ x1 * x2 - x3 * x4 := by
  obtain ⟨k1, h1⟩ := h1
  obtain ⟨k2, h2⟩ := h2
  obtain ⟨k3, h3⟩ := h3
  obtain ⟨k4, h4⟩ := h4
  exact ⟨p * k1 * k2 - m1 * k2 - k1 * m2 - (p * k3 * k4 - m3 * k4 - k3 * m4), by grind⟩
theorem fcAt_at {t : Ten} (tf : TF t) {f e a b c : Int} (ha : 0 ≤ a ∧ a < t.i) (hb : 0 ≤ b ∧ b < t.j) (hc : 0 ≤ c ∧ c < t.k) :
    ((a * t.j + b) * t.k + c).toNat < t.ns.length ∧ (fcAt t f e ((a * t.j + b) * t.k + c).toNat = true ↔ ((tat t a (fcJ t f) (fcK t f) * e).tmod t.p * (tat t (fcI t f) b (fcK t f) * e).tmod t.p * tat t (fcI t f) (fcJ t f) c).tmod t.p = tat t a b c) := by
  have b1 := lin_in ha hb
  have b2 := lin_in b1.2 hc
  have hl := tf.len
  refine ⟨by omega, ?_⟩
  unfold fcAt
  rw [Int.toNat_of_nonneg (show 0 ≤ (a * t.j + b) * t.k + c by omega)]
  have d1 : ((a * t.j + b) * t.k + c) % t.k = c := by rw [Int.add_comm, Int.add_mul_emod_self_right, Int.emod_eq_of_lt hc.1 hc.2]
  have d2 : ((a * t.j + b) * t.k + c) / t.k = a * t.j + b := by rw [Int.add_comm, Int.add_mul_ediv_right _ _ (by omega), Int.ediv_eq_zero_of_lt hc.1 hc.2, Int.zero_add]
  have d3 : (a * t.j + b) % t.j = b := by rw [Int.add_comm, Int.add_mul_emod_self_right, Int.emod_eq_of_lt hb.1 hb.2]
  have d4 : (a * t.j + b) / t.j = a := by rw [Int.add_comm, Int.add_mul_ediv_right _ _ (by omega), Int.ediv_eq_zero_of_lt hb.1 hb.2, Int.zero_add]
  rw [d1, d2, d3, d4]
  unfold fcU fcV fcW
  rw [gen_get (by omega), gen_get (by omega), gen_get (by omega), Int.toNat_of_nonneg ha.1, Int.toNat_of_nonneg hb.1, Int.toNat_of_nonneg hc.1, decide_eq_true_eq]
  rfl
theorem fc_places {t : Ten} (tf : TF t) {f : Int} (hf : 0 ≤ f ∧ f < t.ns.length) : (0 ≤ fcI t f ∧ fcI t f < t.i) ∧ (0 ≤ fcJ t f ∧ fcJ t f < t.j) ∧ (0 ≤ fcK t f ∧ fcK t f < t.k) ∧ tat t (fcI t f) (fcJ t f) (fcK t f) = nth t.ns f := by
  have hl := tf.len
  have pl := places (n := f) (i := t.i) (j := t.j) (k := t.k) (by omega) tf.j.1 tf.k.1
  refine ⟨pl.1, pl.2.1, pl.2.2, ?_⟩
  unfold tat fcI fcJ fcK
  congr 1
  have e1 := Int.mul_ediv_add_emod f t.k
  have e2 := Int.mul_ediv_add_emod (f / t.k) t.j
  grind
theorem at_places {t : Ten} (tf : TF t) {n : Nat} (hn : n < t.ns.length) : ∃ a b c : Int, (0 ≤ a ∧ a < t.i) ∧ (0 ≤ b ∧ b < t.j) ∧ (0 ≤ c ∧ c < t.k) ∧ n = ((a * t.j + b) * t.k + c).toNat ∧ tat t a b c = t.ns.getD n 0 := by
  obtain ⟨h1, h2, h3, h4⟩ := fc_places tf (f := n) (by omega)
  refine ⟨_, _, _, h1, h2, h3, ?_, by rw [h4]; unfold nth; rw [Int.toNat_natCast]⟩
  have e1 := Int.mul_ediv_add_emod (n : Int) t.k
  have e2 := Int.mul_ediv_add_emod ((n : Int) / t.k) t.j
  have : ((n : Int) / t.k / t.j * t.j + (n : Int) / t.k % t.j) * t.k + (n : Int) % t.k = n := by grind
  unfold fcI fcJ fcK
  omega
theorem simple_iff {t : Ten} (tf : TF t) (hP : isP t.p = true) : fcOK t = true ↔ (Nz t ∧ Mn t.p t) ∧ (Nz (turnT t) ∧ Mn t.p (turnT t)) ∧ (Nz (turnT (turnT t)) ∧ Mn t.p (turnT (turnT t))) := by
  have t1 := tf.turned
  have p5 := isP_in hP
  have sp := firstAt_spec (q := fun n => decide (t.ns.getD n 0 ≠ 0)) (m := t.ns.length) (i := 0)
  have efc : fcF t = firstAt (fun n => decide (t.ns.getD n 0 ≠ 0)) t.ns.length 0 := rfl
  rw [← efc] at sp
  rcases sp with ⟨s1, s2⟩ | ⟨r, s1, _, s3, s4⟩
  · -- all numbers are 0
    have : ¬ Nz t := by
      rintro ⟨a, b, c, ha, hb, hc, hn⟩
      have hx := (fcAt_at tf (f := 0) (e := 0) ha hb hc).1
      have := s2 ((a * t.j + b) * t.k + c).toNat (Nat.zero_le _) (by omega)
      rw [decide_eq_false_iff_not] at this
      exact this hn
    constructor
    · intro h
      unfold fcOK at h
      rw [s1] at h
      simp at h
    · exact fun h => absurd h.1.1 this
  · have hr : r < t.ns.length := by omega
    have hnz : t.ns.getD r 0 ≠ 0 := by simpa using s4
    have enth : nth t.ns (fcF t) = t.ns.getD r 0 := by
      rw [s1]
      unfold nth
      rw [Int.toNat_natCast]
    obtain ⟨pi, pj, pk, pe⟩ := fc_places tf (f := fcF t) (by omega)
    have eE : fcE t = invN t.p (nth t.ns (fcF t)) := rfl
    generalize hf : fcF t = f at *
    have tin := tat_in tf pi pj pk
    have hd0 : tat t (fcI t f) (fcJ t f) (fcK t f) ≠ 0 := by rw [pe, enth]; exact hnz
    have iv := invN_is hP (n := tat t (fcI t f) (fcJ t f) (fcK t f)) (by omega)
    rw [pe, ← eE] at iv
    obtain ⟨q, hq⟩ := inv_dvd iv
    rw [← pe] at hq
    have ok_iff : fcOK t = true ↔ ∀ a b c, (0 ≤ a ∧ a < t.i) → (0 ≤ b ∧ b < t.j) → (0 ≤ c ∧ c < t.k) → ((tat t a (fcJ t f) (fcK t f) * fcE t).tmod t.p * (tat t (fcI t f) b (fcK t f) * fcE t).tmod t.p * tat t (fcI t f) (fcJ t f) c).tmod t.p = tat t a b c := by
      unfold fcOK
      rw [hf, decide_eq_true (show 0 ≤ f by omega), Bool.true_and]
      constructor
      · intro h a b c ha hb hc
        have hx := fcAt_at tf (f := f) (e := fcE t) ha hb hc
        exact hx.2.1 (allN_at h hx.1)
      · intro h
        refine allN_true fun n hn => ?_
        obtain ⟨a, b, c, ha, hb, hc, e, _⟩ := at_places tf hn
        rw [e]
        exact (fcAt_at tf (f := f) (e := fcE t) ha hb hc).2.2 (h a b c ha hb hc)
    rw [ok_iff]
    generalize hi0 : fcI t f = i0 at *
    generalize hj0 : fcJ t f = j0 at *
    generalize hk0 : fcK t f = k0 at *
    generalize hE : fcE t = e at *
    have NZ : Nz t := ⟨i0, j0, k0, pi, pj, pk, hd0⟩
    have NZ1 : Nz (turnT t) := ⟨j0, k0, i0, pj, pk, pi, by rw [tat_turn tf pi pj pk]; exact hd0⟩
    have NZ2 : Nz (turnT (turnT t)) := ⟨k0, i0, j0, pk, pi, pj, by rw [tat_turn t1 pj pk pi, tat_turn tf pi pj pk]; exact hd0⟩
    constructor
    · intro h
      have hd : ∀ a b c, (0 ≤ a ∧ a < t.i) → (0 ≤ b ∧ b < t.j) → (0 ≤ c ∧ c < t.k) → t.p ∣ (tat t a j0 k0 * e).tmod t.p * (tat t i0 b k0 * e).tmod t.p * tat t i0 j0 c - tat t a b c := fun a b c ha hb hc => by
        have := tmod_dvd ((tat t a j0 k0 * e).tmod t.p * (tat t i0 b k0 * e).tmod t.p * tat t i0 j0 c) t.p
        rw [h a b c ha hb hc] at this
        exact this
      refine ⟨⟨NZ, ?_⟩, ⟨NZ1, ?_⟩, NZ2, ?_⟩
      · intro a a' b b' c c' ha ha' hb hb' hc hc'
        exact prod_minor (hd a b c ha hb hc) (hd a' b' c' ha' hb' hc') (hd a b' c' ha hb' hc') (hd a' b c ha' hb hc) (by grind)
      · intro b b' c c' a a' hb hb' hc hc' ha ha'
        rw [tat_turn tf ha hb hc, tat_turn tf ha' hb' hc', tat_turn tf ha' hb hc', tat_turn tf ha hb' hc]
        exact prod_minor (hd a b c ha hb hc) (hd a' b' c' ha' hb' hc') (hd a' b c' ha' hb hc') (hd a b' c ha hb' hc) (by grind)
      · intro c c' a a' b b' hc hc' ha ha' hb hb'
        rw [tat_turn t1 hb hc ha, tat_turn t1 hb' hc' ha', tat_turn t1 hb' hc ha', tat_turn t1 hb hc' ha, tat_turn tf ha hb hc, tat_turn tf ha' hb' hc', tat_turn tf ha' hb' hc, tat_turn tf ha hb hc']
        exact prod_minor (hd a b c ha hb hc) (hd a' b' c' ha' hb' hc') (hd a' b' c ha' hb' hc) (hd a b c' ha hb hc') (by grind)
    · rintro ⟨⟨_, m0⟩, ⟨_, m1⟩, _⟩ a b c ha hb hc
      obtain ⟨k1, h1⟩ := m0 a i0 j0 b k0 c ha pi pj hb pk hc
      have h2 := m1 b j0 k0 c i0 i0 hb pj pk hc pi pi
      rw [tat_turn tf pi hb pk, tat_turn tf pi pj hc, tat_turn tf pi hb hc, tat_turn tf pi pj pk] at h2
      obtain ⟨k2, h2⟩ := h2
      obtain ⟨k3, h3⟩ := tmod_dvd (tat t a j0 k0 * e) t.p
      obtain ⟨k4, h4⟩ := tmod_dvd (tat t i0 b k0 * e) t.p
      have tA := tat_in tf ha hb hc
      have tW := tat_in tf pi pj hc
      have nU := tmod_nn (a := tat t a j0 k0 * e) (J := t.p) (Int.mul_nonneg (tat_in tf ha pj pk).1 (by have := iv.1; omega)) (by omega)
      have nV := tmod_nn (a := tat t i0 b k0 * e) (J := t.p) (Int.mul_nonneg (tat_in tf pi hb pk).1 (by have := iv.1; omega)) (by omega)
      have nn : 0 ≤ (tat t a j0 k0 * e).tmod t.p * (tat t i0 b k0 * e).tmod t.p * tat t i0 j0 c := Int.mul_nonneg (Int.mul_nonneg nU.1 nV.1) tW.1
      obtain ⟨k5, h5⟩ := tmod_dvd ((tat t a j0 k0 * e).tmod t.p * (tat t i0 b k0 * e).tmod t.p * tat t i0 j0 c) t.p
      refine dvd_eq ?_ (tmod_nn nn (by omega)) tA
      generalize ((tat t a j0 k0 * e).tmod t.p * (tat t i0 b k0 * e).tmod t.p * tat t i0 j0 c).tmod t.p = R at *
      generalize (tat t a j0 k0 * e).tmod t.p = U at *
      generalize (tat t i0 b k0 * e).tmod t.p = V at *
      generalize tat t a j0 k0 = A at *
      generalize tat t i0 b k0 = B at *
      generalize tat t i0 j0 c = C at *
      generalize tat t a b c = X at *
      generalize tat t i0 b c = Y at *
      generalize tat t i0 j0 k0 = d at *
      have hU : U = A * e - t.p * k3 := by omega
      have hV : V = B * e - t.p * k4 := by omega
      have hR : R = U * V * C - t.p * k5 := by omega
      generalize t.p = p at *
      -- A * Y = X * d + p * k1, B * C = Y * d + p * k2, e * d = 1 + p * q
      refine ⟨e * e * A * k2 + e * e * d * k1 + X * (2 * q + p * q * q) - (A * e * k4 + k3 * B * e - p * k3 * k4) * C - k5, ?_⟩
      rw [hR, hU, hV]
      grind
theorem flG_iff {t : Ten} (tf : TF t) (hP : isP t.p = true) : gen 3 (flG t) = [1, 1, 1] ↔ fcOK t = true := by
  have t1 := tf.turned
  have t2 := t1.turned
  have e : gen 3 (flG t) = [flG t 0, flG t 1, flG t 2] := rfl
  have e0 : flG t 0 = (rankN t.p (flatU t) : Nat) := rfl
  have e1 : flG t 1 = (rankN t.p (flatU (turnT t)) : Nat) := rfl
  have e2 : flG t 2 = (rankN t.p (flatU (turnT (turnT t))) : Nat) := rfl
  have r0 := rank_flat tf hP
  have r1 := rank_flat t1 hP
  have r2 := rank_flat t2 hP
  rw [show (turnT t).p = t.p from rfl] at r1
  rw [show (turnT (turnT t)).p = t.p from rfl] at r2
  rw [simple_iff tf hP, ← r0, ← r1, ← r2, e, e0, e1, e2]
  simp only [List.cons.injEq, and_true]
  omega
end Go.Proofs.Ytapafdpnmakekaa.X

set_option linter.unusedVariables false
set_option linter.unusedSimpArgs false
set_option maxRecDepth 20000
set_option maxHeartbeats 4000000
namespace Go.Proofs.Ytapafdpnmakekaa.X
open Go Go.RowKit
end Go.Proofs.Ytapafdpnmakekaa.X

set_option linter.unusedVariables false
set_option linter.unusedSimpArgs false
set_option maxRecDepth 20000
set_option maxHeartbeats 4000000
namespace Go.Proofs.Ytapafdpnmakekaa.X
open Go Go.RowKit
def mmV (isMax : Bool) (x : Value) (l : List Value) : Option Value := match x with
  | .int k a => (xmm isMax a l).map fun b => .int k b
  | _ => none
theorem WX_mm {S : XS} {f : Fr} {h : AH} {Q : Value → AH → Prop} {b : Bool} {x : Operand} {l : List Operand} : WX S (.mm b x l) f h Q = WV (mmV b (ev f x) (l.map (ev f))) fun v => Q v h := by
  rw [WX_op (fun _ => rfl)]
  have : xop (.mm b x l) f h = (mmV b (ev f x) (l.map (ev f))).map (·, h) := by
    simp only [xop, mmV]
    generalize ev f x = vx
    cases vx <;> try rfl
    simp only
    generalize xmm b _ _ = r
    cases r <;> rfl
  rw [this]
  cases mmV b (ev f x) (l.map (ev f)) <;> simp [OQ_some, WV_some, OQ_none, WV_none]
theorem tmod_in {a J : Int} (ha : 0 ≤ a) (hJ : 1 ≤ J) : 0 ≤ a.tmod J ∧ a.tmod J < J := by
  rw [Int.tmod_eq_emod_of_nonneg ha]
  exact ⟨Int.emod_nonneg _ (by omega), Int.emod_lt_of_pos _ (by omega)⟩
def DoneS (N : Nat) (g : Nat → Int) (l : List Int) (m : Int) : Prop := l.length = N ∧ ∀ n : Nat, (n : Int) < m → l.getD n 0 = g n
theorem DoneS.step {N : Nat} {g : Nat → Int} {l : List Int} {m : Int} (d : DoneS N g l m) (hm : 0 ≤ m ∧ m < N) {x : Int} (hx : x = g m.toNat) : DoneS N g (l.set m.toNat x) (m + 1) := by
  refine ⟨by rw [List.length_set]; exact d.1, fun n hn => ?_⟩
  rw [set_getD (by rw [d.1]; omega)]
  split
  · rename_i e
    rw [e, hx]
  · exact d.2 n (by omega)
theorem DoneS.all {N : Nat} {g : Nat → Int} {l : List Int} {m : Int} (d : DoneS N g l m) (hm : m = N) : l = gen N g := gen_ext d.1 fun n hn => d.2 n (by omega)
structure KrS (t u s : Ten) (v w : Value) (h0 h : AH) (b5 nb : Nat) (l : List Int) : Prop where
  hp : h0 <+: h
  lo : h0.length + 3 ≤ nb ∧ nb < b5
  g1 : OwnB h h0.length [I64 t.p, I64 t.i, I64 t.j, I64 t.k, v] true
  g2 : OwnB h (h0.length + 1) [I64 u.p, I64 u.i, I64 u.j, I64 u.k, w] true
  g3 : ∃ c, c.length = 5 ∧ OwnB h (h0.length + 2) c true
  g5 : OwnB h b5 [I64 s.p, I64 s.i, I64 s.j, I64 s.k, .slice (some ⟨nb, 0, none⟩) (s.i * s.j * s.k).toNat 1] true
  gn : OwnB h nb (l.map (Value.int .i64)) true
theorem KrS.pre {t u s : Ten} {v w : Value} {h0 h h' : AH} {b5 nb : Nat} {l : List Int} (a : KrS t u s v w h0 h b5 nb l) (p : h <+: h') : KrS t u s v w h0 h' b5 nb l := by
  obtain ⟨c, c1, c2⟩ := a.g3
  exact ⟨a.hp.trans p, a.lo, a.g1.pre p, a.g2.pre p, ⟨c, c1, c2.pre p⟩, a.g5.pre p, a.gn.pre p⟩
end Go.Proofs.Ytapafdpnmakekaa.X

set_option linter.unusedVariables false
set_option linter.unusedSimpArgs false
set_option maxRecDepth 20000
set_option maxHeartbeats 4000000
namespace Go.Proofs.Ytapafdpnmakekaa.X
open Go Go.RowKit
end Go.Proofs.Ytapafdpnmakekaa.X

set_option linter.unusedVariables false
set_option linter.unusedSimpArgs false
set_option maxRecDepth 20000
set_option maxHeartbeats 4000000
namespace Go.Proofs.Ytapafdpnmakekaa.X
open Go Go.RowKit
def DoneZ (N : Nat) (g : Nat → Int) (l : List Int) (m : Int) : Prop := DoneS N g l m ∧ ∀ n : Nat, m ≤ (n : Int) → l.getD n 0 = 0
theorem DoneZ.step {N : Nat} {g : Nat → Int} {l : List Int} {m : Int} (d : DoneZ N g l m) (hm : 0 ≤ m ∧ m < N) {x : Int} (hx : x = g m.toNat) : DoneZ N g (l.set m.toNat x) (m + 1) := by
  refine ⟨d.1.step hm hx, fun n hn => ?_⟩
  rw [set_getD (by rw [d.1.1]; omega), if_neg (by omega)]
  exact d.2 n (by omega)
theorem DoneZ.skip {N : Nat} {g : Nat → Int} {l : List Int} {m : Int} (d : DoneZ N g l m) (hm : 0 ≤ m ∧ m < N) (hx : g m.toNat = 0) : DoneZ N g l (m + 1) := by
  refine ⟨⟨d.1.1, fun n hn => ?_⟩, fun n hn => d.2 n (by omega)⟩
  by_cases h : (n : Int) < m
  · exact d.1.2 n h
  · have : n = m.toNat := by omega
    rw [d.2 n (by omega), this, hx]
end Go.Proofs.Ytapafdpnmakekaa.X

set_option linter.unusedVariables false
set_option linter.unusedSimpArgs false
set_option maxRecDepth 20000
set_option maxHeartbeats 4000000
namespace Go.Proofs.Ytapafdpnmakekaa.X
open Go Go.RowKit
end Go.Proofs.Ytapafdpnmakekaa.X

set_option linter.unusedVariables false
set_option linter.unusedSimpArgs false
set_option maxRecDepth 20000
set_option maxHeartbeats 4000000
namespace Go.Proofs.Ytapafdpnmakekaa.X
open Go Go.RowKit
theorem TF.ten {p i j k : Int} {num : Int → Int → Int → Int} (hp : 2 ≤ p ∧ p ≤ 5) (hi : 1 ≤ i ∧ i ≤ 9) (hj : 1 ≤ j ∧ j ≤ 9) (hk : 1 ≤ k ∧ k ≤ 9)
    (hn : ∀ a b c, (0 ≤ a ∧ a < i) → (0 ≤ b ∧ b < j) → (0 ≤ c ∧ c < k) → 0 ≤ num a b c) : TF (tenT p i j k num) := by
  have ij := mul_in1 (A := 9) (B := 9) hi hj
  have ijk := mul_in1 (A := 81) (B := 9) ij hk
  have hl : (((tenT p i j k num).ns.length : Nat) : Int) = i * j * k := by
    show ((gen _ _).length : Int) = _
    rw [gen_len]
    omega
  refine ⟨hp, hi, hj, hk, hl, fun x h0 hx => ?_, ij, ijk⟩
  rw [hl] at hx
  have h1 : nth (tenT p i j k num).ns x = tenG p j k num x.toNat := by
    show (gen _ _).getD _ 0 = _
    exact gen_get (by omega)
  have h := places (n := x) (i := i) (j := j) (k := k) (by omega) hj.1 hk.1
  rw [h1]
  unfold tenG
  rw [show ((x.toNat : Nat) : Int) = x by omega]
  have := hn _ _ _ h.1 h.2.1 h.2.2
  exact ⟨Int.tmod_nonneg _ this, Int.tmod_lt_of_pos _ (by omega)⟩
section
variable {t u : Ten}
end
end Go.Proofs.Ytapafdpnmakekaa.X

set_option linter.unusedVariables false
set_option linter.unusedSimpArgs false
set_option maxRecDepth 20000
set_option maxHeartbeats 4000000
namespace Go.Proofs.Ytapafdpnmakekaa.X
open Go Go.RowKit
theorem lst_app {n : Nat} {l : List Int} {full : Bool} {H : AH} {x : Int} {e' : TypeId} {ro fu : Bool} (o : Lst H n l full) (hl : (l.length : Int) ≤ 1048576) {Q : Value → AH → Prop}
    (hQ : ∀ H' : AH, H'.length = H.length + 2 → Kp n H H' → Lst H' (H.length + 1) (l ++ [x]) false → Q (sl (H.length + 1) (l ++ [x]).length) H') :
    OQ (appV 2 1 8 (sl n l.length) (.slice (some ⟨H.length, 0, none⟩) 1 1) (H.new ⟨[I64 x], e', ro, fu⟩)) Q := by
  have hn : (H.new ⟨[I64 x], e', ro, fu⟩).rdn H.length 0 1 = some [I64 x] := by rw [rdn_new_same]; rfl
  have hk : (H.new ⟨[I64 x], e', ro, fu⟩).get n = some ⟨l.map (Value.int .i64), 2, false, full⟩ := get_new_any o
  have hkb := o.lt
  unfold sl
  rw [app_own hk (by simp) hn (by omega), OQ_some, len_new]
  have := hQ (((H.new ⟨[I64 x], e', ro, fu⟩).kill n).new ⟨l.map (Value.int .i64) ++ [I64 x], 2, false, false⟩) (by rw [len_new, len_kill, len_new]) ⟨by rw [len_new, len_kill, len_new]; omega, fun j hj hne => by
      rw [show (((H.new ⟨[I64 x], e', ro, fu⟩).kill n).new ⟨l.map (Value.int .i64) ++ [I64 x], 2, false, false⟩).get j = ((H.new ⟨[I64 x], e', ro, fu⟩).kill n).get j from prefix_get (pre_new (List.prefix_refl _)) (by rw [len_kill, len_new]; omega), get_kill_ne (Ne.symm hne)]
      exact prefix_get (pre_new (List.prefix_refl _)) hj⟩ (by unfold Lst; rw [get_new_eq (by rw [len_kill, len_new])]; simp)
  unfold sl at this
  rw [List.length_append, List.length_singleton] at this
  exact this
theorem s_l05List {h0 h : AH} {n N : Nat} {p : Int} {Q : Value → AH → Prop} (s : Src h0 h n) (hN : N ≤ 1000)
    (hQ : ∀ kb l fu h', Kp n h h' → Src h0 h' n → h.length ≤ kb → Lst h' kb l fu → l.length = N → (1 ≤ p → ∀ x ∈ l, 0 ≤ x ∧ x < p) → Q (sl kb l.length) h') : WF S 250 [srcP n, I64 p, I64 N] h Q := by
  refine WF_fn (fn := c250) rfl rfl ?_
  unfold c250
  have lt := s.lt
  have l0 := pre_len s.p
  ((try simp (maxSteps := 3000000) (dsimp := false) (disch := first | omega | (simp only [len_new, len_put, len_kill]; omega)) only [↓ypre, ypost, ↓reduceIte, Nat.reduceEqDiff, Nat.reduceAdd, Nat.reduceSub, Nat.reduceLeDiff, Nat.zero_add, Nat.sub_zero, ynew, fillL, zrep]); try simp only [yback])
  generalize hH1 : AH.new h _ = H1
  obtain ⟨hb1, p1, n1⟩ := new_facts hH1
  refine WC_loop_inv (fun m f K1 => ∃ (i : Nat) (l : List Int) (kb : Nat) (fu : Bool), m = N - i ∧ i ≤ N ∧ f 0 = srcP n ∧ f 1 = I64 p ∧ f 2 = I64 ((N - i : Nat) : Int) ∧ f 7 = sl kb l.length ∧ (Kp n h K1) ∧ (Src h0 K1 n) ∧ (l.length = i) ∧ (h.length ≤ kb) ∧ (Lst K1 kb l fu) ∧ (1 ≤ p → ∀ x ∈ l, 0 ≤ x ∧ x < p)) ?_ (N - 0) _ _ ⟨0, [], h.length, true, rfl, by omega, (by first | rfl | simp [upd_apply]), (by first | rfl | simp [upd_apply]), (by first | rfl | simp [upd_apply]), (by first | rfl | simp [upd_apply]), Kp.of p1, s.kp p1, rfl, Nat.le_refl _, hb1, fun _ x hx => by simp at hx⟩
  rintro m f K1 ⟨i, l, kb, fu, rfl, hi, f0, f1, f2, f7, kk, ss, li, hb, q, hx⟩
  by_cases hlt : (0 : Int) < ((N - i : Nat) : Int)
  · ((try simp (maxSteps := 3000000) (dsimp := false) (disch := first | omega | (simp only [len_new, len_put, len_kill]; omega)) only [↓ypre, ypost, ↓reduceIte, Nat.reduceEqDiff, Nat.reduceAdd, Nat.reduceSub, Nat.reduceLeDiff, Nat.zero_add, Nat.sub_zero, ynew, f0, f1, f2, f7, decide_eq_true hlt]); try simp only [yback])
    refine s_l01Next ss fun r H2 k2 l2 s2 hr _ => ?_
    have q := k2.get (by omega) q
    have lq := get_lt q
    have ln := s2.lt
    ((try simp (maxSteps := 3000000) (dsimp := false) (disch := first | omega | (simp only [len_new, len_put, len_kill]; omega)) only [↓ypre, ypost, ↓reduceIte, Nat.reduceEqDiff, Nat.reduceAdd, Nat.reduceSub, Nat.reduceLeDiff, Nat.zero_add, Nat.sub_zero, ynew, f0, f1, f2, f7, fillL, zrep]); try simp only [yback])
    refine lst_app q (by omega) fun H3 l3 k3 q3 => ?_
    ((try simp (maxSteps := 3000000) (dsimp := false) (disch := first | omega | (simp only [len_new, len_put, len_kill]; omega)) only [↓ypre, ypost, ↓reduceIte, Nat.reduceEqDiff, Nat.reduceAdd, Nat.reduceSub, Nat.reduceLeDiff, Nat.zero_add, Nat.sub_zero, ynew, f0, f1, f2, f7, wrap64_in]); try simp only [yback])
    have hx2 : 1 ≤ p → ∀ x ∈ l ++ [r], 0 ≤ x ∧ x < p := fun hp x hx' => by
      rcases List.mem_append.1 hx' with h | h
      · exact hx hp x h
      · rw [List.mem_singleton.1 h]; exact hr hp
    refine InvQ_go (N - (i + 1)) (by omega) ⟨(i + 1), (l ++ [r]), (H2.length + 1), false, rfl, by omega, (by first | rfl | exact f0 | (simp only [upd_apply]; rfl) | (show I64 _ = _; congr 1; omega)), (by first | rfl | exact f1 | (simp only [upd_apply]; rfl) | (show I64 _ = _; congr 1; omega)), (by first | rfl | exact f2 | (simp only [upd_apply]; rfl) | (show I64 _ = _; congr 1; omega)), (by first | rfl | exact f7 | (simp only [upd_apply]; rfl) | (show I64 _ = _; congr 1; omega)), ((kk.trans k2).over k3 (by omega)), (s2.over k3 (by omega) (by omega)), (by rw [List.length_append, li]; rfl), (by have := kk.len; omega), q3, hx2⟩
  · have e : i = N := by omega
    ((try simp (maxSteps := 3000000) (dsimp := false) (disch := first | omega | (simp only [len_new, len_put, len_kill]; omega)) only [↓ypre, ypost, ↓reduceIte, Nat.reduceEqDiff, Nat.reduceAdd, Nat.reduceSub, Nat.reduceLeDiff, Nat.zero_add, Nat.sub_zero, ynew, f0, f1, f2, f7, decide_eq_false hlt]); try simp only [yback])
    exact hQ kb l fu K1 kk ss hb q (by omega) hx
structure TenB (t : Ten) : Prop where
  p : -1000 ≤ t.p ∧ t.p ≤ 1000
  i : -1000 ≤ t.i ∧ t.i ≤ 1000
  j : -1000 ≤ t.j ∧ t.j ≤ 1000
  k : -1000 ≤ t.k ∧ t.k ≤ 1000
  ns : t.ns.length ≤ 1000
def TenD (lo : Nat) (h : AH) (v : Value) (t : Ten) : Prop := KN lo h fun h' => Ints h' v t.ns
structure TenS (t : Ten) : Prop where
  p : 2 ≤ t.p ∧ t.p ≤ 5
  i : 1 ≤ t.i ∧ t.i ≤ 9
  j : 1 ≤ t.j ∧ t.j ≤ 9
  k : 1 ≤ t.k ∧ t.k ≤ 9
theorem TF.tenS {t : Ten} (f : TF t) : TenS t := ⟨f.p, f.i, f.j, f.k⟩
theorem OwnI.blk {h h' : AH} {v : Value} {ns : List Int} (o : OwnI h h' v ns) : ∃ m e, h.length ≤ m ∧ v = sl m ns.length ∧ h'.get m = some ⟨ns.map (Value.int .i64), e, false, true⟩ := by
  obtain ⟨m, e, h1, rfl, h3⟩ := o
  exact ⟨m, e, h1, rfl, h3⟩
theorem nums_kN {lo m : Nat} {h : AH} {l : List Int} {e : TypeId} {full : Bool} (g : h.get m = some ⟨l.map (Value.int .i64), e, false, full⟩) (hn : lo ≤ m) : KN lo h fun h' => Ints h' (sl m l.length) l := fun h' d d' => Ints.own (by rw [d' m hn (get_lt g)]; exact g) rfl
theorem s_l05Sides {h0 h : AH} {n : Nat} {M : Int} {Q : Value → AH → Prop} (s : Src h0 h n) (hM : 2 ≤ M ∧ M ≤ 4)
    (hQ : ∀ (t : Ten) (m : Nat) (e : TypeId) (h' : AH), Kp n h h' → Src h0 h' n → TenS t → isP t.p = true → t.ns = List.replicate (t.i * t.j * t.k).toNat 0 → h.length ≤ m → h'.get m = some ⟨t.ns.map (Value.int .i64), e, false, true⟩ → Q (tenV t (sl m t.ns.length)) h') : WF S 292 [srcP n, I64 M] h Q := by
  refine WF_fn (fn := c292) rfl rfl ?_
  unfold c292
  have lt := s.lt
  have l0 := pre_len s.p
  ((try simp (maxSteps := 3000000) (dsimp := false) (disch := first | omega | (simp only [len_new, len_put, len_kill]; omega)) only [↓ypre, ypost, ↓reduceIte, Nat.reduceEqDiff, Nat.reduceAdd, Nat.reduceSub, Nat.reduceLeDiff, Nat.zero_add, Nat.sub_zero, ynew, fillL, zrep]); try simp only [yback])
  generalize hH1 : AH.new h _ = H1
  obtain ⟨hb1, p1, n1⟩ := new_facts hH1
  generalize hH2 : AH.new H1 _ = H2
  obtain ⟨hb2, p2, n2⟩ := new_facts hH2
  have kv := kp_new (n := n) (ns := [2, 2, 3, 5]) hH2 (by omega)
  refine s_l01Pick (s.kp (p1.trans p2)) kv (by simp) (by simp) fun j H3 k3 l3 s3 hj => ?_
  have hp : ([2, 2, 3, 5] : List Int).getD j 0 = 2 ∨ ([2, 2, 3, 5] : List Int).getD j 0 = 3 ∨ ([2, 2, 3, 5] : List Int).getD j 0 = 5 := by
    simp at hj
    have : j = 0 ∨ j = 1 ∨ j = 2 ∨ j = 3 := by omega
    rcases this with rfl | rfl | rfl | rfl <;> simp
  generalize ([2, 2, 3, 5] : List Int).getD j 0 = p at hp
  have g1 := k3.get (by omega) (pre_get p2 hb1)
  ((try simp (maxSteps := 3000000) (dsimp := false) (disch := first | omega | (simp only [len_new, len_put, len_kill]; omega)) only [↓ypre, ypost, ↓reduceIte, Nat.reduceEqDiff, Nat.reduceAdd, Nat.reduceSub, Nat.reduceLeDiff, Nat.zero_add, Nat.sub_zero, ynew]); try simp only [yback])
  refine s_l01Next s3 fun a H4 k4 l4 s4 ha _ => ?_
  have ha := ha (by omega)
  ((try simp (maxSteps := 3000000) (dsimp := false) (disch := first | omega | (simp only [len_new, len_put, len_kill]; omega)) only [↓ypre, ypost, ↓reduceIte, Nat.reduceEqDiff, Nat.reduceAdd, Nat.reduceSub, Nat.reduceLeDiff, Nat.zero_add, Nat.sub_zero, ynew, wrap64_in]); try simp only [yback])
  refine s_l01Next s4 fun b H5 k5 l5 s5 hb _ => ?_
  have hb := hb (by omega)
  ((try simp (maxSteps := 3000000) (dsimp := false) (disch := first | omega | (simp only [len_new, len_put, len_kill]; omega)) only [↓ypre, ypost, ↓reduceIte, Nat.reduceEqDiff, Nat.reduceAdd, Nat.reduceSub, Nat.reduceLeDiff, Nat.zero_add, Nat.sub_zero, ynew, wrap64_in]); try simp only [yback])
  refine s_l01Next s5 fun c H6 k6 l6 s6 hc _ => ?_
  have hc := hc (by omega)
  ((try simp (maxSteps := 3000000) (dsimp := false) (disch := first | omega | (simp only [len_new, len_put, len_kill]; omega)) only [↓ypre, ypost, ↓reduceIte, Nat.reduceEqDiff, Nat.reduceAdd, Nat.reduceSub, Nat.reduceLeDiff, Nat.zero_add, Nat.sub_zero, ynew, wrap64_in]); try simp only [yback])
  have m1 := mul_in1 (A := 4) (B := 4) (a := 1 + a) (b := 1 + b) (by omega) (by omega)
  have m2 := mul_in1 (A := 16) (B := 4) (a := (1 + a) * (1 + b)) (b := 1 + c) (by omega) (by omega)
  refine s_l05Empty (by omega) (by omega) fun v H7 p7 o7 => ?_
  obtain ⟨m, e, hm, rfl, gm⟩ := o7.blk
  have g1 := pre_get p7 (k6.get (by omega) (k5.get (by omega) (k4.get (by omega) g1)))
  have lg := get_lt g1
  ((try simp (maxSteps := 3000000) (dsimp := false) (disch := first | omega | (simp only [len_new, len_put, len_kill]; omega)) only [↓ypre, ypost, ↓reduceIte, Nat.reduceEqDiff, Nat.reduceAdd, Nat.reduceSub, Nat.reduceLeDiff, Nat.zero_add, Nat.sub_zero, ynew, tenV, one_slice, wr_of g1, splice_eq, rdn_put_same]); try simp only [yback])
  have kk := (Kp.of (n := n) (p1.trans p2)).trans (k3.trans (k4.trans (k5.trans (k6.trans (Kp.of p7)))))
  have := hQ ⟨p, 1 + a, 1 + b, 1 + c, List.replicate ((1 + a) * (1 + b) * (1 + c)).toNat 0⟩ m e _ (kk.putb (m := h.length) (b := ⟨[I64 p, I64 (1 + a), I64 (1 + b), I64 (1 + c), sl m (List.replicate ((1 + a) * (1 + b) * (1 + c)).toNat (0 : Int)).length], 36, false, true⟩) (Nat.le_refl _)) ((s6.kp p7).putb (by omega) (by omega)) ⟨isP_in (isP_of hp), by show 1 ≤ 1 + a ∧ 1 + a ≤ 9; omega, by show 1 ≤ 1 + b ∧ 1 + b ≤ 9; omega, by show 1 ≤ 1 + c ∧ 1 + c ≤ 9; omega⟩ (isP_of hp) rfl (by omega) (by rw [get_put_ne (by omega)]; exact gm)
  exact ⟨rfl, this⟩
end Go.Proofs.Ytapafdpnmakekaa.X

set_option linter.unusedVariables false
set_option linter.unusedSimpArgs false
set_option maxRecDepth 20000
set_option maxHeartbeats 4000000
namespace Go.Proofs.Ytapafdpnmakekaa.X
open Go Go.RowKit
theorem getD_of_mem {p : Int} {l : List Int} (h : ∀ x ∈ l, 0 ≤ x ∧ x < p) {j : Nat} (hj : j < l.length) : 0 ≤ l.getD j 0 ∧ l.getD j 0 < p := by
  rw [List.getD_eq_getElem?_getD, List.getElem?_eq_getElem hj]
  exact h _ (List.getElem_mem _)
theorem s_l05Fill {h0 h : AH} {n : Nat} {v : Value} {t : Ten} {Q : Value → AH → Prop} (s : Src h0 h n) (ts : TenS t) (hv : isOne v = true)
    (hQ : ∀ (l : List Int) (m : Nat) (e : TypeId) (h' : AH), Kp n h h' → Src h0 h' n → l.length = (t.i * t.j * t.k).toNat → h.length ≤ m → h'.get m = some ⟨l.map (Value.int .i64), e, false, true⟩ → Q (tenV ⟨t.p, t.i, t.j, t.k, l⟩ (sl m l.length)) h') : WF S 174 [srcP n, tenV t v] h Q := by
  refine WF_fn (fn := c174) rfl rfl ?_
  unfold c174
  have lt := s.lt
  have l0 := pre_len s.p
  obtain ⟨tp, ti, tj, tk⟩ := ts
  have ij := mul_in1 (A := 9) (B := 9) ti tj
  have ijk := mul_in1 (A := 81) (B := 9) ij tk
  have jk := mul_in1 (A := 9) (B := 9) tj tk
  ((try simp (maxSteps := 3000000) (dsimp := false) (disch := first | omega | (simp only [len_new, len_put, len_kill]; omega)) only [↓ypre, ypost, ↓reduceIte, Nat.reduceEqDiff, Nat.reduceAdd, Nat.reduceSub, Nat.reduceLeDiff, Nat.zero_add, Nat.sub_zero, ynew, tenV, hv]); try simp only [yback])
  generalize hH1 : AH.new h _ = H1
  obtain ⟨hb1, p1, n1⟩ := new_facts hH1
  generalize hH2 : AH.new H1 _ = H2
  obtain ⟨hb2, p2, n2⟩ := new_facts hH2
  ((try simp (maxSteps := 3000000) (dsimp := false) (disch := first | omega | (simp only [len_new, len_put, len_kill]; omega)) only [↓ypre, ypost, ↓reduceIte, Nat.reduceEqDiff, Nat.reduceAdd, Nat.reduceSub, Nat.reduceLeDiff, Nat.zero_add, Nat.sub_zero, ynew, rd1_of (pre_get p2 hb1)]); try simp only [yback])
  refine s_l05Empty (by omega) (by omega) fun v3 H3 p3 o3 => ?_
  obtain ⟨mb, e, hmb, rfl, gm⟩ := o3.blk
  have g1 := pre_get (p2.trans p3) hb1
  have g2 := pre_get p3 hb2
  have lm := get_lt gm
  ((try simp (maxSteps := 3000000) (dsimp := false) (disch := first | omega | (simp only [len_new, len_put, len_kill]; omega)) only [↓ypre, ypost, ↓reduceIte, Nat.reduceEqDiff, Nat.reduceAdd, Nat.reduceSub, Nat.reduceLeDiff, Nat.zero_add, Nat.sub_zero, ynew, tenV, one_slice, sl]); try simp only [yback])
  generalize hH4 : AH.new H3 _ = H4
  obtain ⟨hb4, p4, n4⟩ := new_facts hH4
  have kk4 : Kp n h H4 := Kp.of (p1.trans (p2.trans (p3.trans p4)))
  have s4 : Src h0 H4 n := s.kp (p1.trans (p2.trans (p3.trans p4)))
  obtain ⟨N, hN⟩ : ∃ N : Nat, (t.i * t.j * t.k).toNat = N := ⟨_, rfl⟩
  rw [hN] at gm hb4 ⊢
  rw [List.length_replicate] at hb4
  have gm4 := pre_get p4 gm
  have g14 := pre_get p4 g1
  have g24 := pre_get p4 g2
  have l3 := pre_len p3
  have fin : ∀ (l : List Int) (h' : AH), Kp n h h' → Src h0 h' n → l.length = N → h'.get mb = some ⟨l.map (Value.int .i64), e, false, true⟩ →
      Q (.agg #[I64 t.p, I64 t.i, I64 t.j, I64 t.k, .slice (some ⟨mb, 0, none⟩) N 1]) (h'.put H1.length ⟨[I64 t.p, I64 t.i, I64 t.j, I64 t.k, .slice (some ⟨mb, 0, none⟩) N 1], 36, false, true⟩) := fun l h' kk ss hl g => by
    have := hQ l mb e _ (kk.putb (m := H1.length) (b := ⟨[I64 t.p, I64 t.i, I64 t.j, I64 t.k, .slice (some ⟨mb, 0, none⟩) N 1], 36, false, true⟩) (by omega)) (ss.putb (by omega) (by omega)) (by rw [hl, hN]) (by omega) (by rw [get_put_ne (by omega)]; exact g)
    unfold sl tenV at this
    rw [hl] at this
    exact this
  ((try simp (maxSteps := 3000000) (dsimp := false) (disch := first | omega | (simp only [len_new, len_put, len_kill]; omega)) only [↓ypre, ypost, ↓reduceIte, Nat.reduceEqDiff, Nat.reduceAdd, Nat.reduceSub, Nat.reduceLeDiff, Nat.zero_add, Nat.sub_zero, ynew, List.length_replicate]); try simp only [yback])
  refine s_l01Next s4 fun r H5 k5 l5 s5 hr _ => ?_
  have gm5 := k5.get (by omega) gm4
  have g15 := k5.get (by omega) g14
  have g25 := k5.get (by omega) g24
  have g45 := k5.get (by omega) hb4
  obtain ⟨I, eI⟩ : ∃ I : Nat, t.i = I := ⟨t.i.toNat, by omega⟩
  obtain ⟨J, eJ⟩ : ∃ J : Nat, t.j = J := ⟨t.j.toNat, by omega⟩
  obtain ⟨K, eK⟩ : ∃ K : Nat, t.k = K := ⟨t.k.toNat, by omega⟩
  by_cases h0' : r = 0
  · ((try simp (maxSteps := 3000000) (dsimp := false) (disch := first | omega | (simp only [len_new, len_put, len_kill]; omega)) only [↓ypre, ypost, ↓reduceIte, Nat.reduceEqDiff, Nat.reduceAdd, Nat.reduceSub, Nat.reduceLeDiff, Nat.zero_add, Nat.sub_zero, ynew, decide_eq_true h0', rd1_of g15]); try simp only [yback])
    rw [eI]
    refine s_l05List s5 (by omega) fun ku lu fu H6 k6 s6 hku qu lu' xu => ?_
    have gm6 := k6.get (by omega) gm5
    have g16 := k6.get (by omega) g15
    have g26 := k6.get (by omega) g25
    have g46 := k6.get (by omega) g45
    refine ⟨⟨n, rfl, k6⟩, ?_⟩
    ((try simp (maxSteps := 3000000) (dsimp := false) (disch := first | omega | (simp only [len_new, len_put, len_kill]; omega)) only [↓ypre, ypost, ↓reduceIte, Nat.reduceEqDiff, Nat.reduceAdd, Nat.reduceSub, Nat.reduceLeDiff, Nat.zero_add, Nat.sub_zero, ynew, rd1_of g16]); try simp only [yback])
    refine ⟨by omega, by omega, ?_⟩
    rw [eJ]
    refine s_l05List s6 (by omega) fun kv lv fv H7 k7 s7 hkv qv lv' xv => ?_
    have lqu := qu.lt
    have gm7 := k7.get (by omega) gm6
    have g17 := k7.get (by omega) g16
    have g27 := k7.get (by omega) g26
    have g47 := k7.get (by omega) g46
    have qu7 : Lst H7 ku lu fu := k7.get (by have := s6.lt; omega) qu
    refine ⟨⟨n, rfl, k7⟩, ?_⟩
    ((try simp (maxSteps := 3000000) (dsimp := false) (disch := first | omega | (simp only [len_new, len_put, len_kill]; omega)) only [↓ypre, ypost, ↓reduceIte, Nat.reduceEqDiff, Nat.reduceAdd, Nat.reduceSub, Nat.reduceLeDiff, Nat.zero_add, Nat.sub_zero, ynew, rd1_of g17]); try simp only [yback])
    refine ⟨by omega, by omega, ?_⟩
    rw [eK]
    refine s_l05List s7 (by omega) fun kw lw fw H8 k8 s8 hkw qw lw' xw => ?_
    have lqv := qv.lt
    have gm8 := k8.get (by omega) gm7
    have g18 := k8.get (by omega) g17
    have g28 := k8.get (by omega) g27
    have g48 := k8.get (by omega) g47
    have qu8 : Lst H8 ku lu fu := k8.get (by have := s6.lt; omega) qu7
    have qv8 : Lst H8 kv lv fv := k8.get (by have := s7.lt; omega) qv
    have kk8 : Kp n h H8 := kk4.trans (k5.trans (k6.trans (k7.trans k8)))
    have n5 := s5.lt
    have m5 := get_lt gm5
    have hNi : (N : Int) = I * J * K := by
      have : t.i * t.j * t.k = ((t.i * t.j * t.k).toNat : Int) := by omega
      rw [hN, eI, eJ, eK] at this
      exact this.symm
    rw [eJ, eK] at jk
    ((try simp (maxSteps := 3000000) (dsimp := false) (disch := first | omega | (simp only [len_new, len_put, len_kill]; omega)) only [↓ypre, ypost, ↓reduceIte, Nat.reduceEqDiff, Nat.reduceAdd, Nat.reduceSub, Nat.reduceLeDiff, Nat.zero_add, Nat.sub_zero, ynew]); try simp only [yback])
    refine WC_loop_inv (fun m f K1 => ∃ (i : Nat) (l : List Int), m = N - i ∧ i ≤ N ∧ f 3 = .pointer (some ⟨h.length, 0, none⟩) ∧ f 4 = .pointer (some ⟨H1.length, 0, none⟩) ∧ f 5 = .pointer (some ⟨H3.length, 0, none⟩) ∧ f 6 = sl ku lu.length ∧ f 7 = sl kv lv.length ∧ f 8 = sl kw lw.length ∧ f 9 = I64 i ∧ (Kp n h K1) ∧ (Src h0 K1 n) ∧ (l.length = N) ∧ (K1.get mb = some ⟨l.map (Value.int .i64), e, false, true⟩) ∧ (K1.get h.length = some ⟨[I64 t.p, I64 t.i, I64 t.j, I64 t.k, v], 36, false, true⟩) ∧ (K1.get H1.length = some ⟨[I64 0, I64 0, I64 0, I64 0, .slice none 0 0], 36, false, true⟩) ∧ (K1.get H3.length = some ⟨[I64 t.p, I64 t.i, I64 t.j, I64 t.k, .slice (some ⟨mb, 0, none⟩) N 1], 36, false, true⟩) ∧ (Lst K1 ku lu fu) ∧ (Lst K1 kv lv fv) ∧ (Lst K1 kw lw fw)) ?_ (N - 0) _ _ ⟨0, List.replicate N 0, rfl, by omega, (by first | rfl | simp [upd_apply]), (by first | rfl | simp [upd_apply]), (by first | rfl | simp [upd_apply]), (by first | rfl | simp [upd_apply]), (by first | rfl | simp [upd_apply]), (by first | rfl | simp [upd_apply]), (by first | rfl | simp [upd_apply]), kk8, s8, (by simp), gm8, g18, g28, g48, qu8, qv8, qw⟩
    rintro m f K1 ⟨i, l, rfl, hi, f3, f4, f5, f6, f7, f8, f9, kk, ss, ll, qm, q1, q2, q4, qu, qv, qw⟩
    by_cases hlt : (i : Int) < N
    · have pl := places (n := i) (i := I) (j := J) (k := K) (by omega) (by omega) (by omega)
      have e1 : (i : Int).tdiv ((J : Int) * K) = (i : Int) / K / J := by
        rw [Int.tdiv_eq_ediv_of_nonneg (by omega), Int.mul_comm, ← Int.ediv_ediv_of_nonneg (by omega)]
      have e2 : ((i : Int).tdiv K).tmod J = (i : Int) / K % J := by
        rw [Int.tdiv_eq_ediv_of_nonneg (by omega), Int.tmod_eq_emod_of_nonneg (Int.ediv_nonneg (by omega) (by omega))]
      have e3 : (i : Int).tmod K = (i : Int) % K := Int.tmod_eq_emod_of_nonneg (by omega)
      have dk : 0 ≤ (i : Int).tdiv K ∧ (i : Int).tdiv K ≤ i := by
        rw [Int.tdiv_eq_ediv_of_nonneg (by omega)]
        exact ⟨Int.ediv_nonneg (by omega) (by omega), Int.ediv_le_self _ (by omega)⟩
      rw [← e1, ← e2, ← e3] at pl
      obtain ⟨pl1, pl2, pl3⟩ := pl
      generalize hx1 : (i : Int).tdiv ((J : Int) * K) = x1 at *
      generalize hx3 : (i : Int).tmod K = x3 at *
      generalize hxd : (i : Int).tdiv K = xd at *
      generalize hx2 : xd.tmod J = x2 at *
      rw [← eJ, ← eK] at hx1
      rw [← eK] at hx3 hxd
      rw [← eJ] at hx2
      have jk' : 1 ≤ t.j * t.k ∧ t.j * t.k ≤ 81 := by rw [eJ, eK]; exact jk
      have iu := qu.ints
      have iv := qv.ints
      have iw := qw.ints
      have ru := iu.rd pl1.1 (by omega)
      have rv := iv.rd pl2.1 (by omega)
      have rw' := iw.rd pl3.1 (by omega)
      have bu := getD_of_mem (xu (by omega)) (j := x1.toNat) (by omega)
      have bv := getD_of_mem (xv (by omega)) (j := x2.toNat) (by omega)
      have bw := getD_of_mem (xw (by omega)) (j := x3.toNat) (by omega)
      have iux := iu.ix (k := .i64) pl1.1 (by omega)
      have ivx := iv.ix (k := .i64) pl2.1 (by omega)
      have iwx := iw.ix (k := .i64) pl3.1 (by omega)
      unfold nth at ru rv rw'
      generalize lu.getD x1.toNat 0 = yu at *
      generalize lv.getD x2.toNat 0 = yv at *
      generalize lw.getD x3.toNat 0 = yw at *
      have b1 := mul_in (a := yu) (b := yv) (A := 5) (B := 5) (by omega) (by omega)
      have b2 := mul_in (a := yu * yv) (b := yw) (A := 25) (B := 5) (by omega) (by omega)
      have ixm : ixsV 1 (.slice (some ⟨mb, 0, none⟩) N 1) (I64 i) = some (.pointer (some ⟨mb, i, none⟩)) := by
        rw [ixsV_some, if_pos (by omega)]
        simp
      have st := map_set (l := l) (j := i) (x := (yu * yv * yw).tmod t.p) (by omega)
      ((try simp (maxSteps := 3000000) (dsimp := false) (disch := first | omega | (simp only [len_new, len_put, len_kill]; omega)) only [↓ypre, ypost, ↓reduceIte, Nat.reduceEqDiff, Nat.reduceAdd, Nat.reduceSub, Nat.reduceLeDiff, Nat.zero_add, Nat.sub_zero, ynew, f3, f4, f5, f6, f7, f8, f9, rd1_of q4, lenV_slice, decide_eq_true hlt, rd1_of q1, wrap64_in, bin_quo (show (t.j * t.k) ≠ 0 by omega), bin_quo (show t.k ≠ 0 by omega), bin_rem (show t.k ≠ 0 by omega), bin_rem (show t.j ≠ 0 by omega), bin_rem (show t.p ≠ 0 by omega), hx1, hxd, hx2, hx3, iux, ivx, iwx, ru, rv, rw', ixm, wr_of qm, st, List.length_map, ll]); try simp only [yback])
      refine ⟨by omega, ?_⟩
      have nM := ss.lt
      have lm := get_lt qm
      refine InvQ_go (N - (i + 1)) (by omega) ⟨(i + 1), (l.set i ((yu * yv * yw).tmod t.p)), rfl, by omega, (by first | rfl | exact f3 | (simp only [upd_apply]; rfl) | (show I64 _ = _; congr 1; omega)), (by first | rfl | exact f4 | (simp only [upd_apply]; rfl) | (show I64 _ = _; congr 1; omega)), (by first | rfl | exact f5 | (simp only [upd_apply]; rfl) | (show I64 _ = _; congr 1; omega)), (by first | rfl | exact f6 | (simp only [upd_apply]; rfl) | (show I64 _ = _; congr 1; omega)), (by first | rfl | exact f7 | (simp only [upd_apply]; rfl) | (show I64 _ = _; congr 1; omega)), (by first | rfl | exact f8 | (simp only [upd_apply]; rfl) | (show I64 _ = _; congr 1; omega)), (by first | rfl | exact f9 | (simp only [upd_apply]; rfl) | (show I64 _ = _; congr 1; omega)), (Kp.putb (m := mb) kk (by omega)), (Src.putb (m := mb) ss (by omega) (by omega)), (by rw [List.length_set, ll]), (get_put_same lm), (by rw [get_put_ne (by omega)]; exact q1), (by rw [get_put_ne (by omega)]; exact q2), (by rw [get_put_ne (by omega)]; exact q4), (qu.put_ne (by omega)), (qv.put_ne (by omega)), (qw.put_ne (by omega))⟩
    · ((try simp (maxSteps := 3000000) (dsimp := false) (disch := first | omega | (simp only [len_new, len_put, len_kill]; omega)) only [↓ypre, ypost, ↓reduceIte, Nat.reduceEqDiff, Nat.reduceAdd, Nat.reduceSub, Nat.reduceLeDiff, Nat.zero_add, Nat.sub_zero, ynew, f3, f4, f5, f6, f7, f8, f9, rd1_of q4, lenV_slice, decide_eq_false hlt]); try simp only [yback])
      have lg := get_lt q2
      ((try simp (maxSteps := 3000000) (dsimp := false) (disch := first | omega | (simp only [len_new, len_put, len_kill]; omega)) only [↓ypre, ypost, ↓reduceIte, Nat.reduceEqDiff, Nat.reduceAdd, Nat.reduceSub, Nat.reduceLeDiff, Nat.zero_add, Nat.sub_zero, ynew, f3, f4, f5, f6, f7, f8, f9, rdn_of q4, wr_of q2, splice_eq, rdn_put_same]); try simp only [yback])
      exact fin l K1 kk ss ll qm
  · ((try simp (maxSteps := 3000000) (dsimp := false) (disch := first | omega | (simp only [len_new, len_put, len_kill]; omega)) only [↓ypre, ypost, ↓reduceIte, Nat.reduceEqDiff, Nat.reduceAdd, Nat.reduceSub, Nat.reduceLeDiff, Nat.zero_add, Nat.sub_zero, ynew, decide_eq_false h0']); try simp only [yback])
    refine s_l01Next s5 fun cal H6 k6 l6 s6 hcal _ => ?_
    have gm6 := k6.get (by omega) gm5
    have g16 := k6.get (by omega) g15
    have g26 := k6.get (by omega) g25
    have g46 := k6.get (by omega) g45
    have kk6 : Kp n h H6 := kk4.trans (k5.trans k6)
    have n5 := s6.lt
    have m5 := get_lt gm6
    ((try simp (maxSteps := 3000000) (dsimp := false) (disch := first | omega | (simp only [len_new, len_put, len_kill]; omega)) only [↓ypre, ypost, ↓reduceIte, Nat.reduceEqDiff, Nat.reduceAdd, Nat.reduceSub, Nat.reduceLeDiff, Nat.zero_add, Nat.sub_zero, ynew]); try simp only [yback])
    refine WC_loop_inv (fun m f K2 => ∃ (i : Nat) (l : List Int), m = N - i ∧ i ≤ N ∧ f 0 = srcP n ∧ f 3 = .pointer (some ⟨h.length, 0, none⟩) ∧ f 4 = .pointer (some ⟨H1.length, 0, none⟩) ∧ f 5 = .pointer (some ⟨H3.length, 0, none⟩) ∧ f 10 = I64 cal ∧ f 11 = I64 i ∧ (Kp n h K2) ∧ (Src h0 K2 n) ∧ (l.length = N) ∧ (K2.get mb = some ⟨l.map (Value.int .i64), e, false, true⟩) ∧ (K2.get h.length = some ⟨[I64 t.p, I64 t.i, I64 t.j, I64 t.k, v], 36, false, true⟩) ∧ (K2.get H1.length = some ⟨[I64 0, I64 0, I64 0, I64 0, .slice none 0 0], 36, false, true⟩) ∧ (K2.get H3.length = some ⟨[I64 t.p, I64 t.i, I64 t.j, I64 t.k, .slice (some ⟨mb, 0, none⟩) N 1], 36, false, true⟩)) ?_ (N - 0) _ _ ⟨0, List.replicate N 0, rfl, by omega, (by first | rfl | simp [upd_apply]), (by first | rfl | exact f3 | (simp [upd_apply]; done)), (by first | rfl | exact f4 | (simp [upd_apply]; done)), (by first | rfl | exact f5 | (simp [upd_apply]; done)), (by first | rfl | simp [upd_apply]), (by first | rfl | simp [upd_apply]), kk6, s6, (by simp), gm6, g16, g26, g46⟩
    rintro m f K2 ⟨i, l, rfl, hi, f0, f3, f4, f5, f10, f11, kk, ss, ll, qm, q1, q2, q4⟩
    by_cases hlt : (i : Int) < N
    · have ixm : ixsV 1 (.slice (some ⟨mb, 0, none⟩) N 1) (I64 i) = some (.pointer (some ⟨mb, i, none⟩)) := by
        rw [ixsV_some, if_pos (by omega)]
        simp
      have lm0 := get_lt qm
      have nM0 := ss.lt
      by_cases hc : cal = 0
      · ((try simp (maxSteps := 3000000) (dsimp := false) (disch := first | omega | (simp only [len_new, len_put, len_kill]; omega)) only [↓ypre, ypost, ↓reduceIte, Nat.reduceEqDiff, Nat.reduceAdd, Nat.reduceSub, Nat.reduceLeDiff, Nat.zero_add, Nat.sub_zero, ynew, f0, f3, f4, f5, f10, f11, rd1_of q4, lenV_slice, decide_eq_true hlt, decide_eq_true hc, rd1_of q1]); try simp only [yback])
        refine ⟨by omega, ?_⟩
        refine s_l01Next ss fun x H7 k7 l7 s7 hx _ => ?_
        have q1 := k7.get (by omega) q1
        have q2 := k7.get (by omega) q2
        have q4 := k7.get (by omega) q4
        have qm := k7.get (by omega) qm
        have lm := get_lt qm
        refine ⟨⟨n, rfl, k7⟩, ?_⟩
        have st := map_set (l := l) (j := i) (x := x) (by omega)
        ((try simp (maxSteps := 3000000) (dsimp := false) (disch := first | omega | (simp only [len_new, len_put, len_kill]; omega)) only [↓ypre, ypost, ↓reduceIte, Nat.reduceEqDiff, Nat.reduceAdd, Nat.reduceSub, Nat.reduceLeDiff, Nat.zero_add, Nat.sub_zero, ynew, f0, f3, f4, f5, f10, f11, ixm, wr_of qm, st, List.length_map, ll, wrap64_in]); try simp only [yback])
        refine ⟨by omega, ?_⟩
        refine InvQ_go (N - (i + 1)) (by omega) ⟨(i + 1), (l.set i x), rfl, by omega, (by first | rfl | exact f0 | (simp only [upd_apply]; rfl) | (show I64 _ = _; congr 1; omega)), (by first | rfl | exact f3 | (simp only [upd_apply]; rfl) | (show I64 _ = _; congr 1; omega)), (by first | rfl | exact f4 | (simp only [upd_apply]; rfl) | (show I64 _ = _; congr 1; omega)), (by first | rfl | exact f5 | (simp only [upd_apply]; rfl) | (show I64 _ = _; congr 1; omega)), (by first | rfl | exact f10 | (simp only [upd_apply]; rfl) | (show I64 _ = _; congr 1; omega)), (by first | rfl | exact f11 | (simp only [upd_apply]; rfl) | (show I64 _ = _; congr 1; omega)), (Kp.putb (m := mb) (kk.trans k7) (by omega)), (Src.putb (m := mb) s7 (by omega) (by omega)), (by rw [List.length_set, ll]), (get_put_same lm), (by rw [get_put_ne (by omega)]; exact q1), (by rw [get_put_ne (by omega)]; exact q2), (by rw [get_put_ne (by omega)]; exact q4)⟩
      · ((try simp (maxSteps := 3000000) (dsimp := false) (disch := first | omega | (simp only [len_new, len_put, len_kill]; omega)) only [↓ypre, ypost, ↓reduceIte, Nat.reduceEqDiff, Nat.reduceAdd, Nat.reduceSub, Nat.reduceLeDiff, Nat.zero_add, Nat.sub_zero, ynew, f0, f3, f4, f5, f10, f11, rd1_of q4, lenV_slice, decide_eq_true hlt, decide_eq_false hc]); try simp only [yback])
        refine s_l01Next ss fun y H8 k8 l8 s8 hy _ => ?_
        have q1 := k8.get (by omega) q1
        have q2 := k8.get (by omega) q2
        have q4 := k8.get (by omega) q4
        have qm := k8.get (by omega) qm
        have nM := s8.lt
        by_cases hy0 : y = 0
        · ((try simp (maxSteps := 3000000) (dsimp := false) (disch := first | omega | (simp only [len_new, len_put, len_kill]; omega)) only [↓ypre, ypost, ↓reduceIte, Nat.reduceEqDiff, Nat.reduceAdd, Nat.reduceSub, Nat.reduceLeDiff, Nat.zero_add, Nat.sub_zero, ynew, f0, f3, f4, f5, f10, f11, decide_eq_true hy0, rd1_of q4, rd1_of q1]); try simp only [yback])
          refine ⟨by omega, ?_⟩
          refine s_l01Next s8 fun x H7 k7 l7 s7 hx _ => ?_
          have q1 := k7.get (by omega) q1
          have q2 := k7.get (by omega) q2
          have q4 := k7.get (by omega) q4
          have qm := k7.get (by omega) qm
          have lm := get_lt qm
          refine ⟨⟨n, rfl, k7⟩, ?_⟩
          have st := map_set (l := l) (j := i) (x := x) (by omega)
          ((try simp (maxSteps := 3000000) (dsimp := false) (disch := first | omega | (simp only [len_new, len_put, len_kill]; omega)) only [↓ypre, ypost, ↓reduceIte, Nat.reduceEqDiff, Nat.reduceAdd, Nat.reduceSub, Nat.reduceLeDiff, Nat.zero_add, Nat.sub_zero, ynew, f0, f3, f4, f5, f10, f11, ixm, wr_of qm, st, List.length_map, ll, wrap64_in]); try simp only [yback])
          refine ⟨by omega, ?_⟩
          refine InvQ_go (N - (i + 1)) (by omega) ⟨(i + 1), (l.set i x), rfl, by omega, (by first | rfl | exact f0 | (simp only [upd_apply]; rfl) | (show I64 _ = _; congr 1; omega)), (by first | rfl | exact f3 | (simp only [upd_apply]; rfl) | (show I64 _ = _; congr 1; omega)), (by first | rfl | exact f4 | (simp only [upd_apply]; rfl) | (show I64 _ = _; congr 1; omega)), (by first | rfl | exact f5 | (simp only [upd_apply]; rfl) | (show I64 _ = _; congr 1; omega)), (by first | rfl | exact f10 | (simp only [upd_apply]; rfl) | (show I64 _ = _; congr 1; omega)), (by first | rfl | exact f11 | (simp only [upd_apply]; rfl) | (show I64 _ = _; congr 1; omega)), (Kp.putb (m := mb) (kk.trans (k8.trans k7)) (by omega)), (Src.putb (m := mb) s7 (by omega) (by omega)), (by rw [List.length_set, ll]), (get_put_same lm), (by rw [get_put_ne (by omega)]; exact q1), (by rw [get_put_ne (by omega)]; exact q2), (by rw [get_put_ne (by omega)]; exact q4)⟩
        · ((try simp (maxSteps := 3000000) (dsimp := false) (disch := first | omega | (simp only [len_new, len_put, len_kill]; omega)) only [↓ypre, ypost, ↓reduceIte, Nat.reduceEqDiff, Nat.reduceAdd, Nat.reduceSub, Nat.reduceLeDiff, Nat.zero_add, Nat.sub_zero, ynew, f0, f3, f4, f5, f10, f11, decide_eq_false hy0, wrap64_in]); try simp only [yback])
          refine InvQ_go (N - (i + 1)) (by omega) ⟨(i + 1), l, rfl, by omega, (by first | rfl | exact f0 | (simp only [upd_apply]; rfl) | (show I64 _ = _; congr 1; omega)), (by first | rfl | exact f3 | (simp only [upd_apply]; rfl) | (show I64 _ = _; congr 1; omega)), (by first | rfl | exact f4 | (simp only [upd_apply]; rfl) | (show I64 _ = _; congr 1; omega)), (by first | rfl | exact f5 | (simp only [upd_apply]; rfl) | (show I64 _ = _; congr 1; omega)), (by first | rfl | exact f10 | (simp only [upd_apply]; rfl) | (show I64 _ = _; congr 1; omega)), (by first | rfl | exact f11 | (simp only [upd_apply]; rfl) | (show I64 _ = _; congr 1; omega)), (kk.trans k8), s8, ll, qm, q1, q2, q4⟩
    · ((try simp (maxSteps := 3000000) (dsimp := false) (disch := first | omega | (simp only [len_new, len_put, len_kill]; omega)) only [↓ypre, ypost, ↓reduceIte, Nat.reduceEqDiff, Nat.reduceAdd, Nat.reduceSub, Nat.reduceLeDiff, Nat.zero_add, Nat.sub_zero, ynew, f0, f3, f4, f5, f10, f11, rd1_of q4, lenV_slice, decide_eq_false hlt]); try simp only [yback])
      have lg := get_lt q2
      ((try simp (maxSteps := 3000000) (dsimp := false) (disch := first | omega | (simp only [len_new, len_put, len_kill]; omega)) only [↓ypre, ypost, ↓reduceIte, Nat.reduceEqDiff, Nat.reduceAdd, Nat.reduceSub, Nat.reduceLeDiff, Nat.zero_add, Nat.sub_zero, ynew, f0, f3, f4, f5, f10, f11, rdn_of q4, wr_of q2, splice_eq, rdn_put_same]); try simp only [yback])
      exact fin l K2 kk ss ll qm
end Go.Proofs.Ytapafdpnmakekaa.X
