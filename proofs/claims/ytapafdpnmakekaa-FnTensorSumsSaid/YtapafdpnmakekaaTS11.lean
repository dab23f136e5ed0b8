/- Texts of one claim, put together by merge.py: XD9, XDA, XDB, XDC, XDD. -/
import Derived.Test.YtapafdpnmakekaaTS9
import Derived.Test.YtapafdpnmakekaaTS10
/- Drawn lists and tensors. -/
set_option linter.unusedVariables false
set_option linter.unusedSimpArgs false
set_option maxRecDepth 20000
set_option maxHeartbeats 4000000
namespace Go.Proofs.Ytapafdpnmakekaa.X
open Go Go.RowKit

theorem lst_app {n : Nat} {l : List Int} {full : Bool} {H : AH} {x : Int} {e' : TypeId} {ro fu : Bool} (o : Lst H n l full) (hl : (l.length : Int) ≤ 1048576) {Q : Value → AH → Prop}
    (hQ : ∀ H' : AH, H'.length = H.length + 2 → Kp n H H' → Lst H' (H.length + 1) (l ++ [x]) false → Q (sl (H.length + 1) (l ++ [x]).length) H') :
    OQ (appV 2 1 8 (sl n l.length) (.slice (some ⟨H.length, 0, none⟩) 1 1) (H.new ⟨[I64 x], e', ro, fu⟩)) Q := by
  have hn : (H.new ⟨[I64 x], e', ro, fu⟩).rdn H.length 0 1 = some [I64 x] := by rw [rdn_new_same]; rfl
  have hk : (H.new ⟨[I64 x], e', ro, fu⟩).get n = some ⟨l.map (Value.int .i64), 2, false, full⟩ := get_new_any o
  have hkb := o.lt
  unfold sl
  rw [app_own hk (by simp) hn (by omega), OQ_some, len_new]
  have := hQ (((H.new ⟨[I64 x], e', ro, fu⟩).kill n).new ⟨l.map (Value.int .i64) ++ [I64 x], 2, false, false⟩) (by rw [len_new, len_kill, len_new]) ⟨by rw [len_new, len_kill, len_new]; omega, fun j hj hne => by
      rw [show (((H.new ⟨[I64 x], e', ro, fu⟩).kill n).new ⟨l.map (Value.int .i64) ++ [I64 x], 2, false, false⟩).get j = ((H.new ⟨[I64 x], e', ro, fu⟩).kill n).get j from prefix_get (pre_new (List.prefix_refl _)) (by rw [len_kill, len_new]; omega), get_kill_ne (Ne.symm hne)]
      exact prefix_get (pre_new (List.prefix_refl _)) hj⟩ (by unfold Lst; rw [get_new_eq (by rw [len_kill, len_new])]; simp)
  unfold sl at this
  rw [List.length_append, List.length_singleton] at this
  exact this
/-- Numbers that are drawn. -/
theorem s_l05List {h0 h : AH} {n N : Nat} {p : Int} {Q : Value → AH → Prop} (s : Src h0 h n) (hN : N ≤ 1000)
    (hQ : ∀ kb l fu h', Kp n h h' → Src h0 h' n → h.length ≤ kb → Lst h' kb l fu → l.length = N → (1 ≤ p → ∀ x ∈ l, 0 ≤ x ∧ x < p) → Q (sl kb l.length) h') : WF S 250 [srcP n, I64 p, I64 N] h Q := by
  refine WF_fn (fn := c250) rfl rfl ?_
  unfold c250
  have lt := s.lt
  have l0 := pre_len s.p
  ((try simp (maxSteps := 3000000) (dsimp := false) (disch := first | omega | (simp only [len_new, len_put, len_kill]; omega)) only [↓ypre, ypost, ↓reduceIte, Nat.reduceEqDiff, Nat.reduceAdd, Nat.reduceSub, Nat.reduceLeDiff, Nat.zero_add, Nat.sub_zero, ynew, fillL, zrep]); try simp only [yback])
  generalize hH1 : AH.new h _ = H1
  obtain ⟨hb1, p1, n1⟩ := new_facts hH1
  refine WC_loop_inv (fun m f K1 => ∃ (i : Nat) (l : List Int) (kb : Nat) (fu : Bool), m = N - i ∧ i ≤ N ∧ f 0 = srcP n ∧ f 1 = I64 p ∧ f 2 = I64 ((N - i : Nat) : Int) ∧ f 7 = sl kb l.length ∧ (Kp n h K1) ∧ (Src h0 K1 n) ∧ (l.length = i) ∧ (h.length ≤ kb) ∧ (Lst K1 kb l fu) ∧ (1 ≤ p → ∀ x ∈ l, 0 ≤ x ∧ x < p)) ?_ (N - 0) _ _ ⟨0, [], h.length, true, rfl, by omega, (by first | rfl | (simp [upd_apply]; done)), (by first | rfl | (simp [upd_apply]; done)), (by first | rfl | (simp [upd_apply]; done)), (by first | rfl | (simp [upd_apply]; done)), Kp.of p1, s.kp p1, rfl, Nat.le_refl _, hb1, fun _ x hx => by simp at hx⟩
  rintro m f K1 ⟨i, l, kb, fu, rfl, hi, f0, f1, f2, f7, kk, ss, li, hb, q, hx⟩
  by_cases hlt : (0 : Int) < ((N - i : Nat) : Int)
  · ((try simp (maxSteps := 3000000) (dsimp := false) (disch := first | omega | (simp only [len_new, len_put, len_kill]; omega)) only [↓ypre, ypost, ↓reduceIte, Nat.reduceEqDiff, Nat.reduceAdd, Nat.reduceSub, Nat.reduceLeDiff, Nat.zero_add, Nat.sub_zero, ynew, f0, f1, f2, f7, decide_eq_true hlt]); try simp only [yback])
    refine s_l01Next ss fun r H2 k2 l2 s2 hr _ => ?_
    have q := k2.get (by omega) q
    have lq := get_lt q
    have ln := s2.lt
    ((try simp (maxSteps := 3000000) (dsimp := false) (disch := first | omega | (simp only [len_new, len_put, len_kill]; omega)) only [↓ypre, ypost, ↓reduceIte, Nat.reduceEqDiff, Nat.reduceAdd, Nat.reduceSub, Nat.reduceLeDiff, Nat.zero_add, Nat.sub_zero, ynew, f0, f1, f2, f7, fillL, zrep]); try simp only [yback])
    refine lst_app q (by omega) fun H3 l3 k3 q3 => ?_
    ((try simp (maxSteps := 3000000) (dsimp := false) (disch := first | omega | (simp only [len_new, len_put, len_kill]; omega)) only [↓ypre, ypost, ↓reduceIte, Nat.reduceEqDiff, Nat.reduceAdd, Nat.reduceSub, Nat.reduceLeDiff, Nat.zero_add, Nat.sub_zero, ynew, f0, f1, f2, f7, wrap64_in]); try simp only [yback])
    have hx2 : 1 ≤ p → ∀ x ∈ l ++ [r], 0 ≤ x ∧ x < p := fun hp x hx' => by
      rcases List.mem_append.1 hx' with h | h
      · exact hx hp x h
      · rw [List.mem_singleton.1 h]; exact hr hp
    refine InvQ_go (N - (i + 1)) (by omega) ⟨(i + 1), (l ++ [r]), (H2.length + 1), false, rfl, by omega, (by first | rfl | exact f0 | (simp only [upd_apply]; rfl) | (show I64 _ = _; congr 1; omega)), (by first | rfl | exact f1 | (simp only [upd_apply]; rfl) | (show I64 _ = _; congr 1; omega)), (by first | rfl | exact f2 | (simp only [upd_apply]; rfl) | (show I64 _ = _; congr 1; omega)), (by first | rfl | exact f7 | (simp only [upd_apply]; rfl) | (show I64 _ = _; congr 1; omega)), ((kk.trans k2).over k3 (by omega)), (s2.over k3 (by omega) (by omega)), (by rw [List.length_append, li]; rfl), (by have := kk.len; omega), q3, hx2⟩
  · have e : i = N := by omega
    ((try simp (maxSteps := 3000000) (dsimp := false) (disch := first | omega | (simp only [len_new, len_put, len_kill]; omega)) only [↓ypre, ypost, ↓reduceIte, Nat.reduceEqDiff, Nat.reduceAdd, Nat.reduceSub, Nat.reduceLeDiff, Nat.zero_add, Nat.sub_zero, ynew, f0, f1, f2, f7, decide_eq_false hlt]); try simp only [yback])
    exact hQ kb l fu K1 kk ss hb q (by omega) hx

/-- The sizes of a drawn tensor are small. -/
structure TenB (t : Ten) : Prop where
  p : -1000 ≤ t.p ∧ t.p ≤ 1000
  i : -1000 ≤ t.i ∧ t.i ≤ 1000
  j : -1000 ≤ t.j ∧ t.j ≤ 1000
  k : -1000 ≤ t.k ∧ t.k ≤ 1000
  ns : t.ns.length ≤ 1000
def TenD (lo : Nat) (h : AH) (v : Value) (t : Ten) : Prop := KN lo h fun h' => Ints h' v t.ns
/-- A prime and sides, as told. -/
structure TenS (t : Ten) : Prop where
  p : 2 ≤ t.p ∧ t.p ≤ 5
  i : 1 ≤ t.i ∧ t.i ≤ 9
  j : 1 ≤ t.j ∧ t.j ≤ 9
  k : 1 ≤ t.k ∧ t.k ≤ 9
theorem TF.tenS {t : Ten} (f : TF t) : TenS t := ⟨f.p, f.i, f.j, f.k⟩
theorem OwnI.blk {h h' : AH} {v : Value} {ns : List Int} (o : OwnI h h' v ns) : ∃ m e, h.length ≤ m ∧ v = sl m ns.length ∧ h'.get m = some ⟨ns.map (Value.int .i64), e, false, true⟩ := by
  obtain ⟨m, e, h1, rfl, h3⟩ := o
  exact ⟨m, e, h1, rfl, h3⟩
theorem nums_kN {lo m : Nat} {h : AH} {l : List Int} {e : TypeId} {full : Bool} (g : h.get m = some ⟨l.map (Value.int .i64), e, false, full⟩) (hn : lo ≤ m) : KN lo h fun h' => Ints h' (sl m l.length) l := fun h' d d' => Ints.own (by rw [d' m hn (get_lt g)]; exact g) rfl
theorem s_l05Sides {h0 h : AH} {n : Nat} {M : Int} {Q : Value → AH → Prop} (s : Src h0 h n) (hM : 2 ≤ M ∧ M ≤ 4)
    (hQ : ∀ (t : Ten) (m : Nat) (e : TypeId) (h' : AH), Kp n h h' → Src h0 h' n → TenS t → isP t.p = true → t.ns = List.replicate (t.i * t.j * t.k).toNat 0 → h.length ≤ m → h'.get m = some ⟨t.ns.map (Value.int .i64), e, false, true⟩ → Q (tenV t (sl m t.ns.length)) h') : WF S 292 [srcP n, I64 M] h Q := by
  refine WF_fn (fn := c292) rfl rfl ?_
  unfold c292
  have lt := s.lt
  have l0 := pre_len s.p
  ((try simp (maxSteps := 3000000) (dsimp := false) (disch := first | omega | (simp only [len_new, len_put, len_kill]; omega)) only [↓ypre, ypost, ↓reduceIte, Nat.reduceEqDiff, Nat.reduceAdd, Nat.reduceSub, Nat.reduceLeDiff, Nat.zero_add, Nat.sub_zero, ynew, fillL, zrep]); try simp only [yback])
  generalize hH1 : AH.new h _ = H1
  obtain ⟨hb1, p1, n1⟩ := new_facts hH1
  generalize hH2 : AH.new H1 _ = H2
  obtain ⟨hb2, p2, n2⟩ := new_facts hH2
  have kv := kp_new (n := n) (ns := [2, 2, 3, 5]) hH2 (by omega)
  refine s_l01Pick (s.kp (p1.trans p2)) kv (by simp) (by simp) fun j H3 k3 l3 s3 hj => ?_
  have hp : ([2, 2, 3, 5] : List Int).getD j 0 = 2 ∨ ([2, 2, 3, 5] : List Int).getD j 0 = 3 ∨ ([2, 2, 3, 5] : List Int).getD j 0 = 5 := by
    simp at hj
    have : j = 0 ∨ j = 1 ∨ j = 2 ∨ j = 3 := by omega
    rcases this with rfl | rfl | rfl | rfl <;> simp
  generalize ([2, 2, 3, 5] : List Int).getD j 0 = p at hp
  have g1 := k3.get (by omega) (pre_get p2 hb1)
  ((try simp (maxSteps := 3000000) (dsimp := false) (disch := first | omega | (simp only [len_new, len_put, len_kill]; omega)) only [↓ypre, ypost, ↓reduceIte, Nat.reduceEqDiff, Nat.reduceAdd, Nat.reduceSub, Nat.reduceLeDiff, Nat.zero_add, Nat.sub_zero, ynew]); try simp only [yback])
  refine s_l01Next s3 fun a H4 k4 l4 s4 ha _ => ?_
  have ha := ha (by omega)
  ((try simp (maxSteps := 3000000) (dsimp := false) (disch := first | omega | (simp only [len_new, len_put, len_kill]; omega)) only [↓ypre, ypost, ↓reduceIte, Nat.reduceEqDiff, Nat.reduceAdd, Nat.reduceSub, Nat.reduceLeDiff, Nat.zero_add, Nat.sub_zero, ynew, wrap64_in]); try simp only [yback])
  refine s_l01Next s4 fun b H5 k5 l5 s5 hb _ => ?_
  have hb := hb (by omega)
  ((try simp (maxSteps := 3000000) (dsimp := false) (disch := first | omega | (simp only [len_new, len_put, len_kill]; omega)) only [↓ypre, ypost, ↓reduceIte, Nat.reduceEqDiff, Nat.reduceAdd, Nat.reduceSub, Nat.reduceLeDiff, Nat.zero_add, Nat.sub_zero, ynew, wrap64_in]); try simp only [yback])
  refine s_l01Next s5 fun c H6 k6 l6 s6 hc _ => ?_
  have hc := hc (by omega)
  ((try simp (maxSteps := 3000000) (dsimp := false) (disch := first | omega | (simp only [len_new, len_put, len_kill]; omega)) only [↓ypre, ypost, ↓reduceIte, Nat.reduceEqDiff, Nat.reduceAdd, Nat.reduceSub, Nat.reduceLeDiff, Nat.zero_add, Nat.sub_zero, ynew, wrap64_in]); try simp only [yback])
  have m1 := mul_in1 (A := 4) (B := 4) (a := 1 + a) (b := 1 + b) (by omega) (by omega)
  have m2 := mul_in1 (A := 16) (B := 4) (a := (1 + a) * (1 + b)) (b := 1 + c) (by omega) (by omega)
  refine s_l05Empty (by omega) (by omega) fun v H7 p7 o7 => ?_
  obtain ⟨m, e, hm, rfl, gm⟩ := o7.blk
  have g1 := pre_get p7 (k6.get (by omega) (k5.get (by omega) (k4.get (by omega) g1)))
  have lg := get_lt g1
  ((try simp (maxSteps := 3000000) (dsimp := false) (disch := first | omega | (simp only [len_new, len_put, len_kill]; omega)) only [↓ypre, ypost, ↓reduceIte, Nat.reduceEqDiff, Nat.reduceAdd, Nat.reduceSub, Nat.reduceLeDiff, Nat.zero_add, Nat.sub_zero, ynew, tenV, one_slice, wr_of g1, splice_eq, rdn_put_same]); try simp only [yback])
  have kk := (Kp.of (n := n) (p1.trans p2)).trans (k3.trans (k4.trans (k5.trans (k6.trans (Kp.of p7)))))
  have := hQ ⟨p, 1 + a, 1 + b, 1 + c, List.replicate ((1 + a) * (1 + b) * (1 + c)).toNat 0⟩ m e _ (kk.putb (m := h.length) (b := ⟨[I64 p, I64 (1 + a), I64 (1 + b), I64 (1 + c), sl m (List.replicate ((1 + a) * (1 + b) * (1 + c)).toNat (0 : Int)).length], 36, false, true⟩) (Nat.le_refl _)) ((s6.kp p7).putb (by omega) (by omega)) ⟨isP_in (isP_of hp), by show 1 ≤ 1 + a ∧ 1 + a ≤ 9; omega, by show 1 ≤ 1 + b ∧ 1 + b ≤ 9; omega, by show 1 ≤ 1 + c ∧ 1 + c ≤ 9; omega⟩ (isP_of hp) rfl (by omega) (by rw [get_put_ne (by omega)]; exact gm)
  exact ⟨rfl, this⟩
end Go.Proofs.Ytapafdpnmakekaa.X

/- Drawn tensors: filled ones. -/
set_option linter.unusedVariables false
set_option linter.unusedSimpArgs false
set_option maxRecDepth 20000
set_option maxHeartbeats 4000000
namespace Go.Proofs.Ytapafdpnmakekaa.X
open Go Go.RowKit

theorem getD_of_mem {p : Int} {l : List Int} (h : ∀ x ∈ l, 0 ≤ x ∧ x < p) {j : Nat} (hj : j < l.length) : 0 ≤ l.getD j 0 ∧ l.getD j 0 < p := by
  rw [List.getD_eq_getElem?_getD, List.getElem?_eq_getElem hj]
  exact h _ (List.getElem_mem _)
theorem s_l05Fill {h0 h : AH} {n : Nat} {v : Value} {t : Ten} {Q : Value → AH → Prop} (s : Src h0 h n) (ts : TenS t) (hv : isOne v = true)
    (hQ : ∀ (l : List Int) (m : Nat) (e : TypeId) (h' : AH), Kp n h h' → Src h0 h' n → l.length = (t.i * t.j * t.k).toNat → h.length ≤ m → h'.get m = some ⟨l.map (Value.int .i64), e, false, true⟩ → Q (tenV ⟨t.p, t.i, t.j, t.k, l⟩ (sl m l.length)) h') : WF S 174 [srcP n, tenV t v] h Q := by
  refine WF_fn (fn := c174) rfl rfl ?_
  unfold c174
  have lt := s.lt
  have l0 := pre_len s.p
  obtain ⟨tp, ti, tj, tk⟩ := ts
  have ij := mul_in1 (A := 9) (B := 9) ti tj
  have ijk := mul_in1 (A := 81) (B := 9) ij tk
  have jk := mul_in1 (A := 9) (B := 9) tj tk
  ((try simp (maxSteps := 3000000) (dsimp := false) (disch := first | omega | (simp only [len_new, len_put, len_kill]; omega)) only [↓ypre, ypost, ↓reduceIte, Nat.reduceEqDiff, Nat.reduceAdd, Nat.reduceSub, Nat.reduceLeDiff, Nat.zero_add, Nat.sub_zero, ynew, tenV, hv]); try simp only [yback])
  generalize hH1 : AH.new h _ = H1
  obtain ⟨hb1, p1, n1⟩ := new_facts hH1
  generalize hH2 : AH.new H1 _ = H2
  obtain ⟨hb2, p2, n2⟩ := new_facts hH2
  ((try simp (maxSteps := 3000000) (dsimp := false) (disch := first | omega | (simp only [len_new, len_put, len_kill]; omega)) only [↓ypre, ypost, ↓reduceIte, Nat.reduceEqDiff, Nat.reduceAdd, Nat.reduceSub, Nat.reduceLeDiff, Nat.zero_add, Nat.sub_zero, ynew, rd1_of (pre_get p2 hb1)]); try simp only [yback])
  refine s_l05Empty (by omega) (by omega) fun v3 H3 p3 o3 => ?_
  obtain ⟨mb, e, hmb, rfl, gm⟩ := o3.blk
  have g1 := pre_get (p2.trans p3) hb1
  have g2 := pre_get p3 hb2
  have lm := get_lt gm
  ((try simp (maxSteps := 3000000) (dsimp := false) (disch := first | omega | (simp only [len_new, len_put, len_kill]; omega)) only [↓ypre, ypost, ↓reduceIte, Nat.reduceEqDiff, Nat.reduceAdd, Nat.reduceSub, Nat.reduceLeDiff, Nat.zero_add, Nat.sub_zero, ynew, tenV, one_slice, sl]); try simp only [yback])
  generalize hH4 : AH.new H3 _ = H4
  obtain ⟨hb4, p4, n4⟩ := new_facts hH4
  have kk4 : Kp n h H4 := Kp.of (p1.trans (p2.trans (p3.trans p4)))
  have s4 : Src h0 H4 n := s.kp (p1.trans (p2.trans (p3.trans p4)))
  obtain ⟨N, hN⟩ : ∃ N : Nat, (t.i * t.j * t.k).toNat = N := ⟨_, rfl⟩
  rw [hN] at gm hb4 ⊢
  rw [List.length_replicate] at hb4
  have gm4 := pre_get p4 gm
  have g14 := pre_get p4 g1
  have g24 := pre_get p4 g2
  have l3 := pre_len p3
  have fin : ∀ (l : List Int) (h' : AH), Kp n h h' → Src h0 h' n → l.length = N → h'.get mb = some ⟨l.map (Value.int .i64), e, false, true⟩ →
      Q (.agg #[I64 t.p, I64 t.i, I64 t.j, I64 t.k, .slice (some ⟨mb, 0, none⟩) N 1]) (h'.put H1.length ⟨[I64 t.p, I64 t.i, I64 t.j, I64 t.k, .slice (some ⟨mb, 0, none⟩) N 1], 36, false, true⟩) := fun l h' kk ss hl g => by
    have := hQ l mb e _ (kk.putb (m := H1.length) (b := ⟨[I64 t.p, I64 t.i, I64 t.j, I64 t.k, .slice (some ⟨mb, 0, none⟩) N 1], 36, false, true⟩) (by omega)) (ss.putb (by omega) (by omega)) (by rw [hl, hN]) (by omega) (by rw [get_put_ne (by omega)]; exact g)
    unfold sl tenV at this
    rw [hl] at this
    exact this
  ((try simp (maxSteps := 3000000) (dsimp := false) (disch := first | omega | (simp only [len_new, len_put, len_kill]; omega)) only [↓ypre, ypost, ↓reduceIte, Nat.reduceEqDiff, Nat.reduceAdd, Nat.reduceSub, Nat.reduceLeDiff, Nat.zero_add, Nat.sub_zero, ynew, List.length_replicate]); try simp only [yback])
  refine s_l01Next s4 fun r H5 k5 l5 s5 hr _ => ?_
  have gm5 := k5.get (by omega) gm4
  have g15 := k5.get (by omega) g14
  have g25 := k5.get (by omega) g24
  have g45 := k5.get (by omega) hb4
  obtain ⟨I, eI⟩ : ∃ I : Nat, t.i = I := ⟨t.i.toNat, by omega⟩
  obtain ⟨J, eJ⟩ : ∃ J : Nat, t.j = J := ⟨t.j.toNat, by omega⟩
  obtain ⟨K, eK⟩ : ∃ K : Nat, t.k = K := ⟨t.k.toNat, by omega⟩
  by_cases h0' : r = 0
  · ((try simp (maxSteps := 3000000) (dsimp := false) (disch := first | omega | (simp only [len_new, len_put, len_kill]; omega)) only [↓ypre, ypost, ↓reduceIte, Nat.reduceEqDiff, Nat.reduceAdd, Nat.reduceSub, Nat.reduceLeDiff, Nat.zero_add, Nat.sub_zero, ynew, decide_eq_true h0', rd1_of g15]); try simp only [yback])
    rw [eI]
    refine s_l05List s5 (by omega) fun ku lu fu H6 k6 s6 hku qu lu' xu => ?_
    have gm6 := k6.get (by omega) gm5
    have g16 := k6.get (by omega) g15
    have g26 := k6.get (by omega) g25
    have g46 := k6.get (by omega) g45
    refine ⟨⟨n, rfl, k6⟩, ?_⟩
    ((try simp (maxSteps := 3000000) (dsimp := false) (disch := first | omega | (simp only [len_new, len_put, len_kill]; omega)) only [↓ypre, ypost, ↓reduceIte, Nat.reduceEqDiff, Nat.reduceAdd, Nat.reduceSub, Nat.reduceLeDiff, Nat.zero_add, Nat.sub_zero, ynew, rd1_of g16]); try simp only [yback])
    refine ⟨by omega, by omega, ?_⟩
    rw [eJ]
    refine s_l05List s6 (by omega) fun kv lv fv H7 k7 s7 hkv qv lv' xv => ?_
    have lqu := qu.lt
    have gm7 := k7.get (by omega) gm6
    have g17 := k7.get (by omega) g16
    have g27 := k7.get (by omega) g26
    have g47 := k7.get (by omega) g46
    have qu7 : Lst H7 ku lu fu := k7.get (by have := s6.lt; omega) qu
    refine ⟨⟨n, rfl, k7⟩, ?_⟩
    ((try simp (maxSteps := 3000000) (dsimp := false) (disch := first | omega | (simp only [len_new, len_put, len_kill]; omega)) only [↓ypre, ypost, ↓reduceIte, Nat.reduceEqDiff, Nat.reduceAdd, Nat.reduceSub, Nat.reduceLeDiff, Nat.zero_add, Nat.sub_zero, ynew, rd1_of g17]); try simp only [yback])
    refine ⟨by omega, by omega, ?_⟩
    rw [eK]
    refine s_l05List s7 (by omega) fun kw lw fw H8 k8 s8 hkw qw lw' xw => ?_
    have lqv := qv.lt
    have gm8 := k8.get (by omega) gm7
    have g18 := k8.get (by omega) g17
    have g28 := k8.get (by omega) g27
    have g48 := k8.get (by omega) g47
    have qu8 : Lst H8 ku lu fu := k8.get (by have := s6.lt; omega) qu7
    have qv8 : Lst H8 kv lv fv := k8.get (by have := s7.lt; omega) qv
    have kk8 : Kp n h H8 := kk4.trans (k5.trans (k6.trans (k7.trans k8)))
    have n5 := s5.lt
    have m5 := get_lt gm5
    have hNi : (N : Int) = I * J * K := by
      have : t.i * t.j * t.k = ((t.i * t.j * t.k).toNat : Int) := by omega
      rw [hN, eI, eJ, eK] at this
      exact this.symm
    rw [eJ, eK] at jk
    ((try simp (maxSteps := 3000000) (dsimp := false) (disch := first | omega | (simp only [len_new, len_put, len_kill]; omega)) only [↓ypre, ypost, ↓reduceIte, Nat.reduceEqDiff, Nat.reduceAdd, Nat.reduceSub, Nat.reduceLeDiff, Nat.zero_add, Nat.sub_zero, ynew]); try simp only [yback])
    refine WC_loop_inv (fun m f K1 => ∃ (i : Nat) (l : List Int), m = N - i ∧ i ≤ N ∧ f 3 = .pointer (some ⟨h.length, 0, none⟩) ∧ f 4 = .pointer (some ⟨H1.length, 0, none⟩) ∧ f 5 = .pointer (some ⟨H3.length, 0, none⟩) ∧ f 6 = sl ku lu.length ∧ f 7 = sl kv lv.length ∧ f 8 = sl kw lw.length ∧ f 9 = I64 i ∧ (Kp n h K1) ∧ (Src h0 K1 n) ∧ (l.length = N) ∧ (K1.get mb = some ⟨l.map (Value.int .i64), e, false, true⟩) ∧ (K1.get h.length = some ⟨[I64 t.p, I64 t.i, I64 t.j, I64 t.k, v], 36, false, true⟩) ∧ (K1.get H1.length = some ⟨[I64 0, I64 0, I64 0, I64 0, .slice none 0 0], 36, false, true⟩) ∧ (K1.get H3.length = some ⟨[I64 t.p, I64 t.i, I64 t.j, I64 t.k, .slice (some ⟨mb, 0, none⟩) N 1], 36, false, true⟩) ∧ (Lst K1 ku lu fu) ∧ (Lst K1 kv lv fv) ∧ (Lst K1 kw lw fw)) ?_ (N - 0) _ _ ⟨0, List.replicate N 0, rfl, by omega, (by first | rfl | (simp [upd_apply]; done)), (by first | rfl | (simp [upd_apply]; done)), (by first | rfl | (simp [upd_apply]; done)), (by first | rfl | (simp [upd_apply]; done)), (by first | rfl | (simp [upd_apply]; done)), (by first | rfl | (simp [upd_apply]; done)), (by first | rfl | (simp [upd_apply]; done)), kk8, s8, (by simp), gm8, g18, g28, g48, qu8, qv8, qw⟩
    rintro m f K1 ⟨i, l, rfl, hi, f3, f4, f5, f6, f7, f8, f9, kk, ss, ll, qm, q1, q2, q4, qu, qv, qw⟩
    by_cases hlt : (i : Int) < N
    · have pl := places (n := i) (i := I) (j := J) (k := K) (by omega) (by omega) (by omega)
      have e1 : (i : Int).tdiv ((J : Int) * K) = (i : Int) / K / J := by
        rw [Int.tdiv_eq_ediv_of_nonneg (by omega), Int.mul_comm, ← Int.ediv_ediv_of_nonneg (by omega)]
      have e2 : ((i : Int).tdiv K).tmod J = (i : Int) / K % J := by
        rw [Int.tdiv_eq_ediv_of_nonneg (by omega), Int.tmod_eq_emod_of_nonneg (Int.ediv_nonneg (by omega) (by omega))]
      have e3 : (i : Int).tmod K = (i : Int) % K := Int.tmod_eq_emod_of_nonneg (by omega)
      have dk : 0 ≤ (i : Int).tdiv K ∧ (i : Int).tdiv K ≤ i := by
        rw [Int.tdiv_eq_ediv_of_nonneg (by omega)]
        exact ⟨Int.ediv_nonneg (by omega) (by omega), Int.ediv_le_self _ (by omega)⟩
      rw [← e1, ← e2, ← e3] at pl
      obtain ⟨pl1, pl2, pl3⟩ := pl
      generalize hx1 : (i : Int).tdiv ((J : Int) * K) = x1 at *
      generalize hx3 : (i : Int).tmod K = x3 at *
      generalize hxd : (i : Int).tdiv K = xd at *
      generalize hx2 : xd.tmod J = x2 at *
      rw [← eJ, ← eK] at hx1
      rw [← eK] at hx3 hxd
      rw [← eJ] at hx2
      have jk' : 1 ≤ t.j * t.k ∧ t.j * t.k ≤ 81 := by rw [eJ, eK]; exact jk
      have iu := qu.ints
      have iv := qv.ints
      have iw := qw.ints
      have ru := iu.rd pl1.1 (by omega)
      have rv := iv.rd pl2.1 (by omega)
      have rw' := iw.rd pl3.1 (by omega)
      have bu := getD_of_mem (xu (by omega)) (j := x1.toNat) (by omega)
      have bv := getD_of_mem (xv (by omega)) (j := x2.toNat) (by omega)
      have bw := getD_of_mem (xw (by omega)) (j := x3.toNat) (by omega)
      have iux := iu.ix (k := .i64) pl1.1 (by omega)
      have ivx := iv.ix (k := .i64) pl2.1 (by omega)
      have iwx := iw.ix (k := .i64) pl3.1 (by omega)
      unfold nth at ru rv rw'
      generalize lu.getD x1.toNat 0 = yu at *
      generalize lv.getD x2.toNat 0 = yv at *
      generalize lw.getD x3.toNat 0 = yw at *
      have b1 := mul_in (a := yu) (b := yv) (A := 5) (B := 5) (by omega) (by omega)
      have b2 := mul_in (a := yu * yv) (b := yw) (A := 25) (B := 5) (by omega) (by omega)
      have ixm : ixsV 1 (.slice (some ⟨mb, 0, none⟩) N 1) (I64 i) = some (.pointer (some ⟨mb, i, none⟩)) := by
        rw [ixsV_some, if_pos (by omega)]
        simp
      have st := map_set (l := l) (j := i) (x := (yu * yv * yw).tmod t.p) (by omega)
      ((try simp (maxSteps := 3000000) (dsimp := false) (disch := first | omega | (simp only [len_new, len_put, len_kill]; omega)) only [↓ypre, ypost, ↓reduceIte, Nat.reduceEqDiff, Nat.reduceAdd, Nat.reduceSub, Nat.reduceLeDiff, Nat.zero_add, Nat.sub_zero, ynew, f3, f4, f5, f6, f7, f8, f9, rd1_of q4, lenV_slice, decide_eq_true hlt, rd1_of q1, wrap64_in, bin_quo (show (t.j * t.k) ≠ 0 by omega), bin_quo (show t.k ≠ 0 by omega), bin_rem (show t.k ≠ 0 by omega), bin_rem (show t.j ≠ 0 by omega), bin_rem (show t.p ≠ 0 by omega), hx1, hxd, hx2, hx3, iux, ivx, iwx, ru, rv, rw', ixm, wr_of qm, st, List.length_map, ll]); try simp only [yback])
      refine ⟨by omega, ?_⟩
      have nM := ss.lt
      have lm := get_lt qm
      refine InvQ_go (N - (i + 1)) (by omega) ⟨(i + 1), (l.set i ((yu * yv * yw).tmod t.p)), rfl, by omega, (by first | rfl | exact f3 | (simp only [upd_apply]; rfl) | (show I64 _ = _; congr 1; omega)), (by first | rfl | exact f4 | (simp only [upd_apply]; rfl) | (show I64 _ = _; congr 1; omega)), (by first | rfl | exact f5 | (simp only [upd_apply]; rfl) | (show I64 _ = _; congr 1; omega)), (by first | rfl | exact f6 | (simp only [upd_apply]; rfl) | (show I64 _ = _; congr 1; omega)), (by first | rfl | exact f7 | (simp only [upd_apply]; rfl) | (show I64 _ = _; congr 1; omega)), (by first | rfl | exact f8 | (simp only [upd_apply]; rfl) | (show I64 _ = _; congr 1; omega)), (by first | rfl | exact f9 | (simp only [upd_apply]; rfl) | (show I64 _ = _; congr 1; omega)), (Kp.putb (m := mb) kk (by omega)), (Src.putb (m := mb) ss (by omega) (by omega)), (by rw [List.length_set, ll]), (get_put_same lm), (by rw [get_put_ne (by omega)]; exact q1), (by rw [get_put_ne (by omega)]; exact q2), (by rw [get_put_ne (by omega)]; exact q4), (qu.put_ne (by omega)), (qv.put_ne (by omega)), (qw.put_ne (by omega))⟩
    · ((try simp (maxSteps := 3000000) (dsimp := false) (disch := first | omega | (simp only [len_new, len_put, len_kill]; omega)) only [↓ypre, ypost, ↓reduceIte, Nat.reduceEqDiff, Nat.reduceAdd, Nat.reduceSub, Nat.reduceLeDiff, Nat.zero_add, Nat.sub_zero, ynew, f3, f4, f5, f6, f7, f8, f9, rd1_of q4, lenV_slice, decide_eq_false hlt]); try simp only [yback])
      have lg := get_lt q2
      ((try simp (maxSteps := 3000000) (dsimp := false) (disch := first | omega | (simp only [len_new, len_put, len_kill]; omega)) only [↓ypre, ypost, ↓reduceIte, Nat.reduceEqDiff, Nat.reduceAdd, Nat.reduceSub, Nat.reduceLeDiff, Nat.zero_add, Nat.sub_zero, ynew, f3, f4, f5, f6, f7, f8, f9, rdn_of q4, wr_of q2, splice_eq, rdn_put_same]); try simp only [yback])
      exact fin l K1 kk ss ll qm
  · ((try simp (maxSteps := 3000000) (dsimp := false) (disch := first | omega | (simp only [len_new, len_put, len_kill]; omega)) only [↓ypre, ypost, ↓reduceIte, Nat.reduceEqDiff, Nat.reduceAdd, Nat.reduceSub, Nat.reduceLeDiff, Nat.zero_add, Nat.sub_zero, ynew, decide_eq_false h0']); try simp only [yback])
    refine s_l01Next s5 fun cal H6 k6 l6 s6 hcal _ => ?_
    have gm6 := k6.get (by omega) gm5
    have g16 := k6.get (by omega) g15
    have g26 := k6.get (by omega) g25
    have g46 := k6.get (by omega) g45
    have kk6 : Kp n h H6 := kk4.trans (k5.trans k6)
    have n5 := s6.lt
    have m5 := get_lt gm6
    ((try simp (maxSteps := 3000000) (dsimp := false) (disch := first | omega | (simp only [len_new, len_put, len_kill]; omega)) only [↓ypre, ypost, ↓reduceIte, Nat.reduceEqDiff, Nat.reduceAdd, Nat.reduceSub, Nat.reduceLeDiff, Nat.zero_add, Nat.sub_zero, ynew]); try simp only [yback])
    refine WC_loop_inv (fun m f K2 => ∃ (i : Nat) (l : List Int), m = N - i ∧ i ≤ N ∧ f 0 = srcP n ∧ f 3 = .pointer (some ⟨h.length, 0, none⟩) ∧ f 4 = .pointer (some ⟨H1.length, 0, none⟩) ∧ f 5 = .pointer (some ⟨H3.length, 0, none⟩) ∧ f 10 = I64 cal ∧ f 11 = I64 i ∧ (Kp n h K2) ∧ (Src h0 K2 n) ∧ (l.length = N) ∧ (K2.get mb = some ⟨l.map (Value.int .i64), e, false, true⟩) ∧ (K2.get h.length = some ⟨[I64 t.p, I64 t.i, I64 t.j, I64 t.k, v], 36, false, true⟩) ∧ (K2.get H1.length = some ⟨[I64 0, I64 0, I64 0, I64 0, .slice none 0 0], 36, false, true⟩) ∧ (K2.get H3.length = some ⟨[I64 t.p, I64 t.i, I64 t.j, I64 t.k, .slice (some ⟨mb, 0, none⟩) N 1], 36, false, true⟩)) ?_ (N - 0) _ _ ⟨0, List.replicate N 0, rfl, by omega, (by first | rfl | (simp [upd_apply]; done)), (by first | rfl | exact f3 | (simp [upd_apply]; done)), (by first | rfl | exact f4 | (simp [upd_apply]; done)), (by first | rfl | exact f5 | (simp [upd_apply]; done)), (by first | rfl | (simp [upd_apply]; done)), (by first | rfl | (simp [upd_apply]; done)), kk6, s6, (by simp), gm6, g16, g26, g46⟩
    rintro m f K2 ⟨i, l, rfl, hi, f0, f3, f4, f5, f10, f11, kk, ss, ll, qm, q1, q2, q4⟩
    by_cases hlt : (i : Int) < N
    · have ixm : ixsV 1 (.slice (some ⟨mb, 0, none⟩) N 1) (I64 i) = some (.pointer (some ⟨mb, i, none⟩)) := by
        rw [ixsV_some, if_pos (by omega)]
        simp
      have lm0 := get_lt qm
      have nM0 := ss.lt
      by_cases hc : cal = 0
      · ((try simp (maxSteps := 3000000) (dsimp := false) (disch := first | omega | (simp only [len_new, len_put, len_kill]; omega)) only [↓ypre, ypost, ↓reduceIte, Nat.reduceEqDiff, Nat.reduceAdd, Nat.reduceSub, Nat.reduceLeDiff, Nat.zero_add, Nat.sub_zero, ynew, f0, f3, f4, f5, f10, f11, rd1_of q4, lenV_slice, decide_eq_true hlt, decide_eq_true hc, rd1_of q1]); try simp only [yback])
        refine ⟨by omega, ?_⟩
        refine s_l01Next ss fun x H7 k7 l7 s7 hx _ => ?_
        have q1 := k7.get (by omega) q1
        have q2 := k7.get (by omega) q2
        have q4 := k7.get (by omega) q4
        have qm := k7.get (by omega) qm
        have lm := get_lt qm
        refine ⟨⟨n, rfl, k7⟩, ?_⟩
        have st := map_set (l := l) (j := i) (x := x) (by omega)
        ((try simp (maxSteps := 3000000) (dsimp := false) (disch := first | omega | (simp only [len_new, len_put, len_kill]; omega)) only [↓ypre, ypost, ↓reduceIte, Nat.reduceEqDiff, Nat.reduceAdd, Nat.reduceSub, Nat.reduceLeDiff, Nat.zero_add, Nat.sub_zero, ynew, f0, f3, f4, f5, f10, f11, ixm, wr_of qm, st, List.length_map, ll, wrap64_in]); try simp only [yback])
        refine ⟨by omega, ?_⟩
        refine InvQ_go (N - (i + 1)) (by omega) ⟨(i + 1), (l.set i x), rfl, by omega, (by first | rfl | exact f0 | (simp only [upd_apply]; rfl) | (show I64 _ = _; congr 1; omega)), (by first | rfl | exact f3 | (simp only [upd_apply]; rfl) | (show I64 _ = _; congr 1; omega)), (by first | rfl | exact f4 | (simp only [upd_apply]; rfl) | (show I64 _ = _; congr 1; omega)), (by first | rfl | exact f5 | (simp only [upd_apply]; rfl) | (show I64 _ = _; congr 1; omega)), (by first | rfl | exact f10 | (simp only [upd_apply]; rfl) | (show I64 _ = _; congr 1; omega)), (by first | rfl | exact f11 | (simp only [upd_apply]; rfl) | (show I64 _ = _; congr 1; omega)), (Kp.putb (m := mb) (kk.trans k7) (by omega)), (Src.putb (m := mb) s7 (by omega) (by omega)), (by rw [List.length_set, ll]), (get_put_same lm), (by rw [get_put_ne (by omega)]; exact q1), (by rw [get_put_ne (by omega)]; exact q2), (by rw [get_put_ne (by omega)]; exact q4)⟩
      · ((try simp (maxSteps := 3000000) (dsimp := false) (disch := first | omega | (simp only [len_new, len_put, len_kill]; omega)) only [↓ypre, ypost, ↓reduceIte, Nat.reduceEqDiff, Nat.reduceAdd, Nat.reduceSub, Nat.reduceLeDiff, Nat.zero_add, Nat.sub_zero, ynew, f0, f3, f4, f5, f10, f11, rd1_of q4, lenV_slice, decide_eq_true hlt, decide_eq_false hc]); try simp only [yback])
        refine s_l01Next ss fun y H8 k8 l8 s8 hy _ => ?_
        have q1 := k8.get (by omega) q1
        have q2 := k8.get (by omega) q2
        have q4 := k8.get (by omega) q4
        have qm := k8.get (by omega) qm
        have nM := s8.lt
        by_cases hy0 : y = 0
        · ((try simp (maxSteps := 3000000) (dsimp := false) (disch := first | omega | (simp only [len_new, len_put, len_kill]; omega)) only [↓ypre, ypost, ↓reduceIte, Nat.reduceEqDiff, Nat.reduceAdd, Nat.reduceSub, Nat.reduceLeDiff, Nat.zero_add, Nat.sub_zero, ynew, f0, f3, f4, f5, f10, f11, decide_eq_true hy0, rd1_of q4, rd1_of q1]); try simp only [yback])
          refine ⟨by omega, ?_⟩
          refine s_l01Next s8 fun x H7 k7 l7 s7 hx _ => ?_
          have q1 := k7.get (by omega) q1
          have q2 := k7.get (by omega) q2
          have q4 := k7.get (by omega) q4
          have qm := k7.get (by omega) qm
          have lm := get_lt qm
          refine ⟨⟨n, rfl, k7⟩, ?_⟩
          have st := map_set (l := l) (j := i) (x := x) (by omega)
          ((try simp (maxSteps := 3000000) (dsimp := false) (disch := first | omega | (simp only [len_new, len_put, len_kill]; omega)) only [↓ypre, ypost, ↓reduceIte, Nat.reduceEqDiff, Nat.reduceAdd, Nat.reduceSub, Nat.reduceLeDiff, Nat.zero_add, Nat.sub_zero, ynew, f0, f3, f4, f5, f10, f11, ixm, wr_of qm, st, List.length_map, ll, wrap64_in]); try simp only [yback])
          refine ⟨by omega, ?_⟩
          refine InvQ_go (N - (i + 1)) (by omega) ⟨(i + 1), (l.set i x), rfl, by omega, (by first | rfl | exact f0 | (simp only [upd_apply]; rfl) | (show I64 _ = _; congr 1; omega)), (by first | rfl | exact f3 | (simp only [upd_apply]; rfl) | (show I64 _ = _; congr 1; omega)), (by first | rfl | exact f4 | (simp only [upd_apply]; rfl) | (show I64 _ = _; congr 1; omega)), (by first | rfl | exact f5 | (simp only [upd_apply]; rfl) | (show I64 _ = _; congr 1; omega)), (by first | rfl | exact f10 | (simp only [upd_apply]; rfl) | (show I64 _ = _; congr 1; omega)), (by first | rfl | exact f11 | (simp only [upd_apply]; rfl) | (show I64 _ = _; congr 1; omega)), (Kp.putb (m := mb) (kk.trans (k8.trans k7)) (by omega)), (Src.putb (m := mb) s7 (by omega) (by omega)), (by rw [List.length_set, ll]), (get_put_same lm), (by rw [get_put_ne (by omega)]; exact q1), (by rw [get_put_ne (by omega)]; exact q2), (by rw [get_put_ne (by omega)]; exact q4)⟩
        · ((try simp (maxSteps := 3000000) (dsimp := false) (disch := first | omega | (simp only [len_new, len_put, len_kill]; omega)) only [↓ypre, ypost, ↓reduceIte, Nat.reduceEqDiff, Nat.reduceAdd, Nat.reduceSub, Nat.reduceLeDiff, Nat.zero_add, Nat.sub_zero, ynew, f0, f3, f4, f5, f10, f11, decide_eq_false hy0, wrap64_in]); try simp only [yback])
          refine InvQ_go (N - (i + 1)) (by omega) ⟨(i + 1), l, rfl, by omega, (by first | rfl | exact f0 | (simp only [upd_apply]; rfl) | (show I64 _ = _; congr 1; omega)), (by first | rfl | exact f3 | (simp only [upd_apply]; rfl) | (show I64 _ = _; congr 1; omega)), (by first | rfl | exact f4 | (simp only [upd_apply]; rfl) | (show I64 _ = _; congr 1; omega)), (by first | rfl | exact f5 | (simp only [upd_apply]; rfl) | (show I64 _ = _; congr 1; omega)), (by first | rfl | exact f10 | (simp only [upd_apply]; rfl) | (show I64 _ = _; congr 1; omega)), (by first | rfl | exact f11 | (simp only [upd_apply]; rfl) | (show I64 _ = _; congr 1; omega)), (kk.trans k8), s8, ll, qm, q1, q2, q4⟩
    · ((try simp (maxSteps := 3000000) (dsimp := false) (disch := first | omega | (simp only [len_new, len_put, len_kill]; omega)) only [↓ypre, ypost, ↓reduceIte, Nat.reduceEqDiff, Nat.reduceAdd, Nat.reduceSub, Nat.reduceLeDiff, Nat.zero_add, Nat.sub_zero, ynew, f0, f3, f4, f5, f10, f11, rd1_of q4, lenV_slice, decide_eq_false hlt]); try simp only [yback])
      have lg := get_lt q2
      ((try simp (maxSteps := 3000000) (dsimp := false) (disch := first | omega | (simp only [len_new, len_put, len_kill]; omega)) only [↓ypre, ypost, ↓reduceIte, Nat.reduceEqDiff, Nat.reduceAdd, Nat.reduceSub, Nat.reduceLeDiff, Nat.zero_add, Nat.sub_zero, ynew, f0, f3, f4, f5, f10, f11, rdn_of q4, wr_of q2, splice_eq, rdn_put_same]); try simp only [yback])
      exact fin l K2 kk ss ll qm
end Go.Proofs.Ytapafdpnmakekaa.X

/- Drawn tensors, seldom bad ones. -/
set_option linter.unusedVariables false
set_option linter.unusedSimpArgs false
set_option maxRecDepth 20000
set_option maxHeartbeats 4000000
namespace Go.Proofs.Ytapafdpnmakekaa.X
open Go Go.RowKit

theorem pick_in {l : List Int} {a b : Int} (hl : ∀ x ∈ l, a ≤ x ∧ x ≤ b) {j : Nat} (hj : j < l.length) : a ≤ l.getD j 0 ∧ l.getD j 0 ≤ b := by
  rw [List.getD_eq_getElem?_getD, List.getElem?_eq_getElem hj]
  exact hl _ (List.getElem_mem _)
theorem s_l05Bad {h0 h : AH} {n lo : Nat} {v : Value} {t : Ten} {Q : Value → AH → Prop} (s : Src h0 h n) (tb : TenB t) (hlo : n < lo ∧ lo ≤ h.length) (hv : TenD lo h v t) (hl : 1 ≤ t.ns.length ∧ t.ns.length ≤ 900) (h9 : -100 ≤ t.p ∧ t.p ≤ 100 ∧ -100 ≤ t.j ∧ t.j ≤ 100)
    (hQ : ∀ (t' : Ten) (v' : Value) (h' : AH), Kp n h h' → Src h0 h' n → TenD lo h' v' t' → TenB t' → Q (tenV t' v') h') : WF S 290 [srcP n, tenV t v] h Q := by
  refine WF_fn (fn := c290) rfl rfl ?_
  unfold c290
  have lt := s.lt
  have l0 := pre_len s.p
  have v1 := hv.now.one
  obtain ⟨b1, b2, b3, b4, b5⟩ := tb
  ((try simp (maxSteps := 3000000) (dsimp := false) (disch := first | omega | (simp only [len_new, len_put, len_kill]; omega)) only [↓ypre, ypost, ↓reduceIte, Nat.reduceEqDiff, Nat.reduceAdd, Nat.reduceSub, Nat.reduceLeDiff, Nat.zero_add, Nat.sub_zero, ynew, tenV, v1]); try simp only [yback])
  generalize hH1 : AH.new h _ = H1
  obtain ⟨hb1, p1, n1⟩ := new_facts hH1
  generalize hH2 : AH.new H1 _ = H2
  obtain ⟨hb2, p2, n2⟩ := new_facts hH2
  have old : ∀ (t' : Ten) (h' : AH) (B B' : Blk), t'.ns = t.ns → Kp n h h' → Src h0 h' n → TenB t' → Q (tenV t' v) ((h'.put H1.length B).put h.length B') := fun t' h' B B' e kk ss tb => by
    have kf : Kp n h ((h'.put H1.length B).put h.length B') := (kk.putb (m := H1.length) (by omega)).putb (m := h.length) (by omega)
    exact hQ t' v _ kf ((ss.putb (by omega) (by omega)).putb (by omega) (by omega)) (fun h2 k2 k3 => by rw [e]; exact hv.kp kf hlo.1 h2 k2 k3) tb
  refine s_l01Next (s.kp (p1.trans p2)) fun r H3 k3 l3 s3 hr _ => ?_
  have g1 := k3.get (by omega) (pre_get p2 hb1)
  have g2 := k3.get (by omega) hb2
  have kk3 : Kp n h H3 := (Kp.of (p1.trans p2)).trans k3
  by_cases r0 : r = 0
  · ((try simp (maxSteps := 3000000) (dsimp := false) (disch := first | omega | (simp only [len_new, len_put, len_kill]; omega)) only [↓ypre, ypost, ↓reduceIte, Nat.reduceEqDiff, Nat.reduceAdd, Nat.reduceSub, Nat.reduceLeDiff, Nat.zero_add, Nat.sub_zero, ynew, decide_eq_true r0, fillL, zrep]); try simp only [yback])
    generalize hH4 : AH.new H3 _ = H4
    obtain ⟨hb4, p4, n4⟩ := new_facts hH4
    have kv := kp_new (n := n) (ns := [0, 4, 2]) hH4 (by omega)
    refine s_l01Pick (s3.kp p4) kv (by simp) (by simp) fun j H5 k5 l5 s5 hj => ?_
    have bp := pick_in (l := [0, 4, 2]) (a := 0) (b := 4) (by simp) hj
    generalize ([0, 4, 2] : List Int).getD j 0 = p at bp
    have g1 := k5.get (by omega) (pre_get p4 g1)
    have g2 := k5.get (by omega) (pre_get p4 g2)
    have lg1 := get_lt g1
    have lg2 := get_lt g2
    ((try simp (maxSteps := 3000000) (dsimp := false) (disch := first | omega | (simp only [len_new, len_put, len_kill]; omega)) only [↓ypre, ypost, ↓reduceIte, Nat.reduceEqDiff, Nat.reduceAdd, Nat.reduceSub, Nat.reduceLeDiff, Nat.zero_add, Nat.sub_zero, ynew, wr_of g1, v1, wr_of g2, splice_eq, rdn_put_same]); try simp only [yback])
    exact old ⟨p, t.i, t.j, t.k, t.ns⟩ H5 _ _ rfl (kk3.trans ((Kp.of p4).trans k5)) s5 ⟨by show -1000 ≤ p ∧ p ≤ 1000; omega, b2, b3, b4, b5⟩
  by_cases r1 : r = 1
  · ((try simp (maxSteps := 3000000) (dsimp := false) (disch := first | omega | (simp only [len_new, len_put, len_kill]; omega)) only [↓ypre, ypost, ↓reduceIte, Nat.reduceEqDiff, Nat.reduceAdd, Nat.reduceSub, Nat.reduceLeDiff, Nat.zero_add, Nat.sub_zero, ynew, decide_eq_false r0, decide_eq_true r1, rd1_of g1, wrap64_in, fillL, zrep]); try simp only [yback])
    generalize hH4 : AH.new H3 _ = H4
    obtain ⟨hb4, p4, n4⟩ := new_facts hH4
    have kv := kp_new (n := n) (ns := [0, 10, t.j - 1]) hH4 (by omega)
    refine s_l01Pick (s3.kp p4) kv (by simp) (by simp) fun j H5 k5 l5 s5 hj => ?_
    have bp := pick_in (l := [0, 10, t.j - 1]) (a := -1000) (b := 1000) (by simp; omega) hj
    generalize ([0, 10, t.j - 1] : List Int).getD j 0 = p at bp
    have g1 := k5.get (by omega) (pre_get p4 g1)
    have g2 := k5.get (by omega) (pre_get p4 g2)
    have lg1 := get_lt g1
    have lg2 := get_lt g2
    ((try simp (maxSteps := 3000000) (dsimp := false) (disch := first | omega | (simp only [len_new, len_put, len_kill]; omega)) only [↓ypre, ypost, ↓reduceIte, Nat.reduceEqDiff, Nat.reduceAdd, Nat.reduceSub, Nat.reduceLeDiff, Nat.zero_add, Nat.sub_zero, ynew, wr_of g1, v1, wr_of g2, splice_eq, rdn_put_same]); try simp only [yback])
    exact old ⟨t.p, t.i, p, t.k, t.ns⟩ H5 _ _ rfl (kk3.trans ((Kp.of p4).trans k5)) s5 ⟨b1, b2, bp, b4, b5⟩
  by_cases r2 : r = 2
  · ((try simp (maxSteps := 3000000) (dsimp := false) (disch := first | omega | (simp only [len_new, len_put, len_kill]; omega)) only [↓ypre, ypost, ↓reduceIte, Nat.reduceEqDiff, Nat.reduceAdd, Nat.reduceSub, Nat.reduceLeDiff, Nat.zero_add, Nat.sub_zero, ynew, decide_eq_false r0, decide_eq_false r1, decide_eq_true r2, rd1_of g1]); try simp only [yback])
    refine s_OwnT (hv.kp kk3 hlo.1).now (by omega) (by omega) fun kb H4 hkb p4 lv => ?_
    have g1 := pre_get p4 g1
    have g2 := pre_get p4 g2
    ((try simp (maxSteps := 3000000) (dsimp := false) (disch := first | omega | (simp only [len_new, len_put, len_kill]; omega)) only [↓ypre, ypost, ↓reduceIte, Nat.reduceEqDiff, Nat.reduceAdd, Nat.reduceSub, Nat.reduceLeDiff, Nat.zero_add, Nat.sub_zero, ynew, fillL, zrep]); try simp only [yback])
    refine lst_app lv (by omega) fun H5 l5 k5 q5 => ?_
    have g1 := k5.get (by omega) g1
    have g2 := k5.get (by omega) g2
    have lg1 := get_lt g1
    have lg2 := get_lt g2
    have ln := s3.lt
    have l4 := pre_len p4
    have o1 : isOne (sl (H4.length + 1) (t.ns ++ [0]).length) = true := rfl
    have oc : cellsL (sl (H4.length + 1) (t.ns ++ [0]).length) = [sl (H4.length + 1) (t.ns ++ [0]).length] := rfl
    ((try simp (maxSteps := 3000000) (dsimp := false) (disch := first | omega | (simp only [len_new, len_put, len_kill]; omega)) only [↓ypre, ypost, ↓reduceIte, Nat.reduceEqDiff, Nat.reduceAdd, Nat.reduceSub, Nat.reduceLeDiff, Nat.zero_add, Nat.sub_zero, ynew, wr_of g1, o1, oc, wr_of g2, splice_eq, rdn_put_same]); try simp only [yback])
    have kk := (kk3.trans (Kp.of p4)).over k5 (by omega)
    have ss := (s3.kp p4).over k5 (by omega) (by omega)
    refine hQ ⟨t.p, t.i, t.j, t.k, t.ns ++ [0]⟩ (sl (H4.length + 1) (t.ns ++ [0]).length) _ ((kk.putb (m := H1.length) (by omega)).putb (m := h.length) (by omega)) ((ss.putb (m := H1.length) (by omega) (by omega)).putb (m := h.length) (by omega) (by omega)) ?_ ⟨b1, b2, b3, b4, by simp; omega⟩
    exact nums_kN (m := H4.length + 1) (l := t.ns ++ [0]) (by rw [get_put_ne (by omega), get_put_ne (by omega)]; exact q5) (by omega)
  by_cases r3 : r = 3
  · ((try simp (maxSteps := 3000000) (dsimp := false) (disch := first | omega | (simp only [len_new, len_put, len_kill]; omega)) only [↓ypre, ypost, ↓reduceIte, Nat.reduceEqDiff, Nat.reduceAdd, Nat.reduceSub, Nat.reduceLeDiff, Nat.zero_add, Nat.sub_zero, ynew, decide_eq_false r0, decide_eq_false r1, decide_eq_false r2, decide_eq_true r3, rd1_of g1]); try simp only [yback])
    refine s_OwnT (hv.kp kk3 hlo.1).now (by omega) (by omega) fun kb H4 hkb p4 lv => ?_
    have g1 := pre_get p4 g1
    have g2 := pre_get p4 g2
    ((try simp (maxSteps := 3000000) (dsimp := false) (disch := first | omega | (simp only [len_new, len_put, len_kill]; omega)) only [↓ypre, ypost, ↓reduceIte, Nat.reduceEqDiff, Nat.reduceAdd, Nat.reduceSub, Nat.reduceLeDiff, Nat.zero_add, Nat.sub_zero, ynew, rd1_of g1, fillL, zrep]); try simp only [yback])
    generalize hH5 : AH.new H4 _ = H5
    obtain ⟨hb5, p5, n5⟩ := new_facts hH5
    have ln := s3.lt
    have l4 := pre_len p4
    have kv := kp_new (n := n) (ns := [-1, t.p]) hH5 (by omega)
    refine s_l01Pick ((s3.kp p4).kp p5) kv (by simp) (by simp) fun j H6 k6 l6 s6 hj => ?_
    generalize ([-1, t.p] : List Int).getD j 0 = y
    have g1 := k6.get (by omega) (pre_get p5 g1)
    have g2 := k6.get (by omega) (pre_get p5 g2)
    have lv6 : Lst H6 kb t.ns false := k6.get (by omega) (pre_get p5 lv)
    have lg1 := get_lt g1
    have lg2 := get_lt g2
    have lgv := lv6.lt
    have ix := Lst.ix (n := kb) (j := 0) (len := t.ns.length) (by omega)
    have st := map_set (l := t.ns) (j := 0) (x := y) (by omega)
    have wv : H6.wr kb 0 [I64 y] = some (H6.put kb ⟨(t.ns.set 0 y).map (Value.int .i64), 2, false, false⟩) := by
      rw [wr_of lv6, if_pos ⟨rfl, by simp only [List.length_map, List.length_singleton]; omega⟩]
      simp only [st]
    have lsb : kb < H5.length := by rw [n5]; have := lv.lt; omega
    have o1 : isOne (sl kb t.ns.length) = true := rfl
    have oc : cellsL (sl kb t.ns.length) = [sl kb t.ns.length] := rfl
    ((try simp (maxSteps := 3000000) (dsimp := false) (disch := first | omega | (simp only [len_new, len_put, len_kill]; omega)) only [↓ypre, ypost, ↓reduceIte, Nat.reduceEqDiff, Nat.reduceAdd, Nat.reduceSub, Nat.reduceLeDiff, Nat.zero_add, Nat.sub_zero, ynew, ix, Int.toNat_zero, wv, wr_of g1, o1, oc, wr_of g2, splice_eq, rdn_put_same]); try simp only [yback])
    have kk := (kk3.trans (Kp.of (p4.trans p5))).trans k6
    have e1 : sl kb t.ns.length = sl kb (t.ns.set 0 y).length := by rw [List.length_set]
    rw [e1]
    refine hQ ⟨t.p, t.i, t.j, t.k, t.ns.set 0 y⟩ (sl kb (t.ns.set 0 y).length) _ (((kk.putb (m := H1.length) (by omega)).putb (m := h.length) (by omega)).putb (m := kb) (by omega)) (((s6.putb (m := H1.length) (by omega) (by omega)).putb (m := h.length) (by omega) (by omega)).putb (m := kb) (by omega) (by omega)) ?_ ⟨b1, b2, b3, b4, by simp; omega⟩
    exact nums_kN (m := kb) (l := t.ns.set 0 y) (get_put_same (by rw [len_put, len_put]; exact lgv)) (by omega)
  have lg1 := get_lt g1
  have lg2 := get_lt g2
  ((try simp (maxSteps := 3000000) (dsimp := false) (disch := first | omega | (simp only [len_new, len_put, len_kill]; omega)) only [↓ypre, ypost, ↓reduceIte, Nat.reduceEqDiff, Nat.reduceAdd, Nat.reduceSub, Nat.reduceLeDiff, Nat.zero_add, Nat.sub_zero, ynew, decide_eq_false r0, decide_eq_false r1, decide_eq_false r2, decide_eq_false r3, v1, rdn_of g1, wr_of g2, splice_eq, rdn_put_same]); try simp only [yback])
  have kf : Kp n h (H3.put H1.length ⟨[I64 t.p, I64 t.i, I64 t.j, I64 t.k, v], 36, false, true⟩) := kk3.putb (m := H1.length) (by omega)
  exact hQ t v _ kf (s3.putb (by omega) (by omega)) (hv.kp kf hlo.1) ⟨b1, b2, b3, b4, b5⟩
theorem tofX_TF {x : Sch} {h : AH} {v : Value} (hx : isX x = true) (hv : Prods h v x.ps) : TF (tofX x) ∧ isP (tofX x).p = true := by
  obtain ⟨z, hp, _, _⟩ := isX_facts hx
  have nm := z.nm
  have mk := z.mk2
  have nk := z.nk
  have zp := z.p
  refine ⟨TF.ten zp nm mk nk fun a b c ha hb' hc => ?_, hp⟩
  unfold lsN
  exact (lsX_in hv z (by omega) (by omega) (by omega)).1
theorem TenS.tenB {t : Ten} (s : TenS t) (hl : t.ns.length = (t.i * t.j * t.k).toNat) : TenB t ∧ (1 ≤ t.ns.length ∧ t.ns.length ≤ 900) ∧ (-100 ≤ t.p ∧ t.p ≤ 100 ∧ -100 ≤ t.j ∧ t.j ≤ 100) := by
  obtain ⟨a, b, c, d⟩ := s
  have ij := mul_in1 (A := 9) (B := 9) b c
  have ijk := mul_in1 (A := 81) (B := 9) ij d
  exact ⟨⟨by omega, by omega, by omega, by omega, by omega⟩, by omega, by omega⟩
theorem s_l05Spoil {h0 h : AH} {n : Nat} {Q : Value → AH → Prop} (s : Src h0 h n)
    (hQ : ∀ (t : Ten) (v : Value) (h' : AH), Kp n h h' → Src h0 h' n → TenD h.length h' v t → TenB t → Q (tenV t v) h') : WF S 172 [srcP n] h Q := by
  refine WF_fn (fn := c172) rfl rfl ?_
  unfold c172
  have lt := s.lt
  have l0 := pre_len s.p
  ((try simp (maxSteps := 3000000) (dsimp := false) (disch := first | omega | (simp only [len_new, len_put, len_kill]; omega)) only [↓ypre, ypost, ↓reduceIte, Nat.reduceEqDiff, Nat.reduceAdd, Nat.reduceSub, Nat.reduceLeDiff, Nat.zero_add, Nat.sub_zero, ynew]); try simp only [yback])
  generalize hH1 : AH.new h _ = H1
  obtain ⟨hb1, p1, n1⟩ := new_facts hH1
  refine s_l01Next (s.kp p1) fun r H2 k2 l2 s2 hr _ => ?_
  have g1 := k2.get (by omega) hb1
  have fin : ∀ (t : Ten) (v : Value) (h' : AH), Kp n h h' → Src h0 h' n → TenD H1.length h' v t → TenB t → Q (tenV t v) (h'.put h.length ⟨[I64 t.p, I64 t.i, I64 t.j, I64 t.k, v], 36, false, true⟩) := fun t v h' kk ss td tb =>
    hQ t v _ (kk.putb (Nat.le_refl _)) (ss.putb (by omega) (by omega)) ((KN.put td (by omega)).mono (by omega)) tb
  by_cases r0 : r = 0
  · ((try simp (maxSteps := 3000000) (dsimp := false) (disch := first | omega | (simp only [len_new, len_put, len_kill]; omega)) only [↓ypre, ypost, ↓reduceIte, Nat.reduceEqDiff, Nat.reduceAdd, Nat.reduceSub, Nat.reduceLeDiff, Nat.zero_add, Nat.sub_zero, ynew, decide_eq_true r0]); try simp only [yback])
    refine s_l01Draw s2 fun x v H3 k3 s3 sd hx => ?_
    obtain ⟨z, hp, hl, _⟩ := isX_facts hx
    have tf := tofX_TF hx sd.now
    ((try simp (maxSteps := 3000000) (dsimp := false) (disch := first | omega | (simp only [len_new, len_put, len_kill]; omega)) only [↓ypre, ypost, ↓reduceIte, Nat.reduceEqDiff, Nat.reduceAdd, Nat.reduceSub, Nat.reduceLeDiff, Nat.zero_add, Nat.sub_zero, ynew]); try simp only [yback])
    refine s_l05Of sd.now z hl fun v4 H4 p4 o4 => ?_
    obtain ⟨m, e, hm, rfl, gm⟩ := o4.blk
    have k3l := k3.len
    have lm := get_lt gm
    have ns := TenS.tenB tf.1.tenS (by have := tf.1.len; omega)
    ((try simp (maxSteps := 3000000) (dsimp := false) (disch := first | omega | (simp only [len_new, len_put, len_kill]; omega)) only [↓ypre, ypost, ↓reduceIte, Nat.reduceEqDiff, Nat.reduceAdd, Nat.reduceSub, Nat.reduceLeDiff, Nat.zero_add, Nat.sub_zero, ynew]); try simp only [yback])
    refine s_l05Bad (lo := H1.length) (s3.kp p4) ns.1 (by omega) (nums_kN gm (by omega)) ns.2.1 ns.2.2 fun t v5 H5 k5 s5 td tb => ?_
    have g1 := k5.get (by omega) (pre_get p4 (k3.get (by omega) g1))
    have lg := get_lt g1
    ((try simp (maxSteps := 3000000) (dsimp := false) (disch := first | omega | (simp only [len_new, len_put, len_kill]; omega)) only [↓ypre, ypost, ↓reduceIte, Nat.reduceEqDiff, Nat.reduceAdd, Nat.reduceSub, Nat.reduceLeDiff, Nat.zero_add, Nat.sub_zero, ynew, tenV, td.now.one, wr_of g1, splice_eq, rdn_put_same]); try simp only [yback])
    exact fin t v5 H5 ((((Kp.of p1).trans k2).trans k3).trans ((Kp.of p4).trans k5)) s5 td tb
  · ((try simp (maxSteps := 3000000) (dsimp := false) (disch := first | omega | (simp only [len_new, len_put, len_kill]; omega)) only [↓ypre, ypost, ↓reduceIte, Nat.reduceEqDiff, Nat.reduceAdd, Nat.reduceSub, Nat.reduceLeDiff, Nat.zero_add, Nat.sub_zero, ynew, decide_eq_false r0, fillL, zrep]); try simp only [yback])
    generalize hH3 : AH.new H2 _ = H3
    obtain ⟨hb3, p3, n3⟩ := new_facts hH3
    have ln := s2.lt
    have kv := kp_new (n := n) (ns := [2, 3, 4]) hH3 (by omega)
    refine s_l01Pick (s2.kp p3) kv (by simp) (by simp) fun j H4 k4 l4 s4 hj => ?_
    have bM := pick_in (l := [2, 3, 4]) (a := 2) (b := 4) (by simp) hj
    generalize ([2, 3, 4] : List Int).getD j 0 = M at bM
    have g1 := k4.get (by omega) (pre_get p3 g1)
    ((try simp (maxSteps := 3000000) (dsimp := false) (disch := first | omega | (simp only [len_new, len_put, len_kill]; omega)) only [↓ypre, ypost, ↓reduceIte, Nat.reduceEqDiff, Nat.reduceAdd, Nat.reduceSub, Nat.reduceLeDiff, Nat.zero_add, Nat.sub_zero, ynew]); try simp only [yback])
    refine s_l05Sides s4 bM fun t m e H5 k5 s5 ts hp hns hm gm => ?_
    have g1 := k5.get (by omega) g1
    have k5l := k5.len
    ((try simp (maxSteps := 3000000) (dsimp := false) (disch := first | omega | (simp only [len_new, len_put, len_kill]; omega)) only [↓ypre, ypost, ↓reduceIte, Nat.reduceEqDiff, Nat.reduceAdd, Nat.reduceSub, Nat.reduceLeDiff, Nat.zero_add, Nat.sub_zero, ynew]); try simp only [yback])
    refine s_l05Fill s5 ts rfl fun l mb e2 H6 k6 s6 hl hmb gmb => ?_
    have g1 := k6.get (by omega) g1
    have k6l := k6.len
    have ns := TenS.tenB (t := ⟨t.p, t.i, t.j, t.k, l⟩) ⟨ts.p, ts.i, ts.j, ts.k⟩ hl
    ((try simp (maxSteps := 3000000) (dsimp := false) (disch := first | omega | (simp only [len_new, len_put, len_kill]; omega)) only [↓ypre, ypost, ↓reduceIte, Nat.reduceEqDiff, Nat.reduceAdd, Nat.reduceSub, Nat.reduceLeDiff, Nat.zero_add, Nat.sub_zero, ynew]); try simp only [yback])
    refine s_l05Bad (lo := H1.length) s6 ns.1 (by omega) (nums_kN gmb (by omega)) ns.2.1 ns.2.2 fun t v5 H7 k7 s7 td tb => ?_
    have g1 := k7.get (by omega) g1
    have lg := get_lt g1
    ((try simp (maxSteps := 3000000) (dsimp := false) (disch := first | omega | (simp only [len_new, len_put, len_kill]; omega)) only [↓ypre, ypost, ↓reduceIte, Nat.reduceEqDiff, Nat.reduceAdd, Nat.reduceSub, Nat.reduceLeDiff, Nat.zero_add, Nat.sub_zero, ynew, tenV, td.now.one, wr_of g1, splice_eq, rdn_put_same]); try simp only [yback])
    exact fin t v5 H7 (((((Kp.of p1).trans k2).trans ((Kp.of p3).trans k4)).trans k5).trans (k6.trans k7)) s7 td tb
end Go.Proofs.Ytapafdpnmakekaa.X

/- Drawn tensors for the laws. -/
set_option linter.unusedVariables false
set_option linter.unusedSimpArgs false
set_option maxRecDepth 20000
set_option maxHeartbeats 4000000
namespace Go.Proofs.Ytapafdpnmakekaa.X
open Go Go.RowKit

/-- A code: bytes, not too many. -/
structure Cod (h : AH) (cv : Value) (code : List (List Int)) : Prop where
  els : Els .u8 1 h cv code
  byt : Byt 1 code
  len : code.length ≤ 1000000
theorem Cod.pre {h h' : AH} {cv : Value} {code : List (List Int)} (c : Cod h cv code) (p : h <+: h') : Cod h' cv code := ⟨c.els.pre p, c.byt, c.len⟩

theorem s_DrawTurnTensor {h : AH} {cv : Value} {code : List (List Int)} {Q : Value → AH → Prop} (c : Cod h cv code)
    (hQ : ∀ (t : Ten) (v : Value) (h' : AH), h <+: h' → Ints h' v t.ns → TenB t → Q (tenV t v) h') : WF S 36 [cv] h Q := by
  refine WF_fn (fn := c36) rfl rfl ?_
  unfold c36
  ((try simp (maxSteps := 3000000) (dsimp := false) (disch := first | omega | (simp only [len_new, len_put, len_kill]; omega)) only [↓ypre, ypost, ↓reduceIte, Nat.reduceEqDiff, Nat.reduceAdd, Nat.reduceSub, Nat.reduceLeDiff, Nat.zero_add, Nat.sub_zero, ynew]); try simp only [yback])
  generalize hH1 : AH.new h _ = H1
  obtain ⟨hb1, p1, n1⟩ := new_facts hH1
  refine s_l01From (c.els.pre p1) c.byt c.len fun H2 p2 l2 s2 => ?_
  ((try simp (maxSteps := 3000000) (dsimp := false) (disch := first | omega | (simp only [len_new, len_put, len_kill]; omega)) only [↓ypre, ypost, ↓reduceIte, Nat.reduceEqDiff, Nat.reduceAdd, Nat.reduceSub, Nat.reduceLeDiff, Nat.zero_add, Nat.sub_zero, ynew]); try simp only [yback])
  refine s_l05Spoil s2 fun t v H3 k3 s3 td tb => ?_
  have g1 := k3.get (by omega) (pre_get p2 hb1)
  have lg := get_lt g1
  ((try simp (maxSteps := 3000000) (dsimp := false) (disch := first | omega | (simp only [len_new, len_put, len_kill]; omega)) only [↓ypre, ypost, ↓reduceIte, Nat.reduceEqDiff, Nat.reduceAdd, Nat.reduceSub, Nat.reduceLeDiff, Nat.zero_add, Nat.sub_zero, ynew, tenV, td.now.one, wr_of g1, splice_eq, rdn_put_same]); try simp only [yback])
  exact hQ t v _ (pre_put (p1.trans s3.p) (Nat.le_refl _)) (KN.put td (by omega)).now tb

theorem s_l05Pair {h : AH} {cv : Value} {code : List (List Int)} {Q : Value → AH → Prop} (c : Cod h cv code)
    (hQ : ∀ (t u : Ten) (v w : Value) (h' : AH), h <+: h' → TenD h.length h' v t → TenD h.length h' w u → TenB t → TenB u → Q (.tuple #[tenV t v, tenV u w]) h') : WF S 186 [cv] h Q := by
  refine WF_fn (fn := c186) rfl rfl ?_
  unfold c186
  ((try simp (maxSteps := 3000000) (dsimp := false) (disch := first | omega | (simp only [len_new, len_put, len_kill]; omega)) only [↓ypre, ypost, ↓reduceIte, Nat.reduceEqDiff, Nat.reduceAdd, Nat.reduceSub, Nat.reduceLeDiff, Nat.zero_add, Nat.sub_zero, ynew]); try simp only [yback])
  generalize hH1 : AH.new h _ = H1
  obtain ⟨hb1, p1, n1⟩ := new_facts hH1
  generalize hH2 : AH.new H1 _ = H2
  obtain ⟨hb2, p2, n2⟩ := new_facts hH2
  refine s_l01From ((c.els.pre p1).pre p2) c.byt c.len fun H3 p3 l3 s3 => ?_
  have g1 := pre_get (p2.trans p3) hb1
  have g2 := pre_get p3 hb2
  have n3 := s3.lt
  refine WO_cut (fun f : Fr => f 2 = .pointer (some ⟨h.length, 0, none⟩) ∧ f 3 = .pointer (some ⟨H1.length, 0, none⟩) ∧ f 8 = srcP H2.length ∧ True) ⟨(by first | rfl | (simp [upd_apply]; done)), (by first | rfl | (simp [upd_apply]; done)), (by first | rfl | (simp [upd_apply]; done)), trivial⟩ ?_
  rintro f ⟨f2, f3, f8, -⟩
  ((try simp (maxSteps := 3000000) (dsimp := false) (disch := first | omega | (simp only [len_new, len_put, len_kill]; omega)) only [↓ypre, ypost, ↓reduceIte, Nat.reduceEqDiff, Nat.reduceAdd, Nat.reduceSub, Nat.reduceLeDiff, Nat.zero_add, Nat.sub_zero, ynew, f2, f3, f8]); try simp only [yback])
  refine s_l05Sides s3 (by omega) fun t0 m0 e0 H4 k4 s4 ts0 hp0 hns0 hm0 gm0 => ?_
  have g1 := k4.get (by omega) g1
  have g2 := k4.get (by omega) g2
  ((try simp (maxSteps := 3000000) (dsimp := false) (disch := first | omega | (simp only [len_new, len_put, len_kill]; omega)) only [↓ypre, ypost, ↓reduceIte, Nat.reduceEqDiff, Nat.reduceAdd, Nat.reduceSub, Nat.reduceLeDiff, Nat.zero_add, Nat.sub_zero, ynew, f2, f3, f8]); try simp only [yback])
  refine s_l05Fill s4 ts0 rfl fun l1 m1 e1 H5 k5 s5 hl1 hm1 gm1 => ?_
  have g1 := k5.get (by omega) g1
  have g2 := k5.get (by omega) g2
  have k4l := k4.len
  have k5l := k5.len
  refine WO_cut (fun f : Fr => f 2 = .pointer (some ⟨h.length, 0, none⟩) ∧ f 3 = .pointer (some ⟨H1.length, 0, none⟩) ∧ f 4 = srcP H2.length ∧ f 12 = tenV ⟨t0.p, t0.i, t0.j, t0.k, l1⟩ (sl m1 l1.length) ∧ True) ⟨(by first | rfl | exact f2 | (simp [upd_apply]; done) | (simp [upd_apply]; exact f2)), (by first | rfl | exact f3 | (simp [upd_apply]; done) | (simp [upd_apply]; exact f3)), (by first | rfl | (simp [upd_apply]; done)), (by first | rfl | (simp [upd_apply]; done)), trivial⟩ ?_
  rintro f ⟨f2, f3, f4, f12, -⟩
  ((try simp (maxSteps := 3000000) (dsimp := false) (disch := first | omega | (simp only [len_new, len_put, len_kill]; omega)) only [↓ypre, ypost, ↓reduceIte, Nat.reduceEqDiff, Nat.reduceAdd, Nat.reduceSub, Nat.reduceLeDiff, Nat.zero_add, Nat.sub_zero, ynew, f2, f3, f4, f12, fillL, zrep]); try simp only [yback])
  generalize hH6 : AH.new H5 _ = H6
  obtain ⟨hb6, p6, n6⟩ := new_facts hH6
  have kv := kp_new (n := H2.length) (ns := [2, 3, 4]) hH6 (by omega)
  refine s_l01Pick (s5.kp p6) kv (by simp) (by simp) fun j H7 k7 l7 s7 hj => ?_
  have bM := pick_in (l := [2, 3, 4]) (a := 2) (b := 4) (by simp) hj
  generalize ([2, 3, 4] : List Int).getD j 0 = M at bM
  have g1 := k7.get (by omega) (pre_get p6 g1)
  have g2 := k7.get (by omega) (pre_get p6 g2)
  have lm1 := get_lt gm1
  have gm1 := k7.get (by omega) (pre_get p6 gm1)
  ((try simp (maxSteps := 3000000) (dsimp := false) (disch := first | omega | (simp only [len_new, len_put, len_kill]; omega)) only [↓ypre, ypost, ↓reduceIte, Nat.reduceEqDiff, Nat.reduceAdd, Nat.reduceSub, Nat.reduceLeDiff, Nat.zero_add, Nat.sub_zero, ynew, f2, f3, f4, f12]); try simp only [yback])
  refine s_l05Sides s7 bM fun u0 m2 e2 H8 k8 s8 us0 up0 uns0 um0 ugm0 => ?_
  have g1 := k8.get (by omega) g1
  have g2 := k8.get (by omega) g2
  have gm1 := k8.get (by omega) gm1
  have k8l := k8.len
  have lm2 := get_lt ugm0
  refine WO_cut (fun f : Fr => f 2 = .pointer (some ⟨h.length, 0, none⟩) ∧ f 3 = .pointer (some ⟨H1.length, 0, none⟩) ∧ f 4 = srcP H2.length ∧ f 12 = tenV ⟨t0.p, t0.i, t0.j, t0.k, l1⟩ (sl m1 l1.length) ∧ f 17 = tenV u0 (sl m2 u0.ns.length) ∧ True) ⟨(by first | rfl | exact f2 | (simp [upd_apply]; done) | (simp [upd_apply]; exact f2)), (by first | rfl | exact f3 | (simp [upd_apply]; done) | (simp [upd_apply]; exact f3)), (by first | rfl | exact f4 | (simp [upd_apply]; done) | (simp [upd_apply]; exact f4)), (by first | rfl | exact f12 | (simp [upd_apply]; done) | (simp [upd_apply]; exact f12)), (by first | rfl | (simp [upd_apply]; done)), trivial⟩ ?_
  rintro f ⟨f2, f3, f4, f12, f17, -⟩
  ((try simp (maxSteps := 3000000) (dsimp := false) (disch := first | omega | (simp only [len_new, len_put, len_kill]; omega)) only [↓ypre, ypost, ↓reduceIte, Nat.reduceEqDiff, Nat.reduceAdd, Nat.reduceSub, Nat.reduceLeDiff, Nat.zero_add, Nat.sub_zero, ynew, f2, f3, f4, f12, f17, tenV, one_slice, sl]); try simp only [yback])
  simp only [len_new]
  generalize hH9 : AH.new H8 _ = H9
  obtain ⟨hb9, p9, n9⟩ := new_facts hH9
  generalize hHA : AH.new H9 _ = HA
  obtain ⟨hbA, pA, nA⟩ := new_facts hHA
  rw [n9] at hbA
  have g9 := pre_get pA hb9
  ((try simp (maxSteps := 3000000) (dsimp := false) (disch := first | omega | (simp only [len_new, len_put, len_kill]; omega)) only [↓ypre, ypost, ↓reduceIte, Nat.reduceEqDiff, Nat.reduceAdd, Nat.reduceSub, Nat.reduceLeDiff, Nat.zero_add, Nat.sub_zero, ynew, f2, f3, f4, f12, f17, wr_of hbA, splice_eq]); try simp only [yback])
  generalize hHB : AH.put HA _ _ = HB
  obtain ⟨qB, lB, oB, uB⟩ := put_facts hHB
  have gA := oB (get_lt hbA)
  have g9 := qB H8.length _ (by omega) g9
  have pAA := p9.trans pA
  have g1 := qB h.length _ (by omega) (pre_get pAA g1)
  have g2 := qB H1.length _ (by omega) (pre_get pAA g2)
  have gm1 := qB m1 _ (by omega) (pre_get pAA gm1)
  have gm2 := qB m2 _ (by omega) (pre_get pAA ugm0)
  have sB : Src H2 HB H2.length := (s8.kp pAA).put hHB (by omega) (by omega)
  have nB := sB.lt
  have us := us0
  refine s_l01Next sB fun r HC kC lC sC hr _ => ?_
  have g1 := kC.get (by omega) g1
  have g2 := kC.get (by omega) g2
  have g9 := kC.get (by omega) g9
  have gA := kC.get (by omega) gA
  have gm1 := kC.get (by omega) gm1
  have gm2 := kC.get (by omega) gm2
  have lgA := get_lt gA
  refine WO_join (fun (f : Fr) (HD : AH) => ∃ pu : Int, (2 ≤ pu ∧ pu ≤ 5) ∧ f 2 = .pointer (some ⟨h.length, 0, none⟩) ∧ f 3 = .pointer (some ⟨H1.length, 0, none⟩) ∧ f 4 = srcP H2.length ∧ f 5 = .pointer (some ⟨H8.length, 0, none⟩) ∧ f 6 = .pointer (some ⟨H8.length + 1, 0, none⟩) ∧
    Src H2 HD H2.length ∧ HD.length = HC.length ∧ HD.get h.length = some ⟨[I64 0, I64 0, I64 0, I64 0, .slice none 0 0], 36, false, true⟩ ∧ HD.get H1.length = some ⟨[I64 0, I64 0, I64 0, I64 0, .slice none 0 0], 36, false, true⟩ ∧
    HD.get H8.length = some ⟨[I64 t0.p, I64 t0.i, I64 t0.j, I64 t0.k, .slice (some ⟨m1, 0, none⟩) l1.length 1], 36, false, true⟩ ∧ HD.get (H8.length + 1) = some ⟨[I64 pu, I64 u0.i, I64 u0.j, I64 u0.k, .slice (some ⟨m2, 0, none⟩) u0.ns.length 1], 36, false, true⟩ ∧
    HD.get m1 = some ⟨l1.map (Value.int .i64), e1, false, true⟩) ?_ ?_
  · by_cases hr0 : 0 < r
    · ((try simp (maxSteps := 3000000) (dsimp := false) (disch := first | omega | (simp only [len_new, len_put, len_kill]; omega)) only [↓ypre, ypost, ↓reduceIte, Nat.reduceEqDiff, Nat.reduceAdd, Nat.reduceSub, Nat.reduceLeDiff, Nat.zero_add, Nat.sub_zero, ynew, f2, f3, f4, f12, f17, decide_eq_true hr0, rd1_of g9, wr_of gA, splice_eq]); try simp only [yback])
      rw [JnQ_n]
      exact ⟨t0.p, ts0.p, by first | rfl | exact f2, by first | rfl | exact f3, by first | rfl | exact f4, rfl, rfl, sC.putb (by omega) (by omega), len_put, by rw [get_put_ne (by omega)]; exact g1, by rw [get_put_ne (by omega)]; exact g2, by rw [get_put_ne (by omega)]; exact g9, get_put_same lgA, by rw [get_put_ne (by omega)]; exact gm1⟩
    · ((try simp (maxSteps := 3000000) (dsimp := false) (disch := first | omega | (simp only [len_new, len_put, len_kill]; omega)) only [↓ypre, ypost, ↓reduceIte, Nat.reduceEqDiff, Nat.reduceAdd, Nat.reduceSub, Nat.reduceLeDiff, Nat.zero_add, Nat.sub_zero, ynew, f2, f3, f4, f12, f17, decide_eq_false hr0]); try simp only [yback])
      rw [JnQ_n]
      exact ⟨u0.p, us0.p, by first | rfl | exact f2, by first | rfl | exact f3, by first | rfl | exact f4, rfl, rfl, sC, rfl, g1, g2, g9, gA, gm1⟩
  · rintro f HD ⟨pu, hpu, f2, f3, f4, f5, f6, sD, lD, g1, g2, g9, gA, gm1⟩
    ((try simp (maxSteps := 3000000) (dsimp := false) (disch := first | omega | (simp only [len_new, len_put, len_kill]; omega)) only [↓ypre, ypost, ↓reduceIte, Nat.reduceEqDiff, Nat.reduceAdd, Nat.reduceSub, Nat.reduceLeDiff, Nat.zero_add, Nat.sub_zero, ynew, f2, f3, f4, f5, f6, rdn_of g9]); try simp only [yback])
    have nD := sD.lt
    have ns1 := TenS.tenB (t := ⟨t0.p, t0.i, t0.j, t0.k, l1⟩) ⟨ts0.p, ts0.i, ts0.j, ts0.k⟩ hl1
    have n4' := s4.lt
    refine s_l05Bad (t := ⟨t0.p, t0.i, t0.j, t0.k, l1⟩) (lo := H2.length + 1) sD ns1.1 (by omega) (nums_kN gm1 (by omega)) ns1.2.1 ns1.2.2 fun t v HE kE sE td tb => ?_
    have g1 := kE.get (by omega) g1
    have g2 := kE.get (by omega) g2
    have gA := kE.get (by omega) gA
    refine ⟨⟨_, rfl, kE⟩, ?_⟩
    refine WO_cut (fun f : Fr => f 2 = .pointer (some ⟨h.length, 0, none⟩) ∧ f 3 = .pointer (some ⟨H1.length, 0, none⟩) ∧ f 4 = srcP H2.length ∧ f 24 = srcP H2.length ∧ f 6 = .pointer (some ⟨H8.length + 1, 0, none⟩) ∧ f 26 = tenV t v ∧ True) ⟨(by first | rfl | exact f2 | (simp [upd_apply]; done) | (simp [upd_apply]; exact f2)), (by first | rfl | exact f3 | (simp [upd_apply]; done) | (simp [upd_apply]; exact f3)), (by first | rfl | exact f4 | (simp [upd_apply]; done) | (simp [upd_apply]; exact f4)), (by first | rfl | (simp [upd_apply]; done)), (by first | rfl | exact f6 | (simp [upd_apply]; done) | (simp [upd_apply]; exact f6)), (by first | rfl | (simp [upd_apply]; done)), trivial⟩ ?_
    rintro f ⟨f2, f3, f4, f24, f6, f26, -⟩
    ((try simp (maxSteps := 3000000) (dsimp := false) (disch := first | omega | (simp only [len_new, len_put, len_kill]; omega)) only [↓ypre, ypost, ↓reduceIte, Nat.reduceEqDiff, Nat.reduceAdd, Nat.reduceSub, Nat.reduceLeDiff, Nat.zero_add, Nat.sub_zero, ynew, f2, f3, f4, f24, f6, f26, rdn_of gA]); try simp only [yback])
    refine ⟨by omega, ?_⟩
    refine s_l05Fill (t := ⟨pu, u0.i, u0.j, u0.k, u0.ns⟩) sE ⟨hpu, us0.i, us0.j, us0.k⟩ rfl fun l3 m3 e3 HF kF sF hl3 hm3 gm3 => ?_
    have g1 := kF.get (by omega) g1
    have g2 := kF.get (by omega) g2
    have kFl := kF.len
    have kEl := kE.len
    have ns3 := TenS.tenB (t := ⟨pu, u0.i, u0.j, u0.k, l3⟩) ⟨hpu, us0.i, us0.j, us0.k⟩ hl3
    have td := td.kp kF (by omega)
    ((try simp (maxSteps := 3000000) (dsimp := false) (disch := first | omega | (simp only [len_new, len_put, len_kill]; omega)) only [↓ypre, ypost, ↓reduceIte, Nat.reduceEqDiff, Nat.reduceAdd, Nat.reduceSub, Nat.reduceLeDiff, Nat.zero_add, Nat.sub_zero, ynew, f2, f3, f4, f24, f6, f26]); try simp only [yback])
    refine s_l05Bad (t := ⟨pu, u0.i, u0.j, u0.k, l3⟩) (lo := H2.length + 1) sF ns3.1 (by omega) (nums_kN gm3 (by omega)) ns3.2.1 ns3.2.2 fun u w HG kG sG ud ub => ?_
    have g1 := kG.get (by omega) g1
    have g2 := kG.get (by omega) g2
    have td := td.kp kG (by omega)
    have lg1 := get_lt g1
    have lg2 := get_lt g2
    ((try simp (maxSteps := 3000000) (dsimp := false) (disch := first | omega | (simp only [len_new, len_put, len_kill]; omega)) only [↓ypre, ypost, ↓reduceIte, Nat.reduceEqDiff, Nat.reduceAdd, Nat.reduceSub, Nat.reduceLeDiff, Nat.zero_add, Nat.sub_zero, ynew, f2, f3, f4, f24, f6, f26, tenV, td.now.one, ud.now.one, wr_of g1, wr_of g2, splice_eq, rdn_put_same]); try simp only [yback])
    have pf := pre_put (pre_put ((p1.trans p2).trans sG.p) (show h.length ≤ H1.length by omega) (b := ⟨[I64 u.p, I64 u.i, I64 u.j, I64 u.k, w], 36, false, true⟩)) (Nat.le_refl h.length) (b := ⟨[I64 t.p, I64 t.i, I64 t.j, I64 t.k, v], 36, false, true⟩)
    exact hQ t u v w _ pf (KN.mono (KN.put (KN.put td (by omega)) (by omega)) (by omega)) (KN.mono (KN.put (KN.put ud (by omega)) (by omega)) (by omega)) tb ub

theorem s_DrawDirectSum {h : AH} {cv : Value} {code : List (List Int)} {Q : Value → AH → Prop} (c : Cod h cv code)
    (hQ : ∀ (t u : Ten) (v w : Value) (h' : AH), h <+: h' → Ints h' v t.ns → Ints h' w u.ns → TenB t → TenB u → Q (.tuple #[tenV t v, tenV u w]) h') : WF S 31 [cv] h Q := by
  refine WF_fn (fn := c31) rfl rfl ?_
  unfold c31
  ((try simp (maxSteps := 3000000) (dsimp := false) (disch := first | omega | (simp only [len_new, len_put, len_kill]; omega)) only [↓ypre, ypost, ↓reduceIte, Nat.reduceEqDiff, Nat.reduceAdd, Nat.reduceSub, Nat.reduceLeDiff, Nat.zero_add, Nat.sub_zero, ynew]); try simp only [yback])
  generalize hH1 : AH.new h _ = H1
  obtain ⟨hb1, p1, n1⟩ := new_facts hH1
  generalize hH2 : AH.new H1 _ = H2
  obtain ⟨hb2, p2, n2⟩ := new_facts hH2
  refine s_l05Pair (c.pre (p1.trans p2)) fun t u v w H3 p3 hv hw tb ub => ?_
  have g1 := pre_get (p2.trans p3) hb1
  have g2 := pre_get p3 hb2
  ((try simp (maxSteps := 3000000) (dsimp := false) (disch := first | omega | (simp only [len_new, len_put, len_kill]; omega)) only [↓ypre, ypost, ↓reduceIte, Nat.reduceEqDiff, Nat.reduceAdd, Nat.reduceSub, Nat.reduceLeDiff, Nat.zero_add, Nat.sub_zero, ynew, tenV, hv.now.one, hw.now.one]); try simp only [yback])
  simp only [len_new]
  generalize hH9 : AH.new H3 _ = H9
  obtain ⟨hb9, p9, n9⟩ := new_facts hH9
  generalize hHA : AH.new H9 _ = HA
  obtain ⟨hbA, pA, nA⟩ := new_facts hHA
  rw [n9] at hbA
  have g9 := pre_get pA hb9
  ((try simp (maxSteps := 3000000) (dsimp := false) (disch := first | omega | (simp only [len_new, len_put, len_kill]; omega)) only [↓ypre, ypost, ↓reduceIte, Nat.reduceEqDiff, Nat.reduceAdd, Nat.reduceSub, Nat.reduceLeDiff, Nat.zero_add, Nat.sub_zero, ynew, wr_of hbA, splice_eq, rdn_of g9]); try simp only [yback])
  generalize hHB : AH.put HA _ _ = HB
  obtain ⟨qB, lB, oB, uB⟩ := put_facts hHB
  have gA := oB (get_lt hbA)
  have g9 := qB H3.length _ (by omega) g9
  have p3l := p3.length_le
  have g1' := g1
  have lg1 := get_lt g1
  have lg2 := get_lt g2
  have pAA := p9.trans pA
  have g1 := qB h.length _ (by omega) (pre_get pAA g1)
  have g2 := qB H1.length _ (by omega) (pre_get pAA g2)
  have kB : Kp h.length H3 HB := hHB ▸ (Kp.of pAA).putb (by omega)
  have pB : H3 <+: HB := hHB ▸ pre_put pAA (by omega)
  ((try simp (maxSteps := 3000000) (dsimp := false) (disch := first | omega | (simp only [len_new, len_put, len_kill]; omega)) only [↓ypre, ypost, ↓reduceIte, Nat.reduceEqDiff, Nat.reduceAdd, Nat.reduceSub, Nat.reduceLeDiff, Nat.zero_add, Nat.sub_zero, ynew, rdn_of gA]); try simp only [yback])
  refine ⟨by omega, ?_⟩
  ((try simp (maxSteps := 3000000) (dsimp := false) (disch := first | omega | (simp only [len_new, len_put, len_kill]; omega)) only [↓ypre, ypost, ↓reduceIte, Nat.reduceEqDiff, Nat.reduceAdd, Nat.reduceSub, Nat.reduceLeDiff, Nat.zero_add, Nat.sub_zero, ynew, wr_of g1, wr_of g2, splice_eq, rdn_put_same]); try simp only [yback])
  have pf := pre_put (pre_put ((p1.trans p2).trans (p3.trans pB)) (show h.length ≤ H1.length by omega) (b := ⟨[I64 u.p, I64 u.i, I64 u.j, I64 u.k, w], 36, false, true⟩)) (Nat.le_refl h.length) (b := ⟨[I64 t.p, I64 t.i, I64 t.j, I64 t.k, v], 36, false, true⟩)
  exact ⟨hv.now.one, hw.now.one, hQ t u v w _ pf (KN.put (KN.put (KN.kp hv kB (by omega)) (by omega)) (by omega)).now (KN.put (KN.put (KN.kp hw kB (by omega)) (by omega)) (by omega)).now tb ub⟩

theorem s_DrawKroneckerTensors {h : AH} {cv : Value} {code : List (List Int)} {Q : Value → AH → Prop} (c : Cod h cv code)
    (hQ : ∀ (t u : Ten) (v w : Value) (h' : AH), h <+: h' → Ints h' v t.ns → Ints h' w u.ns → TenB t → TenB u → Q (.tuple #[tenV t v, tenV u w]) h') : WF S 39 [cv] h Q := by
  refine WF_fn (fn := c39) rfl rfl ?_
  unfold c39
  ((try simp (maxSteps := 3000000) (dsimp := false) (disch := first | omega | (simp only [len_new, len_put, len_kill]; omega)) only [↓ypre, ypost, ↓reduceIte, Nat.reduceEqDiff, Nat.reduceAdd, Nat.reduceSub, Nat.reduceLeDiff, Nat.zero_add, Nat.sub_zero, ynew]); try simp only [yback])
  generalize hH1 : AH.new h _ = H1
  obtain ⟨hb1, p1, n1⟩ := new_facts hH1
  generalize hH2 : AH.new H1 _ = H2
  obtain ⟨hb2, p2, n2⟩ := new_facts hH2
  refine s_l05Pair (c.pre (p1.trans p2)) fun t u v w H3 p3 hv hw tb ub => ?_
  have g1 := pre_get (p2.trans p3) hb1
  have g2 := pre_get p3 hb2
  ((try simp (maxSteps := 3000000) (dsimp := false) (disch := first | omega | (simp only [len_new, len_put, len_kill]; omega)) only [↓ypre, ypost, ↓reduceIte, Nat.reduceEqDiff, Nat.reduceAdd, Nat.reduceSub, Nat.reduceLeDiff, Nat.zero_add, Nat.sub_zero, ynew, tenV, hv.now.one, hw.now.one]); try simp only [yback])
  simp only [len_new]
  generalize hH9 : AH.new H3 _ = H9
  obtain ⟨hb9, p9, n9⟩ := new_facts hH9
  generalize hHA : AH.new H9 _ = HA
  obtain ⟨hbA, pA, nA⟩ := new_facts hHA
  rw [n9] at hbA
  have g9 := pre_get pA hb9
  ((try simp (maxSteps := 3000000) (dsimp := false) (disch := first | omega | (simp only [len_new, len_put, len_kill]; omega)) only [↓ypre, ypost, ↓reduceIte, Nat.reduceEqDiff, Nat.reduceAdd, Nat.reduceSub, Nat.reduceLeDiff, Nat.zero_add, Nat.sub_zero, ynew, wr_of hbA, splice_eq, rdn_of g9]); try simp only [yback])
  generalize hHB : AH.put HA _ _ = HB
  obtain ⟨qB, lB, oB, uB⟩ := put_facts hHB
  have gA := oB (get_lt hbA)
  have g9 := qB H3.length _ (by omega) g9
  have p3l := p3.length_le
  have g1' := g1
  have lg1 := get_lt g1
  have lg2 := get_lt g2
  have pAA := p9.trans pA
  have g1 := qB h.length _ (by omega) (pre_get pAA g1)
  have g2 := qB H1.length _ (by omega) (pre_get pAA g2)
  have kB : Kp h.length H3 HB := hHB ▸ (Kp.of pAA).putb (by omega)
  have pB : H3 <+: HB := hHB ▸ pre_put pAA (by omega)
  ((try simp (maxSteps := 3000000) (dsimp := false) (disch := first | omega | (simp only [len_new, len_put, len_kill]; omega)) only [↓ypre, ypost, ↓reduceIte, Nat.reduceEqDiff, Nat.reduceAdd, Nat.reduceSub, Nat.reduceLeDiff, Nat.zero_add, Nat.sub_zero, ynew, rdn_of gA]); try simp only [yback])
  refine ⟨by omega, ?_⟩
  ((try simp (maxSteps := 3000000) (dsimp := false) (disch := first | omega | (simp only [len_new, len_put, len_kill]; omega)) only [↓ypre, ypost, ↓reduceIte, Nat.reduceEqDiff, Nat.reduceAdd, Nat.reduceSub, Nat.reduceLeDiff, Nat.zero_add, Nat.sub_zero, ynew, wr_of g1, wr_of g2, splice_eq, rdn_put_same]); try simp only [yback])
  have pf := pre_put (pre_put ((p1.trans p2).trans (p3.trans pB)) (show h.length ≤ H1.length by omega) (b := ⟨[I64 u.p, I64 u.i, I64 u.j, I64 u.k, w], 36, false, true⟩)) (Nat.le_refl h.length) (b := ⟨[I64 t.p, I64 t.i, I64 t.j, I64 t.k, v], 36, false, true⟩)
  exact ⟨hv.now.one, hw.now.one, hQ t u v w _ pf (KN.put (KN.put (KN.kp hv kB (by omega)) (by omega)) (by omega)).now (KN.put (KN.put (KN.kp hw kB (by omega)) (by omega)) (by omega)).now tb ub⟩

theorem xres_3 {f : Fr} {h : AH} {r r' r'' : XRes} {a b c : Value} (ha : xres1 f h r = some a) (hb : xres1 f h r' = some b) (hc : xres1 f h r'' = some c) : xres f h [r, r', r''] = some (.tuple #[a, b, c]) := by
  unfold xres xresl xresl xresl xresl
  rw [ha, hb, hc]
theorem xresn {f : Fr} {h : AH} {t n m e : Nat} {c : List Value} {ro fl : Bool} (hf : f t = .pointer (some ⟨n, 0, none⟩)) (hb : h.get n = some ⟨c, e, ro, fl⟩) (hc : c.length = m) : xres1 f h (.celln t m) = some (.agg c.toArray) := by
  rw [xres1_cells, hf, rdnV_ptr]
  simp only [rdn_of hb]
  subst hc
  simp
theorem xres3T {f : Fr} {h : AH} {a b c n m e e' : Nat} {r : Int} {t u : Ten} {v w : Value} (fa : f a = .pointer (some ⟨n, 0, none⟩)) (fb : f b = .pointer (some ⟨m, 0, none⟩)) (fc : f c = I64 r)
    (ha : h.get n = some ⟨[I64 t.p, I64 t.i, I64 t.j, I64 t.k, v], e, false, true⟩) (hb : h.get m = some ⟨[I64 u.p, I64 u.i, I64 u.j, I64 u.k, w], e', false, true⟩) : xres f h [.celln a 5, .celln b 5, .tmp c] = some (.tuple #[tenV t v, tenV u w, I64 r]) :=
  xres_3 (xresn fa ha rfl) (xresn fb hb rfl) (by rw [xres1_tmp, fc])
theorem wrap_pm {n : Int} (h : -1000000 ≤ n ∧ n ≤ 1000000) : IntKind.i64.wrap n = n := wrap64_in (by omega) (by omega)
theorem s_DrawAddTensors {h : AH} {cv : Value} {code : List (List Int)} {Q : Value → AH → Prop} (c : Cod h cv code)
    (hQ : ∀ (t u : Ten) (v w : Value) (r : Int) (h' : AH), h <+: h' → Ints h' v t.ns → Ints h' w u.ns → TenB t → TenB u → Q (.tuple #[tenV t v, tenV u w, I64 r]) h') : WF S 24 [cv] h Q := by
  refine WF_fn (fn := c24) rfl rfl ?_
  unfold c24
  ((try simp (maxSteps := 3000000) (dsimp := false) (disch := first | omega | (simp only [len_new, len_put, len_kill]; omega)) only [↓ypre, ypost, ↓reduceIte, Nat.reduceEqDiff, Nat.reduceAdd, Nat.reduceSub, Nat.reduceLeDiff, Nat.zero_add, Nat.sub_zero, ynew]); try simp only [yback])
  generalize hH1 : AH.new h _ = H1
  obtain ⟨hb1, p1, n1⟩ := new_facts hH1
  generalize hH2 : AH.new H1 _ = H2
  obtain ⟨hb2, p2, n2⟩ := new_facts hH2
  refine s_l01From ((c.els.pre p1).pre p2) c.byt c.len fun H3 p3 l3 s3 => ?_
  have g1 := pre_get (p2.trans p3) hb1
  have g2 := pre_get p3 hb2
  have n3 := s3.lt
  ((try simp (maxSteps := 3000000) (dsimp := false) (disch := first | omega | (simp only [len_new, len_put, len_kill]; omega)) only [↓ypre, ypost, ↓reduceIte, Nat.reduceEqDiff, Nat.reduceAdd, Nat.reduceSub, Nat.reduceLeDiff, Nat.zero_add, Nat.sub_zero, ynew]); try simp only [yback])
  refine s_l05Spoil s3 fun t v H4 k4 s4 td tb => ?_
  have g1 := k4.get (by omega) g1
  have g2 := k4.get (by omega) g2
  have lg1 := get_lt g1
  have lg2 := get_lt g2
  ((try simp (maxSteps := 3000000) (dsimp := false) (disch := first | omega | (simp only [len_new, len_put, len_kill]; omega)) only [↓ypre, ypost, ↓reduceIte, Nat.reduceEqDiff, Nat.reduceAdd, Nat.reduceSub, Nat.reduceLeDiff, Nat.zero_add, Nat.sub_zero, ynew, tenV, td.now.one]); try simp only [yback])
  generalize hH5 : AH.new H4 _ = H5
  obtain ⟨hb5, p5, n5⟩ := new_facts hH5
  have g1 := pre_get p5 g1
  have g2 := pre_get p5 g2
  have td := td.pre p5
  have s5 := s4.kp p5
  refine s_l05Is (t := t) (v := v) td.now (by have := tb.ns; omega) fun H6 p6 => ?_
  have g1 := pre_get p6 g1
  have g2 := pre_get p6 g2
  have g5 := pre_get p6 hb5
  have td := td.pre p6
  have s6 := s5.kp p6
  have p6l := p6.length_le
  have k4l := k4.len
  cases ht : isT t
  · ((try simp (maxSteps := 3000000) (dsimp := false) (disch := first | omega | (simp only [len_new, len_put, len_kill]; omega)) only [↓ypre, ypost, ↓reduceIte, Nat.reduceEqDiff, Nat.reduceAdd, Nat.reduceSub, Nat.reduceLeDiff, Nat.zero_add, Nat.sub_zero, ynew]); try simp only [yback])
    have sA := s6
    ((try simp (maxSteps := 3000000) (dsimp := false) (disch := first | omega | (simp only [len_new, len_put, len_kill]; omega)) only [↓ypre, ypost, ↓reduceIte, Nat.reduceEqDiff, Nat.reduceAdd, Nat.reduceSub, Nat.reduceLeDiff, Nat.zero_add, Nat.sub_zero, ynew, rdn_of g5]); try simp only [yback])
    refine ⟨by omega, ?_⟩
    refine s_l05Spoil sA fun u w H8 k8 s8 ud ub => ?_
    have g1 := k8.get (by omega) g1
    have g2 := k8.get (by omega) g2
    have g5 := k8.get (by omega) g5
    have td := td.kp k8 (by omega)
    have k8l := k8.len
    have pf0 := (p1.trans p2).trans s8.p
    refine ⟨⟨_, rfl, k8⟩, ?_⟩
    refine WO_cut (fun f : Fr => f 2 = .pointer (some ⟨h.length, 0, none⟩) ∧ f 3 = .pointer (some ⟨H1.length, 0, none⟩) ∧ f 19 = tenV t v ∧ f 21 = tenV u w ∧ True) ⟨(by first | rfl | (simp [upd_apply]; done)), (by first | rfl | (simp [upd_apply]; done)), (by first | rfl | (simp [upd_apply]; done)), (by first | rfl | (simp [upd_apply]; done)), trivial⟩ ?_
    rintro f ⟨f2, f3, f19, f21, -⟩
    ((try simp (maxSteps := 3000000) (dsimp := false) (disch := first | omega | (simp only [len_new, len_put, len_kill]; omega)) only [↓ypre, ypost, ↓reduceIte, Nat.reduceEqDiff, Nat.reduceAdd, Nat.reduceSub, Nat.reduceLeDiff, Nat.zero_add, Nat.sub_zero, ynew, f2, f3, f19, f21, tenV, td.now.one, ud.now.one, wr_of g1, wr_of g2, splice_eq]); try simp only [yback])
    generalize hHF : AH.put (AH.put H8 _ _) _ _ = HF
    have F1 : HF.get h.length = some ⟨[I64 t.p, I64 t.i, I64 t.j, I64 t.k, v], 36, false, true⟩ := hHF ▸ get_put_same (by rw [len_put]; omega)
    have F2 : HF.get H1.length = some ⟨[I64 u.p, I64 u.i, I64 u.j, I64 u.k, w], 36, false, true⟩ := by
      rw [← hHF, get_put_ne (by omega)]
      exact get_put_same (by omega)
    rw [xres3T (f := upd f 4 (I64 1)) (h := HF) (a := 2) (b := 3) (c := 4) (t := t) (u := u) (v := v) (w := w) (r := 1) f2 f3 rfl F1 F2, Option.map_some, OQ_some]
    refine hQ t u v w 1 HF (hHF ▸ pre_put (pre_put pf0 (by omega)) (by omega)) ?_ ?_ tb ub
    · exact hHF ▸ (KN.put (KN.put td (by omega)) (by omega)).now
    · exact hHF ▸ (KN.put (KN.put ud (by omega)) (by omega)).now
  · ((try simp (maxSteps := 3000000) (dsimp := false) (disch := first | omega | (simp only [len_new, len_put, len_kill]; omega)) only [↓ypre, ypost, ↓reduceIte, Nat.reduceEqDiff, Nat.reduceAdd, Nat.reduceSub, Nat.reduceLeDiff, Nat.zero_add, Nat.sub_zero, ynew]); try simp only [yback])
    refine s_l01Next s6 fun r H7 k7 l7 s7 hr _ => ?_
    have g1 := k7.get (by omega) g1
    have g2 := k7.get (by omega) g2
    have g5 := k7.get (by omega) g5
    have td := td.kp k7 (by omega)
    by_cases hr0 : r = 0
    · ((try simp (maxSteps := 3000000) (dsimp := false) (disch := first | omega | (simp only [len_new, len_put, len_kill]; omega)) only [↓ypre, ypost, ↓reduceIte, Nat.reduceEqDiff, Nat.reduceAdd, Nat.reduceSub, Nat.reduceLeDiff, Nat.zero_add, Nat.sub_zero, ynew, decide_eq_true hr0]); try simp only [yback])
      have sA := s7
      ((try simp (maxSteps := 3000000) (dsimp := false) (disch := first | omega | (simp only [len_new, len_put, len_kill]; omega)) only [↓ypre, ypost, ↓reduceIte, Nat.reduceEqDiff, Nat.reduceAdd, Nat.reduceSub, Nat.reduceLeDiff, Nat.zero_add, Nat.sub_zero, ynew, rdn_of g5]); try simp only [yback])
      refine ⟨by omega, ?_⟩
      refine s_l05Spoil sA fun u w H8 k8 s8 ud ub => ?_
      have g1 := k8.get (by omega) g1
      have g2 := k8.get (by omega) g2
      have g5 := k8.get (by omega) g5
      have td := td.kp k8 (by omega)
      have k8l := k8.len
      have pf0 := (p1.trans p2).trans s8.p
      refine ⟨⟨_, rfl, k8⟩, ?_⟩
      refine WO_cut (fun f : Fr => f 2 = .pointer (some ⟨h.length, 0, none⟩) ∧ f 3 = .pointer (some ⟨H1.length, 0, none⟩) ∧ f 19 = tenV t v ∧ f 21 = tenV u w ∧ True) ⟨(by first | rfl | exact f2 | (simp [upd_apply]; done) | (simp [upd_apply]; exact f2)), (by first | rfl | exact f3 | (simp [upd_apply]; done) | (simp [upd_apply]; exact f3)), (by first | rfl | exact f19 | (simp [upd_apply]; done) | (simp [upd_apply]; exact f19)), (by first | rfl | exact f21 | (simp [upd_apply]; done) | (simp [upd_apply]; exact f21)), trivial⟩ ?_
      rintro f ⟨f2, f3, f19, f21, -⟩
      ((try simp (maxSteps := 3000000) (dsimp := false) (disch := first | omega | (simp only [len_new, len_put, len_kill]; omega)) only [↓ypre, ypost, ↓reduceIte, Nat.reduceEqDiff, Nat.reduceAdd, Nat.reduceSub, Nat.reduceLeDiff, Nat.zero_add, Nat.sub_zero, ynew, f2, f3, f19, f21, tenV, td.now.one, ud.now.one, wr_of g1, wr_of g2, splice_eq]); try simp only [yback])
      generalize hHF : AH.put (AH.put H8 _ _) _ _ = HF
      have F1 : HF.get h.length = some ⟨[I64 t.p, I64 t.i, I64 t.j, I64 t.k, v], 36, false, true⟩ := hHF ▸ get_put_same (by rw [len_put]; omega)
      have F2 : HF.get H1.length = some ⟨[I64 u.p, I64 u.i, I64 u.j, I64 u.k, w], 36, false, true⟩ := by
        rw [← hHF, get_put_ne (by omega)]
        exact get_put_same (by omega)
      rw [xres3T (f := upd f 4 (I64 1)) (h := HF) (a := 2) (b := 3) (c := 4) (t := t) (u := u) (v := v) (w := w) (r := 1) f2 f3 rfl F1 F2, Option.map_some, OQ_some]
      refine hQ t u v w 1 HF (hHF ▸ pre_put (pre_put pf0 (by omega)) (by omega)) ?_ ?_ tb ub
      · exact hHF ▸ (KN.put (KN.put td (by omega)) (by omega)).now
      · exact hHF ▸ (KN.put (KN.put ud (by omega)) (by omega)).now
    · ((try simp (maxSteps := 3000000) (dsimp := false) (disch := first | omega | (simp only [len_new, len_put, len_kill]; omega)) only [↓ypre, ypost, ↓reduceIte, Nat.reduceEqDiff, Nat.reduceAdd, Nat.reduceSub, Nat.reduceLeDiff, Nat.zero_add, Nat.sub_zero, ynew, decide_eq_false hr0, rdn_of g5]); try simp only [yback])
      refine ⟨by omega, ?_⟩
      have tF := isT_facts ht
      have k4p := k4.len
      refine s_l05Fill (t := t) (v := v) s7 tF.tenS td.now.one fun l m1 e1 H8 k8 s8 hl1 hm1 gm1 => ?_
      refine ⟨⟨_, rfl, k8⟩, ?_⟩
      have g1 := k8.get (by omega) g1
      have g2 := k8.get (by omega) g2
      have g5 := k8.get (by omega) g5
      have td := td.kp k8 (by omega)
      have k8l := k8.len
      have lm1 := get_lt gm1
      have ub := TenS.tenB (t := ⟨t.p, t.i, t.j, t.k, l⟩) ⟨tF.p, tF.i, tF.j, tF.k⟩ hl1 |>.1
      refine WO_cut (fun f : Fr => f 2 = .pointer (some ⟨h.length, 0, none⟩) ∧ f 3 = .pointer (some ⟨H1.length, 0, none⟩) ∧ f 5 = srcP H2.length ∧ f 6 = .pointer (some ⟨H4.length, 0, none⟩) ∧ f 22 = tenV t v ∧ f 23 = srcP H2.length ∧ f 25 = tenV ⟨t.p, t.i, t.j, t.k, l⟩ (sl m1 l.length) ∧ True) ⟨(by first | rfl | exact f2 | (simp [upd_apply]; done) | (simp [upd_apply]; exact f2)), (by first | rfl | exact f3 | (simp [upd_apply]; done) | (simp [upd_apply]; exact f3)), (by first | rfl | (simp [upd_apply]; done)), (by first | rfl | (simp [upd_apply]; done)), (by first | rfl | (simp [upd_apply]; done)), (by first | rfl | (simp [upd_apply]; done)), (by first | rfl | (simp [upd_apply]; done)), trivial⟩ ?_
      rintro f ⟨f2, f3, f5, f6, f22, f23, f25, -⟩
      ((try simp (maxSteps := 3000000) (dsimp := false) (disch := first | omega | (simp only [len_new, len_put, len_kill]; omega)) only [↓ypre, ypost, ↓reduceIte, Nat.reduceEqDiff, Nat.reduceAdd, Nat.reduceSub, Nat.reduceLeDiff, Nat.zero_add, Nat.sub_zero, ynew, f2, f3, f5, f6, f22, f23, f25, rd1_of g5]); try simp only [yback])
      refine ⟨by omega, by omega, ?_⟩
      rw [wrap_pm (by have := tF.p; omega)]
      refine s_l01Near s8 (by have := tF.p; omega) fun r' H9 k9 s9 hr' => ?_
      have g1 := k9.get (by omega) g1
      have g2 := k9.get (by omega) g2
      have td := td.kp k9 (by omega)
      have k9l := k9.len
      have n8 := s8.lt
      have gm1 := k9.get (by omega) gm1
      refine ⟨⟨_, rfl, k9⟩, ?_⟩
      refine WO_cut (fun f : Fr => f 2 = .pointer (some ⟨h.length, 0, none⟩) ∧ f 3 = .pointer (some ⟨H1.length, 0, none⟩) ∧ f 22 = tenV t v ∧ f 25 = tenV ⟨t.p, t.i, t.j, t.k, l⟩ (sl m1 l.length) ∧ f 30 = I64 r' ∧ True) ⟨(by first | rfl | exact f2 | (simp [upd_apply]; done) | (simp [upd_apply]; exact f2)), (by first | rfl | exact f3 | (simp [upd_apply]; done) | (simp [upd_apply]; exact f3)), (by first | rfl | exact f22 | (simp [upd_apply]; done) | (simp [upd_apply]; exact f22)), (by first | rfl | exact f25 | (simp [upd_apply]; done) | (simp [upd_apply]; exact f25)), (by first | rfl | (simp [upd_apply]; done)), trivial⟩ ?_
      rintro f ⟨f2, f3, f22, f25, f30, -⟩
      ((try simp (maxSteps := 3000000) (dsimp := false) (disch := first | omega | (simp only [len_new, len_put, len_kill]; omega)) only [↓ypre, ypost, ↓reduceIte, Nat.reduceEqDiff, Nat.reduceAdd, Nat.reduceSub, Nat.reduceLeDiff, Nat.zero_add, Nat.sub_zero, ynew, f2, f3, f22, f25, f30, tenV, td.now.one, one_slice, sl, wr_of g1, wr_of g2, splice_eq]); try simp only [yback])
      generalize hHF : AH.put (AH.put H9 _ _) _ _ = HF
      have F1 : HF.get h.length = some ⟨[I64 t.p, I64 t.i, I64 t.j, I64 t.k, v], 36, false, true⟩ := hHF ▸ get_put_same (by rw [len_put]; omega)
      have F2 : HF.get H1.length = some ⟨[I64 t.p, I64 t.i, I64 t.j, I64 t.k, sl m1 l.length], 36, false, true⟩ := by
        rw [← hHF, get_put_ne (by omega)]
        exact get_put_same (by omega)
      rw [xres3T (f := upd f 4 (I64 r')) (h := HF) (a := 2) (b := 3) (c := 4) (t := t) (u := ⟨t.p, t.i, t.j, t.k, l⟩) (v := v) (w := sl m1 l.length) (r := r') f2 f3 rfl F1 F2, Option.map_some, OQ_some]
      refine hQ t ⟨t.p, t.i, t.j, t.k, l⟩ v (sl m1 l.length) r' HF (hHF ▸ pre_put (pre_put ((p1.trans p2).trans s9.p) (by omega)) (by omega)) ?_ ?_ tb ub
      · exact hHF ▸ (KN.put (KN.put td (by omega)) (by omega)).now
      · have ud : TenD H2.length H9 (sl m1 l.length) ⟨t.p, t.i, t.j, t.k, l⟩ := nums_kN gm1 (by omega)
        exact hHF ▸ (KN.put (KN.put ud (by omega)) (by omega)).now
end Go.Proofs.Ytapafdpnmakekaa.X

/- Lists compared by the laws. -/
set_option linter.unusedVariables false
set_option linter.unusedSimpArgs false
set_option maxRecDepth 20000
set_option maxHeartbeats 4000000
namespace Go.Proofs.Ytapafdpnmakekaa.X
open Go Go.RowKit

theorem l_likeInts {v w : Value} {ns ms : List Int} {h : AH} {Q : Value → AH → Prop} (hv : Ints h v ns) (hv' : Ints h w ms) (hl : (ns.length : Int) ≤ 1048576)
    (hQ : Q (.bool (decide (ns = ms))) h) : WF S 20 [v, w] h Q := by
  refine WF_fn (fn := c20) rfl rfl ?_
  unfold c20
  by_cases hne : (ns.length : Int) ≠ ms.length
  · ((try simp (maxSteps := 3000000) (dsimp := false) (disch := first | omega | (simp only [len_new, len_put, len_kill]; omega)) only [↓ypre, ypost, ↓reduceIte, Nat.reduceEqDiff, Nat.reduceAdd, Nat.reduceSub, Nat.reduceLeDiff, Nat.zero_add, Nat.sub_zero, ynew, hv.len, hv'.len, decide_eq_true hne]); try simp only [yback])
    have : ns ≠ ms := fun e => hne (by rw [e])
    simpa [this] using hQ
  · ((try simp (maxSteps := 3000000) (dsimp := false) (disch := first | omega | (simp only [len_new, len_put, len_kill]; omega)) only [↓ypre, ypost, ↓reduceIte, Nat.reduceEqDiff, Nat.reduceAdd, Nat.reduceSub, Nat.reduceLeDiff, Nat.zero_add, Nat.sub_zero, ynew, hv.len, hv'.len, decide_eq_false hne]); try simp only [yback])
    have hlen : ns.length = ms.length := by omega
    refine WC_loop_inv (fun m f K1 => ∃ (i : Nat), m = ns.length - i ∧ i ≤ ns.length ∧ f 0 = v ∧ f 1 = w ∧ f 5 = I64 i ∧ (K1 = h) ∧ (∀ j, j < i → ns.getD j 0 = ms.getD j 0)) ?_ (ns.length - 0) _ _ ⟨0, rfl, by omega, (by first | rfl | (simp [upd_apply]; done)), (by first | rfl | (simp [upd_apply]; done)), (by first | rfl | (simp [upd_apply]; done)), rfl, (by omega)⟩
    rintro m f K1 ⟨i, rfl, hi, f0, f1, f5, hK, hj⟩
    subst hK
    by_cases hlt : (i : Int) < ns.length
    · obtain ⟨n1, off1, hix1, hrd1⟩ := hv.cell (j := i) (by omega)
      obtain ⟨n2, off2, hix2, hrd2⟩ := hv'.cell (j := i) (by omega)
      by_cases he : ns.getD i 0 ≠ ms.getD i 0
      · ((try simp (maxSteps := 3000000) (dsimp := false) (disch := first | omega | (simp only [len_new, len_put, len_kill]; omega)) only [↓ypre, ypost, ↓reduceIte, Nat.reduceEqDiff, Nat.reduceAdd, Nat.reduceSub, Nat.reduceLeDiff, Nat.zero_add, Nat.sub_zero, ynew, f0, f1, f5, hv.len, decide_eq_true hlt, hix1, hrd1, hix2, hrd2, decide_eq_true he]); try simp only [yback])
        have : ns ≠ ms := fun e => he (by rw [e])
        simpa [this] using hQ
      · ((try simp (maxSteps := 3000000) (dsimp := false) (disch := first | omega | (simp only [len_new, len_put, len_kill]; omega)) only [↓ypre, ypost, ↓reduceIte, Nat.reduceEqDiff, Nat.reduceAdd, Nat.reduceSub, Nat.reduceLeDiff, Nat.zero_add, Nat.sub_zero, ynew, f0, f1, f5, hv.len, decide_eq_true hlt, hix1, hrd1, hix2, hrd2, decide_eq_false he, wrap64_in]); try simp only [yback])
        have hj' : ∀ j, j < i + 1 → ns.getD j 0 = ms.getD j 0 := fun j q => by
          rcases Nat.lt_succ_iff_lt_or_eq.1 q with q | rfl
          · exact hj j q
          · exact Decidable.not_not.1 he
        refine InvQ_go (ns.length - (i + 1)) (by omega) ⟨(i + 1), rfl, by omega, (by first | rfl | exact f0 | (simp only [upd_apply]; rfl) | (show I64 _ = _; congr 1; omega)), (by first | rfl | exact f1 | (simp only [upd_apply]; rfl) | (show I64 _ = _; congr 1; omega)), (by first | rfl | exact f5 | (simp only [upd_apply]; rfl) | (show I64 _ = _; congr 1; omega)), rfl, hj'⟩
    · ((try simp (maxSteps := 3000000) (dsimp := false) (disch := first | omega | (simp only [len_new, len_put, len_kill]; omega)) only [↓ypre, ypost, ↓reduceIte, Nat.reduceEqDiff, Nat.reduceAdd, Nat.reduceSub, Nat.reduceLeDiff, Nat.zero_add, Nat.sub_zero, ynew, f0, f1, f5, hv.len, decide_eq_false hlt]); try simp only [yback])
      have : ns = ms := by
        refine List.ext_getElem? fun j => ?_
        by_cases h1 : j < ns.length
        · have := hj j (by omega)
          rw [List.getElem?_eq_getElem h1, List.getElem?_eq_getElem (by omega)]
          simpa [List.getD_eq_getElem?_getD, List.getElem?_eq_getElem h1, List.getElem?_eq_getElem (show j < ms.length by omega)] using this
        · rw [List.getElem?_eq_none (by omega), List.getElem?_eq_none (by omega)]
      simpa [this] using hQ

/-- Equal tensors are found alike. -/
theorem l_tensors5 {v w : Value} {t : Ten} {h : AH} {Q : Value → AH → Prop} (hv : Ints h v t.ns) (hw : Ints h w t.ns) (hl : (t.ns.length : Int) ≤ 1048576)
    (hQ : ∀ h', h <+: h' → Q (.bool true) h') : WF S 27 [tenV t v, tenV t w] h Q := by
  refine WF_fn (fn := c27) rfl rfl ?_
  unfold c27
  ((try simp (maxSteps := 3000000) (dsimp := false) (disch := first | omega | (simp only [len_new, len_put, len_kill]; omega)) only [↓ypre, ypost, ↓reduceIte, Nat.reduceEqDiff, Nat.reduceAdd, Nat.reduceSub, Nat.reduceLeDiff, Nat.zero_add, Nat.sub_zero, ynew, tenV, hv.one, hw.one]); try simp only [yback])
  generalize hH1 : AH.new h _ = H1
  obtain ⟨hb1, p1, n1⟩ := new_facts hH1
  generalize hH2 : AH.new H1 _ = H2
  obtain ⟨hb2, p2, n2⟩ := new_facts hH2
  have hb1 := pre_get p2 hb1
  ((try simp (maxSteps := 3000000) (dsimp := false) (disch := first | omega | (simp only [len_new, len_put, len_kill]; omega)) only [↓ypre, ypost, ↓reduceIte, Nat.reduceEqDiff, Nat.reduceAdd, Nat.reduceSub, Nat.reduceLeDiff, Nat.zero_add, Nat.sub_zero, ynew, rd1_of hb1, rd1_of hb2]); try simp only [yback])
  refine l_likeInts (hv.pre (p1.trans p2)) (hw.pre (p1.trans p2)) hl ?_
  ((try simp (maxSteps := 3000000) (dsimp := false) (disch := first | omega | (simp only [len_new, len_put, len_kill]; omega)) only [↓ypre, ypost, ↓reduceIte, Nat.reduceEqDiff, Nat.reduceAdd, Nat.reduceSub, Nat.reduceLeDiff, Nat.zero_add, Nat.sub_zero, ynew, decide_true]); try simp only [yback])
  exact hQ _ (p1.trans p2)

theorem l_big {h : AH} {cv : Value} {code : List (List Int)} {Q : Value → AH → Prop} (c : Els .u8 1 h cv code)
    (hQ : Q (.bool (decide ((code.length : Int) > 4096))) h) : WF S 13 [cv] h Q := by
  refine WF_fn (fn := c13) rfl rfl ?_
  unfold c13
  ((try simp (maxSteps := 3000000) (dsimp := false) (disch := first | omega | (simp only [len_new, len_put, len_kill]; omega)) only [↓ypre, ypost, ↓reduceIte, Nat.reduceEqDiff, Nat.reduceAdd, Nat.reduceSub, Nat.reduceLeDiff, Nat.zero_add, Nat.sub_zero, ynew, c.len]); try simp only [yback])
  exact hQ
end Go.Proofs.Ytapafdpnmakekaa.X
