/- Texts of one claim, put together by merge.py: XF36, XM1, XR4, XDH. -/
import Derived.Test.YtapafdpnmakekaaSI10
import Derived.Test.YtapafdpnmakekaaSI11
import Derived.Test.YtapafdpnmakekaaSI9
import Derived.Test.YtapafdpnmakekaaSI12
import Derived.Test.YtapafdpnmakekaaSI8
set_option linter.unusedVariables false
set_option linter.unusedSimpArgs false
set_option maxRecDepth 20000
set_option maxHeartbeats 4000000
namespace Go.Proofs.Ytapafdpnmakekaa.X
open Go Go.RowKit
def conA (u : Ten) (ns : List Int) (b c : Nat) : Nat → Int
  | 0 => 0
  | a + 1 => (conA u ns b c a + ns.getD a 0 * tat u a b c).tmod u.p
def conM (u : Ten) (ns : List Int) : List (List Int) := (List.range u.j.toNat).map fun b => gen u.k.toNat fun c => conA u ns b c u.i.toNat
def coOK (t : Ten) (s : Int) (ns : List Int) : Prop := (0 ≤ s ∧ s ≤ 2) ∧ allIn t.p ns = true ∧ (ns.length : Int) = sideN t s.toNat
instance {t : Ten} {s : Int} {ns : List Int} : Decidable (coOK t s ns) := by unfold coOK; infer_instance
def coR (t : Ten) (s : Int) (ns : List Int) : List (List Int) × Int := if isT t = true then (if coOK t s ns then (conM (turnN s.toNat t) ns, 0) else ([], 2)) else ([], 1)
theorem conM_len {u : Ten} {ns : List Int} : (conM u ns).length = u.j.toNat := by simp [conM]
theorem conM_get {u : Ten} {ns : List Int} {b : Nat} (hb : b < u.j.toNat) : (conM u ns).getD b [] = gen u.k.toNat fun c => conA u ns b c u.i.toNat := by
  simp [conM, List.getD_eq_getElem?_getD, List.getElem?_map, List.getElem?_range hb]
theorem coR_small (t : Ten) (s : Int) (ns : List Int) : SmallM (coR t s ns).1 := by
  unfold coR
  split
  · rename_i h
    have fu := TF.turnN (n := s.toNat) (isT_facts h)
    split
    · have := fu.j
      have := fu.k
      refine smallM_of (A := 9) (B := 9) (by rw [conM_len]; omega) (fun i hi => ?_) (by omega)
      rw [conM_len] at hi
      rw [conM_get hi, gen_len]
      omega
    · exact smallM_nil
  · exact smallM_nil
theorem conA_in {u : Ten} {ns : List Int} (f : TF u) (hn : allIn u.p ns = true) (hl : (ns.length : Int) = u.i) {b c : Nat} (hb : (b : Int) < u.j) (hc : (c : Int) < u.k) : ∀ {a : Nat}, (a : Int) ≤ u.i → 0 ≤ conA u ns b c a ∧ conA u ns b c a < u.p
  | 0, _ => ⟨Int.le_refl _, by have := f.p; simp only [conA]; omega⟩
  | a + 1, h => by
    have fp := f.p
    have h1 := conA_in f hn hl hb hc (a := a) (by omega)
    have h2 := allIn_iff.1 hn a (by omega)
    have h3 := tat_in f (i := a) (j := b) (k := c) (by omega) (by omega) (by omega)
    have m := mul_in (A := 4) (B := 4) (a := ns.getD a 0) (b := tat u a b c) (by omega) (by omega)
    exact tmod_nn (by omega) (by omega)
theorem con_step {u : Ten} {ns : List Int} (f : TF u) (hn : allIn u.p ns = true) (hl : (ns.length : Int) = u.i) {a b c : Nat} (ha : (a : Int) < u.i) (hb : (b : Int) < u.j) (hc : (c : Int) < u.k) :
    (0 ≤ conA u ns b c a ∧ conA u ns b c a < u.p) ∧ (0 ≤ ns.getD a 0 ∧ ns.getD a 0 < u.p) ∧ (0 ≤ tat u a b c ∧ tat u a b c < u.p) ∧ (0 ≤ ns.getD a 0 * tat u a b c ∧ ns.getD a 0 * tat u a b c ≤ 16) := by
  have fp := f.p
  have h2 := allIn_iff.1 hn a (by omega)
  have h3 := tat_in f (i := a) (j := b) (k := c) (by omega) (by omega) (by omega)
  exact ⟨conA_in f hn hl hb hc (by omega), h2, h3, mul_in (A := 4) (B := 4) (by omega) (by omega)⟩
def rowS (u : Ten) (ns : List Int) (I b c a : Nat) (x : Nat) : Int := if x < c then conA u ns b x I else if x = c then conA u ns b c a else 0
theorem rowS_zero {u : Ten} {ns : List Int} {I b K : Nat} : gen K (rowS u ns I b 0 0) = List.replicate K 0 := (gen_ext (by simp) fun i hi => by
  simp only [List.getD_eq_getElem?_getD, List.getElem?_replicate, hi, if_true, Option.getD_some, rowS]
  by_cases h : i = 0
  · subst h
    simp [conA]
  · simp [h]).symm
theorem rowS_set {u : Ten} {ns : List Int} {I b c a K : Nat} (hc : c < K) : (gen K (rowS u ns I b c a)).set c (conA u ns b c (a + 1)) = gen K (rowS u ns I b c (a + 1)) := by
  refine gen_ext (by rw [List.length_set, gen_len]) fun x hx => ?_
  rw [set_getD (by rw [gen_len]; exact hc)]
  by_cases h : x = c
  · subst h
    rw [if_pos rfl]
    simp [rowS]
  · rw [if_neg h, gen_get hx]
    simp [rowS, h]
theorem rowS_next {u : Ten} {ns : List Int} {I b c K : Nat} : gen K (rowS u ns I b c I) = gen K (rowS u ns I b (c + 1) 0) := gen_congr fun x hx => by
  unfold rowS
  by_cases h1 : x < c
  · rw [if_pos h1, if_pos (by omega)]
  by_cases h2 : x = c
  · subst h2
    rw [if_neg h1, if_pos rfl, if_pos (by omega)]
  · rw [if_neg h1, if_neg h2, if_neg (by omega)]
    by_cases h3 : x = c + 1
    · rw [if_pos h3]
      rfl
    · rw [if_neg h3]
theorem rowS_all {u : Ten} {ns : List Int} {I b K : Nat} : gen K (rowS u ns I b K 0) = gen K fun c => conA u ns b c I := gen_congr fun x hx => by
  unfold rowS
  rw [if_pos hx]
theorem rowS_at {u : Ten} {ns : List Int} {I b c a K : Nat} (hc : c < K) : (gen K (rowS u ns I b c a)).getD c 0 = conA u ns b c a := by
  rw [gen_get hc]
  simp [rowS]
theorem map_getF {l : List Int} {j : Nat} (hj : j < l.length) : (l.map (Value.int .i64))[j]? = some (I64 (l.getD j 0)) := by
  simp [List.getD_eq_getElem?_getD, hj]
theorem map_setF {l : List Int} {j : Nat} {x : Int} (hj : j < l.length) : splice (l.map (Value.int .i64)) j [I64 x] = (l.set j x).map (Value.int .i64) := by
  rw [splice_set (by simpa using hj)]
  simp [List.map_set]
theorem TabS.app2c {h0 h2 : AH} {nb n : Nat} {full fu fw : Bool} {L : List (Nat × List Int)} {r : List Int} {e : TypeId} (s : TabS h0 h2 nb full L) (hn : h0.length ≤ n ∧ n ≠ nb ∧ ∀ p, p ∈ L → p.1 ≠ n) (ob : OwnB h2 n (r.map (Value.int .i64)) fw)
    (hl : (L.length : Int) ≤ 1048576) {Q : Value → AH → Prop}
    (hQ : ∀ nb' H', TabS h0 H' nb' false (L ++ [(n, r)]) → H'.length = h2.length + 2 → nb' = h2.length + 1 → (∀ m c fl, m ≠ nb → OwnB h2 m c fl → OwnB H' m c fl) → (∀ h9 : AH, h9.length ≤ nb → h9 <+: h2 → h9 <+: H') → Q (.slice (some ⟨nb', 0, none⟩) (L ++ [(n, r)]).length 1) H') :
    OQ (appV 27 1 24 (.slice (some ⟨nb, 0, none⟩) L.length 1) (.slice (some ⟨h2.length, 0, none⟩) 1 1) (h2.new ⟨[.slice (some ⟨n, 0, none⟩) r.length 1], e, false, fu⟩)) Q := by
  have hrd : (h2.new ⟨[.slice (some ⟨n, 0, none⟩) r.length 1], e, false, fu⟩).rdn h2.length 0 1 = some [.slice (some ⟨n, 0, none⟩) r.length 1] := by rw [rdn_new_same]; rfl
  have hk : (h2.new ⟨[.slice (some ⟨n, 0, none⟩) r.length 1], e, false, fu⟩).get nb = some ⟨L.map rowV, 27, false, full⟩ := get_new_any s.g
  have l1 := get_lt s.g
  have key := s.app (e := e) (fu := fu) hn ob hl (Q := fun v H' => ∃ nb', v = .slice (some ⟨nb', 0, none⟩) (L ++ [(n, r)]).length 1 ∧ TabS h0 H' nb' false (L ++ [(n, r)])) (fun nb' H' st => ⟨nb', rfl, st⟩)
  rw [app_own hk (by simp) hrd (by omega), OQ_some] at key ⊢
  obtain ⟨nb', e1, st⟩ := key
  have e2 : nb' = h2.length + 1 := by
    simp only [Value.slice.injEq, Option.some.injEq, Addr.mk.injEq] at e1
    rw [← e1.1.1, len_new]
  have := hQ nb' _ st (by rw [len_new, len_kill, len_new]) e2 (fun m c fl hm o => (o.new.kill_ne (fun e => hm e.symm)).new) (fun h9 hh p => pre_new (pre_kill (pre_new p) hh))
  rw [← e1] at this
  exact this
theorem s_ContractTensor {v w : Value} {t : Ten} {s : Int} {ns : List Int} {h : AH} {Q : Value → AH → Prop} (hv : Ints h v t.ns) (hl : (t.ns.length : Int) ≤ 1048576) (hw : Ints h w ns) (hm : (ns.length : Int) ≤ 1048576)
    (hQ : ∀ v' h', h <+: h' → OwnRows h h' v' (coR t s ns).1 → Q (.tuple #[v', I64 (coR t s ns).2]) h') : WF S 111 [tenV t v, I64 s, w] h Q := by
  refine WF_fn (fn := c111) rfl rfl ?_
  unfold c111
  ((try simp (maxSteps := 3000000) (dsimp := false) (disch := first | omega | (simp only [len_new, len_put, len_kill]; omega)) only [↓ypre, ypost, ↓reduceIte, Nat.reduceEqDiff, Nat.reduceAdd, Nat.reduceSub, Nat.reduceLeDiff, Nat.zero_add, Nat.sub_zero, ynew, tenV, hv.one]); try simp only [yback])
  generalize hH1 : AH.new h _ = H1
  obtain ⟨hb1, p1, n1⟩ := new_facts hH1
  ((try simp (maxSteps := 3000000) (dsimp := false) (disch := first | omega | (simp only [len_new, len_put, len_kill]; omega)) only [↓ypre, ypost, ↓reduceIte, Nat.reduceEqDiff, Nat.reduceAdd, Nat.reduceSub, Nat.reduceLeDiff, Nat.zero_add, Nat.sub_zero, ynew, rdn_of hb1]); try simp only [yback])
  refine s_l05Is (hv.pre p1) hl fun H2 p2 => ?_
  have hb2 := pre_get p2 hb1
  unfold coR at hQ
  cases h1 : isT t with
  | false =>
    rw [h1, if_neg (by decide)] at hQ
    ((try simp (maxSteps := 3000000) (dsimp := false) (disch := first | omega | (simp only [len_new, len_put, len_kill]; omega)) only [↓ypre, ypost, ↓reduceIte, Nat.reduceEqDiff, Nat.reduceAdd, Nat.reduceSub, Nat.reduceLeDiff, Nat.zero_add, Nat.sub_zero, ynew]); try simp only [yback])
    exact hQ _ _ (p1.trans p2) (.inl ⟨rfl, rfl⟩)
  | true =>
    rw [h1, if_pos rfl] at hQ
    have f := isT_facts h1
    have fp := f.p
    have no : ¬ coOK t s ns → ∀ h', h <+: h' → Q (.tuple #[.slice none 0 0, I64 2]) h' := fun hn h' p => by
      rw [if_neg hn] at hQ
      exact hQ _ _ p (.inl ⟨rfl, rfl⟩)
    ((try simp (maxSteps := 3000000) (dsimp := false) (disch := first | omega | (simp only [len_new, len_put, len_kill]; omega)) only [↓ypre, ypost, ↓reduceIte, Nat.reduceEqDiff, Nat.reduceAdd, Nat.reduceSub, Nat.reduceLeDiff, Nat.zero_add, Nat.sub_zero, ynew]); try simp only [yback])
    refine s_l01In ?_
    by_cases h2 : 0 ≤ s ∧ s ≤ 2
    case neg =>
      ((try simp (maxSteps := 3000000) (dsimp := false) (disch := first | omega | (simp only [len_new, len_put, len_kill]; omega)) only [↓ypre, ypost, ↓reduceIte, Nat.reduceEqDiff, Nat.reduceAdd, Nat.reduceSub, Nat.reduceLeDiff, Nat.zero_add, Nat.sub_zero, ynew, decide_eq_false h2]); try simp only [yback])
      exact no (fun q => h2 q.1) _ (p1.trans p2)
    ((try simp (maxSteps := 3000000) (dsimp := false) (disch := first | omega | (simp only [len_new, len_put, len_kill]; omega)) only [↓ypre, ypost, ↓reduceIte, Nat.reduceEqDiff, Nat.reduceAdd, Nat.reduceSub, Nat.reduceLeDiff, Nat.zero_add, Nat.sub_zero, ynew, decide_eq_true h2, rdn_of hb2, rd1_of hb2]); try simp only [yback])
    refine s_l05Side hv.one h2 fun H3 p3 => ⟨p3, ?_⟩
    have hb3 := pre_get p3 hb2
    have p13 := (p1.trans p2).trans p3
    ((try simp (maxSteps := 3000000) (dsimp := false) (disch := first | omega | (simp only [len_new, len_put, len_kill]; omega)) only [↓ypre, ypost, ↓reduceIte, Nat.reduceEqDiff, Nat.reduceAdd, Nat.reduceSub, Nat.reduceLeDiff, Nat.zero_add, Nat.sub_zero, ynew]); try simp only [yback])
    refine s_l05Numbers (hw.pre p13) hm f.p ?_
    by_cases h3 : (allIn t.p ns && decide ((ns.length : Int) = sideN t s.toNat)) = true
    case neg =>
      rw [Bool.not_eq_true] at h3
      ((try simp (maxSteps := 3000000) (dsimp := false) (disch := first | omega | (simp only [len_new, len_put, len_kill]; omega)) only [↓ypre, ypost, ↓reduceIte, Nat.reduceEqDiff, Nat.reduceAdd, Nat.reduceSub, Nat.reduceLeDiff, Nat.zero_add, Nat.sub_zero, ynew, h3]); try simp only [yback])
      refine no (fun q => ?_) _ p13
      rw [q.2.1, q.2.2] at h3
      simp at h3
    rw [h3]
    rw [Bool.and_eq_true, decide_eq_true_eq] at h3
    rw [if_pos ⟨h2, h3⟩] at hQ
    obtain ⟨k, rfl⟩ : ∃ k : Nat, s = k := ⟨s.toNat, by omega⟩
    rw [Int.toNat_natCast] at hQ h3
    ((try simp (maxSteps := 3000000) (dsimp := false) (disch := first | omega | (simp only [len_new, len_put, len_kill]; omega)) only [↓ypre, ypost, ↓reduceIte, Nat.reduceEqDiff, Nat.reduceAdd, Nat.reduceSub, Nat.reduceLeDiff, Nat.zero_add, Nat.sub_zero, ynew, rdn_of hb3]); try simp only [yback])
    refine s_l05Turned (hv.pre p13) f (by omega) fun v4 H4 p4 i4 => ?_
    have fu := TF.turnN (n := k) f
    have hsd := turnN_side (t := t) (s := k) (by omega)
    have hup := turnN_p (n := k) (t := t)
    obtain ⟨h3a, h3b⟩ := h3
    rw [← hup] at h3a fp
    generalize turnN k t = u at *
    rw [← hsd] at h3b
    have fi := fu.i
    have fj := fu.j
    have fk := fu.k
    obtain ⟨I, hI⟩ : ∃ I : Nat, u.i = I := ⟨u.i.toNat, by omega⟩
    obtain ⟨J, hJ⟩ : ∃ J : Nat, u.j = J := ⟨u.j.toNat, by omega⟩
    obtain ⟨K, hK⟩ : ∃ K : Nat, u.k = K := ⟨u.k.toNat, by omega⟩
    have hIt : u.i.toNat = I := by omega
    have hJt : u.j.toNat = J := by omega
    have hKt : u.k.toNat = K := by omega
    ((try simp (maxSteps := 3000000) (dsimp := false) (disch := first | omega | (simp only [len_new, len_put, len_kill]; omega)) only [↓ypre, ypost, ↓reduceIte, Nat.reduceEqDiff, Nat.reduceAdd, Nat.reduceSub, Nat.reduceLeDiff, Nat.zero_add, Nat.sub_zero, ynew, tenV, i4.one]); try simp only [yback])
    generalize hH5 : AH.new H4 _ = H5
    obtain ⟨hb5, p5, n5⟩ := new_facts hH5
    generalize hH6 : AH.new H5 _ = H6
    obtain ⟨hb6, p6, n6⟩ := new_facts hH6
    have l13 := pre_len p13
    have l4 := pre_len p4
    have hb1' := pre_get ((p4.trans p5).trans p6) hb3
    refine WC_loop_inv (fun m f K1 => ∃ (b : Nat) (nb : Nat) (full : Bool) (L : List (Nat × List Int)), m = J - b ∧ b ≤ J ∧ f 2 = w ∧ f 3 = .pointer (some ⟨h.length, 0, none⟩) ∧ f 8 = .pointer (some ⟨H5.length, 0, none⟩) ∧ f 9 = .slice (some ⟨nb, 0, none⟩) L.length 1 ∧ f 10 = I64 b ∧ (TabS H4 K1 nb full L) ∧ (L.map Prod.snd = (conM u ns).take b) ∧ (H4 <+: K1) ∧ (OwnB K1 H5.length [I64 u.p, I64 u.i, I64 u.j, I64 u.k, v4] true) ∧ (nb ≠ H5.length ∧ ∀ q, q ∈ L → q.1 ≠ H5.length)) ?_ (J - 0) _ _ ⟨0, H4.length, true, [], rfl, by omega, (by first | rfl | simp [upd_apply]), (by first | rfl | simp [upd_apply]), (by first | rfl | simp [upd_apply]), (by first | rfl | simp [upd_apply]), (by first | rfl | simp [upd_apply]), ⟨p5.trans p6, Nat.le_refl _, pre_get p6 hb5, by simp, by simp⟩, (by simp), p5.trans p6, ⟨_, hb6⟩, ⟨by omega, by simp⟩⟩
    rintro m f K1 ⟨b, nb, full, L, rfl, hb, f2, f3, f8, f9, f10, st, hL, pp, g8, nbx⟩
    have hbK := pre_get pp (pre_get p4 hb3)
    have ltK := get_lt hbK
    have lt := st.lt
    obtain ⟨e8, g8⟩ := g8
    have lt8 := get_lt g8
    by_cases hlb : (b : Int) < J
    · have hb' : b < J := by omega
      ((try simp (maxSteps := 3000000) (dsimp := false) (disch := first | omega | (simp only [len_new, len_put, len_kill]; omega)) only [↓ypre, ypost, ↓reduceIte, Nat.reduceEqDiff, Nat.reduceAdd, Nat.reduceSub, Nat.reduceLeDiff, Nat.zero_add, Nat.sub_zero, ynew, f2, f3, f8, f9, f10, rd1_of g8, decide_eq_true (show (b : Int) < u.j by omega)]); try simp only [yback])
      refine ⟨by omega, ?_⟩
      rw [hKt, zrep_ints, ← rowS_zero (u := u) (ns := ns) (I := I) (b := b)]
      generalize hH7 : AH.new K1 _ = H7
      obtain ⟨hb7, p7, n7⟩ := new_facts hH7
      ((try simp (maxSteps := 3000000) (dsimp := false) (disch := first | omega | (simp only [len_new, len_put, len_kill]; omega)) only [↓ypre, ypost, ↓reduceIte, Nat.reduceEqDiff, Nat.reduceAdd, Nat.reduceSub, Nat.reduceLeDiff, Nat.zero_add, Nat.sub_zero, ynew, f2, f3, f8, f9, f10]); try simp only [yback])
      refine WC_loop_inv (fun m f K2 => ∃ (c : Nat), m = K - c ∧ c ≤ K ∧ f 2 = w ∧ f 3 = .pointer (some ⟨h.length, 0, none⟩) ∧ f 8 = .pointer (some ⟨H5.length, 0, none⟩) ∧ f 9 = .slice (some ⟨nb, 0, none⟩) L.length 1 ∧ f 10 = I64 b ∧ f 11 = .slice (some ⟨K1.length, 0, none⟩) K 1 ∧ f 12 = I64 c ∧ (K1 <+: K2) ∧ (OwnB K2 K1.length ((gen K (rowS u ns I b c 0)).map (Value.int .i64)) true)) ?_ (K - 0) _ _ ⟨0, rfl, by omega, (by first | rfl | exact f2 | (simp [upd_apply]; done)), (by first | rfl | exact f3 | (simp [upd_apply]; done)), (by first | rfl | exact f8 | (simp [upd_apply]; done)), (by first | rfl | exact f9 | (simp [upd_apply]; done)), (by first | rfl | exact f10 | (simp [upd_apply]; done)), (by first | rfl | simp [upd_apply]), (by first | rfl | simp [upd_apply]), p7, ⟨_, hb7⟩⟩
      rintro m f K2 ⟨c, rfl, hc, f2, f3, f8, f9, f10, f11, f12, q2, row⟩
      have g8b := pre_get q2 g8
      have lt8b := get_lt g8b
      by_cases hlc : (c : Int) < K
      · have hc' : c < K := by omega
        ((try simp (maxSteps := 3000000) (dsimp := false) (disch := first | omega | (simp only [len_new, len_put, len_kill]; omega)) only [↓ypre, ypost, ↓reduceIte, Nat.reduceEqDiff, Nat.reduceAdd, Nat.reduceSub, Nat.reduceLeDiff, Nat.zero_add, Nat.sub_zero, ynew, f2, f3, f8, f9, f10, f11, f12, rd1_of g8b, decide_eq_true (show (c : Int) < u.k by omega)]); try simp only [yback])
        refine WC_loop_inv (fun m f K3 => ∃ (a : Nat), m = I - a ∧ a ≤ I ∧ f 2 = w ∧ f 3 = .pointer (some ⟨h.length, 0, none⟩) ∧ f 8 = .pointer (some ⟨H5.length, 0, none⟩) ∧ f 9 = .slice (some ⟨nb, 0, none⟩) L.length 1 ∧ f 10 = I64 b ∧ f 11 = .slice (some ⟨K1.length, 0, none⟩) K 1 ∧ f 12 = I64 c ∧ f 13 = I64 a ∧ (K1 <+: K3) ∧ (OwnB K3 K1.length ((gen K (rowS u ns I b c a)).map (Value.int .i64)) true)) ?_ (I - 0) _ _ ⟨0, rfl, by omega, (by first | rfl | exact f2 | (simp [upd_apply]; done)), (by first | rfl | exact f3 | (simp [upd_apply]; done)), (by first | rfl | exact f8 | (simp [upd_apply]; done)), (by first | rfl | exact f9 | (simp [upd_apply]; done)), (by first | rfl | exact f10 | (simp [upd_apply]; done)), (by first | rfl | exact f11 | (simp [upd_apply]; done)), (by first | rfl | exact f12 | (simp [upd_apply]; done)), (by first | rfl | simp [upd_apply]), q2, row⟩
        rintro m f K3 ⟨a, rfl, ha, f2, f3, f8, f9, f10, f11, f12, f13, q3, row⟩
        have g8c := pre_get q3 g8
        have lt8c := get_lt g8c
        obtain ⟨er, row⟩ := row
        have ltr := get_lt row
        by_cases hla : (a : Int) < I
        · have hix := hw.ix (k := .i64) (j := (a : Int)) (by omega) (by omega)
          have hrd := (hw.pre ((p13.trans p4).trans (pp.trans q3))).rd (j := (a : Int)) (by omega) (by omega)
          rw [show nth ns (a : Int) = ns.getD a 0 by unfold nth; rw [Int.toNat_natCast]] at hrd
          have hixr : ixsV 1 (.slice (some ⟨K1.length, 0, none⟩) K 1) (I64 (c : Int)) = some (.pointer (some ⟨K1.length, c, none⟩)) := by
            rw [ixsV_some, if_pos (by omega)]
            simp
          have rg : ((gen K (rowS u ns I b c a)).map (Value.int .i64))[c]? = some (I64 (conA u ns b c a)) := by
            rw [map_getF (by rw [gen_len]; omega), rowS_at hc']
          have st4 := con_step fu h3a h3b (a := a) (b := b) (c := c) (by omega) (by omega) (by omega)
          have hbK3 := pre_get q3 hbK
          ((try simp (maxSteps := 3000000) (dsimp := false) (disch := first | omega | (simp only [len_new, len_put, len_kill]; omega)) only [↓ypre, ypost, ↓reduceIte, Nat.reduceEqDiff, Nat.reduceAdd, Nat.reduceSub, Nat.reduceLeDiff, Nat.zero_add, Nat.sub_zero, ynew, f2, f3, f8, f9, f10, f11, f12, f13, rd1_of g8c, rdn_of g8c, decide_eq_true (show (a : Int) < u.i by omega), hix, hrd, hixr, rd1_of row, rg]); try simp only [yback])
          refine s_l05At (t := u) (i4.pre (pp.trans q3)) fu (i := a) (by omega) (j := b) (by omega) (k := c) (by omega) fun H p => ⟨p, ?_⟩
          have row' := pre_get p row
          have hbH := pre_get p hbK3
          have ltH := get_lt row'
          have st5 : (conA u ns b c a + ns.getD a 0 * tat u a b c).tmod t.p = conA u ns b c (a + 1) := by rw [← hup]; rfl
          have spl := map_setF (l := gen K (rowS u ns I b c a)) (j := c) (x := conA u ns b c (a + 1)) (by rw [gen_len]; omega)
          rw [rowS_set hc'] at spl
          have gl : ((gen K (rowS u ns I b c a)).map (Value.int .i64)).length = K := by rw [List.length_map, gen_len]
          ((try simp (maxSteps := 3000000) (dsimp := false) (disch := first | omega | (simp only [len_new, len_put, len_kill]; omega)) only [↓ypre, ypost, ↓reduceIte, Nat.reduceEqDiff, Nat.reduceAdd, Nat.reduceSub, Nat.reduceLeDiff, Nat.zero_add, Nat.sub_zero, ynew, f2, f3, f8, f9, f10, f11, f12, f13, rd1_of hbH, wrap64_in, bin_rem, st5, hixr, wr_of row', gl, spl]); try simp only [yback])
          refine ⟨by omega, ?_⟩
          refine InvQ_go (I - (a + 1)) (by omega) ⟨(a + 1), rfl, by omega, (by first | rfl | exact f2 | (simp only [upd_apply]; rfl) | (show I64 _ = _; congr 1; omega)), (by first | rfl | exact f3 | (simp only [upd_apply]; rfl) | (show I64 _ = _; congr 1; omega)), (by first | rfl | exact f8 | (simp only [upd_apply]; rfl) | (show I64 _ = _; congr 1; omega)), (by first | rfl | exact f9 | (simp only [upd_apply]; rfl) | (show I64 _ = _; congr 1; omega)), (by first | rfl | exact f10 | (simp only [upd_apply]; rfl) | (show I64 _ = _; congr 1; omega)), (by first | rfl | exact f11 | (simp only [upd_apply]; rfl) | (show I64 _ = _; congr 1; omega)), (by first | rfl | exact f12 | (simp only [upd_apply]; rfl) | (show I64 _ = _; congr 1; omega)), (by first | rfl | exact f13 | (simp only [upd_apply]; rfl) | (show I64 _ = _; congr 1; omega)), (pre_put (q3.trans p) (Nat.le_refl _)), ⟨er, get_put_same ltH⟩⟩
        · have ea : a = I := by omega
          subst ea
          ((try simp (maxSteps := 3000000) (dsimp := false) (disch := first | omega | (simp only [len_new, len_put, len_kill]; omega)) only [↓ypre, ypost, ↓reduceIte, Nat.reduceEqDiff, Nat.reduceAdd, Nat.reduceSub, Nat.reduceLeDiff, Nat.zero_add, Nat.sub_zero, ynew, f2, f3, f8, f9, f10, f11, f12, f13, rd1_of g8c, decide_eq_false (show ¬ (a : Int) < u.i by omega), wrap64_in]); try simp only [yback])
          refine InvQ_go (K - (c + 1)) (by omega) ⟨(c + 1), rfl, by omega, (by first | rfl | exact f2 | (simp only [upd_apply]; rfl) | (show I64 _ = _; congr 1; omega)), (by first | rfl | exact f3 | (simp only [upd_apply]; rfl) | (show I64 _ = _; congr 1; omega)), (by first | rfl | exact f8 | (simp only [upd_apply]; rfl) | (show I64 _ = _; congr 1; omega)), (by first | rfl | exact f9 | (simp only [upd_apply]; rfl) | (show I64 _ = _; congr 1; omega)), (by first | rfl | exact f10 | (simp only [upd_apply]; rfl) | (show I64 _ = _; congr 1; omega)), (by first | rfl | exact f11 | (simp only [upd_apply]; rfl) | (show I64 _ = _; congr 1; omega)), (by first | rfl | exact f12 | (simp only [upd_apply]; rfl) | (show I64 _ = _; congr 1; omega)), q3, ⟨er, by rw [← rowS_next]; exact row⟩⟩
      · have ec : c = K := by omega
        subst ec
        rw [rowS_all] at row
        obtain ⟨er, row⟩ := row
        have ltr := get_lt row
        ((try simp (maxSteps := 3000000) (dsimp := false) (disch := first | omega | (simp only [len_new, len_put, len_kill]; omega)) only [↓ypre, ypost, ↓reduceIte, Nat.reduceEqDiff, Nat.reduceAdd, Nat.reduceSub, Nat.reduceLeDiff, Nat.zero_add, Nat.sub_zero, ynew, f2, f3, f8, f9, f10, f11, f12, rd1_of g8b, decide_eq_false (show ¬ (c : Int) < u.k by omega)]); try simp only [yback])
        have stK := st.pre q2
        have hlen : c = (gen c fun x => conA u ns b x I).length := by rw [gen_len]
        have hLl : L.length = b := by
          have := congrArg List.length hL
          rw [List.length_map, List.length_take, conM_len] at this
          omega
        rw [show (Value.slice (some ⟨K1.length, 0, none⟩) c 1) = .slice (some ⟨K1.length, 0, none⟩) (gen c fun x => conA u ns b x I).length 1 by rw [gen_len]]
        refine stK.app2c (n := K1.length) (r := gen c fun x => conA u ns b x I) ⟨by have := pre_len pp; omega, by omega, fun q hq => by have := lt.2 q hq; omega⟩ ⟨er, row⟩ (by omega) fun nb' H' st' l' e' own' pre' => ?_
        ((try simp (maxSteps := 3000000) (dsimp := false) (disch := first | omega | (simp only [len_new, len_put, len_kill]; omega)) only [↓ypre, ypost, ↓reduceIte, Nat.reduceEqDiff, Nat.reduceAdd, Nat.reduceSub, Nat.reduceLeDiff, Nat.zero_add, Nat.sub_zero, ynew, f2, f3, f8, f9, f10, f11, f12, wrap64_in]); try simp only [yback])
        refine InvQ_go (J - (b + 1)) (by omega) ⟨(b + 1), nb', false, (L ++ [(K1.length, gen c fun x => conA u ns b x I)]), rfl, by omega, (by first | rfl | exact f2 | (simp only [upd_apply]; rfl) | (show I64 _ = _; congr 1; omega)), (by first | rfl | exact f3 | (simp only [upd_apply]; rfl) | (show I64 _ = _; congr 1; omega)), (by first | rfl | exact f8 | (simp only [upd_apply]; rfl) | (show I64 _ = _; congr 1; omega)), (by first | rfl | exact f9 | (simp only [upd_apply]; rfl) | (show I64 _ = _; congr 1; omega)), (by first | rfl | exact f10 | (simp only [upd_apply]; rfl) | (show I64 _ = _; congr 1; omega)), st', ?_, ?_, (own' _ _ _ (fun e => nbx.1 e.symm) ⟨_, g8b⟩), ?_⟩
        · rw [List.map_append, hL, take_next (d := []) (by rw [conM_len]; omega), conM_get (by omega), hKt, hIt]
          rfl
        · exact st'.hp
        · refine ⟨by omega, fun q hq => ?_⟩
          rcases List.mem_append.1 hq with hq | hq
          · exact nbx.2 q hq
          · rw [List.mem_singleton.1 hq]
            show K1.length ≠ H5.length
            omega
    · have eb : b = J := by omega
      subst eb
      rw [List.take_of_length_le (by rw [conM_len]; omega)] at hL
      ((try simp (maxSteps := 3000000) (dsimp := false) (disch := first | omega | (simp only [len_new, len_put, len_kill]; omega)) only [↓ypre, ypost, ↓reduceIte, Nat.reduceEqDiff, Nat.reduceAdd, Nat.reduceSub, Nat.reduceLeDiff, Nat.zero_add, Nat.sub_zero, ynew, f2, f3, f8, f9, f10, rd1_of g8, decide_eq_false (show ¬ (b : Int) < u.j by omega)]); try simp only [yback])
      have o := st.own
      rw [hL] at o
      exact hQ _ _ ((p13.trans p4).trans pp) (o.lo (by omega))
def flS (u : Ten) (ns : List Int) (K a n : Nat) (m : Nat) : Int := conA u ns (m / K) (m % K) (if m < n then a + 1 else a)
theorem flS_zero {u : Ten} {ns : List Int} {K N : Nat} : gen N (flS u ns K 0 0) = List.replicate N 0 := (gen_ext (by simp) fun i hi => by
  simp [List.getD_eq_getElem?_getD, List.getElem?_replicate, hi, flS, conA]).symm
theorem flS_next {u : Ten} {ns : List Int} {K N a : Nat} : gen N (flS u ns K a N) = gen N (flS u ns K (a + 1) 0) := gen_congr fun m hm => by
  unfold flS
  rw [if_pos hm, if_neg (by omega)]
theorem flS_at {u : Ten} {ns : List Int} {K N a n : Nat} (hn : n < N) : (gen N (flS u ns K a n)).getD n 0 = conA u ns (n / K) (n % K) a := by
  rw [gen_get hn]
  unfold flS
  rw [if_neg (by omega)]
theorem flS_set {u : Ten} {ns : List Int} {K N a n : Nat} (hn : n < N) : (gen N (flS u ns K a n)).set n (conA u ns (n / K) (n % K) (a + 1)) = gen N (flS u ns K a (n + 1)) := by
  refine gen_ext (by rw [List.length_set, gen_len]) fun x hx => ?_
  rw [set_getD (by rw [gen_len]; exact hn)]
  by_cases h : x = n
  · subst h
    rw [if_pos rfl]
    unfold flS
    rw [if_pos (by omega)]
  · rw [if_neg h, gen_get hx]
    unfold flS
    by_cases h1 : x < n
    · rw [if_pos h1, if_pos (by omega)]
    · rw [if_neg h1, if_neg (by omega)]
theorem parts_genF {g : Nat → Int} {J K : Nat} : parts (gen (J * K) g) K J = (List.range J).map fun b => gen K fun c => g (b * K + c) := by
  refine getD_ext (by rw [parts_len]; simp) fun b hb => ?_
  rw [parts_len] at hb
  have hr := mul_row (w := K) hb
  rw [parts_get hb]
  rw [show ((List.range J).map fun b => gen K fun c => g (b * K + c)).getD b [] = gen K fun c => g (b * K + c) by simp [List.getD_eq_getElem?_getD, List.getElem?_map, List.getElem?_range hb]]
  refine gen_ext (by rw [List.length_take, List.length_drop, gen_len]; omega) fun c hc => ?_
  rw [cut_get hc, gen_get (by omega)]
theorem i_ContractTensor {v w : Value} {t : Ten} {s : Int} {ns : List Int} {h : AH} {Q : Value → AH → Prop} (hv : Ints h v t.ns) (hl : (t.ns.length : Int) ≤ 1048576) (hw : Ints h w ns) (hm : (ns.length : Int) ≤ 1048576)
    (hQ : ∀ v' h', h <+: h' → OwnRows h h' v' (coR t s ns).1 → Q (.tuple #[v', I64 (coR t s ns).2]) h') : WF S 104 [tenV t v, I64 s, w] h Q := by
  refine WF_fn (fn := c104) rfl rfl ?_
  unfold c104
  ((try simp (maxSteps := 3000000) (dsimp := false) (disch := first | omega | (simp only [len_new, len_put, len_kill]; omega)) only [↓ypre, ypost, ↓reduceIte, Nat.reduceEqDiff, Nat.reduceAdd, Nat.reduceSub, Nat.reduceLeDiff, Nat.zero_add, Nat.sub_zero, ynew, tenV, hv.one]); try simp only [yback])
  generalize hH1 : AH.new h _ = H1
  obtain ⟨hb1, p1, n1⟩ := new_facts hH1
  ((try simp (maxSteps := 3000000) (dsimp := false) (disch := first | omega | (simp only [len_new, len_put, len_kill]; omega)) only [↓ypre, ypost, ↓reduceIte, Nat.reduceEqDiff, Nat.reduceAdd, Nat.reduceSub, Nat.reduceLeDiff, Nat.zero_add, Nat.sub_zero, ynew, rdn_of hb1]); try simp only [yback])
  refine i_IsTensor (hv.pre p1) hl fun H2 p2 => ?_
  have hb2 := pre_get p2 hb1
  unfold coR at hQ
  cases h1 : isT t with
  | false =>
    rw [h1, if_neg (by decide)] at hQ
    ((try simp (maxSteps := 3000000) (dsimp := false) (disch := first | omega | (simp only [len_new, len_put, len_kill]; omega)) only [↓ypre, ypost, ↓reduceIte, Nat.reduceEqDiff, Nat.reduceAdd, Nat.reduceSub, Nat.reduceLeDiff, Nat.zero_add, Nat.sub_zero, ynew]); try simp only [yback])
    exact hQ _ _ (p1.trans p2) (.inl ⟨rfl, rfl⟩)
  | true =>
    rw [h1, if_pos rfl] at hQ
    have f := isT_facts h1
    have fp := f.p
    have no : ¬ coOK t s ns → ∀ h', h <+: h' → Q (.tuple #[.slice none 0 0, I64 2]) h' := fun hn h' p => by
      rw [if_neg hn] at hQ
      exact hQ _ _ p (.inl ⟨rfl, rfl⟩)
    by_cases c1 : s < 0
    · ((try simp (maxSteps := 3000000) (dsimp := false) (disch := first | omega | (simp only [len_new, len_put, len_kill]; omega)) only [↓ypre, ypost, ↓reduceIte, Nat.reduceEqDiff, Nat.reduceAdd, Nat.reduceSub, Nat.reduceLeDiff, Nat.zero_add, Nat.sub_zero, ynew, decide_eq_true c1]); try simp only [yback])
      exact no (fun q => by have := q.1; omega) _ (p1.trans p2)
    by_cases c2 : 2 < s
    · ((try simp (maxSteps := 3000000) (dsimp := false) (disch := first | omega | (simp only [len_new, len_put, len_kill]; omega)) only [↓ypre, ypost, ↓reduceIte, Nat.reduceEqDiff, Nat.reduceAdd, Nat.reduceSub, Nat.reduceLeDiff, Nat.zero_add, Nat.sub_zero, ynew, decide_eq_false c1, decide_eq_true c2]); try simp only [yback])
      exact no (fun q => by have := q.1; omega) _ (p1.trans p2)
    ((try simp (maxSteps := 3000000) (dsimp := false) (disch := first | omega | (simp only [len_new, len_put, len_kill]; omega)) only [↓ypre, ypost, ↓reduceIte, Nat.reduceEqDiff, Nat.reduceAdd, Nat.reduceSub, Nat.reduceLeDiff, Nat.zero_add, Nat.sub_zero, ynew, decide_eq_false c1, decide_eq_false c2, hw.len, rdn_of hb2]); try simp only [yback])
    refine i_sides hv.one fun H3 p3 => ?_
    have hb3 := pre_get p3 hb2
    have p13 := (p1.trans p2).trans p3
    obtain ⟨k, rfl⟩ : ∃ k : Nat, s = k := ⟨s.toNat, by omega⟩
    have e1 : idx1V 3 (.agg #[I64 t.i, I64 t.j, I64 t.k]) (I64 (k : Int)) = some (I64 (sideN t k)) := by
      have : k = 0 ∨ k = 1 ∨ k = 2 := by omega
      rcases this with rfl | rfl | rfl <;> rfl
    by_cases c3 : (ns.length : Int) = sideN t k
    case neg =>
      ((try simp (maxSteps := 3000000) (dsimp := false) (disch := first | omega | (simp only [len_new, len_put, len_kill]; omega)) only [↓ypre, ypost, ↓reduceIte, Nat.reduceEqDiff, Nat.reduceAdd, Nat.reduceSub, Nat.reduceLeDiff, Nat.zero_add, Nat.sub_zero, ynew, e1, decide_eq_true (show (ns.length : Int) ≠ sideN t k from c3)]); try simp only [yback])
      exact no (fun q => c3 (by have := q.2.2; rwa [Int.toNat_natCast] at this)) _ p13
    ((try simp (maxSteps := 3000000) (dsimp := false) (disch := first | omega | (simp only [len_new, len_put, len_kill]; omega)) only [↓ypre, ypost, ↓reduceIte, Nat.reduceEqDiff, Nat.reduceAdd, Nat.reduceSub, Nat.reduceLeDiff, Nat.zero_add, Nat.sub_zero, ynew, e1, decide_eq_false (show ¬ (ns.length : Int) ≠ sideN t k from fun x => x c3), rd1_of hb3]); try simp only [yback])
    refine i_areNumbers (hw.pre p13) hm ?_
    cases h3 : allIn t.p ns with
    | false =>
      ((try simp (maxSteps := 3000000) (dsimp := false) (disch := first | omega | (simp only [len_new, len_put, len_kill]; omega)) only [↓ypre, ypost, ↓reduceIte, Nat.reduceEqDiff, Nat.reduceAdd, Nat.reduceSub, Nat.reduceLeDiff, Nat.zero_add, Nat.sub_zero, ynew]); try simp only [yback])
      exact no (fun q => by rw [q.2.1] at h3; cases h3) _ p13
    | true =>
    rw [if_pos ⟨⟨by omega, by omega⟩, h3, by rw [Int.toNat_natCast]; exact c3⟩, Int.toNat_natCast] at hQ
    ((try simp (maxSteps := 3000000) (dsimp := false) (disch := first | omega | (simp only [len_new, len_put, len_kill]; omega)) only [↓ypre, ypost, ↓reduceIte, Nat.reduceEqDiff, Nat.reduceAdd, Nat.reduceSub, Nat.reduceLeDiff, Nat.zero_add, Nat.sub_zero, ynew, rdn_of hb3]); try simp only [yback])
    refine i_turned (hv.pre p13) f (by omega) fun v4 H4 p4 i4 => ?_
    have fu := TF.turnN (n := k) f
    have hsd := turnN_side (t := t) (s := k) (by omega)
    have hup := turnN_p (n := k) (t := t)
    rw [← hup] at h3 fp
    generalize turnN k t = u at *
    rw [← hsd] at c3
    have fi := fu.i
    have fj := fu.j
    have fk := fu.k
    obtain ⟨I, hI⟩ : ∃ I : Nat, u.i = I := ⟨u.i.toNat, by omega⟩
    obtain ⟨J, hJ⟩ : ∃ J : Nat, u.j = J := ⟨u.j.toNat, by omega⟩
    obtain ⟨K, hK⟩ : ∃ K : Nat, u.k = K := ⟨u.k.toNat, by omega⟩
    have ejk : u.j * u.k = ((J * K : Nat) : Int) := by rw [hJ, hK]; push_cast; rfl
    have jk := mul_in1 (A := 9) (B := 9) fj fk
    rw [ejk] at jk
    have hl' : u.ns.length = I * (J * K) := by
      have hl := fu.len
      rw [hI, hJ, hK, Int.mul_assoc] at hl
      exact_mod_cast hl
    have ule := fu.le
    ((try simp (maxSteps := 3000000) (dsimp := false) (disch := first | omega | (simp only [len_new, len_put, len_kill]; omega)) only [↓ypre, ypost, ↓reduceIte, Nat.reduceEqDiff, Nat.reduceAdd, Nat.reduceSub, Nat.reduceLeDiff, Nat.zero_add, Nat.sub_zero, ynew, tenV, i4.one, ejk, wrap64_in]); try simp only [yback])
    refine ⟨by omega, ?_⟩
    generalize hH5 : AH.new H4 _ = H5
    obtain ⟨hb5, p5, n5⟩ := new_facts hH5
    rw [Int.toNat_natCast, zrep_ints, ← flS_zero (u := u) (ns := ns) (K := K)]
    generalize hH6 : AH.new H5 _ = H6
    obtain ⟨hb6, p6, n6⟩ := new_facts hH6
    have l13 := pre_len p13
    have l4 := pre_len p4
    ((try simp (maxSteps := 3000000) (dsimp := false) (disch := first | omega | (simp only [len_new, len_put, len_kill]; omega)) only [↓ypre, ypost, ↓reduceIte, Nat.reduceEqDiff, Nat.reduceAdd, Nat.reduceSub, Nat.reduceLeDiff, Nat.zero_add, Nat.sub_zero, ynew, hw.len]); try simp only [yback])
    refine WC_loop_inv (fun m f K1 => ∃ (a : Nat), m = I - a ∧ a ≤ I ∧ f 2 = w ∧ f 3 = .pointer (some ⟨h.length, 0, none⟩) ∧ f 8 = .pointer (some ⟨H4.length, 0, none⟩) ∧ f 9 = .slice (some ⟨H5.length, 0, none⟩) (J * K) 1 ∧ f 49 = w ∧ f 50 = I64 ns.length ∧ f 51 = I64 a ∧ (H5 <+: K1) ∧ (OwnB K1 H5.length ((gen (J * K) (flS u ns K a 0)).map (Value.int .i64)) true)) ?_ (I - 0) _ _ ⟨0, rfl, by omega, (by first | rfl | simp [upd_apply]), (by first | rfl | simp [upd_apply]), (by first | rfl | simp [upd_apply]), (by first | rfl | simp [upd_apply]), (by first | rfl | simp [upd_apply]), (by first | rfl | simp [upd_apply]), (by first | rfl | simp [upd_apply]), p6, ⟨_, hb6⟩⟩
    rintro m f K1 ⟨a, rfl, ha, f2, f3, f8, f9, f49, f50, f51, pp, row⟩
    have g8 := pre_get pp hb5
    have lt8 := get_lt g8
    have g3 := pre_get ((p4.trans p5).trans pp) hb3
    have lt3 := get_lt g3
    have iw := hw.pre ((p13.trans (p4.trans p5)).trans pp)
    have iu := i4.pre (p5.trans pp)
    by_cases hla : (a : Int) < I
    · have ha' : a < I := by omega
      have hix := hw.ix (k := .i64) (j := (a : Int)) (by omega) (by omega)
      have hrd := iw.rd (j := (a : Int)) (by omega) (by omega)
      rw [show nth ns (a : Int) = ns.getD a 0 by unfold nth; rw [Int.toNat_natCast]] at hrd
      ((try simp (maxSteps := 3000000) (dsimp := false) (disch := first | omega | (simp only [len_new, len_put, len_kill]; omega)) only [↓ypre, ypost, ↓reduceIte, Nat.reduceEqDiff, Nat.reduceAdd, Nat.reduceSub, Nat.reduceLeDiff, Nat.zero_add, Nat.sub_zero, ynew, f2, f3, f8, f9, f49, f50, f51, decide_eq_true (show (a : Int) < ns.length by omega), hix, hrd]); try simp only [yback])
      refine WC_loop_inv (fun m f K2 => ∃ (n : Nat), m = ((J * K)) - n ∧ n ≤ ((J * K)) ∧ f 2 = w ∧ f 3 = .pointer (some ⟨h.length, 0, none⟩) ∧ f 8 = .pointer (some ⟨H4.length, 0, none⟩) ∧ f 9 = .slice (some ⟨H5.length, 0, none⟩) (J * K) 1 ∧ f 49 = w ∧ f 50 = I64 ns.length ∧ f 51 = I64 a ∧ f 10 = I64 a ∧ f 11 = I64 (ns.getD a 0) ∧ f 57 = I64 ((J * K : Nat) : Int) ∧ f 58 = I64 n ∧ (H5 <+: K2) ∧ (OwnB K2 H5.length ((gen (J * K) (flS u ns K a n)).map (Value.int .i64)) true)) ?_ (((J * K)) - 0) _ _ ⟨0, rfl, by omega, (by first | rfl | exact f2 | (simp [upd_apply]; done)), (by first | rfl | exact f3 | (simp [upd_apply]; done)), (by first | rfl | exact f8 | (simp [upd_apply]; done)), (by first | rfl | exact f9 | (simp [upd_apply]; done)), (by first | rfl | exact f49 | (simp [upd_apply]; done)), (by first | rfl | exact f50 | (simp [upd_apply]; done)), (by first | rfl | exact f51 | (simp [upd_apply]; done)), (by first | rfl | simp [upd_apply]), (by first | rfl | simp [upd_apply]), (by first | rfl | simp [upd_apply]), (by first | rfl | simp [upd_apply]), pp, row⟩
      rintro m f K2 ⟨n, rfl, hn, f2, f3, f8, f9, f49, f50, f51, f10, f11, f57, f58, q2, row⟩
      have g8 := pre_get q2 hb5
      have lt8 := get_lt g8
      have g3 := pre_get ((p4.trans p5).trans q2) hb3
      have lt3 := get_lt g3
      have iu := i4.pre (p5.trans q2)
      obtain ⟨er, row⟩ := row
      have ltr := get_lt row
      by_cases hln : (n : Int) < ((J * K : Nat) : Int)
      · have hn' : n < J * K := by omega
        have hK0 : 0 < K := by omega
        have hb0 : n / K < J := Nat.div_lt_of_lt_mul (by rw [Nat.mul_comm]; exact hn')
        have hc0 : n % K < K := Nat.mod_lt _ hK0
        have hdm := Nat.div_add_mod n K
        rw [Nat.mul_comm] at hdm
        have st4 := con_step fu h3 c3 (a := a) (b := n / K) (c := n % K) (by omega) (by omega) (by omega)
        have ham : a * (J * K) + J * K ≤ u.ns.length := by rw [hl']; exact mul_row ha'
        have hixr : ixsV 1 (.slice (some ⟨H5.length, 0, none⟩) (J * K) 1) (I64 (n : Int)) = some (.pointer (some ⟨H5.length, n, none⟩)) := by
          rw [ixsV_some, if_pos (by omega)]
          simp
        have rg : ((gen (J * K) (flS u ns K a n)).map (Value.int .i64))[n]? = some (I64 (conA u ns (n / K) (n % K) a)) := by
          rw [map_getF (by rw [gen_len]; omega), flS_at hn']
        have e5 : (a : Int) * u.j * u.k = ((a * (J * K) : Nat) : Int) := by rw [Int.mul_assoc, ejk]; push_cast; rfl
        have aj := mul_in (A := 9) (B := 9) (a := (a : Int)) (b := u.j) (by omega) (by omega)
        have hixu := i4.ix (k := .i64) (j := ((a * (J * K) : Nat) : Int) + (n : Int)) (by omega) (by omega)
        have hrdu := iu.rd (j := ((a * (J * K) : Nat) : Int) + (n : Int)) (by omega) (by omega)
        have et : nth u.ns (((a * (J * K) : Nat) : Int) + (n : Int)) = tat u a (n / K : Nat) (n % K : Nat) := by
          unfold tat
          congr 1
          rw [hJ, hK]
          have : ((a : Int) * (J : Int) + ((n / K : Nat) : Int)) * (K : Int) + ((n % K : Nat) : Int) = (((a * J + n / K) * K + n % K : Nat) : Int) := by push_cast; rfl
          rw [this, Nat.add_mul, Nat.mul_assoc]
          omega
        rw [et] at hrdu
        have st5 : (conA u ns (n / K) (n % K) a + ns.getD a 0 * tat u a (n / K : Nat) (n % K : Nat)).tmod t.p = conA u ns (n / K) (n % K) (a + 1) := by rw [← hup]; rfl
        have spl := map_setF (l := gen (J * K) (flS u ns K a n)) (j := n) (x := conA u ns (n / K) (n % K) (a + 1)) (by rw [gen_len]; omega)
        rw [flS_set hn'] at spl
        have gl : ((gen (J * K) (flS u ns K a n)).map (Value.int .i64)).length = J * K := by rw [List.length_map, gen_len]
        ((try simp (maxSteps := 3000000) (dsimp := false) (disch := first | omega | (simp only [len_new, len_put, len_kill]; omega)) only [↓ypre, ypost, ↓reduceIte, Nat.reduceEqDiff, Nat.reduceAdd, Nat.reduceSub, Nat.reduceLeDiff, Nat.zero_add, Nat.sub_zero, ynew, f2, f3, f8, f9, f49, f50, f51, f10, f11, f57, f58, decide_eq_true hln, hixr, rd1_of row, rg, rd1_of g8, rd1_of g3, e5, hixu, hrdu, wrap64_in, bin_rem, st5, wr_of row, gl, spl]); try simp only [yback])
        refine ⟨by omega, ?_⟩
        refine InvQ_go (((J * K)) - (n + 1)) (by omega) ⟨(n + 1), rfl, by omega, (by first | rfl | exact f2 | (simp only [upd_apply]; rfl) | (show I64 _ = _; congr 1; omega)), (by first | rfl | exact f3 | (simp only [upd_apply]; rfl) | (show I64 _ = _; congr 1; omega)), (by first | rfl | exact f8 | (simp only [upd_apply]; rfl) | (show I64 _ = _; congr 1; omega)), (by first | rfl | exact f9 | (simp only [upd_apply]; rfl) | (show I64 _ = _; congr 1; omega)), (by first | rfl | exact f49 | (simp only [upd_apply]; rfl) | (show I64 _ = _; congr 1; omega)), (by first | rfl | exact f50 | (simp only [upd_apply]; rfl) | (show I64 _ = _; congr 1; omega)), (by first | rfl | exact f51 | (simp only [upd_apply]; rfl) | (show I64 _ = _; congr 1; omega)), (by first | rfl | exact f10 | (simp only [upd_apply]; rfl) | (show I64 _ = _; congr 1; omega)), (by first | rfl | exact f11 | (simp only [upd_apply]; rfl) | (show I64 _ = _; congr 1; omega)), (by first | rfl | exact f57 | (simp only [upd_apply]; rfl) | (show I64 _ = _; congr 1; omega)), (by first | rfl | exact f58 | (simp only [upd_apply]; rfl) | (show I64 _ = _; congr 1; omega)), (pre_put q2 (Nat.le_refl _)), ⟨er, get_put_same ltr⟩⟩
      · have en : n = J * K := by omega
        subst en
        rw [flS_next] at row
        ((try simp (maxSteps := 3000000) (dsimp := false) (disch := first | omega | (simp only [len_new, len_put, len_kill]; omega)) only [↓ypre, ypost, ↓reduceIte, Nat.reduceEqDiff, Nat.reduceAdd, Nat.reduceSub, Nat.reduceLeDiff, Nat.zero_add, Nat.sub_zero, ynew, f2, f3, f8, f9, f49, f50, f51, f10, f11, f57, f58, decide_eq_false hln, wrap64_in]); try simp only [yback])
        refine InvQ_go (I - (a + 1)) (by omega) ⟨(a + 1), rfl, by omega, (by first | rfl | exact f2 | (simp only [upd_apply]; rfl) | (show I64 _ = _; congr 1; omega)), (by first | rfl | exact f3 | (simp only [upd_apply]; rfl) | (show I64 _ = _; congr 1; omega)), (by first | rfl | exact f8 | (simp only [upd_apply]; rfl) | (show I64 _ = _; congr 1; omega)), (by first | rfl | exact f9 | (simp only [upd_apply]; rfl) | (show I64 _ = _; congr 1; omega)), (by first | rfl | exact f49 | (simp only [upd_apply]; rfl) | (show I64 _ = _; congr 1; omega)), (by first | rfl | exact f50 | (simp only [upd_apply]; rfl) | (show I64 _ = _; congr 1; omega)), (by first | rfl | exact f51 | (simp only [upd_apply]; rfl) | (show I64 _ = _; congr 1; omega)), q2, ⟨er, row⟩⟩
    · have ea : a = I := by omega
      subst ea
      obtain ⟨er, row⟩ := row
      ((try simp (maxSteps := 3000000) (dsimp := false) (disch := first | omega | (simp only [len_new, len_put, len_kill]; omega)) only [↓ypre, ypost, ↓reduceIte, Nat.reduceEqDiff, Nat.reduceAdd, Nat.reduceSub, Nat.reduceLeDiff, Nat.zero_add, Nat.sub_zero, ynew, f2, f3, f8, f9, f49, f50, f51, decide_eq_false (show ¬ (a : Int) < ns.length by omega), rd1_of g8]); try simp only [yback])
      rw [hK, show J * K = (gen (J * K) (flS u ns K a 0)).length by rw [gen_len]]
      refine i_parted (n := J) (Ints.own row rfl) (by rw [gen_len]; omega) (by omega) (by rw [gen_len]) fun v7 H7 p7 o7 => ?_
      ((try simp (maxSteps := 3000000) (dsimp := false) (disch := first | omega | (simp only [len_new, len_put, len_kill]; omega)) only [↓ypre, ypost, ↓reduceIte, Nat.reduceEqDiff, Nat.reduceAdd, Nat.reduceSub, Nat.reduceLeDiff, Nat.zero_add, Nat.sub_zero, ynew]); try simp only [yback])
      have em : parts (gen (J * K) (flS u ns K a 0)) K J = conM u ns := by
        rw [parts_genF]
        unfold conM
        rw [show u.j.toNat = J by omega, show u.k.toNat = K by omega, show u.i.toNat = a by omega]
        refine List.map_congr_left fun b hb => gen_congr fun c hc => ?_
        unfold flS
        rw [if_neg (by omega)]
        congr 1
        · rw [Nat.mul_comm, Nat.mul_add_div (by omega), Nat.div_eq_of_lt hc, Nat.add_zero]
        · rw [Nat.mul_comm, Nat.mul_add_mod, Nat.mod_eq_of_lt hc]
      rw [em] at o7
      have q1 := (p13.trans (p4.trans p5)).trans pp
      exact hQ _ _ (q1.trans p7) (o7.lo (pre_len q1))
end Go.Proofs.Ytapafdpnmakekaa.X

set_option linter.unusedVariables false
set_option linter.unusedSimpArgs false
set_option maxRecDepth 20000
set_option maxHeartbeats 4000000
namespace Go.Proofs.Ytapafdpnmakekaa.X
open Go Go.RowKit
theorem pivot_all {T : List (List Int)} {c : Nat} : ∀ {m r : Nat}, (∀ i, r ≤ i → i < r + m → tb T i c = 0) → pivot T c m r = r + m
  | 0, r, _ => rfl
  | m + 1, r, h => by
    unfold pivot
    rw [if_pos (h r (Nat.le_refl _) (by omega)), pivot_all (m := m) (r := r + 1) (fun i h1 h2 => h i (by omega) (by omega))]
    omega
theorem elim_zero {p : Int} {T : List (List Int)} : ∀ {m c : Nat}, (∀ i, i < T.length → ∀ l, c ≤ l → l < c + m → tb T i l = 0) → elim p T 0 c m = 0
  | 0, _, _ => rfl
  | m + 1, c, h => by
    have hp : pivot T c (T.length - 0) 0 = T.length := by
      rw [pivot_all (fun i _ h2 => h i (by omega) c (Nat.le_refl _) (by omega))]
      omega
    unfold elim colStep
    rw [if_pos hp]
    exact elim_zero fun i hi l h1 h2 => h i hi l (by omega) (by omega)
theorem rank_le1 {p : Int} {w : Nat} {T : List (List Int)} (hP : isP p = true) (g : Good p T w) (h : 1 ≤ T.length) (hm : ∀ i i' c c', i < T.length → i' < T.length → c < w → c' < w → p ∣ tb T i c * tb T i' c' - tb T i c' * tb T i' c) : rankN p T ≤ 1 := by
  by_cases hz : ∃ i c, i < T.length ∧ c < w ∧ tb T i c ≠ 0
  · exact Nat.le_of_eq ((rank1_iff hP g h).2 ⟨hz, hm⟩)
  · have : rankN p T = 0 := elim_zero fun i hi l _ h2 => by
      rw [(g 0 (by omega)).1] at h2
      by_cases e : tb T i l = 0
      · exact e
      · exact absurd ⟨i, l, hi, by omega, e⟩ hz
    omega
def sU (ns : List Int) (u : Nat → Int) : Nat → Int
  | 0 => 0
  | a + 1 => sU ns u a + ns.getD a 0 * u a
theorem conA_dvd {t : Ten} {ns : List Int} {u : Nat → Int} {x : Int} {b c : Nat} : ∀ {n : Nat}, (∀ a, a < n → t.p ∣ tat t a b c - u a * x) → t.p ∣ conA t ns b c n - sU ns u n * x
  | 0, _ => by simp [conA, sU]
  | n + 1, h => by
    obtain ⟨k1, h1⟩ := conA_dvd (n := n) (ns := ns) fun a ha => h a (by omega)
    obtain ⟨k2, h2⟩ := h n (by omega)
    obtain ⟨k3, h3⟩ := tmod_dvd (conA t ns b c n + ns.getD n 0 * tat t n b c) t.p
    exact ⟨k1 + ns.getD n 0 * k2 - k3, by simp only [conA, sU]; grind⟩
theorem fc_tat {t : Ten} (tf : TF t) (ok : fcOK t = true) : ∃ u v w : Nat → Int, ∀ a b c : Nat, (a : Int) < t.i → (b : Int) < t.j → (c : Int) < t.k → t.p ∣ tat t a b c - u a * (v b * w c) := by
  unfold fcOK at ok
  rw [Bool.and_eq_true] at ok
  refine ⟨fun a => (tat t a (fcJ t (fcF t)) (fcK t (fcF t)) * fcE t).tmod t.p, fun b => (tat t (fcI t (fcF t)) b (fcK t (fcF t)) * fcE t).tmod t.p, fun c => tat t (fcI t (fcF t)) (fcJ t (fcF t)) c, fun a b c ha hb hc => ?_⟩
  obtain ⟨h1, h2⟩ := fcAt_at tf (f := fcF t) (e := fcE t) (a := a) (b := b) (c := c) (by omega) (by omega) (by omega)
  have h3 := h2.1 (allN_at ok.2 h1)
  obtain ⟨k, hk⟩ := tmod_dvd ((tat t a (fcJ t (fcF t)) (fcK t (fcF t)) * fcE t).tmod t.p * (tat t (fcI t (fcF t)) b (fcK t (fcF t)) * fcE t).tmod t.p * tat t (fcI t (fcF t)) (fcJ t (fcF t)) c) t.p
  rw [h3] at hk
  exact ⟨-k, by grind⟩
theorem con_rank {t : Ten} {ns : List Int} (tf : TF t) (hP : isP t.p = true) (ok : fcOK t = true) (hn : allIn t.p ns = true) (hl : (ns.length : Int) = t.i) : rankN t.p (conM t ns) ≤ 1 := by
  obtain ⟨u, v, w, h⟩ := fc_tat tf ok
  have fi := tf.i
  have fj := tf.j
  have fk := tf.k
  have cell : ∀ b c : Nat, b < t.j.toNat → c < t.k.toNat → tb (conM t ns) b c = conA t ns b c t.i.toNat := fun b c hb hc => by
    unfold tb
    rw [conM_get hb, gen_get hc]
  refine rank_le1 (w := t.k.toNat) hP (fun i hi => ?_) (by rw [conM_len]; omega) fun i i' c c' hi hi' hc hc' => ?_
  · rw [conM_len] at hi
    refine ⟨by rw [conM_get hi, gen_len], fun l hl' => ?_⟩
    rw [cell i l hi hl']
    exact conA_in tf hn hl (by omega) (by omega) (by omega)
  · rw [conM_len] at hi hi'
    rw [cell i c hi hc, cell i' c' hi' hc', cell i c' hi hc', cell i' c hi' hc]
    have d := fun (b c : Nat) (hb : b < t.j.toNat) (hc : c < t.k.toNat) => conA_dvd (t := t) (ns := ns) (u := u) (x := v b * w c) (b := b) (c := c) (n := t.i.toNat) fun a ha => h a b c (by omega) (by omega) (by omega)
    have d' := fun (b c : Nat) (hb : b < t.j.toNat) (hc : c < t.k.toNat) => show t.p ∣ sU ns u t.i.toNat * (v b * w c) - conA t ns b c t.i.toNat by obtain ⟨k, hk⟩ := d b c hb hc; exact ⟨-k, by grind⟩
    exact prod_minor (m1 := sU ns u t.i.toNat * (v i * w c)) (m2 := sU ns u t.i.toNat * (v i' * w c')) (m3 := sU ns u t.i.toNat * (v i * w c')) (m4 := sU ns u t.i.toNat * (v i' * w c)) (d' i c hi hc) (d' i' c' hi' hc') (d' i c' hi hc') (d' i' c hi' hc) (by grind)
end Go.Proofs.Ytapafdpnmakekaa.X

set_option linter.unusedVariables false
set_option linter.unusedSimpArgs false
set_option maxRecDepth 20000
set_option maxHeartbeats 4000000
namespace Go.Proofs.Ytapafdpnmakekaa.X
open Go Go.RowKit
theorem i_Equal {v w : Value} {ns ms : List Int} {h : AH} {Q : Value → AH → Prop} (hv : Ints h v ns) (hw : Ints h w ms) (hl : (ns.length : Int) ≤ 1048576) (hQ : Q (.bool (decide (ns = ms))) h) : WF S 200 [v, w] h Q := by
  refine WF_fn (fn := c200) rfl rfl ?_
  unfold c200
  have no : ns ≠ ms → Q (.bool false) h := fun hn => by rw [decide_eq_false hn] at hQ; exact hQ
  by_cases h1 : (ns.length : Int) = ms.length
  case neg =>
    ((try simp (maxSteps := 3000000) (dsimp := false) (disch := first | omega | (simp only [len_new, len_put, len_kill]; omega)) only [↓ypre, ypost, ↓reduceIte, Nat.reduceEqDiff, Nat.reduceAdd, Nat.reduceSub, Nat.reduceLeDiff, Nat.zero_add, Nat.sub_zero, ynew, hv.len, hw.len, decide_eq_true (show (ns.length : Int) ≠ ms.length from h1)]); try simp only [yback])
    exact no (fun e => h1 (by rw [e]))
  ((try simp (maxSteps := 3000000) (dsimp := false) (disch := first | omega | (simp only [len_new, len_put, len_kill]; omega)) only [↓ypre, ypost, ↓reduceIte, Nat.reduceEqDiff, Nat.reduceAdd, Nat.reduceSub, Nat.reduceLeDiff, Nat.zero_add, Nat.sub_zero, ynew, hv.len, hw.len, decide_eq_false (show ¬ (ns.length : Int) ≠ ms.length from fun y => y h1)]); try simp only [yback])
  refine WC_loop_inv (fun m f K1 => ∃ (i : Nat), m = ns.length - i ∧ i ≤ ns.length ∧ f 0 = v ∧ f 1 = w ∧ f 11 = v ∧ f 12 = I64 ns.length ∧ f 13 = I64 i ∧ K1 = h ∧ (∀ j, j < i → ns.getD j 0 = ms.getD j 0)) ?_ (ns.length - 0) _ _ ⟨0, rfl, by omega, (by first | rfl | simp [upd_apply]), (by first | rfl | simp [upd_apply]), (by first | rfl | simp [upd_apply]), (by first | rfl | simp [upd_apply]), (by first | rfl | simp [upd_apply]), rfl, (by omega)⟩
  rintro m f K1 ⟨i, rfl, hi, f0, f1, f11, f12, f13, rfl, hj⟩
  by_cases hlt : (i : Int) < ns.length
  · have ix := hv.ix (k := .i64) (j := i) (by omega) (by omega)
    have rd := hv.rd (j := i) (by omega) (by omega)
    have ix' := hw.ix (k := .i64) (j := i) (by omega) (by omega)
    have rd' := hw.rd (j := i) (by omega) (by omega)
    simp only [nth, Int.toNat_natCast] at rd rd'
    by_cases h2 : ns.getD i 0 = ms.getD i 0
    · ((try simp (maxSteps := 3000000) (dsimp := false) (disch := first | omega | (simp only [len_new, len_put, len_kill]; omega)) only [↓ypre, ypost, ↓reduceIte, Nat.reduceEqDiff, Nat.reduceAdd, Nat.reduceSub, Nat.reduceLeDiff, Nat.zero_add, Nat.sub_zero, ynew, f0, f1, f11, f12, f13, decide_eq_true hlt, ix, rd, ix', rd', decide_eq_false (show ¬ ns.getD i 0 ≠ ms.getD i 0 from fun y => y h2), wrap64_in]); try simp only [yback])
      refine InvQ_go (ns.length - (i + 1)) (by omega) ⟨(i + 1), rfl, by omega, (by first | rfl | exact f0 | (simp only [upd_apply]; rfl) | (show I64 _ = _; congr 1; omega)), (by first | rfl | exact f1 | (simp only [upd_apply]; rfl) | (show I64 _ = _; congr 1; omega)), (by first | rfl | exact f11 | (simp only [upd_apply]; rfl) | (show I64 _ = _; congr 1; omega)), (by first | rfl | exact f12 | (simp only [upd_apply]; rfl) | (show I64 _ = _; congr 1; omega)), (by first | rfl | exact f13 | (simp only [upd_apply]; rfl) | (show I64 _ = _; congr 1; omega)), rfl, ?_⟩
      intro j hj'
      by_cases e : j = i
      · subst e
        exact h2
      · exact hj j (by omega)
    · ((try simp (maxSteps := 3000000) (dsimp := false) (disch := first | omega | (simp only [len_new, len_put, len_kill]; omega)) only [↓ypre, ypost, ↓reduceIte, Nat.reduceEqDiff, Nat.reduceAdd, Nat.reduceSub, Nat.reduceLeDiff, Nat.zero_add, Nat.sub_zero, ynew, f0, f1, f11, f12, f13, decide_eq_true hlt, ix, rd, ix', rd', decide_eq_true (show ns.getD i 0 ≠ ms.getD i 0 from h2), wrap64_in]); try simp only [yback])
      exact no (fun e => h2 (by rw [e]))
  · have ei : i = ns.length := by omega
    subst ei
    ((try simp (maxSteps := 3000000) (dsimp := false) (disch := first | omega | (simp only [len_new, len_put, len_kill]; omega)) only [↓ypre, ypost, ↓reduceIte, Nat.reduceEqDiff, Nat.reduceAdd, Nat.reduceSub, Nat.reduceLeDiff, Nat.zero_add, Nat.sub_zero, ynew, f0, f1, f11, f12, f13, decide_eq_false hlt]); try simp only [yback])
    have e : ns = ms := by
      refine List.ext_getElem? fun j => ?_
      by_cases hjl : j < ns.length
      · have := hj j hjl
        simpa [List.getD_eq_getElem?_getD, List.getElem?_eq_getElem hjl, List.getElem?_eq_getElem (show j < ms.length by omega)] using this
      · rw [List.getElem?_eq_none (by omega), List.getElem?_eq_none (by omega)]
    rw [decide_eq_true e] at hQ
    exact hQ
theorem i_isSimple {v : Value} {t : Ten} {h : AH} {Q : Value → AH → Prop} (hv : Ints h v t.ns) (tf : TF t) (hP : isP t.p = true)
    (hQ : ∀ h', h <+: h' → Q (.bool (fcOK t)) h') : WF S 240 [tenV t v] h Q := by
  refine WF_fn (fn := c240) rfl rfl ?_
  unfold c240
  ((try simp (maxSteps := 3000000) (dsimp := false) (disch := first | omega | (simp only [len_new, len_put, len_kill]; omega)) only [↓ypre, ypost, ↓reduceIte, Nat.reduceEqDiff, Nat.reduceAdd, Nat.reduceSub, Nat.reduceLeDiff, Nat.zero_add, Nat.sub_zero, ynew, tenV, hv.one]); try simp only [yback])
  generalize hH1 : AH.new h _ = H1
  obtain ⟨hb1, p1, n1⟩ := new_facts hH1
  ((try simp (maxSteps := 3000000) (dsimp := false) (disch := first | omega | (simp only [len_new, len_put, len_kill]; omega)) only [↓ypre, ypost, ↓reduceIte, Nat.reduceEqDiff, Nat.reduceAdd, Nat.reduceSub, Nat.reduceLeDiff, Nat.zero_add, Nat.sub_zero, ynew, rdn_of hb1]); try simp only [yback])
  refine i_flattenRanks (hv.pre p1) tf hP fun v' H2 p2 o2 => ?_
  ((try simp (maxSteps := 3000000) (dsimp := false) (disch := first | omega | (simp only [len_new, len_put, len_kill]; omega)) only [↓ypre, ypost, ↓reduceIte, Nat.reduceEqDiff, Nat.reduceAdd, Nat.reduceSub, Nat.reduceLeDiff, Nat.zero_add, Nat.sub_zero, ynew, fillL, zrep]); try simp only [yback])
  generalize hH3 : AH.new H2 _ = H3
  obtain ⟨hb3, p3, n3⟩ := new_facts hH3
  refine i_Equal (ms := [1, 1, 1]) (o2.ints.pre p3) (Ints.own (ns := [1, 1, 1]) hb3 rfl) (by rw [gen_len]; decide) ?_
  have e : decide (gen 3 (flG t) = [1, 1, 1]) = fcOK t := by
    by_cases h1 : fcOK t = true
    · rw [decide_eq_true ((flG_iff tf hP).2 h1), h1]
    · rw [decide_eq_false (fun y => h1 ((flG_iff tf hP).1 y))]
      simpa using h1
  rw [e]
  ((try simp (maxSteps := 3000000) (dsimp := false) (disch := first | omega | (simp only [len_new, len_put, len_kill]; omega)) only [↓ypre, ypost, ↓reduceIte, Nat.reduceEqDiff, Nat.reduceAdd, Nat.reduceSub, Nat.reduceLeDiff, Nat.zero_add, Nat.sub_zero, ynew]); try simp only [yback])
  exact hQ _ ((p1.trans p2).trans p3)
theorem i_IsSimple {v : Value} {t : Ten} {h : AH} {Q : Value → AH → Prop} (hv : Ints h v t.ns) (hl : SmallS t.ns)
    (hQ : ∀ h', h <+: h' → Q (.tuple #[.bool (siR t).1, I64 (siR t).2]) h') : WF S 102 [tenV t v] h Q := by
  refine WF_fn (fn := c102) rfl rfl ?_
  unfold c102
  ((try simp (maxSteps := 3000000) (dsimp := false) (disch := first | omega | (simp only [len_new, len_put, len_kill]; omega)) only [↓ypre, ypost, ↓reduceIte, Nat.reduceEqDiff, Nat.reduceAdd, Nat.reduceSub, Nat.reduceLeDiff, Nat.zero_add, Nat.sub_zero, ynew, tenV, hv.one]); try simp only [yback])
  generalize hH1 : AH.new h _ = H1
  obtain ⟨hb1, p1, n1⟩ := new_facts hH1
  ((try simp (maxSteps := 3000000) (dsimp := false) (disch := first | omega | (simp only [len_new, len_put, len_kill]; omega)) only [↓ypre, ypost, ↓reduceIte, Nat.reduceEqDiff, Nat.reduceAdd, Nat.reduceSub, Nat.reduceLeDiff, Nat.zero_add, Nat.sub_zero, ynew, rdn_of hb1]); try simp only [yback])
  refine i_IsTensor (hv.pre p1) hl fun H2 p2 => ?_
  have hb2 := pre_get p2 hb1
  unfold siR at hQ
  cases h1 : isT t with
  | false =>
    rw [h1, if_neg (by decide)] at hQ
    ((try simp (maxSteps := 3000000) (dsimp := false) (disch := first | omega | (simp only [len_new, len_put, len_kill]; omega)) only [↓ypre, ypost, ↓reduceIte, Nat.reduceEqDiff, Nat.reduceAdd, Nat.reduceSub, Nat.reduceLeDiff, Nat.zero_add, Nat.sub_zero, ynew]); try simp only [yback])
    exact hQ _ (p1.trans p2)
  | true =>
    rw [h1, if_pos rfl] at hQ
    ((try simp (maxSteps := 3000000) (dsimp := false) (disch := first | omega | (simp only [len_new, len_put, len_kill]; omega)) only [↓ypre, ypost, ↓reduceIte, Nat.reduceEqDiff, Nat.reduceAdd, Nat.reduceSub, Nat.reduceLeDiff, Nat.zero_add, Nat.sub_zero, ynew, rdn_of hb2]); try simp only [yback])
    refine i_isSimple (hv.pre (p1.trans p2)) (isT_facts h1) (isT_isP h1) fun H3 p3 => ?_
    ((try simp (maxSteps := 3000000) (dsimp := false) (disch := first | omega | (simp only [len_new, len_put, len_kill]; omega)) only [↓ypre, ypost, ↓reduceIte, Nat.reduceEqDiff, Nat.reduceAdd, Nat.reduceSub, Nat.reduceLeDiff, Nat.zero_add, Nat.sub_zero, ynew]); try simp only [yback])
    exact hQ _ ((p1.trans p2).trans p3)
theorem i_Index1 {x : Int} {h : AH} {Q : Value → AH → Prop} (hQ : Q (.bool (decide (x ≠ 0))) h) : WF S 242 [I64 x] h Q := by
  refine WF_fn (fn := c242) rfl rfl ?_
  unfold c242
  ((try simp (maxSteps := 3000000) (dsimp := false) (disch := first | omega | (simp only [len_new, len_put, len_kill]; omega)) only [↓ypre, ypost, ↓reduceIte, Nat.reduceEqDiff, Nat.reduceAdd, Nat.reduceSub, Nat.reduceLeDiff, Nat.zero_add, Nat.sub_zero, ynew]); try simp only [yback])
  exact hQ
theorem i_IndexInts {v : Value} {ns : List Int} {h : AH} {Q : Value → AH → Prop} (hv : Ints h v ns) (hl : (ns.length : Int) ≤ 1048576)
    (hQ : Q (I64 (firstAt (fun n => decide (ns.getD n 0 ≠ 0)) ns.length 0)) h) : WF S 241 [v, .func (.func 242) #[] #[]] h Q := by
  refine WF_fn (fn := c241) rfl rfl ?_
  unfold c241
  obtain ⟨q, hq⟩ : ∃ q : Nat → Bool, q = fun n => decide (ns.getD n 0 ≠ 0) := ⟨_, rfl⟩
  rw [← hq] at hQ
  ((try simp (maxSteps := 3000000) (dsimp := false) (disch := first | omega | (simp only [len_new, len_put, len_kill]; omega)) only [↓ypre, ypost, ↓reduceIte, Nat.reduceEqDiff, Nat.reduceAdd, Nat.reduceSub, Nat.reduceLeDiff, Nat.zero_add, Nat.sub_zero, ynew, hv.len]); try simp only [yback])
  refine WC_loop_inv (fun m f K1 => ∃ (i : Nat), m = ns.length - i ∧ i ≤ ns.length ∧ f 0 = v ∧ f 1 = .func (.func 242) #[] #[] ∧ f 7 = I64 ns.length ∧ f 8 = I64 i ∧ K1 = h ∧ (firstAt q (ns.length - i) i = firstAt q ns.length 0)) ?_ (ns.length - 0) _ _ ⟨0, rfl, by omega, (by first | rfl | simp [upd_apply]), (by first | rfl | simp [upd_apply]), (by first | rfl | simp [upd_apply]), (by first | rfl | simp [upd_apply]), rfl, rfl⟩
  rintro m f K1 ⟨i, rfl, hi, f0, f1, f7, f8, rfl, hj⟩
  by_cases hlt : (i : Int) < ns.length
  · have ix := hv.ix (k := .i64) (j := i) (by omega) (by omega)
    have rd := hv.rd (j := i) (by omega) (by omega)
    simp only [nth, Int.toNat_natCast] at rd
    have hstep : firstAt q (ns.length - i) i = if q i = true then (i : Int) else firstAt q (ns.length - (i + 1)) (i + 1) := by
      rw [show ns.length - i = (ns.length - (i + 1)) + 1 by omega]
      rfl
    have hqi : q i = decide (ns.getD i 0 ≠ 0) := by rw [hq]
    ((try simp (maxSteps := 3000000) (dsimp := false) (disch := first | omega | (simp only [len_new, len_put, len_kill]; omega)) only [↓ypre, ypost, ↓reduceIte, Nat.reduceEqDiff, Nat.reduceAdd, Nat.reduceSub, Nat.reduceLeDiff, Nat.zero_add, Nat.sub_zero, ynew, f0, f1, f7, f8, decide_eq_true hlt, ix, rd, WK_func, args_nil]); try simp only [yback])
    refine i_Index1 ?_
    rw [← hqi]
    cases h1 : q i with
    | true =>
      ((try simp (maxSteps := 3000000) (dsimp := false) (disch := first | omega | (simp only [len_new, len_put, len_kill]; omega)) only [↓ypre, ypost, ↓reduceIte, Nat.reduceEqDiff, Nat.reduceAdd, Nat.reduceSub, Nat.reduceLeDiff, Nat.zero_add, Nat.sub_zero, ynew, f0, f1, f7, f8]); try simp only [yback])
      rw [← hj, hstep, if_pos h1] at hQ
      exact hQ
    | false =>
      ((try simp (maxSteps := 3000000) (dsimp := false) (disch := first | omega | (simp only [len_new, len_put, len_kill]; omega)) only [↓ypre, ypost, ↓reduceIte, Nat.reduceEqDiff, Nat.reduceAdd, Nat.reduceSub, Nat.reduceLeDiff, Nat.zero_add, Nat.sub_zero, ynew, f0, f1, f7, f8, wrap64_in]); try simp only [yback])
      refine InvQ_go (ns.length - (i + 1)) (by omega) ⟨(i + 1), rfl, by omega, (by first | rfl | exact f0 | (simp only [upd_apply]; rfl) | (show I64 _ = _; congr 1; omega)), (by first | rfl | exact f1 | (simp only [upd_apply]; rfl) | (show I64 _ = _; congr 1; omega)), (by first | rfl | exact f7 | (simp only [upd_apply]; rfl) | (show I64 _ = _; congr 1; omega)), (by first | rfl | exact f8 | (simp only [upd_apply]; rfl) | (show I64 _ = _; congr 1; omega)), rfl, ?_⟩
      rw [← hj, hstep, if_neg (by rw [h1]; simp)]
  · have ei : i = ns.length := by omega
    subst ei
    ((try simp (maxSteps := 3000000) (dsimp := false) (disch := first | omega | (simp only [len_new, len_put, len_kill]; omega)) only [↓ypre, ypost, ↓reduceIte, Nat.reduceEqDiff, Nat.reduceAdd, Nat.reduceSub, Nat.reduceLeDiff, Nat.zero_add, Nat.sub_zero, ynew, f0, f1, f7, f8, decide_eq_false hlt]); try simp only [yback])
    rw [← hj, Nat.sub_self] at hQ
    exact hQ
theorem i_FactorsOfSimple {v : Value} {t : Ten} {h : AH} {Q : Value → AH → Prop} (hv : Ints h v t.ns) (hl : SmallS t.ns)
    (hQ : ∀ v' h', h <+: h' → OwnRows h h' v' (faR t).1 → Q (.tuple #[v', I64 (faR t).2]) h') : WF S 100 [tenV t v] h Q := by
  refine WF_fn (fn := c100) rfl rfl ?_
  unfold c100
  ((try simp (maxSteps := 3000000) (dsimp := false) (disch := first | omega | (simp only [len_new, len_put, len_kill]; omega)) only [↓ypre, ypost, ↓reduceIte, Nat.reduceEqDiff, Nat.reduceAdd, Nat.reduceSub, Nat.reduceLeDiff, Nat.zero_add, Nat.sub_zero, ynew, tenV, hv.one]); try simp only [yback])
  generalize hH1 : AH.new h _ = H1
  obtain ⟨hb1, p1, n1⟩ := new_facts hH1
  ((try simp (maxSteps := 3000000) (dsimp := false) (disch := first | omega | (simp only [len_new, len_put, len_kill]; omega)) only [↓ypre, ypost, ↓reduceIte, Nat.reduceEqDiff, Nat.reduceAdd, Nat.reduceSub, Nat.reduceLeDiff, Nat.zero_add, Nat.sub_zero, ynew, rdn_of hb1]); try simp only [yback])
  refine i_IsTensor (hv.pre p1) hl fun H0 p0 => ?_
  have hb1 := pre_get p0 hb1
  unfold faR at hQ
  cases h1 : isT t with
  | false =>
    rw [h1, if_neg (by decide)] at hQ
    ((try simp (maxSteps := 3000000) (dsimp := false) (disch := first | omega | (simp only [len_new, len_put, len_kill]; omega)) only [↓ypre, ypost, ↓reduceIte, Nat.reduceEqDiff, Nat.reduceAdd, Nat.reduceSub, Nat.reduceLeDiff, Nat.zero_add, Nat.sub_zero, ynew]); try simp only [yback])
    exact hQ _ _ (p1.trans p0) (.inl ⟨rfl, rfl⟩)
  | true =>
  rw [h1, if_pos rfl] at hQ
  have tf := isT_facts h1
  have hP := isT_isP h1
  ((try simp (maxSteps := 3000000) (dsimp := false) (disch := first | omega | (simp only [len_new, len_put, len_kill]; omega)) only [↓ypre, ypost, ↓reduceIte, Nat.reduceEqDiff, Nat.reduceAdd, Nat.reduceSub, Nat.reduceLeDiff, Nat.zero_add, Nat.sub_zero, ynew, rdn_of hb1]); try simp only [yback])
  refine i_isSimple (hv.pre (p1.trans p0)) tf hP fun H2 p2 => ?_
  have hb1 := pre_get p2 hb1
  have p1 := (p1.trans p0).trans p2
  cases h2 : fcOK t with
  | false =>
    rw [h2, if_neg (by decide)] at hQ
    ((try simp (maxSteps := 3000000) (dsimp := false) (disch := first | omega | (simp only [len_new, len_put, len_kill]; omega)) only [↓ypre, ypost, ↓reduceIte, Nat.reduceEqDiff, Nat.reduceAdd, Nat.reduceSub, Nat.reduceLeDiff, Nat.zero_add, Nat.sub_zero, ynew]); try simp only [yback])
    exact hQ _ _ p1 (.inl ⟨rfl, rfl⟩)
  | true =>
  rw [h2, if_pos rfl] at hQ
  have p5 := isP_in hP
  have fi := tf.i
  have fj := tf.j
  have fk := tf.k
  have jk := mul_in1 (A := 9) (B := 9) tf.j tf.k
  have hl := tf.len
  have hl2 := tf.le
  have hv2 := hv.pre p1
  ((try simp (maxSteps := 3000000) (dsimp := false) (disch := first | omega | (simp only [len_new, len_put, len_kill]; omega)) only [↓ypre, ypost, ↓reduceIte, Nat.reduceEqDiff, Nat.reduceAdd, Nat.reduceSub, Nat.reduceLeDiff, Nat.zero_add, Nat.sub_zero, ynew, rd1_of hb1]); try simp only [yback])
  refine i_IndexInts hv2 hl2 ?_
  rw [show firstAt (fun n => decide (t.ns.getD n 0 ≠ 0)) t.ns.length 0 = fcF t from rfl]
  have sp := firstAt_spec (q := fun n => decide (t.ns.getD n 0 ≠ 0)) (m := t.ns.length) (i := 0)
  rw [show firstAt (fun n => decide (t.ns.getD n 0 ≠ 0)) t.ns.length 0 = fcF t from rfl] at sp
  rcases sp with ⟨sq1, sq2⟩ | ⟨r, sq1, _, sq3, sq4⟩
  · exfalso
    unfold fcOK at h2
    rw [sq1] at h2
    cases h2
  have hr : r < t.ns.length := by omega
  have hnz : t.ns.getD r 0 ≠ 0 := by simpa using sq4
  obtain ⟨pi, pj, pk, pe⟩ := fc_places tf (f := fcF t) (by omega)
  have enth : nth t.ns (fcF t) = t.ns.getD r 0 := by
    rw [sq1]
    unfold nth
    rw [Int.toNat_natCast]
  have eE : fcE t = invN t.p (nth t.ns (fcF t)) := rfl
  have tin := tat_in tf pi pj pk
  have iv := invN_is hP (n := nth t.ns (fcF t)) (by rw [pe] at tin; rw [enth] at tin ⊢; omega)
  rw [← eE] at iv
  have ivb := iv.1
  have ivb2 := iv.2.1
  have eR : fcR t = [fcU t (fcF t) (fcE t), fcV t (fcF t) (fcE t), fcW t (fcF t)] := rfl
  have hf0 : 0 ≤ fcF t := by omega
  have hfl : fcF t < t.ns.length := by omega
  rw [eR] at hQ
  clear eE eR
  generalize fcF t = fz at *
  generalize fcE t = e at *
  have q1 : (fz / t.k).tdiv t.j = fcI t fz := by
    rw [Int.tdiv_eq_ediv_of_nonneg (Int.ediv_nonneg hf0 (by omega))]
    rfl
  have q2 : fz.tdiv t.k = fz / t.k := Int.tdiv_eq_ediv_of_nonneg hf0
  have q2b : 0 ≤ fz / t.k ∧ fz / t.k ≤ fz := ⟨Int.ediv_nonneg hf0 (by omega), Int.ediv_le_self _ hf0⟩
  have q3 : (fz / t.k).tmod t.j = fcJ t fz := by
    rw [Int.tmod_eq_emod_of_nonneg q2b.1]
    rfl
  have q4 : fz.tmod t.k = fcK t fz := by
    rw [Int.tmod_eq_emod_of_nonneg hf0]
    rfl
  have ixf := hv2.ix (k := .i64) (j := fz) (by omega) (by omega)
  have rdf := hv2.rd (j := fz) (by omega) (by omega)
  ((try simp (maxSteps := 3000000) (dsimp := false) (disch := first | omega | (simp only [len_new, len_put, len_kill]; omega)) only [↓ypre, ypost, ↓reduceIte, Nat.reduceEqDiff, Nat.reduceAdd, Nat.reduceSub, Nat.reduceLeDiff, Nat.zero_add, Nat.sub_zero, ynew, rd1_of hb1, bin_quo, bin_rem, q1, q2, q3, q4, ixf, rdf, wrap64_in]); try simp only [yback])
  refine i_inverse p5 (by rw [pe] at tin; rw [enth] at tin ⊢; omega) iv ?_
  ((try simp (maxSteps := 3000000) (dsimp := false) (disch := first | omega | (simp only [len_new, len_put, len_kill]; omega)) only [↓ypre, ypost, ↓reduceIte, Nat.reduceEqDiff, Nat.reduceAdd, Nat.reduceSub, Nat.reduceLeDiff, Nat.zero_add, Nat.sub_zero, ynew]); try simp only [yback])
  generalize hH5 : AH.new H2 _ = H5
  obtain ⟨hb5, p25, n5⟩ := new_facts hH5
  generalize hH3 : AH.new H5 _ = H3
  obtain ⟨hb3, p3, n3⟩ := new_facts hH3
  generalize hH4 : AH.new H3 _ = H4
  obtain ⟨hb4, p4, n4⟩ := new_facts hH4
  have pz := (p25.trans p3).trans p4
  have lu : Lst H4 H2.length (gen 0 (fun a : Nat => (tat t a (fcJ t fz) (fcK t fz) * e).tmod t.p)) true := pre_get (p3.trans p4) hb5
  have lv : Lst H4 H5.length [] true := pre_get p4 hb3
  have lw : Lst H4 H3.length [] true := hb4
  ((try simp (maxSteps := 3000000) (dsimp := false) (disch := first | omega | (simp only [len_new, len_put, len_kill]; omega)) only [↓ypre, ypost, ↓reduceIte, Nat.reduceEqDiff, Nat.reduceAdd, Nat.reduceSub, Nat.reduceLeDiff, Nat.zero_add, Nat.sub_zero, ynew, rd1_of (pre_get pz hb1)]); try simp only [yback])
  refine WC_loop_inv (fun m f K1 => ∃ (a : Nat) (ku : Nat) (fu : Bool), m = t.i.toNat - a ∧ a ≤ t.i.toNat ∧ f 1 = .pointer (some ⟨h.length, 0, none⟩) ∧ f 5 = I64 (fcI t fz) ∧ f 6 = I64 (fcJ t fz) ∧ f 7 = I64 (fcK t fz) ∧ f 8 = I64 e ∧ f 9 = sl ku (gen a (fun a : Nat => (tat t a (fcJ t fz) (fcK t fz) * e).tmod t.p)).length ∧ f 10 = sl H5.length 0 ∧ f 11 = sl H3.length 0 ∧ f 56 = I64 t.i ∧ f 57 = I64 a ∧ (H2 <+: K1) ∧ (Lst K1 ku (gen a (fun a : Nat => (tat t a (fcJ t fz) (fcK t fz) * e).tmod t.p)) fu) ∧ (Lst K1 H5.length [] true) ∧ (Lst K1 H3.length [] true) ∧ ((H2.length ≤ ku ∧ H2.length ≤ H5.length ∧ H2.length ≤ H3.length) ∧ ku ≠ H5.length ∧ ku ≠ H3.length ∧ H5.length ≠ H3.length)) ?_ (t.i.toNat - 0) _ _ ⟨0, H2.length, true, rfl, by omega, (by first | rfl | simp [upd_apply]), (by first | rfl | simp [upd_apply]), (by first | rfl | simp [upd_apply]), (by first | rfl | simp [upd_apply]), (by first | rfl | simp [upd_apply]), (by first | rfl | simp [upd_apply]), (by first | rfl | simp [upd_apply]), (by first | rfl | simp [upd_apply]), (by first | rfl | simp [upd_apply]), (by first | rfl | simp [upd_apply]), pz, lu, lv, lw, ⟨⟨by omega, by omega, by omega⟩, by omega, by omega, by omega⟩⟩
  rintro m f K1 ⟨a, ku, fu, rfl, ha, f1, f5, f6, f7, f8, f9, f10, f11, f56, f57, pp, lu, lv, lw, hd⟩
  have hbK := pre_get pp hb1
  have hvK := hv.pre (p1.trans pp)
  have gl := gen_len (N := a) (g := fun a : Nat => (tat t a (fcJ t fz) (fcK t fz) * e).tmod t.p)
  by_cases hlt : (a : Int) < t.i
  · have ta := tat_in tf (i := (a : Int)) (show 0 ≤ (a : Int) ∧ (a : Int) < t.i by omega) pj pk
    ((try simp (maxSteps := 3000000) (dsimp := false) (disch := first | omega | (simp only [len_new, len_put, len_kill]; omega)) only [↓ypre, ypost, ↓reduceIte, Nat.reduceEqDiff, Nat.reduceAdd, Nat.reduceSub, Nat.reduceLeDiff, Nat.zero_add, Nat.sub_zero, ynew, f1, f5, f6, f7, f8, f9, f10, f11, f56, f57, decide_eq_true hlt, rdn_of hbK]); try simp only [yback])
    refine i_at hvK tf (by omega) pj pk fun H5 p5 => ?_
    have mb := mul_in (A := 5) (B := 5) (show 0 ≤ tat t a (fcJ t fz) (fcK t fz) ∧ tat t a (fcJ t fz) (fcK t fz) ≤ 5 by omega) (show 0 ≤ e ∧ e ≤ 5 by omega)
    ((try simp (maxSteps := 3000000) (dsimp := false) (disch := first | omega | (simp only [len_new, len_put, len_kill]; omega)) only [↓ypre, ypost, ↓reduceIte, Nat.reduceEqDiff, Nat.reduceAdd, Nat.reduceSub, Nat.reduceLeDiff, Nat.zero_add, Nat.sub_zero, ynew, f1, f5, f6, f7, f8, f9, f10, f11, f56, f57, rd1_of (pre_get p5 hbK), bin_rem, wrap64_in]); try simp only [yback])
    refine ⟨p5, ?_⟩
    refine (lu.pre p5).app3 (by omega) fun H6 l6 pre6 keep6 lu' => ?_
    have l5 := pre_len p5
    have lt0 := lu.lt
    have lt1 := lv.lt
    have lt2 := lw.lt
    ((try simp (maxSteps := 3000000) (dsimp := false) (disch := first | omega | (simp only [len_new, len_put, len_kill]; omega)) only [↓ypre, ypost, ↓reduceIte, Nat.reduceEqDiff, Nat.reduceAdd, Nat.reduceSub, Nat.reduceLeDiff, Nat.zero_add, Nat.sub_zero, ynew, f1, f5, f6, f7, f8, f9, f10, f11, f56, f57, wrap64_in]); try simp only [yback])
    rw [← gen_succ] at lu'
    refine InvQ_go (t.i.toNat - (a + 1)) (by omega) ⟨(a + 1), (H5.length + 1), false, rfl, by omega, (by first | rfl | exact f1 | (simp only [upd_apply]; rfl) | (show I64 _ = _; congr 1; omega)), (by first | rfl | exact f5 | (simp only [upd_apply]; rfl) | (show I64 _ = _; congr 1; omega)), (by first | rfl | exact f6 | (simp only [upd_apply]; rfl) | (show I64 _ = _; congr 1; omega)), (by first | rfl | exact f7 | (simp only [upd_apply]; rfl) | (show I64 _ = _; congr 1; omega)), (by first | rfl | exact f8 | (simp only [upd_apply]; rfl) | (show I64 _ = _; congr 1; omega)), (by rw [gen_succ]; rfl), (by first | rfl | exact f10 | (simp only [upd_apply]; rfl) | (show I64 _ = _; congr 1; omega)), (by first | rfl | exact f11 | (simp only [upd_apply]; rfl) | (show I64 _ = _; congr 1; omega)), (by first | rfl | exact f56 | (simp only [upd_apply]; rfl) | (show I64 _ = _; congr 1; omega)), (by first | rfl | exact f57 | (simp only [upd_apply]; rfl) | (show I64 _ = _; congr 1; omega)), (pre6 _ hd.1.1 (pp.trans p5)), lu', (keep6 _ _ (fun e => hd.2.1 e.symm) (lv.pre p5)), (keep6 _ _ (fun e => hd.2.2.1 e.symm) (lw.pre p5)), ⟨⟨by omega, by omega, by omega⟩, by omega, by omega, by omega⟩⟩
  have ea : a = t.i.toNat := by omega
  subst ea
  ((try simp (maxSteps := 3000000) (dsimp := false) (disch := first | omega | (simp only [len_new, len_put, len_kill]; omega)) only [↓ypre, ypost, ↓reduceIte, Nat.reduceEqDiff, Nat.reduceAdd, Nat.reduceSub, Nat.reduceLeDiff, Nat.zero_add, Nat.sub_zero, ynew, f1, f5, f6, f7, f8, f9, f10, f11, f56, f57, rd1_of hbK, decide_eq_false hlt]); try simp only [yback])
  refine WC_loop_inv (fun m f K2 => ∃ (b : Nat) (kv : Nat) (fv : Bool), m = t.j.toNat - b ∧ b ≤ t.j.toNat ∧ f 1 = .pointer (some ⟨h.length, 0, none⟩) ∧ f 5 = I64 (fcI t fz) ∧ f 6 = I64 (fcJ t fz) ∧ f 7 = I64 (fcK t fz) ∧ f 8 = I64 e ∧ f 9 = sl ku (gen t.i.toNat (fun a : Nat => (tat t a (fcJ t fz) (fcK t fz) * e).tmod t.p)).length ∧ f 10 = sl kv (gen b (fun b : Nat => (tat t (fcI t fz) b (fcK t fz) * e).tmod t.p)).length ∧ f 11 = sl H3.length 0 ∧ f 75 = I64 t.j ∧ f 76 = I64 b ∧ (H2 <+: K2) ∧ (Lst K2 ku (gen t.i.toNat (fun a : Nat => (tat t a (fcJ t fz) (fcK t fz) * e).tmod t.p)) fu) ∧ (Lst K2 kv (gen b (fun b : Nat => (tat t (fcI t fz) b (fcK t fz) * e).tmod t.p)) fv) ∧ (Lst K2 H3.length [] true) ∧ ((H2.length ≤ ku ∧ H2.length ≤ kv ∧ H2.length ≤ H3.length) ∧ ku ≠ kv ∧ ku ≠ H3.length ∧ kv ≠ H3.length)) ?_ (t.j.toNat - 0) _ _ ⟨0, H5.length, true, rfl, by omega, (by first | rfl | exact f1 | (simp [upd_apply]; done)), (by first | rfl | exact f5 | (simp [upd_apply]; done)), (by first | rfl | exact f6 | (simp [upd_apply]; done)), (by first | rfl | exact f7 | (simp [upd_apply]; done)), (by first | rfl | exact f8 | (simp [upd_apply]; done)), (by first | rfl | exact f9 | (simp [upd_apply]; done)), (by first | rfl | exact f10 | (simp [upd_apply]; done)), (by first | rfl | exact f11 | (simp [upd_apply]; done)), (by first | rfl | simp [upd_apply]), (by first | rfl | simp [upd_apply]), pp, lu, lv, lw, hd⟩
  rintro m f K2 ⟨b, kv, fv, rfl, hb, f1, f5, f6, f7, f8, f9, f10, f11, f75, f76, pp, lu, lv, lw, hd⟩
  have hbK := pre_get pp hb1
  have hvK := hv.pre (p1.trans pp)
  have gl := gen_len (N := b) (g := fun b : Nat => (tat t (fcI t fz) b (fcK t fz) * e).tmod t.p)
  by_cases hlt : (b : Int) < t.j
  · have ta := tat_in tf pi (show 0 ≤ (b : Int) ∧ (b : Int) < t.j by omega) pk
    ((try simp (maxSteps := 3000000) (dsimp := false) (disch := first | omega | (simp only [len_new, len_put, len_kill]; omega)) only [↓ypre, ypost, ↓reduceIte, Nat.reduceEqDiff, Nat.reduceAdd, Nat.reduceSub, Nat.reduceLeDiff, Nat.zero_add, Nat.sub_zero, ynew, f1, f5, f6, f7, f8, f9, f10, f11, f75, f76, decide_eq_true hlt, rdn_of hbK]); try simp only [yback])
    refine i_at hvK tf pi (by omega) pk fun H5 p5 => ?_
    have mb := mul_in (A := 5) (B := 5) (show 0 ≤ tat t (fcI t fz) b (fcK t fz) ∧ tat t (fcI t fz) b (fcK t fz) ≤ 5 by omega) (show 0 ≤ e ∧ e ≤ 5 by omega)
    ((try simp (maxSteps := 3000000) (dsimp := false) (disch := first | omega | (simp only [len_new, len_put, len_kill]; omega)) only [↓ypre, ypost, ↓reduceIte, Nat.reduceEqDiff, Nat.reduceAdd, Nat.reduceSub, Nat.reduceLeDiff, Nat.zero_add, Nat.sub_zero, ynew, f1, f5, f6, f7, f8, f9, f10, f11, f75, f76, rd1_of (pre_get p5 hbK), bin_rem, wrap64_in]); try simp only [yback])
    refine ⟨p5, ?_⟩
    refine (lv.pre p5).app3 (by omega) fun H6 l6 pre6 keep6 lv' => ?_
    have l5 := pre_len p5
    have lt0 := lu.lt
    have lt1 := lv.lt
    have lt2 := lw.lt
    ((try simp (maxSteps := 3000000) (dsimp := false) (disch := first | omega | (simp only [len_new, len_put, len_kill]; omega)) only [↓ypre, ypost, ↓reduceIte, Nat.reduceEqDiff, Nat.reduceAdd, Nat.reduceSub, Nat.reduceLeDiff, Nat.zero_add, Nat.sub_zero, ynew, f1, f5, f6, f7, f8, f9, f10, f11, f75, f76, wrap64_in]); try simp only [yback])
    rw [← gen_succ] at lv'
    refine InvQ_go (t.j.toNat - (b + 1)) (by omega) ⟨(b + 1), (H5.length + 1), false, rfl, by omega, (by first | rfl | exact f1 | (simp only [upd_apply]; rfl) | (show I64 _ = _; congr 1; omega)), (by first | rfl | exact f5 | (simp only [upd_apply]; rfl) | (show I64 _ = _; congr 1; omega)), (by first | rfl | exact f6 | (simp only [upd_apply]; rfl) | (show I64 _ = _; congr 1; omega)), (by first | rfl | exact f7 | (simp only [upd_apply]; rfl) | (show I64 _ = _; congr 1; omega)), (by first | rfl | exact f8 | (simp only [upd_apply]; rfl) | (show I64 _ = _; congr 1; omega)), (by first | rfl | exact f9 | (simp only [upd_apply]; rfl) | (show I64 _ = _; congr 1; omega)), (by rw [gen_succ]; rfl), (by first | rfl | exact f11 | (simp only [upd_apply]; rfl) | (show I64 _ = _; congr 1; omega)), (by first | rfl | exact f75 | (simp only [upd_apply]; rfl) | (show I64 _ = _; congr 1; omega)), (by first | rfl | exact f76 | (simp only [upd_apply]; rfl) | (show I64 _ = _; congr 1; omega)), (pre6 _ hd.1.2.1 (pp.trans p5)), (keep6 _ _ hd.2.1 (lu.pre p5)), lv', (keep6 _ _ (fun e => hd.2.2.2 e.symm) (lw.pre p5)), ⟨⟨by omega, by omega, by omega⟩, by omega, by omega, by omega⟩⟩
  have eb : b = t.j.toNat := by omega
  subst eb
  ((try simp (maxSteps := 3000000) (dsimp := false) (disch := first | omega | (simp only [len_new, len_put, len_kill]; omega)) only [↓ypre, ypost, ↓reduceIte, Nat.reduceEqDiff, Nat.reduceAdd, Nat.reduceSub, Nat.reduceLeDiff, Nat.zero_add, Nat.sub_zero, ynew, f1, f5, f6, f7, f8, f9, f10, f11, f75, f76, rd1_of hbK, decide_eq_false hlt]); try simp only [yback])
  refine WC_loop_inv (fun m f K3 => ∃ (c : Nat) (kw : Nat) (fw : Bool), m = t.k.toNat - c ∧ c ≤ t.k.toNat ∧ f 1 = .pointer (some ⟨h.length, 0, none⟩) ∧ f 5 = I64 (fcI t fz) ∧ f 6 = I64 (fcJ t fz) ∧ f 7 = I64 (fcK t fz) ∧ f 8 = I64 e ∧ f 9 = sl ku (gen t.i.toNat (fun a : Nat => (tat t a (fcJ t fz) (fcK t fz) * e).tmod t.p)).length ∧ f 10 = sl kv (gen t.j.toNat (fun b : Nat => (tat t (fcI t fz) b (fcK t fz) * e).tmod t.p)).length ∧ f 11 = sl kw (gen c (fun c : Nat => tat t (fcI t fz) (fcJ t fz) c)).length ∧ f 94 = I64 t.k ∧ f 95 = I64 c ∧ (H2 <+: K3) ∧ (Lst K3 ku (gen t.i.toNat (fun a : Nat => (tat t a (fcJ t fz) (fcK t fz) * e).tmod t.p)) fu) ∧ (Lst K3 kv (gen t.j.toNat (fun b : Nat => (tat t (fcI t fz) b (fcK t fz) * e).tmod t.p)) fv) ∧ (Lst K3 kw (gen c (fun c : Nat => tat t (fcI t fz) (fcJ t fz) c)) fw) ∧ ((H2.length ≤ ku ∧ H2.length ≤ kv ∧ H2.length ≤ kw) ∧ ku ≠ kv ∧ ku ≠ kw ∧ kv ≠ kw)) ?_ (t.k.toNat - 0) _ _ ⟨0, H3.length, true, rfl, by omega, (by first | rfl | exact f1 | (simp [upd_apply]; done)), (by first | rfl | exact f5 | (simp [upd_apply]; done)), (by first | rfl | exact f6 | (simp [upd_apply]; done)), (by first | rfl | exact f7 | (simp [upd_apply]; done)), (by first | rfl | exact f8 | (simp [upd_apply]; done)), (by first | rfl | exact f9 | (simp [upd_apply]; done)), (by first | rfl | exact f10 | (simp [upd_apply]; done)), (by first | rfl | exact f11 | (simp [upd_apply]; done)), (by first | rfl | simp [upd_apply]), (by first | rfl | simp [upd_apply]), pp, lu, lv, lw, hd⟩
  rintro m f K3 ⟨c, kw, fw, rfl, hc, f1, f5, f6, f7, f8, f9, f10, f11, f94, f95, pp, lu, lv, lw, hd⟩
  have hbK := pre_get pp hb1
  have hvK := hv.pre (p1.trans pp)
  have gl := gen_len (N := c) (g := fun c : Nat => tat t (fcI t fz) (fcJ t fz) c)
  by_cases hlt : (c : Int) < t.k
  · have ta := tat_in tf pi pj (show 0 ≤ (c : Int) ∧ (c : Int) < t.k by omega)
    ((try simp (maxSteps := 3000000) (dsimp := false) (disch := first | omega | (simp only [len_new, len_put, len_kill]; omega)) only [↓ypre, ypost, ↓reduceIte, Nat.reduceEqDiff, Nat.reduceAdd, Nat.reduceSub, Nat.reduceLeDiff, Nat.zero_add, Nat.sub_zero, ynew, f1, f5, f6, f7, f8, f9, f10, f11, f94, f95, decide_eq_true hlt, rdn_of hbK]); try simp only [yback])
    refine i_at hvK tf pi pj (by omega) fun H5 p5 => ?_
    ((try simp (maxSteps := 3000000) (dsimp := false) (disch := first | omega | (simp only [len_new, len_put, len_kill]; omega)) only [↓ypre, ypost, ↓reduceIte, Nat.reduceEqDiff, Nat.reduceAdd, Nat.reduceSub, Nat.reduceLeDiff, Nat.zero_add, Nat.sub_zero, ynew, f1, f5, f6, f7, f8, f9, f10, f11, f94, f95, wrap64_in]); try simp only [yback])
    refine (lw.pre p5).app3 (by omega) fun H6 l6 pre6 keep6 lw' => ?_
    have l5 := pre_len p5
    have lt0 := lu.lt
    have lt1 := lv.lt
    have lt2 := lw.lt
    ((try simp (maxSteps := 3000000) (dsimp := false) (disch := first | omega | (simp only [len_new, len_put, len_kill]; omega)) only [↓ypre, ypost, ↓reduceIte, Nat.reduceEqDiff, Nat.reduceAdd, Nat.reduceSub, Nat.reduceLeDiff, Nat.zero_add, Nat.sub_zero, ynew, f1, f5, f6, f7, f8, f9, f10, f11, f94, f95, wrap64_in]); try simp only [yback])
    rw [← gen_succ] at lw'
    refine InvQ_go (t.k.toNat - (c + 1)) (by omega) ⟨(c + 1), (H5.length + 1), false, rfl, by omega, (by first | rfl | exact f1 | (simp only [upd_apply]; rfl) | (show I64 _ = _; congr 1; omega)), (by first | rfl | exact f5 | (simp only [upd_apply]; rfl) | (show I64 _ = _; congr 1; omega)), (by first | rfl | exact f6 | (simp only [upd_apply]; rfl) | (show I64 _ = _; congr 1; omega)), (by first | rfl | exact f7 | (simp only [upd_apply]; rfl) | (show I64 _ = _; congr 1; omega)), (by first | rfl | exact f8 | (simp only [upd_apply]; rfl) | (show I64 _ = _; congr 1; omega)), (by first | rfl | exact f9 | (simp only [upd_apply]; rfl) | (show I64 _ = _; congr 1; omega)), (by first | rfl | exact f10 | (simp only [upd_apply]; rfl) | (show I64 _ = _; congr 1; omega)), (by rw [gen_succ]; rfl), (by first | rfl | exact f94 | (simp only [upd_apply]; rfl) | (show I64 _ = _; congr 1; omega)), (by first | rfl | exact f95 | (simp only [upd_apply]; rfl) | (show I64 _ = _; congr 1; omega)), (pre6 _ hd.1.2.2 (pp.trans p5)), (keep6 _ _ hd.2.2.1 (lu.pre p5)), (keep6 _ _ hd.2.2.2 (lv.pre p5)), lw', ⟨⟨by omega, by omega, by omega⟩, by omega, by omega, by omega⟩⟩
  have ec : c = t.k.toNat := by omega
  subst ec
  ((try simp (maxSteps := 3000000) (dsimp := false) (disch := first | omega | (simp only [len_new, len_put, len_kill]; omega)) only [↓ypre, ypost, ↓reduceIte, Nat.reduceEqDiff, Nat.reduceAdd, Nat.reduceSub, Nat.reduceLeDiff, Nat.zero_add, Nat.sub_zero, ynew, f1, f5, f6, f7, f8, f9, f10, f11, f94, f95, decide_eq_false hlt]); try simp only [yback])
  ((try simp (maxSteps := 3000000) (dsimp := false) (disch := first | omega | (simp only [len_new, len_put, len_kill]; omega)) only [↓ypre, ypost, ↓reduceIte, Nat.reduceEqDiff, Nat.reduceAdd, Nat.reduceSub, Nat.reduceLeDiff, Nat.zero_add, Nat.sub_zero, ynew, f1, f5, f6, f7, f8, f9, f10, f11, f94, f95, sl_cells, sl_one, fillL, zrep]); try simp only [yback])
  have hp := p1.trans pp
  have o := fc_three hp lu lv lw (by have := pre_len p1; omega) hd.2
  exact hQ _ _ (pre_new hp) o
theorem faR_small (t : Ten) : SmallM (faR t).1 := by
  unfold faR
  split
  · rename_i h
    have tf := isT_facts h
    have fi := tf.i
    have fj := tf.j
    have fk := tf.k
    split
    · have e1 : (fcU t (fcF t) (fcE t)).length = t.i.toNat := gen_len
      have e2 : (fcV t (fcF t) (fcE t)).length = t.j.toNat := gen_len
      have e3 : (fcW t (fcF t)).length = t.k.toNat := gen_len
      refine smallM_of (A := 3) (B := 9) (by simp [fcR]) (fun i hi => ?_) (by omega)
      have hi' : i < 3 := by simpa [fcR] using hi
      have hc : i = 0 ∨ i = 1 ∨ i = 2 := by omega
      rcases hc with rfl | rfl | rfl
      · show (fcU t (fcF t) (fcE t)).length ≤ 9
        omega
      · show (fcV t (fcF t) (fcE t)).length ≤ 9
        omega
      · show (fcW t (fcF t)).length ≤ 9
        omega
    · exact smallM_nil
  · exact smallM_nil
end Go.Proofs.Ytapafdpnmakekaa.X

set_option linter.unusedVariables false
set_option linter.unusedSimpArgs false
set_option maxRecDepth 20000
set_option maxHeartbeats 4000000
namespace Go.Proofs.Ytapafdpnmakekaa.X
open Go Go.RowKit
theorem l_rows5 {v w : Value} {rows : List (List Int)} {h : AH} {Q : Value → AH → Prop} (hv : Rows h v rows) (hw : Rows h w rows) (hl : SmallM rows)
    (hQ : Q (.bool true) h) : WF S 48 [v, w] h Q := by
  refine WF_fn (fn := c48) rfl rfl ?_
  unfold c48
  obtain ⟨cs, hc, hcl, -⟩ := id hv
  obtain ⟨ds, hd, hdl, -⟩ := id hw
  have c1 := hc.len
  have c2 := hd.len
  rw [hcl] at c1
  rw [hdl] at c2
  have h1 := hl.1
  ((try simp (maxSteps := 3000000) (dsimp := false) (disch := first | omega | (simp only [len_new, len_put, len_kill]; omega)) only [↓ypre, ypost, ↓reduceIte, Nat.reduceEqDiff, Nat.reduceAdd, Nat.reduceSub, Nat.reduceLeDiff, Nat.zero_add, Nat.sub_zero, ynew, c1, c2, decide_eq_false (show ¬ (rows.length : Int) ≠ rows.length from fun h => h rfl)]); try simp only [yback])
  refine WC_loop_inv (fun m f K1 => ∃ (i : Nat), m = rows.length - i ∧ i ≤ rows.length ∧ f 0 = v ∧ f 1 = w ∧ f 5 = I64 i ∧ (K1 = h)) ?_ (rows.length - 0) _ _ ⟨0, rfl, by omega, (by first | rfl | simp [upd_apply]), (by first | rfl | simp [upd_apply]), (by first | rfl | simp [upd_apply]), rfl⟩
  rintro m f K1 ⟨i, rfl, hi, f0, f1, f5, hK⟩
  subst hK
  by_cases hlt : (i : Int) < rows.length
  · obtain ⟨n1, o1, x1, hix1, hrd1, i1⟩ := hv.row (i := i) (by omega)
    obtain ⟨n2, o2, x2, hix2, hrd2, i2⟩ := hw.row (i := i) (by omega)
    ((try simp (maxSteps := 3000000) (dsimp := false) (disch := first | omega | (simp only [len_new, len_put, len_kill]; omega)) only [↓ypre, ypost, ↓reduceIte, Nat.reduceEqDiff, Nat.reduceAdd, Nat.reduceSub, Nat.reduceLeDiff, Nat.zero_add, Nat.sub_zero, ynew, f0, f1, f5, c1, decide_eq_true hlt, hix1, hrd1, hix2, hrd2]); try simp only [yback])
    refine l_likeInts i1 i2 (hl.2.1 i (by omega)) ?_
    ((try simp (maxSteps := 3000000) (dsimp := false) (disch := first | omega | (simp only [len_new, len_put, len_kill]; omega)) only [↓ypre, ypost, ↓reduceIte, Nat.reduceEqDiff, Nat.reduceAdd, Nat.reduceSub, Nat.reduceLeDiff, Nat.zero_add, Nat.sub_zero, ynew, f0, f1, f5, decide_true, wrap64_in]); try simp only [yback])
    refine InvQ_go (rows.length - (i + 1)) (by omega) ⟨(i + 1), rfl, by omega, (by first | rfl | exact f0 | (simp only [upd_apply]; rfl) | (show I64 _ = _; congr 1; omega)), (by first | rfl | exact f1 | (simp only [upd_apply]; rfl) | (show I64 _ = _; congr 1; omega)), (by first | rfl | exact f5 | (simp only [upd_apply]; rfl) | (show I64 _ = _; congr 1; omega)), rfl⟩
  · ((try simp (maxSteps := 3000000) (dsimp := false) (disch := first | omega | (simp only [len_new, len_put, len_kill]; omega)) only [↓ypre, ypost, ↓reduceIte, Nat.reduceEqDiff, Nat.reduceAdd, Nat.reduceSub, Nat.reduceLeDiff, Nat.zero_add, Nat.sub_zero, ynew, f0, f1, f5, c1, decide_eq_false hlt]); try simp only [yback])
    exact hQ
theorem WO_join2 {S : XS} {ops : List XI} {a b REST : IR} {f : Fr} {h : AH} {R : XE → Fr → AH → Prop} (I : Fr → AH → Prop) (w : WO S ops f h (RegQ (SeqQ S a (SeqQ S b (JnQ I))))) (hr : ∀ f h, I f h → WC S REST f h R) :
    WO S ops f h (RegQ (SeqQ S a (SeqQ S (.seq b REST) R))) := by
  refine w.mono fun f1 h1 q => ?_
  refine WC.mono q fun e f2 h2 q2 => ?_
  cases e with
  | normal =>
    show WC S (.seq b REST) f2 h2 R
    rw [WC_seq]
    exact WO_mono' I q2 hr
  | exit id => exact q2.elim
  | ret => exact q2.elim
theorem tm_ab {x p : Int} (hp : 1 ≤ p ∧ p ≤ 5) : -5 ≤ x.tmod p ∧ x.tmod p ≤ 5 := by
  by_cases h : 0 ≤ x
  · have := tmod_in h hp.1
    omega
  · have := tmod_in (a := -x) (J := p) (by omega) hp.1
    rw [Int.neg_tmod] at this
    omega
theorem mul_ab {A B : Nat} {x y : Int} (hx : -(A : Int) ≤ x ∧ x ≤ A) (hy : -(B : Int) ≤ y ∧ y ≤ B) : -((A * B : Nat) : Int) ≤ x * y ∧ x * y ≤ ((A * B : Nat) : Int) := by
  have h := Nat.mul_le_mul (show x.natAbs ≤ A by omega) (show y.natAbs ≤ B by omega)
  rw [← Int.natAbs_mul] at h
  omega
theorem nth_any {t : Ten} (f : TF t) (x : Int) : 0 ≤ nth t.ns x ∧ nth t.ns x ≤ 5 := by
  have hp := f.p
  by_cases h : x.toNat < t.ns.length
  · have := f.num (x.toNat : Int) (by omega) (by omega)
    simp only [nth, Int.toNat_natCast] at this ⊢
    omega
  · have : nth t.ns x = 0 := by
      unfold nth
      rw [List.getD_eq_getElem?_getD, List.getElem?_eq_none (by omega)]
      rfl
    omega
theorem fc_lin {i j k J K : Nat} : ((i : Int) * J + j) * K + k = ((i * (J * K) + j * K + k : Nat) : Int) := by
  push_cast
  grind
theorem fc_make {t : Ten} (f : TF t) (ok : fcOK t = true) {i j k J K : Nat} (hJ : t.j = J) (hK : t.k = K) (hi : (i : Int) < t.i) (hj : j < J) (hk : k < K) :
    i * (J * K) + j * K + k < t.ns.length ∧ ((fcU t (fcF t) (fcE t)).getD i 0 * (fcV t (fcF t) (fcE t)).getD j 0 * (fcW t (fcF t)).getD k 0).tmod t.p = t.ns.getD (i * (J * K) + j * K + k) 0 ∧
    (-25 ≤ (fcU t (fcF t) (fcE t)).getD i 0 * (fcV t (fcF t) (fcE t)).getD j 0 ∧ (fcU t (fcF t) (fcE t)).getD i 0 * (fcV t (fcF t) (fcE t)).getD j 0 ≤ 25) ∧
    (-125 ≤ (fcU t (fcF t) (fcE t)).getD i 0 * (fcV t (fcF t) (fcE t)).getD j 0 * (fcW t (fcF t)).getD k 0 ∧ (fcU t (fcF t) (fcE t)).getD i 0 * (fcV t (fcF t) (fcE t)).getD j 0 * (fcW t (fcF t)).getD k 0 ≤ 125) := by
  unfold fcOK at ok
  rw [Bool.and_eq_true] at ok
  have hp := f.p
  obtain ⟨h1, h2⟩ := fcAt_at f (f := fcF t) (e := fcE t) (a := i) (b := j) (c := k) (by omega) (by omega) (by omega)
  have h3 := h2.1 (allN_at ok.2 h1)
  have eU : (fcU t (fcF t) (fcE t)).getD i 0 = (tat t i (fcJ t (fcF t)) (fcK t (fcF t)) * fcE t).tmod t.p := gen_get (by omega)
  have eV : (fcV t (fcF t) (fcE t)).getD j 0 = (tat t (fcI t (fcF t)) j (fcK t (fcF t)) * fcE t).tmod t.p := gen_get (by omega)
  have eW : (fcW t (fcF t)).getD k 0 = tat t (fcI t (fcF t)) (fcJ t (fcF t)) k := gen_get (by omega)
  have el : ((((i : Int) * t.j + j) * t.k + k)).toNat = i * (J * K) + j * K + k := by
    rw [hJ, hK, fc_lin, Int.toNat_natCast]
  rw [eU, eV, eW]
  rw [el] at h1
  have a1 := tm_ab (x := tat t i (fcJ t (fcF t)) (fcK t (fcF t)) * fcE t) (p := t.p) (by omega)
  have a2 := tm_ab (x := tat t (fcI t (fcF t)) j (fcK t (fcF t)) * fcE t) (p := t.p) (by omega)
  have a3 := nth_any f ((fcI t (fcF t) * t.j + fcJ t (fcF t)) * t.k + k)
  have b1 := mul_ab (A := 5) (B := 5) a1 a2
  have b2 := mul_ab (A := 25) (B := 5) (x := (tat t i (fcJ t (fcF t)) (fcK t (fcF t)) * fcE t).tmod t.p * (tat t (fcI t (fcF t)) j (fcK t (fcF t)) * fcE t).tmod t.p) (y := tat t (fcI t (fcF t)) (fcJ t (fcF t)) k) (by omega) ⟨by unfold tat; omega, by unfold tat; omega⟩
  refine ⟨h1, ?_, by omega, by omega⟩
  rw [h3]
  show nth t.ns _ = _
  unfold nth
  rw [el]
theorem zrep_one {n : Nat} {v : Value} : zrep n [v] = List.replicate n v := by
  induction n with
  | zero => rfl
  | succ n ih => simp [zrep, List.replicate_succ] at ih ⊢; try exact ih
theorem slL {n I : Nat} : lenV (sl n I) = some (.int .i64 I) := rfl
theorem con_ok {t : Ten} {ns : List Int} (f : TF t) (hP : isP t.p = true) (hn : allIn t.p ns = true) (hl : (ns.length : Int) = t.i) : rrOK t.p (conM t ns) := by
  have fj := f.j
  have fk := f.k
  have w : width (conM t ns) = t.k.toNat := by
    unfold width
    rw [conM_get (by omega), gen_len]
  refine ⟨hP, by rw [conM_len]; omega, by rw [w]; omega, isMat_iff.2 fun j hj => ?_⟩
  rw [conM_len] at hj
  rw [w, conM_get hj, gen_len]
  refine ⟨rfl, allIn_iff.2 fun k hk => ?_⟩
  rw [gen_len] at hk
  rw [gen_get hk]
  have := conA_in f hn hl (b := j) (c := k) (by omega) (by omega) (a := t.i.toNat) (by have := f.i; omega)
  omega
theorem slR_0 {t : Ten} {a : Int} (h : (slR t 0 a).2 = 0) : isT t = true ∧ (0 ≤ a ∧ a < t.i) ∧ (slR t 0 a).1 = sliceT t a := by
  unfold slR at h ⊢
  split at h
  · rename_i h1
    split at h
    · rename_i h2
      rw [if_pos h1, if_pos h2]
      exact ⟨h1, h2.2, rfl⟩
    · simp at h
  · simp at h
theorem numAt_in {t : Ten} {i j k : Int} (h : isT t = true) (hh : (0 ≤ i ∧ i < t.i) ∧ (0 ≤ j ∧ j < t.j) ∧ (0 ≤ k ∧ k < t.k)) : numAt t i j k = .tuple #[I64 (tat t i j k), I64 0] := by
  unfold numAt
  rw [if_pos h, if_pos hh]
theorem flR_len (t : Ten) : (((flR t).1.length : Nat) : Int) ≤ 1048576 := by
  unfold flR
  split <;> simp [gen_len]
theorem law_Simples {h : AH} {cv : Value} {code : List (List Int)} (c : Els .u8 1 h cv code) (b : Byt 1 code) : WF S 9 [cv] h (fun v _ => v = .bool true) := by
  refine WF_fn (fn := c9) rfl rfl ?_
  unfold c9
  ((try simp (maxSteps := 3000000) (dsimp := false) (disch := first | omega | (simp only [len_new, len_put, len_kill]; omega)) only [↓ypre, ypost, ↓reduceIte, Nat.reduceEqDiff, Nat.reduceAdd, Nat.reduceSub, Nat.reduceLeDiff, Nat.zero_add, Nat.sub_zero, ynew]); try simp only [yback])
  refine l_big c ?_
  by_cases hbig : (code.length : Int) > 4096
  · ((try simp (maxSteps := 3000000) (dsimp := false) (disch := first | omega | (simp only [len_new, len_put, len_kill]; omega)) only [↓ypre, ypost, ↓reduceIte, Nat.reduceEqDiff, Nat.reduceAdd, Nat.reduceSub, Nat.reduceLeDiff, Nat.zero_add, Nat.sub_zero, ynew, decide_eq_true hbig]); try simp only [yback])
  ((try simp (maxSteps := 3000000) (dsimp := false) (disch := first | omega | (simp only [len_new, len_put, len_kill]; omega)) only [↓ypre, ypost, ↓reduceIte, Nat.reduceEqDiff, Nat.reduceAdd, Nat.reduceSub, Nat.reduceLeDiff, Nat.zero_add, Nat.sub_zero, ynew, decide_eq_false hbig]); try simp only [yback])
  have c : Cod h cv code := ⟨c, b, by omega⟩
  refine s_DrawFactorsOfSimple c fun t v H1 p1 hv tb => ?_
  refine WO_cut (fun f : Fr => f 0 = cv ∧ f 62 = tenV t v ∧ True) ⟨(by first | rfl | simp [upd_apply]), (by first | rfl | simp [upd_apply]), trivial⟩ ?_
  rintro f ⟨f0, f62, -⟩
  ((try simp (maxSteps := 3000000) (dsimp := false) (disch := first | omega | (simp only [len_new, len_put, len_kill]; omega)) only [↓ypre, ypost, ↓reduceIte, Nat.reduceEqDiff, Nat.reduceAdd, Nat.reduceSub, Nat.reduceLeDiff, Nat.zero_add, Nat.sub_zero, ynew, f0, f62, tenV, hv.one]); try simp only [yback])
  generalize hH2 : AH.new H1 _ = H2
  obtain ⟨g2, p2, n2⟩ := new_facts hH2
  ((try simp (maxSteps := 3000000) (dsimp := false) (disch := first | omega | (simp only [len_new, len_put, len_kill]; omega)) only [↓ypre, ypost, ↓reduceIte, Nat.reduceEqDiff, Nat.reduceAdd, Nat.reduceSub, Nat.reduceLeDiff, Nat.zero_add, Nat.sub_zero, ynew, f0, f62, rdn_of g2]); try simp only [yback])
  refine i_FactorsOfSimple (t := t) (hv.pre p2) tb.l fun v1 H3 p3 o3 => ?_
  generalize hR : faR t = R at o3
  have g2 := pre_get p3 g2
  refine WO_cut (fun f : Fr => f 0 = cv ∧ f 3 = .pointer (some ⟨H1.length, 0, none⟩) ∧ f 65 = .tuple #[v1, I64 R.2] ∧ True) ⟨(by first | rfl | exact f0 | simp [upd_apply, f0]), (by first | rfl | simp [upd_apply]), (by first | rfl | simp [upd_apply]), trivial⟩ ?_
  rintro f ⟨f0, f3, f65, -⟩
  ((try simp (maxSteps := 3000000) (dsimp := false) (disch := first | omega | (simp only [len_new, len_put, len_kill]; omega)) only [↓ypre, ypost, ↓reduceIte, Nat.reduceEqDiff, Nat.reduceAdd, Nat.reduceSub, Nat.reduceLeDiff, Nat.zero_add, Nat.sub_zero, ynew, f0, f3, f65, rdn_of g2]); try simp only [yback])
  refine s_FactorsOfSimple (t := t) (hv.pre (p2.trans p3)) tb.l fun v2 H4 p4 o4 => ?_
  rw [hR] at o4 ⊢
  have g2 := pre_get p4 g2
  refine WO_cut (fun f : Fr => f 0 = cv ∧ f 3 = .pointer (some ⟨H1.length, 0, none⟩) ∧ f 4 = v1 ∧ f 5 = I64 R.2 ∧ f 70 = .tuple #[v2, I64 R.2] ∧ True) ⟨(by first | rfl | exact f0 | simp [upd_apply, f0]), (by first | rfl | exact f3 | simp [upd_apply, f3]), (by first | rfl | simp [upd_apply]), (by first | rfl | simp [upd_apply]), (by first | rfl | simp [upd_apply]), trivial⟩ ?_
  rintro f ⟨f0, f3, f4, f5, f70, -⟩
  ((try simp (maxSteps := 3000000) (dsimp := false) (disch := first | omega | (simp only [len_new, len_put, len_kill]; omega)) only [↓ypre, ypost, ↓reduceIte, Nat.reduceEqDiff, Nat.reduceAdd, Nat.reduceSub, Nat.reduceLeDiff, Nat.zero_add, Nat.sub_zero, ynew, f0, f3, f4, f5, f70, rdn_of g2]); try simp only [yback])
  refine i_IsSimple (t := t) (hv.pre (p2.trans (p3.trans p4))) tb.l fun H5 p5 => ?_
  have g2 := pre_get p5 g2
  refine WO_cut (fun f : Fr => f 0 = cv ∧ f 3 = .pointer (some ⟨H1.length, 0, none⟩) ∧ f 4 = v1 ∧ f 5 = I64 R.2 ∧ f 6 = v2 ∧ f 7 = I64 R.2 ∧ f 75 = .tuple #[.bool (siR t).1, I64 (siR t).2] ∧ True) ⟨(by first | rfl | exact f0 | simp [upd_apply, f0]), (by first | rfl | exact f3 | simp [upd_apply, f3]), (by first | rfl | exact f4 | simp [upd_apply, f4]), (by first | rfl | exact f5 | simp [upd_apply, f5]), (by first | rfl | simp [upd_apply]), (by first | rfl | simp [upd_apply]), (by first | rfl | simp [upd_apply]), trivial⟩ ?_
  rintro f ⟨f0, f3, f4, f5, f6, f7, f75, -⟩
  ((try simp (maxSteps := 3000000) (dsimp := false) (disch := first | omega | (simp only [len_new, len_put, len_kill]; omega)) only [↓ypre, ypost, ↓reduceIte, Nat.reduceEqDiff, Nat.reduceAdd, Nat.reduceSub, Nat.reduceLeDiff, Nat.zero_add, Nat.sub_zero, ynew, f0, f3, f4, f5, f6, f7, f75, rdn_of g2]); try simp only [yback])
  refine s_IsSimple (t := t) (hv.pre ((p2.trans (p3.trans p4)).trans p5)) tb.l fun H6 p6 => ?_
  have g2 := pre_get p6 g2
  refine WO_cut (fun f : Fr => f 0 = cv ∧ f 3 = .pointer (some ⟨H1.length, 0, none⟩) ∧ f 4 = v1 ∧ f 5 = I64 R.2 ∧ f 6 = v2 ∧ f 7 = I64 R.2 ∧ f 8 = .bool (siR t).1 ∧ f 9 = I64 (siR t).2 ∧ f 80 = .tuple #[.bool (siR t).1, I64 (siR t).2] ∧ True) ⟨(by first | rfl | exact f0 | simp [upd_apply, f0]), (by first | rfl | exact f3 | simp [upd_apply, f3]), (by first | rfl | exact f4 | simp [upd_apply, f4]), (by first | rfl | exact f5 | simp [upd_apply, f5]), (by first | rfl | exact f6 | simp [upd_apply, f6]), (by first | rfl | exact f7 | simp [upd_apply, f7]), (by first | rfl | simp [upd_apply]), (by first | rfl | simp [upd_apply]), (by first | rfl | simp [upd_apply]), trivial⟩ ?_
  rintro f ⟨f0, f3, f4, f5, f6, f7, f8, f9, f80, -⟩
  ((try simp (maxSteps := 3000000) (dsimp := false) (disch := first | omega | (simp only [len_new, len_put, len_kill]; omega)) only [↓ypre, ypost, ↓reduceIte, Nat.reduceEqDiff, Nat.reduceAdd, Nat.reduceSub, Nat.reduceLeDiff, Nat.zero_add, Nat.sub_zero, ynew, f0, f3, f4, f5, f6, f7, f8, f9, f80, decide_eq_false (show ¬ R.2 ≠ R.2 from fun h => h rfl)]); try simp only [yback])
  have hs : SmallM R.1 := hR ▸ faR_small t
  have r1 := o3.rows.pre ((p4.trans p5).trans p6)
  have r2 := o4.rows.pre (p5.trans p6)
  refine l_rows5 r1 r2 hs ?_
  have pA : H1 <+: H6 := p2.trans ((p3.trans p4).trans (p5.trans p6))
  refine WO_cut (fun f : Fr => f 0 = cv ∧ f 3 = .pointer (some ⟨H1.length, 0, none⟩) ∧ f 4 = v1 ∧ f 5 = I64 R.2 ∧ f 8 = .bool (siR t).1 ∧ f 9 = I64 (siR t).2 ∧ f 10 = .bool (siR t).1 ∧ f 11 = I64 (siR t).2 ∧ f 86 = .bool false ∧ f 89 = .bool true ∧ True) ⟨(by first | rfl | exact f0 | simp [upd_apply, f0]), (by first | rfl | exact f3 | simp [upd_apply, f3]), (by first | rfl | exact f4 | simp [upd_apply, f4]), (by first | rfl | exact f5 | simp [upd_apply, f5]), (by first | rfl | exact f8 | simp [upd_apply, f8]), (by first | rfl | exact f9 | simp [upd_apply, f9]), (by first | rfl | simp [upd_apply]), (by first | rfl | simp [upd_apply]), (by first | rfl | simp [upd_apply]), (by first | rfl | simp [upd_apply]), trivial⟩ ?_
  rintro f ⟨f0, f3, f4, f5, f8, f9, f10, f11, f86, f89, -⟩
  refine WO_join2 (Kcv h cv) ?_ ?_
  · have pB : h <+: H6 := p1.trans pA
    have m1 : decide ((1 : Int) ≠ 1) = false := by decide
    have m2 : decide ((0 : Int) ≠ 0) = false := by decide
    have m3 : decide ((1 : Int) = 0) = false := by decide
    have m4 : decide ((5 : Int) = 0) = false := by decide
    have m5 : decide ((0 : Int) = 0) = true := by decide
    have b1 : ((false == false) != true) = false := rfl
    have b2 : ((true == true) != true) = false := rfl
    cases ht : isT t
    · have e : R = ([], 1) := by rw [← hR]; unfold faR; simp [ht]
      have es : siR t = (false, 1) := by unfold siR; simp [ht]
      rw [e] at f5
      rw [es] at f8 f9 f10 f11
      ((try simp (maxSteps := 3000000) (dsimp := false) (disch := first | omega | (simp only [len_new, len_put, len_kill]; omega)) only [↓ypre, ypost, ↓reduceIte, Nat.reduceEqDiff, Nat.reduceAdd, Nat.reduceSub, Nat.reduceLeDiff, Nat.zero_add, Nat.sub_zero, ynew, f0, f3, f4, f5, f8, f9, f10, f11, f86, f89, m1, m3, b1]); try simp only [yback])
      rw [JnQ_n]
      exact ⟨f0, pB⟩
    cases hf : fcOK t
    · have e : R = ([], 5) := by rw [← hR]; unfold faR; simp [ht, hf]
      have es : siR t = (false, 0) := by unfold siR; simp [ht, hf]
      rw [e] at f5
      rw [es] at f8 f9 f10 f11
      ((try simp (maxSteps := 3000000) (dsimp := false) (disch := first | omega | (simp only [len_new, len_put, len_kill]; omega)) only [↓ypre, ypost, ↓reduceIte, Nat.reduceEqDiff, Nat.reduceAdd, Nat.reduceSub, Nat.reduceLeDiff, Nat.zero_add, Nat.sub_zero, ynew, f0, f3, f4, f5, f8, f9, f10, f11, f86, f89, m2, m4, m5, b1]); try simp only [yback])
      rw [JnQ_n]
      exact ⟨f0, pB⟩
    have e : R = (fcR t, 0) := by rw [← hR]; unfold faR; simp [ht, hf]
    have es : siR t = (true, 0) := by unfold siR; simp [ht, hf]
    rw [e] at f5 r1
    rw [es] at f8 f9 f10 f11
    have tF := isT_facts ht
    have fi := tF.i
    have fj := tF.j
    have fk := tF.k
    obtain ⟨I, hI⟩ : ∃ I : Nat, t.i = I := ⟨t.i.toNat, by omega⟩
    obtain ⟨J, hJ⟩ : ∃ J : Nat, t.j = J := ⟨t.j.toNat, by omega⟩
    obtain ⟨K, hK⟩ : ∃ K : Nat, t.k = K := ⟨t.k.toNat, by omega⟩
    obtain ⟨n1, q1, x1, hx1, hr1, i1⟩ := r1.row (i := 0) (by simp [fcR])
    obtain ⟨n2, q2, x2, hx2, hr2, i2⟩ := r1.row (i := 1) (by simp [fcR])
    obtain ⟨n3, q3, x3, hx3, hr3, i3⟩ := r1.row (i := 2) (by simp [fcR])
    have i1 : Ints H6 x1 (fcU t (fcF t) (fcE t)) := i1
    have i2 : Ints H6 x2 (fcV t (fcF t) (fcE t)) := i2
    have i3 : Ints H6 x3 (fcW t (fcF t)) := i3
    have hx1 := fun kk => hx1 kk
    have y1 : ixsV 1 v1 (I64 0) = some (.pointer (some ⟨n1, q1, none⟩)) := hx1 .i64
    have y2 : ixsV 1 v1 (I64 1) = some (.pointer (some ⟨n2, q2, none⟩)) := hx2 .i64
    have y3 : ixsV 1 v1 (I64 2) = some (.pointer (some ⟨n3, q3, none⟩)) := hx3 .i64
    have l1 := i1.len
    have l2 := i2.len
    have l3 := i3.len
    rw [show (fcU t (fcF t) (fcE t)).length = I by simp only [fcU, gen_len]; omega] at l1
    rw [show (fcV t (fcF t) (fcE t)).length = J by simp only [fcV, gen_len]; omega] at l2
    rw [show (fcW t (fcF t)).length = K by simp only [fcW, gen_len]; omega] at l3
    ((try simp (maxSteps := 3000000) (dsimp := false) (disch := first | omega | (simp only [len_new, len_put, len_kill]; omega)) only [↓ypre, ypost, ↓reduceIte, Nat.reduceEqDiff, Nat.reduceAdd, Nat.reduceSub, Nat.reduceLeDiff, Nat.zero_add, Nat.sub_zero, ynew, f0, f3, f4, f5, f8, f9, f10, f11, f86, f89, m2, m5, b2]); try simp only [yback])
    refine WC_loop_inv (fun m f K1 => ∃ (i : Nat), m = I - i ∧ i ≤ I ∧ f 0 = cv ∧ f 3 = .pointer (some ⟨H1.length, 0, none⟩) ∧ f 4 = v1 ∧ f 12 = I64 ((i * (J * K) : Nat) : Int) ∧ f 13 = I64 i ∧ (K1 = H6)) ?_ (I - 0) _ _ ⟨0, rfl, by omega, (by first | rfl | exact f0 | (simp [upd_apply]; done)), (by first | rfl | exact f3 | (simp [upd_apply]; done)), (by first | rfl | exact f4 | (simp [upd_apply]; done)), (by first | rfl | simp [upd_apply]), (by first | rfl | simp [upd_apply]), rfl⟩
    rintro m f K1 ⟨i, rfl, hi, f0, f3, f4, f12, f13, hK1⟩
    subst hK1
    by_cases hli : (i : Int) < I
    · ((try simp (maxSteps := 3000000) (dsimp := false) (disch := first | omega | (simp only [len_new, len_put, len_kill]; omega)) only [↓ypre, ypost, ↓reduceIte, Nat.reduceEqDiff, Nat.reduceAdd, Nat.reduceSub, Nat.reduceLeDiff, Nat.zero_add, Nat.sub_zero, ynew, f0, f3, f4, f12, f13, y1, hr1, l1, decide_eq_true hli]); try simp only [yback])
      have f12 : f 12 = I64 ((i * (J * K) + 0 * K : Nat) : Int) := by rw [f12, Nat.zero_mul, Nat.add_zero]
      refine WC_loop_inv (fun m f K2 => ∃ (j : Nat), m = J - j ∧ j ≤ J ∧ f 0 = cv ∧ f 3 = .pointer (some ⟨H1.length, 0, none⟩) ∧ f 4 = v1 ∧ f 12 = I64 ((i * (J * K) + j * K : Nat) : Int) ∧ f 13 = I64 i ∧ f 14 = I64 j ∧ (K2 = K1)) ?_ (J - 0) _ _ ⟨0, rfl, by omega, (by first | rfl | exact f0 | (simp [upd_apply]; done)), (by first | rfl | exact f3 | (simp [upd_apply]; done)), (by first | rfl | exact f4 | (simp [upd_apply]; done)), (by first | rfl | exact f12 | (simp [upd_apply]; done)), (by first | rfl | exact f13 | (simp [upd_apply]; done)), (by first | rfl | simp [upd_apply]), rfl⟩
      rintro m f K2 ⟨j, rfl, hj, f0, f3, f4, f12, f13, f14, hK2⟩
      subst hK2
      by_cases hlj : (j : Int) < J
      · ((try simp (maxSteps := 3000000) (dsimp := false) (disch := first | omega | (simp only [len_new, len_put, len_kill]; omega)) only [↓ypre, ypost, ↓reduceIte, Nat.reduceEqDiff, Nat.reduceAdd, Nat.reduceSub, Nat.reduceLeDiff, Nat.zero_add, Nat.sub_zero, ynew, f0, f3, f4, f12, f13, f14, y2, hr2, l2, decide_eq_true hlj]); try simp only [yback])
        refine WC_loop_inv (fun m f K3 => ∃ (k : Nat), m = K - k ∧ k ≤ K ∧ f 0 = cv ∧ f 3 = .pointer (some ⟨H1.length, 0, none⟩) ∧ f 4 = v1 ∧ f 12 = I64 ((i * (J * K) + j * K + k : Nat) : Int) ∧ f 13 = I64 i ∧ f 14 = I64 j ∧ f 15 = I64 k ∧ (K3 = K2)) ?_ (K - 0) _ _ ⟨0, rfl, by omega, (by first | rfl | exact f0 | (simp [upd_apply]; done)), (by first | rfl | exact f3 | (simp [upd_apply]; done)), (by first | rfl | exact f4 | (simp [upd_apply]; done)), (by first | rfl | exact f12 | (simp [upd_apply]; done)), (by first | rfl | exact f13 | (simp [upd_apply]; done)), (by first | rfl | exact f14 | (simp [upd_apply]; done)), (by first | rfl | simp [upd_apply]), rfl⟩
        rintro m f K3 ⟨k, rfl, hk, f0, f3, f4, f12, f13, f14, f15, hK3⟩
        subst hK3
        by_cases hlk : (k : Int) < K
        · obtain ⟨at1, at2, at3, at4⟩ := fc_make tF hf (i := i) (j := j) (k := k) hJ hK (by omega) (by omega) (by omega)
          obtain ⟨m1, w1, ix1, rd1⟩ := i1.cell (j := i) (by simp only [fcU, gen_len]; omega)
          obtain ⟨m2, w2, ix2, rd2⟩ := i2.cell (j := j) (by simp only [fcV, gen_len]; omega)
          obtain ⟨m3, w3, ix3, rd3⟩ := i3.cell (j := k) (by simp only [fcW, gen_len]; omega)
          obtain ⟨m4, w4, ix4, rd4⟩ := (hv.pre pA).cell at1
          have hp := tF.p
          have hl := tb.ns
          have d1 := decide_eq_false (show ¬ ((fcU t (fcF t) (fcE t)).getD i 0 * (fcV t (fcF t) (fcE t)).getD j 0 * (fcW t (fcF t)).getD k 0).tmod t.p ≠ t.ns.getD (i * (J * K) + j * K + k) 0 from fun h => h at2)
          ((try simp (maxSteps := 3000000) (dsimp := false) (disch := first | omega | (simp only [len_new, len_put, len_kill]; omega)) only [↓ypre, ypost, ↓reduceIte, Nat.reduceEqDiff, Nat.reduceAdd, Nat.reduceSub, Nat.reduceLeDiff, Nat.zero_add, Nat.sub_zero, ynew, f0, f3, f4, f12, f13, f14, f15, y1, y2, y3, hr1, hr2, hr3, l3, decide_eq_true hlk, ix1, ix2, ix3, rd1, rd2, rd3, rd1_of g2, ix4, rd4, wrap64_in, bin_rem (show t.p ≠ 0 by omega), d1]); try simp only [yback])
          refine InvQ_go (K - (k + 1)) (by omega) ⟨(k + 1), rfl, by omega, (by first | rfl | exact f0 | (simp only [upd_apply]; rfl) | (show I64 _ = _; congr 1; omega)), (by first | rfl | exact f3 | (simp only [upd_apply]; rfl) | (show I64 _ = _; congr 1; omega)), (by first | rfl | exact f4 | (simp only [upd_apply]; rfl) | (show I64 _ = _; congr 1; omega)), (by first | rfl | exact f12 | (simp only [upd_apply]; rfl) | (show I64 _ = _; congr 1; omega)), (by first | rfl | exact f13 | (simp only [upd_apply]; rfl) | (show I64 _ = _; congr 1; omega)), (by first | rfl | exact f14 | (simp only [upd_apply]; rfl) | (show I64 _ = _; congr 1; omega)), (by first | rfl | exact f15 | (simp only [upd_apply]; rfl) | (show I64 _ = _; congr 1; omega)), rfl⟩
        · have ek : k = K := by omega
          have f12 : f 12 = I64 ((i * (J * K) + (j + 1) * K : Nat) : Int) := by rw [f12, ek, Nat.succ_mul, ← Nat.add_assoc]
          ((try simp (maxSteps := 3000000) (dsimp := false) (disch := first | omega | (simp only [len_new, len_put, len_kill]; omega)) only [↓ypre, ypost, ↓reduceIte, Nat.reduceEqDiff, Nat.reduceAdd, Nat.reduceSub, Nat.reduceLeDiff, Nat.zero_add, Nat.sub_zero, ynew, f0, f3, f4, f12, f13, f14, f15, y3, hr3, l3, decide_eq_false hlk, wrap64_in]); try simp only [yback])
          refine InvQ_go (J - (j + 1)) (by omega) ⟨(j + 1), rfl, by omega, (by first | rfl | exact f0 | (simp only [upd_apply]; rfl) | (show I64 _ = _; congr 1; omega)), (by first | rfl | exact f3 | (simp only [upd_apply]; rfl) | (show I64 _ = _; congr 1; omega)), (by first | rfl | exact f4 | (simp only [upd_apply]; rfl) | (show I64 _ = _; congr 1; omega)), (by first | rfl | exact f12 | (simp only [upd_apply]; rfl) | (show I64 _ = _; congr 1; omega)), (by first | rfl | exact f13 | (simp only [upd_apply]; rfl) | (show I64 _ = _; congr 1; omega)), (by first | rfl | exact f14 | (simp only [upd_apply]; rfl) | (show I64 _ = _; congr 1; omega)), rfl⟩
      · have ej : j = J := by omega
        have f12 : f 12 = I64 (((i + 1) * (J * K) : Nat) : Int) := by rw [f12, ej, Nat.succ_mul]
        ((try simp (maxSteps := 3000000) (dsimp := false) (disch := first | omega | (simp only [len_new, len_put, len_kill]; omega)) only [↓ypre, ypost, ↓reduceIte, Nat.reduceEqDiff, Nat.reduceAdd, Nat.reduceSub, Nat.reduceLeDiff, Nat.zero_add, Nat.sub_zero, ynew, f0, f3, f4, f12, f13, f14, y2, hr2, l2, decide_eq_false hlj, wrap64_in]); try simp only [yback])
        refine InvQ_go (I - (i + 1)) (by omega) ⟨(i + 1), rfl, by omega, (by first | rfl | exact f0 | (simp only [upd_apply]; rfl) | (show I64 _ = _; congr 1; omega)), (by first | rfl | exact f3 | (simp only [upd_apply]; rfl) | (show I64 _ = _; congr 1; omega)), (by first | rfl | exact f4 | (simp only [upd_apply]; rfl) | (show I64 _ = _; congr 1; omega)), (by first | rfl | exact f12 | (simp only [upd_apply]; rfl) | (show I64 _ = _; congr 1; omega)), (by first | rfl | exact f13 | (simp only [upd_apply]; rfl) | (show I64 _ = _; congr 1; omega)), rfl⟩
    · have ei : i = I := by omega
      ((try simp (maxSteps := 3000000) (dsimp := false) (disch := first | omega | (simp only [len_new, len_put, len_kill]; omega)) only [↓ypre, ypost, ↓reduceIte, Nat.reduceEqDiff, Nat.reduceAdd, Nat.reduceSub, Nat.reduceLeDiff, Nat.zero_add, Nat.sub_zero, ynew, f0, f3, f4, f13, y1, hr1, l1, decide_eq_false hli, rd1_of g2, hI]); try simp only [yback])
      refine ⟨by omega, ?_⟩
      generalize hH7 : AH.new K1 _ = H7
      obtain ⟨hb7, p7, n7⟩ := new_facts hH7
      have hI9 : I ≤ 9 := by omega
      have lp : ∀ x ∈ List.replicate I (0 : Int), 0 ≤ x ∧ x ≤ 1 := fun x hx => by
        rw [List.eq_of_mem_replicate hx]
        omega
      have hb7 : Lst H7 K1.length (List.replicate I (0 : Int)) true := by
        unfold Lst
        rw [hb7, List.map_replicate, Int.toNat_natCast, zrep_one]
      refine WC_loop_inv (fun m f K4 => ∃ (a : Nat) (l : List Int), m = I - a ∧ a ≤ I ∧ f 0 = cv ∧ f 3 = .pointer (some ⟨H1.length, 0, none⟩) ∧ f 16 = sl K1.length I ∧ f 17 = I64 a ∧ (K1 <+: K4) ∧ (Lst K4 K1.length l true) ∧ (l.length = I) ∧ (∀ x ∈ l, 0 ≤ x ∧ x ≤ 1)) ?_ (I - 0) _ _ ⟨0, List.replicate I 0, rfl, by omega, (by first | rfl | exact f0 | (simp [upd_apply]; done)), (by first | rfl | exact f3 | (simp [upd_apply]; done)), (by first | rfl | simp [upd_apply]), (by first | rfl | simp [upd_apply]), p7, hb7, List.length_replicate, lp⟩
      rintro m f K4 ⟨a, l, rfl, ha, f0, f3, f16, f17, pp, q, li, hx⟩
      by_cases hla : (a : Int) < I
      · have ixa : ixsV 1 (sl K1.length I) (I64 a) = some (.pointer (some ⟨K1.length, a, none⟩)) := Lst.ix (j := (a : Int)) ⟨by omega, by omega⟩
        obtain ⟨H9, w9, e9, q9⟩ := q.wr (j := a) (x := 1) (by omega)
        ((try simp (maxSteps := 3000000) (dsimp := false) (disch := first | omega | (simp only [len_new, len_put, len_kill]; omega)) only [↓ypre, ypost, ↓reduceIte, Nat.reduceEqDiff, Nat.reduceAdd, Nat.reduceSub, Nat.reduceLeDiff, Nat.zero_add, Nat.sub_zero, ynew, f0, f3, f16, f17, slL, decide_eq_true hla, ixa, w9, wrap64_in]); try simp only [yback])
        have pp9 : K1 <+: H9 := e9 ▸ pre_put pp (Nat.le_refl _)
        have hx9 : ∀ x ∈ l.set a 1, 0 ≤ x ∧ x ≤ 1 := fun x hx' => by
          rcases List.mem_or_eq_of_mem_set hx' with h | h
          · exact hx x h
          · rw [h]; omega
        refine InvQ_go (I - (a + 1)) (by omega) ⟨(a + 1), (l.set a 1), rfl, by omega, (by first | rfl | exact f0 | (simp only [upd_apply]; rfl) | (show I64 _ = _; congr 1; omega)), (by first | rfl | exact f3 | (simp only [upd_apply]; rfl) | (show I64 _ = _; congr 1; omega)), (by first | rfl | exact f16 | (simp only [upd_apply]; rfl) | (show I64 _ = _; congr 1; omega)), (by first | rfl | exact f17 | (simp only [upd_apply]; rfl) | (show I64 _ = _; congr 1; omega)), pp9, q9, (by rw [List.length_set]; exact li), hx9⟩
      · have g2 := pre_get pp g2
        ((try simp (maxSteps := 3000000) (dsimp := false) (disch := first | omega | (simp only [len_new, len_put, len_kill]; omega)) only [↓ypre, ypost, ↓reduceIte, Nat.reduceEqDiff, Nat.reduceAdd, Nat.reduceSub, Nat.reduceLeDiff, Nat.zero_add, Nat.sub_zero, ynew, f0, f3, f16, f17, slL, decide_eq_false hla, rdn_of g2]); try simp only [yback])
        have qi : Ints K4 (sl K1.length I) l := by
          have := q.ints
          rw [li] at this
          exact this
        refine i_ContractTensor (t := t) (s := 0) (ns := l) (hv.pre (pA.trans pp)) tb.l qi (by omega) fun v5 HA pA' oA => ?_
        have al : allIn t.p l = true := allIn_iff.2 fun j hj => by
          have := hx (l.getD j 0) (by rw [List.getD_eq_getElem?_getD, List.getElem?_eq_getElem hj]; exact List.getElem_mem hj)
          have := tF.p
          omega
        have el : (l.length : Int) = t.i := by omega
        have eC : coR t 0 l = (conM t l, 0) := by
          unfold coR
          rw [if_pos ht, if_pos ⟨⟨by omega, by omega⟩, al, el⟩]
          rfl
        rw [eC] at oA ⊢
        have g2 := pre_get pA' g2
        refine WO_cut (fun f : Fr => f 0 = cv ∧ f 3 = .pointer (some ⟨H1.length, 0, none⟩) ∧ f 184 = .tuple #[v5, I64 0] ∧ True) ⟨(by first | rfl | exact f0 | simp [upd_apply, f0]), (by first | rfl | exact f3 | simp [upd_apply, f3]), (by first | rfl | simp [upd_apply]), trivial⟩ ?_
        rintro f ⟨f0, f3, f184, -⟩
        ((try simp (maxSteps := 3000000) (dsimp := false) (disch := first | omega | (simp only [len_new, len_put, len_kill]; omega)) only [↓ypre, ypost, ↓reduceIte, Nat.reduceEqDiff, Nat.reduceAdd, Nat.reduceSub, Nat.reduceLeDiff, Nat.zero_add, Nat.sub_zero, ynew, f0, f3, f184, rd1_of g2]); try simp only [yback])
        have cr := con_ok tF (isT_isP ht) al el
        have rk := con_rank tF (isT_isP ht) hf al el
        refine i_RowRank i_rank (p := t.p) (rows := conM t l) oA.rows (coR_small t 0 l |> fun z => by rw [eC] at z; exact z.1) (coR_small t 0 l |> fun z => by rw [eC] at z; exact z.2.1) fun HB pB' => ?_
        have eR : rrR t.p (conM t l) = (((rankN t.p (conM t l) : Nat) : Int), (0 : Int)) := by
          unfold rrR
          rw [if_pos cr]
        rw [eR]
        refine WO_cut (fun f : Fr => f 0 = cv ∧ f 19 = I64 0 ∧ f 191 = .tuple #[I64 (rankN t.p (conM t l) : Nat), I64 0] ∧ True) ⟨(by first | rfl | exact f0 | simp [upd_apply, f0]), (by first | rfl | simp [upd_apply]), (by first | rfl | simp [upd_apply]), trivial⟩ ?_
        rintro f ⟨f0, f19, f191, -⟩
        ((try simp (maxSteps := 3000000) (dsimp := false) (disch := first | omega | (simp only [len_new, len_put, len_kill]; omega)) only [↓ypre, ypost, ↓reduceIte, Nat.reduceEqDiff, Nat.reduceAdd, Nat.reduceSub, Nat.reduceLeDiff, Nat.zero_add, Nat.sub_zero, ynew, f0, f19, f191, m2, decide_eq_false (show ¬ ((rankN t.p (conM t l) : Nat) : Int) > 1 by omega)]); try simp only [yback])
        rw [JnQ_n]
        exact ⟨f0, pB.trans (pp.trans (pA'.trans pB'))⟩
  rintro f HX ⟨f0, pX⟩
  ((try simp (maxSteps := 3000000) (dsimp := false) (disch := first | omega | (simp only [len_new, len_put, len_kill]; omega)) only [↓ypre, ypost, ↓reduceIte, Nat.reduceEqDiff, Nat.reduceAdd, Nat.reduceSub, Nat.reduceLeDiff, Nat.zero_add, Nat.sub_zero, ynew, f0]); try simp only [yback])
  refine s_DrawSliceOf (c.pre pX) fun t v sd at0 H1 p1 hv tb => ?_
  refine WO_cut (fun f : Fr => f 0 = cv ∧ f 206 = .tuple #[tenV t v, I64 sd, I64 at0] ∧ True) ⟨(by first | rfl | exact f0 | simp [upd_apply, f0]), (by first | rfl | simp [upd_apply]), trivial⟩ ?_
  rintro f ⟨f0, f206, -⟩
  ((try simp (maxSteps := 3000000) (dsimp := false) (disch := first | omega | (simp only [len_new, len_put, len_kill]; omega)) only [↓ypre, ypost, ↓reduceIte, Nat.reduceEqDiff, Nat.reduceAdd, Nat.reduceSub, Nat.reduceLeDiff, Nat.zero_add, Nat.sub_zero, ynew, f0, f206, tenV, hv.one]); try simp only [yback])
  generalize hH2 : AH.new H1 _ = H2
  obtain ⟨g2, p2, n2⟩ := new_facts hH2
  ((try simp (maxSteps := 3000000) (dsimp := false) (disch := first | omega | (simp only [len_new, len_put, len_kill]; omega)) only [↓ypre, ypost, ↓reduceIte, Nat.reduceEqDiff, Nat.reduceAdd, Nat.reduceSub, Nat.reduceLeDiff, Nat.zero_add, Nat.sub_zero, ynew, f0, f206, rdn_of g2]); try simp only [yback])
  refine i_SliceOf (t := t) (s := sd) (a := at0) (hv.pre p2) tb.l fun v1 H3 p3 o3 => ?_
  generalize hR : slR t sd at0 = R at o3
  have g2 := pre_get p3 g2
  refine WO_cut (fun f : Fr => f 0 = cv ∧ f 22 = .pointer (some ⟨H1.length, 0, none⟩) ∧ f 23 = I64 sd ∧ f 24 = I64 at0 ∧ f 214 = .tuple #[v1, I64 R.2] ∧ True) ⟨(by first | rfl | exact f0 | simp [upd_apply, f0]), (by first | rfl | simp [upd_apply]), (by first | rfl | simp [upd_apply]), (by first | rfl | simp [upd_apply]), (by first | rfl | simp [upd_apply]), trivial⟩ ?_
  rintro f ⟨f0, f22, f23, f24, f214, -⟩
  ((try simp (maxSteps := 3000000) (dsimp := false) (disch := first | omega | (simp only [len_new, len_put, len_kill]; omega)) only [↓ypre, ypost, ↓reduceIte, Nat.reduceEqDiff, Nat.reduceAdd, Nat.reduceSub, Nat.reduceLeDiff, Nat.zero_add, Nat.sub_zero, ynew, f0, f22, f23, f24, f214, rdn_of g2]); try simp only [yback])
  refine s_SliceOf (t := t) (s := sd) (a := at0) (hv.pre (p2.trans p3)) tb.l fun v2 H4 p4 o4 => ?_
  rw [hR] at o4 ⊢
  have g2 := pre_get p4 g2
  refine WO_cut (fun f : Fr => f 0 = cv ∧ f 22 = .pointer (some ⟨H1.length, 0, none⟩) ∧ f 23 = I64 sd ∧ f 24 = I64 at0 ∧ f 25 = v1 ∧ f 26 = I64 R.2 ∧ f 221 = .tuple #[v2, I64 R.2] ∧ True) ⟨(by first | rfl | exact f0 | simp [upd_apply, f0]), (by first | rfl | exact f22 | simp [upd_apply, f22]), (by first | rfl | exact f23 | simp [upd_apply, f23]), (by first | rfl | exact f24 | simp [upd_apply, f24]), (by first | rfl | simp [upd_apply]), (by first | rfl | simp [upd_apply]), (by first | rfl | simp [upd_apply]), trivial⟩ ?_
  rintro f ⟨f0, f22, f23, f24, f25, f26, f221, -⟩
  ((try simp (maxSteps := 3000000) (dsimp := false) (disch := first | omega | (simp only [len_new, len_put, len_kill]; omega)) only [↓ypre, ypost, ↓reduceIte, Nat.reduceEqDiff, Nat.reduceAdd, Nat.reduceSub, Nat.reduceLeDiff, Nat.zero_add, Nat.sub_zero, ynew, f0, f22, f23, f24, f25, f26, f221, decide_eq_false (show ¬ R.2 ≠ R.2 from fun h => h rfl)]); try simp only [yback])
  have hs : SmallM R.1 := hR ▸ slR_small t sd at0
  have r1 := o3.rows.pre p4
  refine l_rows5 r1 o4.rows hs ?_
  have pA : H1 <+: H4 := p2.trans (p3.trans p4)
  have pB : h <+: H4 := pX.trans (p1.trans pA)
  refine WO_cut (fun f : Fr => f 0 = cv ∧ f 22 = .pointer (some ⟨H1.length, 0, none⟩) ∧ f 23 = I64 sd ∧ f 24 = I64 at0 ∧ f 25 = v1 ∧ f 26 = I64 R.2 ∧ f 227 = .bool false ∧ f 230 = .bool true ∧ True) ⟨(by first | rfl | exact f0 | simp [upd_apply, f0]), (by first | rfl | exact f22 | simp [upd_apply, f22]), (by first | rfl | exact f23 | simp [upd_apply, f23]), (by first | rfl | exact f24 | simp [upd_apply, f24]), (by first | rfl | exact f25 | simp [upd_apply, f25]), (by first | rfl | exact f26 | simp [upd_apply, f26]), (by first | rfl | simp [upd_apply]), (by first | rfl | simp [upd_apply]), trivial⟩ ?_
  rintro f ⟨f0, f22, f23, f24, f25, f26, f227, f230, -⟩
  refine WO_join2 (Kcv h cv) ?_ ?_
  · by_cases z1 : R.2 = 0
    case neg =>
      ((try simp (maxSteps := 3000000) (dsimp := false) (disch := first | omega | (simp only [len_new, len_put, len_kill]; omega)) only [↓ypre, ypost, ↓reduceIte, Nat.reduceEqDiff, Nat.reduceAdd, Nat.reduceSub, Nat.reduceLeDiff, Nat.zero_add, Nat.sub_zero, ynew, f0, f22, f23, f24, f25, f26, f227, f230, decide_eq_false z1]); try simp only [yback])
      rw [JnQ_n]
      exact ⟨f0, pB⟩
    by_cases z2 : sd = 0
    case neg =>
      ((try simp (maxSteps := 3000000) (dsimp := false) (disch := first | omega | (simp only [len_new, len_put, len_kill]; omega)) only [↓ypre, ypost, ↓reduceIte, Nat.reduceEqDiff, Nat.reduceAdd, Nat.reduceSub, Nat.reduceLeDiff, Nat.zero_add, Nat.sub_zero, ynew, f0, f22, f23, f24, f25, f26, f227, f230, decide_eq_true z1, decide_eq_false z2]); try simp only [yback])
      rw [JnQ_n]
      exact ⟨f0, pB⟩
    subst z2
    obtain ⟨ht, ha0, hRe⟩ := slR_0 (show (slR t 0 at0).2 = 0 by rw [hR]; exact z1)
    rw [hR] at hRe
    rw [hRe] at r1
    have tF := isT_facts ht
    have fj := tF.j
    have fk := tF.k
    obtain ⟨J, hJ⟩ : ∃ J : Nat, t.j = J := ⟨t.j.toNat, by omega⟩
    obtain ⟨K, hK⟩ : ∃ K : Nat, t.k = K := ⟨t.k.toNat, by omega⟩
    have len1 : lenV v1 = some (I64 J) := by
      obtain ⟨cs, hc, hcl, -⟩ := id r1
      have := hc.len
      rw [hcl, sliceT_len] at this
      rw [this, hJ, Int.toNat_natCast]
    have mm : decide ((0 : Int) = 0) = true := by decide
    have m2 : decide ((0 : Int) ≠ 0) = false := by decide
    ((try simp (maxSteps := 3000000) (dsimp := false) (disch := first | omega | (simp only [len_new, len_put, len_kill]; omega)) only [↓ypre, ypost, ↓reduceIte, Nat.reduceEqDiff, Nat.reduceAdd, Nat.reduceSub, Nat.reduceLeDiff, Nat.zero_add, Nat.sub_zero, ynew, f0, f22, f23, f24, f25, f26, f227, f230, decide_eq_true z1, mm]); try simp only [yback])
    refine WC_loop_inv (fun m f K5 => ∃ (j : Nat), m = J - j ∧ j ≤ J ∧ f 0 = cv ∧ f 22 = .pointer (some ⟨H1.length, 0, none⟩) ∧ f 24 = I64 at0 ∧ f 25 = v1 ∧ f 29 = I64 j ∧ (H4 <+: K5)) ?_ (J - 0) _ _ ⟨0, rfl, by omega, (by first | rfl | exact f0 | (simp [upd_apply]; done)), (by first | rfl | exact f22 | (simp [upd_apply]; done)), (by first | rfl | exact f24 | (simp [upd_apply]; done)), (by first | rfl | exact f25 | (simp [upd_apply]; done)), (by first | rfl | simp [upd_apply]), List.prefix_refl _⟩
    rintro m f K5 ⟨j, rfl, hj, f0, f22, f24, f25, f29, pp⟩
    by_cases hlj : (j : Int) < J
    · obtain ⟨n1, q1, x1, hx1, hr1, i1⟩ := (r1.pre pp).row (i := j) (by rw [sliceT_len]; omega)
      rw [sliceT_get (by omega)] at i1
      have l1 := i1.len
      rw [gen_len, hK, Int.toNat_natCast] at l1
      ((try simp (maxSteps := 3000000) (dsimp := false) (disch := first | omega | (simp only [len_new, len_put, len_kill]; omega)) only [↓ypre, ypost, ↓reduceIte, Nat.reduceEqDiff, Nat.reduceAdd, Nat.reduceSub, Nat.reduceLeDiff, Nat.zero_add, Nat.sub_zero, ynew, f0, f22, f24, f25, f29, len1, decide_eq_true hlj]); try simp only [yback])
      refine WC_loop_inv (fun m f K6 => ∃ (k : Nat), m = K - k ∧ k ≤ K ∧ f 0 = cv ∧ f 22 = .pointer (some ⟨H1.length, 0, none⟩) ∧ f 24 = I64 at0 ∧ f 25 = v1 ∧ f 29 = I64 j ∧ f 30 = I64 k ∧ (K5 <+: K6)) ?_ (K - 0) _ _ ⟨0, rfl, by omega, (by first | rfl | exact f0 | (simp [upd_apply]; done)), (by first | rfl | exact f22 | (simp [upd_apply]; done)), (by first | rfl | exact f24 | (simp [upd_apply]; done)), (by first | rfl | exact f25 | (simp [upd_apply]; done)), (by first | rfl | exact f29 | (simp [upd_apply]; done)), (by first | rfl | simp [upd_apply]), List.prefix_refl _⟩
      rintro m f K6 ⟨k, rfl, hk, f0, f22, f24, f25, f29, f30, pp2⟩
      obtain ⟨n2, q2, x2, hx2, hr2, i2⟩ := (r1.pre (pp.trans pp2)).row (i := j) (by rw [sliceT_len]; omega)
      rw [sliceT_get (by omega)] at i2
      have l2 := i2.len
      rw [gen_len, hK, Int.toNat_natCast] at l2
      by_cases hlk : (k : Int) < K
      · have g22 := pre_get (pp.trans pp2) g2
        ((try simp (maxSteps := 3000000) (dsimp := false) (disch := first | omega | (simp only [len_new, len_put, len_kill]; omega)) only [↓ypre, ypost, ↓reduceIte, Nat.reduceEqDiff, Nat.reduceAdd, Nat.reduceSub, Nat.reduceLeDiff, Nat.zero_add, Nat.sub_zero, ynew, f0, f22, f24, f25, f29, f30, hx2, hr2, l2, decide_eq_true hlk, rdn_of g22]); try simp only [yback])
        refine i_NumberAt (t := t) (i := at0) (j := j) (k := k) (hv.pre (pA.trans (pp.trans pp2))) tb.l fun H5 p5 => ?_
        rw [numAt_in ht ⟨ha0, by omega, by omega⟩]
        obtain ⟨n3, q3, x3, hx3, hr3, i3⟩ := (r1.pre ((pp.trans pp2).trans p5)).row (i := j) (by rw [sliceT_len]; omega)
        rw [sliceT_get (by omega)] at i3
        obtain ⟨m4, w4, ix4, rd4⟩ := i3.cell (j := k) (by rw [gen_len]; omega)
        rw [gen_get (by omega)] at rd4
        ((try simp (maxSteps := 3000000) (dsimp := false) (disch := first | omega | (simp only [len_new, len_put, len_kill]; omega)) only [↓ypre, ypost, ↓reduceIte, Nat.reduceEqDiff, Nat.reduceAdd, Nat.reduceSub, Nat.reduceLeDiff, Nat.zero_add, Nat.sub_zero, ynew, f0, f22, f24, f25, f29, f30, m2, hx3, hr3, ix4, rd4, decide_eq_false (show ¬ tat t at0 j k ≠ tat t at0 j k from fun h => h rfl), wrap64_in]); try simp only [yback])
        refine InvQ_go (K - (k + 1)) (by omega) ⟨(k + 1), rfl, by omega, (by first | rfl | exact f0 | (simp only [upd_apply]; rfl) | (show I64 _ = _; congr 1; omega)), (by first | rfl | exact f22 | (simp only [upd_apply]; rfl) | (show I64 _ = _; congr 1; omega)), (by first | rfl | exact f24 | (simp only [upd_apply]; rfl) | (show I64 _ = _; congr 1; omega)), (by first | rfl | exact f25 | (simp only [upd_apply]; rfl) | (show I64 _ = _; congr 1; omega)), (by first | rfl | exact f29 | (simp only [upd_apply]; rfl) | (show I64 _ = _; congr 1; omega)), (by first | rfl | exact f30 | (simp only [upd_apply]; rfl) | (show I64 _ = _; congr 1; omega)), (pp2.trans p5)⟩
      · ((try simp (maxSteps := 3000000) (dsimp := false) (disch := first | omega | (simp only [len_new, len_put, len_kill]; omega)) only [↓ypre, ypost, ↓reduceIte, Nat.reduceEqDiff, Nat.reduceAdd, Nat.reduceSub, Nat.reduceLeDiff, Nat.zero_add, Nat.sub_zero, ynew, f0, f22, f24, f25, f29, f30, hx2, hr2, l2, decide_eq_false hlk, wrap64_in]); try simp only [yback])
        refine InvQ_go (J - (j + 1)) (by omega) ⟨(j + 1), rfl, by omega, (by first | rfl | exact f0 | (simp only [upd_apply]; rfl) | (show I64 _ = _; congr 1; omega)), (by first | rfl | exact f22 | (simp only [upd_apply]; rfl) | (show I64 _ = _; congr 1; omega)), (by first | rfl | exact f24 | (simp only [upd_apply]; rfl) | (show I64 _ = _; congr 1; omega)), (by first | rfl | exact f25 | (simp only [upd_apply]; rfl) | (show I64 _ = _; congr 1; omega)), (by first | rfl | exact f29 | (simp only [upd_apply]; rfl) | (show I64 _ = _; congr 1; omega)), (pp.trans pp2)⟩
    · have ej : j = J := by omega
      ((try simp (maxSteps := 3000000) (dsimp := false) (disch := first | omega | (simp only [len_new, len_put, len_kill]; omega)) only [↓ypre, ypost, ↓reduceIte, Nat.reduceEqDiff, Nat.reduceAdd, Nat.reduceSub, Nat.reduceLeDiff, Nat.zero_add, Nat.sub_zero, ynew, f0, f22, f24, f25, f29, len1, decide_eq_false hlj]); try simp only [yback])
      rw [JnQ_n]
      exact ⟨f0, pB.trans pp⟩
  rintro f HX ⟨f0, pX⟩
  ((try simp (maxSteps := 3000000) (dsimp := false) (disch := first | omega | (simp only [len_new, len_put, len_kill]; omega)) only [↓ypre, ypost, ↓reduceIte, Nat.reduceEqDiff, Nat.reduceAdd, Nat.reduceSub, Nat.reduceLeDiff, Nat.zero_add, Nat.sub_zero, ynew, f0]); try simp only [yback])
  refine s_DrawContractTensor (c.pre pX) fun t v wh ns w H1 p1 hv tb hw hns => ?_
  refine WO_cut (fun f : Fr => f 0 = cv ∧ f 277 = .tuple #[tenV t v, I64 wh, w] ∧ True) ⟨(by first | rfl | exact f0 | simp [upd_apply, f0]), (by first | rfl | simp [upd_apply]), trivial⟩ ?_
  rintro f ⟨f0, f277, -⟩
  ((try simp (maxSteps := 3000000) (dsimp := false) (disch := first | omega | (simp only [len_new, len_put, len_kill]; omega)) only [↓ypre, ypost, ↓reduceIte, Nat.reduceEqDiff, Nat.reduceAdd, Nat.reduceSub, Nat.reduceLeDiff, Nat.zero_add, Nat.sub_zero, ynew, f0, f277, tenV, hv.one]); try simp only [yback])
  generalize hH2 : AH.new H1 _ = H2
  obtain ⟨g2, p2, n2⟩ := new_facts hH2
  ((try simp (maxSteps := 3000000) (dsimp := false) (disch := first | omega | (simp only [len_new, len_put, len_kill]; omega)) only [↓ypre, ypost, ↓reduceIte, Nat.reduceEqDiff, Nat.reduceAdd, Nat.reduceSub, Nat.reduceLeDiff, Nat.zero_add, Nat.sub_zero, ynew, f0, f277, rdn_of g2]); try simp only [yback])
  refine i_ContractTensor (t := t) (s := wh) (ns := ns) (hv.pre p2) tb.l (hw.pre p2) (by omega) fun v1 H3 p3 o3 => ?_
  have hsR : SmallM (coR t wh ns).1 := coR_small t wh ns
  generalize hR : coR t wh ns = R at o3 hsR
  have g2 := pre_get p3 g2
  refine WO_cut (fun f : Fr => f 0 = cv ∧ f 33 = .pointer (some ⟨H1.length, 0, none⟩) ∧ f 34 = I64 wh ∧ f 35 = w ∧ f 285 = .tuple #[v1, I64 R.2] ∧ True) ⟨(by first | rfl | exact f0 | simp [upd_apply, f0]), (by first | rfl | simp [upd_apply]), (by first | rfl | simp [upd_apply]), (by first | rfl | simp [upd_apply]), (by first | rfl | simp [upd_apply]), trivial⟩ ?_
  rintro f ⟨f0, f33, f34, f35, f285, -⟩
  ((try simp (maxSteps := 3000000) (dsimp := false) (disch := first | omega | (simp only [len_new, len_put, len_kill]; omega)) only [↓ypre, ypost, ↓reduceIte, Nat.reduceEqDiff, Nat.reduceAdd, Nat.reduceSub, Nat.reduceLeDiff, Nat.zero_add, Nat.sub_zero, ynew, f0, f33, f34, f35, f285, rdn_of g2]); try simp only [yback])
  refine s_ContractTensor (t := t) (s := wh) (ns := ns) (hv.pre (p2.trans p3)) tb.l (hw.pre (p2.trans p3)) (by omega) fun v2 H4 p4 o4 => ?_
  rw [hR] at o4 ⊢
  refine WO_cut (fun f : Fr => f 0 = cv ∧ f 36 = v1 ∧ f 37 = I64 R.2 ∧ f 292 = .tuple #[v2, I64 R.2] ∧ True) ⟨(by first | rfl | exact f0 | simp [upd_apply, f0]), (by first | rfl | simp [upd_apply]), (by first | rfl | simp [upd_apply]), (by first | rfl | simp [upd_apply]), trivial⟩ ?_
  rintro f ⟨f0, f36, f37, f292, -⟩
  ((try simp (maxSteps := 3000000) (dsimp := false) (disch := first | omega | (simp only [len_new, len_put, len_kill]; omega)) only [↓ypre, ypost, ↓reduceIte, Nat.reduceEqDiff, Nat.reduceAdd, Nat.reduceSub, Nat.reduceLeDiff, Nat.zero_add, Nat.sub_zero, ynew, f0, f36, f37, f292]); try simp only [yback])
  refine s_DrawRowRank (c.pre (pX.trans (p1.trans (p2.trans (p3.trans p4))))) fun p rows w H5 p5 hp hr hl hl2 => ?_
  refine WO_cut (fun f : Fr => f 0 = cv ∧ f 36 = v1 ∧ f 37 = I64 R.2 ∧ f 38 = v2 ∧ f 39 = I64 R.2 ∧ f 297 = .tuple #[I64 p, w] ∧ True) ⟨(by first | rfl | exact f0 | simp [upd_apply, f0]), (by first | rfl | exact f36 | simp [upd_apply, f36]), (by first | rfl | exact f37 | simp [upd_apply, f37]), (by first | rfl | simp [upd_apply]), (by first | rfl | simp [upd_apply]), (by first | rfl | simp [upd_apply]), trivial⟩ ?_
  rintro f ⟨f0, f36, f37, f38, f39, f297, -⟩
  ((try simp (maxSteps := 3000000) (dsimp := false) (disch := first | omega | (simp only [len_new, len_put, len_kill]; omega)) only [↓ypre, ypost, ↓reduceIte, Nat.reduceEqDiff, Nat.reduceAdd, Nat.reduceSub, Nat.reduceLeDiff, Nat.zero_add, Nat.sub_zero, ynew, f0, f36, f37, f38, f39, f297]); try simp only [yback])
  refine i_RowRank i_rank (p := p) (rows := rows) hr (by omega) (fun i hi => by have := hl2 i hi; omega) fun H6 p6 => ?_
  refine WO_cut (fun f : Fr => f 0 = cv ∧ f 36 = v1 ∧ f 37 = I64 R.2 ∧ f 38 = v2 ∧ f 39 = I64 R.2 ∧ f 40 = I64 p ∧ f 41 = w ∧ f 303 = .tuple #[I64 (rrR p rows).1, I64 (rrR p rows).2] ∧ True) ⟨(by first | rfl | exact f0 | simp [upd_apply, f0]), (by first | rfl | exact f36 | simp [upd_apply, f36]), (by first | rfl | exact f37 | simp [upd_apply, f37]), (by first | rfl | exact f38 | simp [upd_apply, f38]), (by first | rfl | exact f39 | simp [upd_apply, f39]), (by first | rfl | simp [upd_apply]), (by first | rfl | simp [upd_apply]), (by first | rfl | simp [upd_apply]), trivial⟩ ?_
  rintro f ⟨f0, f36, f37, f38, f39, f40, f41, f303, -⟩
  ((try simp (maxSteps := 3000000) (dsimp := false) (disch := first | omega | (simp only [len_new, len_put, len_kill]; omega)) only [↓ypre, ypost, ↓reduceIte, Nat.reduceEqDiff, Nat.reduceAdd, Nat.reduceSub, Nat.reduceLeDiff, Nat.zero_add, Nat.sub_zero, ynew, f0, f36, f37, f38, f39, f40, f41, f303]); try simp only [yback])
  refine s_RowRank (p := p) (rows := rows) (hr.pre p6) (by omega) (fun i hi => by have := hl2 i hi; omega) fun H7 p7 => ?_
  generalize hW : rrR p rows = W
  simp only [hW] at f303
  refine WO_cut (fun f : Fr => f 0 = cv ∧ f 36 = v1 ∧ f 37 = I64 R.2 ∧ f 38 = v2 ∧ f 39 = I64 R.2 ∧ f 42 = I64 W.1 ∧ f 43 = I64 W.2 ∧ f 309 = .tuple #[I64 W.1, I64 W.2] ∧ True) ⟨(by first | rfl | exact f0 | simp [upd_apply, f0]), (by first | rfl | exact f36 | simp [upd_apply, f36]), (by first | rfl | exact f37 | simp [upd_apply, f37]), (by first | rfl | exact f38 | simp [upd_apply, f38]), (by first | rfl | exact f39 | simp [upd_apply, f39]), (by first | rfl | simp [upd_apply]), (by first | rfl | simp [upd_apply]), (by first | rfl | simp [upd_apply]), trivial⟩ ?_
  rintro f ⟨f0, f36, f37, f38, f39, f42, f43, f309, -⟩
  ((try simp (maxSteps := 3000000) (dsimp := false) (disch := first | omega | (simp only [len_new, len_put, len_kill]; omega)) only [↓ypre, ypost, ↓reduceIte, Nat.reduceEqDiff, Nat.reduceAdd, Nat.reduceSub, Nat.reduceLeDiff, Nat.zero_add, Nat.sub_zero, ynew, f0, f36, f37, f38, f39, f42, f43, f309]); try simp only [yback])
  refine s_DrawFlattenRanks (c.pre (pX.trans ((p1.trans (p2.trans (p3.trans p4))).trans (p5.trans (p6.trans p7))))) fun x y H8 p8 hy yb => ?_
  refine WO_cut (fun f : Fr => f 0 = cv ∧ f 36 = v1 ∧ f 37 = I64 R.2 ∧ f 38 = v2 ∧ f 39 = I64 R.2 ∧ f 42 = I64 W.1 ∧ f 43 = I64 W.2 ∧ f 44 = I64 W.1 ∧ f 45 = I64 W.2 ∧ f 313 = tenV x y ∧ True) ⟨(by first | rfl | exact f0 | simp [upd_apply, f0]), (by first | rfl | exact f36 | simp [upd_apply, f36]), (by first | rfl | exact f37 | simp [upd_apply, f37]), (by first | rfl | exact f38 | simp [upd_apply, f38]), (by first | rfl | exact f39 | simp [upd_apply, f39]), (by first | rfl | exact f42 | simp [upd_apply, f42]), (by first | rfl | exact f43 | simp [upd_apply, f43]), (by first | rfl | simp [upd_apply]), (by first | rfl | simp [upd_apply]), (by first | rfl | simp [upd_apply]), trivial⟩ ?_
  rintro f ⟨f0, f36, f37, f38, f39, f42, f43, f44, f45, f313, -⟩
  ((try simp (maxSteps := 3000000) (dsimp := false) (disch := first | omega | (simp only [len_new, len_put, len_kill]; omega)) only [↓ypre, ypost, ↓reduceIte, Nat.reduceEqDiff, Nat.reduceAdd, Nat.reduceSub, Nat.reduceLeDiff, Nat.zero_add, Nat.sub_zero, ynew, f0, f36, f37, f38, f39, f42, f43, f44, f45, f313, tenV, hy.one]); try simp only [yback])
  generalize hH9 : AH.new H8 _ = H9
  obtain ⟨g9, p9, n9⟩ := new_facts hH9
  ((try simp (maxSteps := 3000000) (dsimp := false) (disch := first | omega | (simp only [len_new, len_put, len_kill]; omega)) only [↓ypre, ypost, ↓reduceIte, Nat.reduceEqDiff, Nat.reduceAdd, Nat.reduceSub, Nat.reduceLeDiff, Nat.zero_add, Nat.sub_zero, ynew, f0, f36, f37, f38, f39, f42, f43, f44, f45, f313, rdn_of g9]); try simp only [yback])
  refine i_FlattenRanks (t := x) (hy.pre p9) yb.l fun v3 HA pA oA => ?_
  have hlF := flR_len x
  generalize hF : flR x = F at oA hlF
  have g9 := pre_get pA g9
  refine WO_cut (fun f : Fr => f 0 = cv ∧ f 36 = v1 ∧ f 37 = I64 R.2 ∧ f 38 = v2 ∧ f 39 = I64 R.2 ∧ f 42 = I64 W.1 ∧ f 43 = I64 W.2 ∧ f 44 = I64 W.1 ∧ f 45 = I64 W.2 ∧ f 46 = .pointer (some ⟨H8.length, 0, none⟩) ∧ f 316 = .tuple #[v3, I64 F.2] ∧ True) ⟨(by first | rfl | exact f0 | simp [upd_apply, f0]), (by first | rfl | exact f36 | simp [upd_apply, f36]), (by first | rfl | exact f37 | simp [upd_apply, f37]), (by first | rfl | exact f38 | simp [upd_apply, f38]), (by first | rfl | exact f39 | simp [upd_apply, f39]), (by first | rfl | exact f42 | simp [upd_apply, f42]), (by first | rfl | exact f43 | simp [upd_apply, f43]), (by first | rfl | exact f44 | simp [upd_apply, f44]), (by first | rfl | exact f45 | simp [upd_apply, f45]), (by first | rfl | simp [upd_apply]), (by first | rfl | simp [upd_apply]), trivial⟩ ?_
  rintro f ⟨f0, f36, f37, f38, f39, f42, f43, f44, f45, f46, f316, -⟩
  ((try simp (maxSteps := 3000000) (dsimp := false) (disch := first | omega | (simp only [len_new, len_put, len_kill]; omega)) only [↓ypre, ypost, ↓reduceIte, Nat.reduceEqDiff, Nat.reduceAdd, Nat.reduceSub, Nat.reduceLeDiff, Nat.zero_add, Nat.sub_zero, ynew, f0, f36, f37, f38, f39, f42, f43, f44, f45, f46, f316, rdn_of g9]); try simp only [yback])
  refine s_FlattenRanks (t := x) (hy.pre (p9.trans pA)) yb.l fun v4 HB pB oB => ?_
  rw [hF] at oB ⊢
  refine WO_cut (fun f : Fr => f 0 = cv ∧ f 36 = v1 ∧ f 37 = I64 R.2 ∧ f 38 = v2 ∧ f 39 = I64 R.2 ∧ f 42 = I64 W.1 ∧ f 43 = I64 W.2 ∧ f 44 = I64 W.1 ∧ f 45 = I64 W.2 ∧ f 47 = v3 ∧ f 48 = I64 F.2 ∧ f 321 = .tuple #[v4, I64 F.2] ∧ True) ⟨(by first | rfl | exact f0 | simp [upd_apply, f0]), (by first | rfl | exact f36 | simp [upd_apply, f36]), (by first | rfl | exact f37 | simp [upd_apply, f37]), (by first | rfl | exact f38 | simp [upd_apply, f38]), (by first | rfl | exact f39 | simp [upd_apply, f39]), (by first | rfl | exact f42 | simp [upd_apply, f42]), (by first | rfl | exact f43 | simp [upd_apply, f43]), (by first | rfl | exact f44 | simp [upd_apply, f44]), (by first | rfl | exact f45 | simp [upd_apply, f45]), (by first | rfl | simp [upd_apply]), (by first | rfl | simp [upd_apply]), (by first | rfl | simp [upd_apply]), trivial⟩ ?_
  rintro f ⟨f0, f36, f37, f38, f39, f42, f43, f44, f45, f47, f48, f321, -⟩
  ((try simp (maxSteps := 3000000) (dsimp := false) (disch := first | omega | (simp only [len_new, len_put, len_kill]; omega)) only [↓ypre, ypost, ↓reduceIte, Nat.reduceEqDiff, Nat.reduceAdd, Nat.reduceSub, Nat.reduceLeDiff, Nat.zero_add, Nat.sub_zero, ynew, f0, f36, f37, f38, f39, f42, f43, f44, f45, f47, f48, f321]); try simp only [yback])
  refine s_DrawNumberAt (c.pre ((pX.trans ((p1.trans (p2.trans (p3.trans p4))).trans (p5.trans (p6.trans p7)))).trans ((p8.trans p9).trans (pA.trans pB)))) fun q z i0 j0 k0 HC pC hz zb => ?_
  refine WO_cut (fun f : Fr => f 36 = v1 ∧ f 37 = I64 R.2 ∧ f 38 = v2 ∧ f 39 = I64 R.2 ∧ f 42 = I64 W.1 ∧ f 43 = I64 W.2 ∧ f 44 = I64 W.1 ∧ f 45 = I64 W.2 ∧ f 47 = v3 ∧ f 48 = I64 F.2 ∧ f 49 = v4 ∧ f 50 = I64 F.2 ∧ f 326 = .tuple #[tenV q z, I64 i0, I64 j0, I64 k0] ∧ True) ⟨(by first | rfl | exact f36 | simp [upd_apply, f36]), (by first | rfl | exact f37 | simp [upd_apply, f37]), (by first | rfl | exact f38 | simp [upd_apply, f38]), (by first | rfl | exact f39 | simp [upd_apply, f39]), (by first | rfl | exact f42 | simp [upd_apply, f42]), (by first | rfl | exact f43 | simp [upd_apply, f43]), (by first | rfl | exact f44 | simp [upd_apply, f44]), (by first | rfl | exact f45 | simp [upd_apply, f45]), (by first | rfl | exact f47 | simp [upd_apply, f47]), (by first | rfl | exact f48 | simp [upd_apply, f48]), (by first | rfl | simp [upd_apply]), (by first | rfl | simp [upd_apply]), (by first | rfl | simp [upd_apply]), trivial⟩ ?_
  rintro f ⟨f36, f37, f38, f39, f42, f43, f44, f45, f47, f48, f49, f50, f326, -⟩
  ((try simp (maxSteps := 3000000) (dsimp := false) (disch := first | omega | (simp only [len_new, len_put, len_kill]; omega)) only [↓ypre, ypost, ↓reduceIte, Nat.reduceEqDiff, Nat.reduceAdd, Nat.reduceSub, Nat.reduceLeDiff, Nat.zero_add, Nat.sub_zero, ynew, f36, f37, f38, f39, f42, f43, f44, f45, f47, f48, f49, f50, f326, tenV, hz.one]); try simp only [yback])
  generalize hHD : AH.new HC _ = HD
  obtain ⟨gD, pD, nD⟩ := new_facts hHD
  obtain ⟨na, nb, hN⟩ := numAt_shape q i0 j0 k0
  ((try simp (maxSteps := 3000000) (dsimp := false) (disch := first | omega | (simp only [len_new, len_put, len_kill]; omega)) only [↓ypre, ypost, ↓reduceIte, Nat.reduceEqDiff, Nat.reduceAdd, Nat.reduceSub, Nat.reduceLeDiff, Nat.zero_add, Nat.sub_zero, ynew, f36, f37, f38, f39, f42, f43, f44, f45, f47, f48, f49, f50, f326, rdn_of gD]); try simp only [yback])
  refine i_NumberAt (t := q) (hz.pre pD) zb.l fun HE pE => ?_
  rw [hN]
  have gD := pre_get pE gD
  refine WO_cut (fun f : Fr => f 36 = v1 ∧ f 37 = I64 R.2 ∧ f 38 = v2 ∧ f 39 = I64 R.2 ∧ f 42 = I64 W.1 ∧ f 43 = I64 W.2 ∧ f 44 = I64 W.1 ∧ f 45 = I64 W.2 ∧ f 47 = v3 ∧ f 48 = I64 F.2 ∧ f 49 = v4 ∧ f 50 = I64 F.2 ∧ f 51 = .pointer (some ⟨HC.length, 0, none⟩) ∧ f 52 = I64 i0 ∧ f 53 = I64 j0 ∧ f 54 = I64 k0 ∧ f 336 = .tuple #[I64 na, I64 nb] ∧ True) ⟨(by first | rfl | exact f36 | simp [upd_apply, f36]), (by first | rfl | exact f37 | simp [upd_apply, f37]), (by first | rfl | exact f38 | simp [upd_apply, f38]), (by first | rfl | exact f39 | simp [upd_apply, f39]), (by first | rfl | exact f42 | simp [upd_apply, f42]), (by first | rfl | exact f43 | simp [upd_apply, f43]), (by first | rfl | exact f44 | simp [upd_apply, f44]), (by first | rfl | exact f45 | simp [upd_apply, f45]), (by first | rfl | exact f47 | simp [upd_apply, f47]), (by first | rfl | exact f48 | simp [upd_apply, f48]), (by first | rfl | exact f49 | simp [upd_apply, f49]), (by first | rfl | exact f50 | simp [upd_apply, f50]), (by first | rfl | simp [upd_apply]), (by first | rfl | simp [upd_apply]), (by first | rfl | simp [upd_apply]), (by first | rfl | simp [upd_apply]), (by first | rfl | simp [upd_apply]), trivial⟩ ?_
  rintro f ⟨f36, f37, f38, f39, f42, f43, f44, f45, f47, f48, f49, f50, f51, f52, f53, f54, f336, -⟩
  ((try simp (maxSteps := 3000000) (dsimp := false) (disch := first | omega | (simp only [len_new, len_put, len_kill]; omega)) only [↓ypre, ypost, ↓reduceIte, Nat.reduceEqDiff, Nat.reduceAdd, Nat.reduceSub, Nat.reduceLeDiff, Nat.zero_add, Nat.sub_zero, ynew, f36, f37, f38, f39, f42, f43, f44, f45, f47, f48, f49, f50, f51, f52, f53, f54, f336, rdn_of gD]); try simp only [yback])
  refine s_NumberAt (t := q) (hz.pre (pD.trans pE)) zb.l fun HF pF => ?_
  rw [hN]
  refine WO_cut (fun f : Fr => f 36 = v1 ∧ f 37 = I64 R.2 ∧ f 38 = v2 ∧ f 39 = I64 R.2 ∧ f 42 = I64 W.1 ∧ f 43 = I64 W.2 ∧ f 44 = I64 W.1 ∧ f 45 = I64 W.2 ∧ f 47 = v3 ∧ f 48 = I64 F.2 ∧ f 49 = v4 ∧ f 50 = I64 F.2 ∧ f 55 = I64 na ∧ f 56 = I64 nb ∧ f 344 = .tuple #[I64 na, I64 nb] ∧ True) ⟨(by first | rfl | exact f36 | simp [upd_apply, f36]), (by first | rfl | exact f37 | simp [upd_apply, f37]), (by first | rfl | exact f38 | simp [upd_apply, f38]), (by first | rfl | exact f39 | simp [upd_apply, f39]), (by first | rfl | exact f42 | simp [upd_apply, f42]), (by first | rfl | exact f43 | simp [upd_apply, f43]), (by first | rfl | exact f44 | simp [upd_apply, f44]), (by first | rfl | exact f45 | simp [upd_apply, f45]), (by first | rfl | exact f47 | simp [upd_apply, f47]), (by first | rfl | exact f48 | simp [upd_apply, f48]), (by first | rfl | exact f49 | simp [upd_apply, f49]), (by first | rfl | exact f50 | simp [upd_apply, f50]), (by first | rfl | simp [upd_apply]), (by first | rfl | simp [upd_apply]), (by first | rfl | simp [upd_apply]), trivial⟩ ?_
  rintro f ⟨f36, f37, f38, f39, f42, f43, f44, f45, f47, f48, f49, f50, f55, f56, f344, -⟩
  have e1 : decide (R.2 = R.2) = true := decide_eq_true rfl
  have e2 : decide (W.1 = W.1) = true := decide_eq_true rfl
  have e3 : decide (W.2 = W.2) = true := decide_eq_true rfl
  have e4 : decide (F.2 = F.2) = true := decide_eq_true rfl
  have e5 : decide (na = na) = true := decide_eq_true rfl
  have e6 : decide (nb = nb) = true := decide_eq_true rfl
  ((try simp (maxSteps := 3000000) (dsimp := false) (disch := first | omega | (simp only [len_new, len_put, len_kill]; omega)) only [↓ypre, ypost, ↓reduceIte, Nat.reduceEqDiff, Nat.reduceAdd, Nat.reduceSub, Nat.reduceLeDiff, Nat.zero_add, Nat.sub_zero, ynew, f36, f37, f38, f39, f42, f43, f44, f45, f47, f48, f49, f50, f55, f56, f344, e1]); try simp only [yback])
  have q1 := ((p5.trans (p6.trans p7)).trans ((p8.trans p9).trans (pA.trans pB))).trans ((pC.trans pD).trans (pE.trans pF))
  refine l_rows5 (o3.rows.pre (p4.trans q1)) (o4.rows.pre q1) hsR ?_
  ((try simp (maxSteps := 3000000) (dsimp := false) (disch := first | omega | (simp only [len_new, len_put, len_kill]; omega)) only [↓ypre, ypost, ↓reduceIte, Nat.reduceEqDiff, Nat.reduceAdd, Nat.reduceSub, Nat.reduceLeDiff, Nat.zero_add, Nat.sub_zero, ynew, f36, f37, f38, f39, f42, f43, f44, f45, f47, f48, f49, f50, f55, f56, f344, e2, e3, e4]); try simp only [yback])
  have q2 := pB.trans ((pC.trans pD).trans (pE.trans pF))
  refine l_likeInts (oA.ints.pre q2) (oB.ints.pre ((pC.trans pD).trans (pE.trans pF))) hlF ?_
  ((try simp (maxSteps := 3000000) (dsimp := false) (disch := first | omega | (simp only [len_new, len_put, len_kill]; omega)) only [↓ypre, ypost, ↓reduceIte, Nat.reduceEqDiff, Nat.reduceAdd, Nat.reduceSub, Nat.reduceLeDiff, Nat.zero_add, Nat.sub_zero, ynew, f36, f37, f38, f39, f42, f43, f44, f45, f47, f48, f49, f50, f55, f56, f344, e5, e6, decide_true]); try simp only [yback])
end Go.Proofs.Ytapafdpnmakekaa.X
