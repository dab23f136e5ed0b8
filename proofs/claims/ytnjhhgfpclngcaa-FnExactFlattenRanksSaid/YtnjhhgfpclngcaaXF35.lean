/- FlattenRanks, both sides. -/
import Derived.Test.YtnjhhgfpclngcaaXF34
set_option linter.unusedVariables false
set_option linter.unusedSimpArgs false
set_option maxRecDepth 20000
set_option maxHeartbeats 4000000
namespace Go.Proofs.Ytnjhhgfpclngcaa.X
open Go Go.RowKit

def flatU (u : Ten) : List (List Int) := parts u.ns (u.j * u.k).toNat u.i.toNat
theorem flatU_good {u : Ten} (f : TF u) : Good u.p (flatU u) (u.j * u.k).toNat ∧ (flatU u).length = u.i.toNat ∧ u.ns.length = u.i.toNat * (u.j * u.k).toNat := by
  have jk := mul_in1 (A := 9) (B := 9) f.j f.k
  have fi := f.i
  obtain ⟨w, hw⟩ : ∃ w : Nat, u.j * u.k = w := ⟨(u.j * u.k).toNat, by omega⟩
  obtain ⟨n, hn⟩ : ∃ n : Nat, u.i = n := ⟨u.i.toNat, by omega⟩
  have hl : u.ns.length = n * w := by
    have hl := f.len
    rw [Int.mul_assoc, hw, hn] at hl
    exact_mod_cast hl
  unfold flatU
  rw [hw, hn, Int.toNat_natCast, Int.toNat_natCast]
  refine ⟨fun i hi => ?_, parts_len, hl⟩
  rw [parts_len] at hi
  unfold tb
  rw [parts_get hi]
  have hr := mul_row (w := w) hi
  refine ⟨by simp; omega, fun l hl' => ?_⟩
  rw [cut_get hl']
  have := f.num ((i * w + l : Nat) : Int) (by omega) (by omega)
  unfold nth at this
  rw [Int.toNat_natCast] at this
  exact this
theorem turn_isP {t : Ten} {k : Nat} (h : isP t.p = true) : isP (turnN k t).p = true := by rw [turnN_p]; exact h
noncomputable def flG (t : Ten) (s : Nat) : Int := (rankN t.p (flatU (turnN s t)) : Nat)
noncomputable def flR (t : Ten) : List Int × Int := if isT t = true then (gen 3 (flG t), 0) else ([], 1)

theorem s_l05Ranks {v : Value} {t : Ten} {h : AH} {Q : Value → AH → Prop} (hv : Ints h v t.ns) (ft : TF t) (hp : isP t.p = true)
    (hQ : ∀ v' h', h <+: h' → OwnR h h' v' (gen 3 (flG t)) → Q v' h') : WF S 93 [tenV t v] h Q := by
  refine WF_fn (fn := c93) rfl rfl ?_
  unfold c93
  try simp (maxSteps := 3000000) (disch := first | omega | (simp only [len_new, len_put, len_kill]; omega)) only [↓xpre, xpost, ↓reduceIte, Nat.reduceEqDiff, Nat.reduceAdd, Nat.reduceSub, Nat.reduceLeDiff, Nat.zero_add, Nat.sub_zero, tenV, hv.one, fillL, zrep]
  generalize hH1 : AH.new h _ = H1
  obtain ⟨hb1, p1, n1⟩ := new_facts hH1
  generalize hH2 : AH.new H1 _ = H2
  obtain ⟨hb2, p2, n2⟩ := new_facts hH2
  refine WC_loop_inv (fun m f K1 => ∃ (s : Nat) (sv : Value), m = 3 - s ∧ s ≤ 3 ∧ f 1 = .pointer (some ⟨h.length, 0, none⟩) ∧ f 3 = sv ∧ f 4 = I64 s ∧ (H1 <+: K1) ∧ (WayF K1 H1.length sv (gen s (flG t)))) ?_ (3 - 0) _ _ ⟨0, .slice (some ⟨H1.length, 0, none⟩) 0 1, rfl, by omega, (by first | rfl | (simp [upd_apply]; done)), (by first | rfl | (simp [upd_apply]; done)), (by first | rfl | (simp [upd_apply]; done)), p2, ⟨H1.length, true, by rw [gen_len], Nat.le_refl _, hb2⟩⟩
  rintro m f K1 ⟨s, sv, rfl, hs, f1, f3, f4, pp, way⟩
  have hbK := pre_get pp hb1
  try simp (maxSteps := 3000000) (disch := first | omega | (simp only [len_new, len_put, len_kill]; omega)) only [↓xpre, xpost, ↓reduceIte, Nat.reduceEqDiff, Nat.reduceAdd, Nat.reduceSub, Nat.reduceLeDiff, Nat.zero_add, Nat.sub_zero, f1, f3, f4, IfW_dec]
  refine ⟨fun hlt => ?_, fun hge => ?_⟩
  · have fu := TF.turnN (n := s) ft
    have hg := flatU_good fu
    have jk := mul_in1 (A := 9) (B := 9) fu.j fu.k
    have fi := fu.i
    try simp (maxSteps := 3000000) (disch := first | omega | (simp only [len_new, len_put, len_kill]; omega)) only [↓xpre, xpost, ↓reduceIte, Nat.reduceEqDiff, Nat.reduceAdd, Nat.reduceSub, Nat.reduceLeDiff, Nat.zero_add, Nat.sub_zero, f1, f3, f4, rd1_of hbK, rdn_of hbK]
    refine s_l05Turned (hv.pre (p1.trans pp)) ft (by omega) fun v3 H3 p3 i3 => ?_
    try simp (maxSteps := 3000000) (disch := first | omega | (simp only [len_new, len_put, len_kill]; omega)) only [↓xpre, xpost, ↓reduceIte, Nat.reduceEqDiff, Nat.reduceAdd, Nat.reduceSub, Nat.reduceLeDiff, Nat.zero_add, Nat.sub_zero, f1, f3, f4]
    refine ⟨p3, ?_⟩
    refine s_l05Flat (w := ((turnN s t).j * (turnN s t).k).toNat) (n := (turnN s t).i.toNat) i3 fu (by omega) (by omega) fun v4 H4 p4 o4 => ?_
    try simp (maxSteps := 3000000) (disch := first | omega | (simp only [len_new, len_put, len_kill]; omega)) only [↓xpre, xpost, ↓reduceIte, Nat.reduceEqDiff, Nat.reduceAdd, Nat.reduceSub, Nat.reduceLeDiff, Nat.zero_add, Nat.sub_zero, f1, f3, f4]
    refine ⟨p4, ?_⟩
    refine s_l05Rank (rows := flatU (turnN s t)) o4.rows hp (by rw [hg.2.1]; omega) (by rw [← turnN_p (n := s) (t := t)]; exact hg.1) (by omega) fun H5 p5 => ?_
    try simp (maxSteps := 3000000) (disch := first | omega | (simp only [len_new, len_put, len_kill]; omega)) only [↓xpre, xpost, ↓reduceIte, Nat.reduceEqDiff, Nat.reduceAdd, Nat.reduceSub, Nat.reduceLeDiff, Nat.zero_add, Nat.sub_zero, f1, f3, f4, fillL, zrep]
    refine (way.pre (p3.trans (p4.trans p5))).app (by rw [gen_len]; omega) fun sv' h6 k6 pre6 way6 => ?_
    try simp (maxSteps := 3000000) (disch := first | omega | (simp only [len_new, len_put, len_kill]; omega)) only [↓xpre, xpost, ↓reduceIte, Nat.reduceEqDiff, Nat.reduceAdd, Nat.reduceSub, Nat.reduceLeDiff, Nat.zero_add, Nat.sub_zero, f1, f3, f4, wrap64_in]
    refine InvQ_go (3 - (s + 1)) (by omega) ⟨(s + 1), sv', rfl, by omega, (by first | rfl | exact f1 | (simp only [upd_apply]; rfl) | (show I64 _ = _; congr 1; omega)), (by first | rfl | exact f3 | (simp only [upd_apply]; rfl) | (show I64 _ = _; congr 1; omega)), (by first | rfl | exact f4 | (simp only [upd_apply]; rfl) | (show I64 _ = _; congr 1; omega)), (pre6 _ (Nat.le_refl _) (pp.trans (p3.trans (p4.trans p5)))), (by rw [gen_succ]; exact way6)⟩
  · have e : s = 3 := by omega
    subst e
    try simp (maxSteps := 3000000) (disch := first | omega | (simp only [len_new, len_put, len_kill]; omega)) only [↓xpre, xpost, ↓reduceIte, Nat.reduceEqDiff, Nat.reduceAdd, Nat.reduceSub, Nat.reduceLeDiff, Nat.zero_add, Nat.sub_zero, f1, f3, f4]
    obtain ⟨kb, fu, rfl, q2, q3⟩ := way
    exact hQ _ _ (p1.trans pp) (.inr ⟨kb, _, fu, by omega, rfl, q3⟩)
theorem i_flattenRanks {v : Value} {t : Ten} {h : AH} {Q : Value → AH → Prop} (hv : Ints h v t.ns) (ft : TF t) (hp : isP t.p = true)
    (hQ : ∀ v' h', h <+: h' → OwnR h h' v' (gen 3 (flG t)) → Q v' h') : WF S 94 [tenV t v] h Q := by
  refine WF_fn (fn := c94) rfl rfl ?_
  unfold c94
  try simp (maxSteps := 3000000) (disch := first | omega | (simp only [len_new, len_put, len_kill]; omega)) only [↓xpre, xpost, ↓reduceIte, Nat.reduceEqDiff, Nat.reduceAdd, Nat.reduceSub, Nat.reduceLeDiff, Nat.zero_add, Nat.sub_zero, tenV, hv.one, fillL, zrep]
  generalize hH1 : AH.new h _ = H1
  obtain ⟨hb1, p1, n1⟩ := new_facts hH1
  generalize hH2 : AH.new H1 _ = H2
  obtain ⟨hb2, p2, n2⟩ := new_facts hH2
  refine WC_loop_inv (fun m f K1 => ∃ (s : Nat) (sv : Value), m = 3 - s ∧ s ≤ 3 ∧ f 1 = .pointer (some ⟨h.length, 0, none⟩) ∧ f 3 = sv ∧ f 7 = I64 s ∧ (H1 <+: K1) ∧ (WayF K1 H1.length sv (gen s (flG t)))) ?_ (3 - 0) _ _ ⟨0, .slice (some ⟨H1.length, 0, none⟩) 0 1, rfl, by omega, (by first | rfl | (simp [upd_apply]; done)), (by first | rfl | (simp [upd_apply]; done)), (by first | rfl | (simp [upd_apply]; done)), p2, ⟨H1.length, true, by rw [gen_len], Nat.le_refl _, hb2⟩⟩
  rintro m f K1 ⟨s, sv, rfl, hs, f1, f3, f7, pp, way⟩
  have hbK := pre_get pp hb1
  try simp (maxSteps := 3000000) (disch := first | omega | (simp only [len_new, len_put, len_kill]; omega)) only [↓xpre, xpost, ↓reduceIte, Nat.reduceEqDiff, Nat.reduceAdd, Nat.reduceSub, Nat.reduceLeDiff, Nat.zero_add, Nat.sub_zero, f1, f3, f7, IfW_dec]
  refine ⟨fun hlt => ?_, fun hge => ?_⟩
  · have fu := TF.turnN (n := s) ft
    have hg := flatU_good fu
    have jk := mul_in1 (A := 9) (B := 9) fu.j fu.k
    have fi := fu.i
    try simp (maxSteps := 3000000) (disch := first | omega | (simp only [len_new, len_put, len_kill]; omega)) only [↓xpre, xpost, ↓reduceIte, Nat.reduceEqDiff, Nat.reduceAdd, Nat.reduceSub, Nat.reduceLeDiff, Nat.zero_add, Nat.sub_zero, f1, f3, f7, rdn_of hbK]
    refine i_turned (hv.pre (p1.trans pp)) ft (by omega) fun v3 H3 p3 i3 => ?_
    have hb3 := pre_get p3 hbK
    try simp (maxSteps := 3000000) (disch := first | omega | (simp only [len_new, len_put, len_kill]; omega)) only [↓xpre, xpost, ↓reduceIte, Nat.reduceEqDiff, Nat.reduceAdd, Nat.reduceSub, Nat.reduceLeDiff, Nat.zero_add, Nat.sub_zero, f1, f3, f7, tenV, i3.one]
    generalize hH4 : AH.new H3 _ = H4
    obtain ⟨hb4, p4, n4⟩ := new_facts hH4
    have hb5 := pre_get p4 hb3
    have ejk : (turnN s t).j * (turnN s t).k = (((turnN s t).j * (turnN s t).k).toNat : Int) := by omega
    try simp (maxSteps := 3000000) (disch := first | omega | (simp only [len_new, len_put, len_kill]; omega)) only [↓xpre, xpost, ↓reduceIte, Nat.reduceEqDiff, Nat.reduceAdd, Nat.reduceSub, Nat.reduceLeDiff, Nat.zero_add, Nat.sub_zero, f1, f3, f7, rd1_of hb5, rd1_of hb4, wrap64_in]
    rw [ejk]
    refine i_parted (n := (turnN s t).i.toNat) (i3.pre p4) fu.le (by omega) hg.2.2 fun v5 H5 p5 o5 => ?_
    try simp (maxSteps := 3000000) (disch := first | omega | (simp only [len_new, len_put, len_kill]; omega)) only [↓xpre, xpost, ↓reduceIte, Nat.reduceEqDiff, Nat.reduceAdd, Nat.reduceSub, Nat.reduceLeDiff, Nat.zero_add, Nat.sub_zero, f1, f3, f7]
    refine ⟨p5, ?_⟩
    refine i_rank _ (flatU (turnN s t)) _ _ _ _ o5.rows hp (by rw [hg.2.1]; omega) (by rw [← turnN_p (n := s) (t := t)]; exact hg.1) (by omega) fun H6 p6 => ?_
    try simp (maxSteps := 3000000) (disch := first | omega | (simp only [len_new, len_put, len_kill]; omega)) only [↓xpre, xpost, ↓reduceIte, Nat.reduceEqDiff, Nat.reduceAdd, Nat.reduceSub, Nat.reduceLeDiff, Nat.zero_add, Nat.sub_zero, f1, f3, f7, fillL, zrep]
    refine (way.pre ((p3.trans p4).trans (p5.trans p6))).app (by rw [gen_len]; omega) fun sv' h6 k6 pre6 way6 => ?_
    try simp (maxSteps := 3000000) (disch := first | omega | (simp only [len_new, len_put, len_kill]; omega)) only [↓xpre, xpost, ↓reduceIte, Nat.reduceEqDiff, Nat.reduceAdd, Nat.reduceSub, Nat.reduceLeDiff, Nat.zero_add, Nat.sub_zero, f1, f3, f7, wrap64_in]
    refine InvQ_go (3 - (s + 1)) (by omega) ⟨(s + 1), sv', rfl, by omega, (by first | rfl | exact f1 | (simp only [upd_apply]; rfl) | (show I64 _ = _; congr 1; omega)), (by first | rfl | exact f3 | (simp only [upd_apply]; rfl) | (show I64 _ = _; congr 1; omega)), (by first | rfl | exact f7 | (simp only [upd_apply]; rfl) | (show I64 _ = _; congr 1; omega)), (pre6 _ (Nat.le_refl _) (pp.trans ((p3.trans p4).trans (p5.trans p6)))), (by rw [gen_succ]; exact way6)⟩
  · have e : s = 3 := by omega
    subst e
    try simp (maxSteps := 3000000) (disch := first | omega | (simp only [len_new, len_put, len_kill]; omega)) only [↓xpre, xpost, ↓reduceIte, Nat.reduceEqDiff, Nat.reduceAdd, Nat.reduceSub, Nat.reduceLeDiff, Nat.zero_add, Nat.sub_zero, f1, f3, f7]
    obtain ⟨kb, fu, rfl, q2, q3⟩ := way
    exact hQ _ _ (p1.trans pp) (.inr ⟨kb, _, fu, by omega, rfl, q3⟩)
theorem isT_isP {t : Ten} (h : isT t = true) : isP t.p = true := by
  simp only [isT, Bool.and_eq_true, decide_eq_true_eq] at h
  exact h.1.1.1.1.1
theorem s_FlattenRanks {v : Value} {t : Ten} {h : AH} {Q : Value → AH → Prop} (hv : Ints h v t.ns) (hl : (t.ns.length : Int) ≤ 1048576)
    (hQ : ∀ v' h', h <+: h' → OwnR h h' v' (flR t).1 → Q (.tuple #[v', I64 (flR t).2]) h') : WF S 53 [tenV t v] h Q := by
  refine WF_fn (fn := c53) rfl rfl ?_
  unfold c53
  try simp (maxSteps := 3000000) (disch := first | omega | (simp only [len_new, len_put, len_kill]; omega)) only [↓xpre, xpost, ↓reduceIte, Nat.reduceEqDiff, Nat.reduceAdd, Nat.reduceSub, Nat.reduceLeDiff, Nat.zero_add, Nat.sub_zero, tenV, hv.one]
  generalize hH1 : AH.new h _ = H1
  obtain ⟨hb1, p1, n1⟩ := new_facts hH1
  try simp (maxSteps := 3000000) (disch := first | omega | (simp only [len_new, len_put, len_kill]; omega)) only [↓xpre, xpost, ↓reduceIte, Nat.reduceEqDiff, Nat.reduceAdd, Nat.reduceSub, Nat.reduceLeDiff, Nat.zero_add, Nat.sub_zero, rdn_of hb1]
  refine s_l05Is (hv.pre p1) hl fun H2 p2 => ?_
  have hb2 := pre_get p2 hb1
  unfold flR at hQ
  cases h1 : isT t with
  | false =>
    rw [h1, if_neg (by decide)] at hQ
    try simp (maxSteps := 3000000) (disch := first | omega | (simp only [len_new, len_put, len_kill]; omega)) only [↓xpre, xpost, ↓reduceIte, Nat.reduceEqDiff, Nat.reduceAdd, Nat.reduceSub, Nat.reduceLeDiff, Nat.zero_add, Nat.sub_zero]
    exact hQ _ _ (p1.trans p2) (.inl ⟨rfl, rfl⟩)
  | true =>
    rw [h1, if_pos rfl] at hQ
    try simp (maxSteps := 3000000) (disch := first | omega | (simp only [len_new, len_put, len_kill]; omega)) only [↓xpre, xpost, ↓reduceIte, Nat.reduceEqDiff, Nat.reduceAdd, Nat.reduceSub, Nat.reduceLeDiff, Nat.zero_add, Nat.sub_zero, rdn_of hb2]
    refine s_l05Ranks (hv.pre (p1.trans p2)) (isT_facts h1) (isT_isP h1) fun v3 H3 p3 o3 => ?_
    try simp (maxSteps := 3000000) (disch := first | omega | (simp only [len_new, len_put, len_kill]; omega)) only [↓xpre, xpost, ↓reduceIte, Nat.reduceEqDiff, Nat.reduceAdd, Nat.reduceSub, Nat.reduceLeDiff, Nat.zero_add, Nat.sub_zero]
    exact hQ _ _ ((p1.trans p2).trans p3) (o3.lo (pre_len (p1.trans p2)))
theorem i_FlattenRanks {v : Value} {t : Ten} {h : AH} {Q : Value → AH → Prop} (hv : Ints h v t.ns) (hl : (t.ns.length : Int) ≤ 1048576)
    (hQ : ∀ v' h', h <+: h' → OwnR h h' v' (flR t).1 → Q (.tuple #[v', I64 (flR t).2]) h') : WF S 54 [tenV t v] h Q := by
  refine WF_fn (fn := c54) rfl rfl ?_
  unfold c54
  try simp (maxSteps := 3000000) (disch := first | omega | (simp only [len_new, len_put, len_kill]; omega)) only [↓xpre, xpost, ↓reduceIte, Nat.reduceEqDiff, Nat.reduceAdd, Nat.reduceSub, Nat.reduceLeDiff, Nat.zero_add, Nat.sub_zero, tenV, hv.one]
  generalize hH1 : AH.new h _ = H1
  obtain ⟨hb1, p1, n1⟩ := new_facts hH1
  try simp (maxSteps := 3000000) (disch := first | omega | (simp only [len_new, len_put, len_kill]; omega)) only [↓xpre, xpost, ↓reduceIte, Nat.reduceEqDiff, Nat.reduceAdd, Nat.reduceSub, Nat.reduceLeDiff, Nat.zero_add, Nat.sub_zero, rdn_of hb1]
  refine i_IsTensor (hv.pre p1) hl fun H2 p2 => ?_
  have hb2 := pre_get p2 hb1
  unfold flR at hQ
  cases h1 : isT t with
  | false =>
    rw [h1, if_neg (by decide)] at hQ
    try simp (maxSteps := 3000000) (disch := first | omega | (simp only [len_new, len_put, len_kill]; omega)) only [↓xpre, xpost, ↓reduceIte, Nat.reduceEqDiff, Nat.reduceAdd, Nat.reduceSub, Nat.reduceLeDiff, Nat.zero_add, Nat.sub_zero]
    exact hQ _ _ (p1.trans p2) (.inl ⟨rfl, rfl⟩)
  | true =>
    rw [h1, if_pos rfl] at hQ
    try simp (maxSteps := 3000000) (disch := first | omega | (simp only [len_new, len_put, len_kill]; omega)) only [↓xpre, xpost, ↓reduceIte, Nat.reduceEqDiff, Nat.reduceAdd, Nat.reduceSub, Nat.reduceLeDiff, Nat.zero_add, Nat.sub_zero, rdn_of hb2]
    refine i_flattenRanks (hv.pre (p1.trans p2)) (isT_facts h1) (isT_isP h1) fun v3 H3 p3 o3 => ?_
    try simp (maxSteps := 3000000) (disch := first | omega | (simp only [len_new, len_put, len_kill]; omega)) only [↓xpre, xpost, ↓reduceIte, Nat.reduceEqDiff, Nat.reduceAdd, Nat.reduceSub, Nat.reduceLeDiff, Nat.zero_add, Nat.sub_zero]
    exact hQ _ _ ((p1.trans p2).trans p3) (o3.lo (pre_len (p1.trans p2)))
theorem flR_small (t : Ten) : SmallS (flR t).1 := by
  unfold flR SmallS
  split
  · simp [gen_len]
  · simp
end Go.Proofs.Ytnjhhgfpclngcaa.X
