/- Texts of one claim, put together by merge.py: XS18. -/
import Derived.Test.YtphklalbkpohfaaMA
/- HaveEqualSums, both sides. -/
set_option linter.unusedVariables false
set_option linter.unusedSimpArgs false
set_option maxRecDepth 20000
set_option maxHeartbeats 4000000
namespace Go.Proofs.Ytphklalbkpohfaa.X
open Go Go.RowKit

def like (x y : Sch) : Prop := x.p = y.p ∧ x.n = y.n ∧ x.m = y.m ∧ x.k = y.k
instance {x y : Sch} : Decidable (like x y) := by unfold like; infer_instance
def likeC (x y : Sch) : Int := if isX x = true ∧ isX y = true then (if like x y then 0 else 2) else 1
def heR (x y : Sch) : Bool × Int := if likeC x y = 0 then (decide ((tofX x).ns = (tofX y).ns), 0) else (false, likeC x y)
theorem likeC_0 {x y : Sch} (h : likeC x y = 0) : (isX x = true ∧ isX y = true) ∧ like x y := by
  unfold likeC at h
  split at h
  · rename_i h1
    split at h
    · rename_i h2
      exact ⟨h1, h2⟩
    · cases h
  · cases h
theorem s_l03Like {v w : Value} {x y : Sch} {h : AH} {Q : Value → AH → Prop} (hv : Prods h v x.ps) (hl : SmallX x.ps) (hw : Prods h w y.ps) (hl' : SmallX y.ps)
    (hQ : ∀ h', h <+: h' → Q (I64 (likeC x y)) h') : WF S 77 [schV x v, schV y w] h Q := by
  refine WF_fn (fn := c77) rfl rfl ?_
  unfold c77
  try simp (maxSteps := 3000000) (disch := first | omega | (simp only [len_new, len_put, len_kill]; omega)) only [↓xpre, xpost, ↓reduceIte, Nat.reduceEqDiff, Nat.reduceAdd, Nat.reduceSub, Nat.reduceLeDiff, Nat.zero_add, Nat.sub_zero, schV, hv.one, hw.one]
  generalize hH1 : AH.new h _ = H1
  obtain ⟨hb1, p1, n1⟩ := new_facts hH1
  generalize hH2 : AH.new H1 _ = H2
  obtain ⟨hb2, p2, n2⟩ := new_facts hH2
  have hb1 := pre_get p2 hb1
  try simp (maxSteps := 3000000) (disch := first | omega | (simp only [len_new, len_put, len_kill]; omega)) only [↓xpre, xpost, ↓reduceIte, Nat.reduceEqDiff, Nat.reduceAdd, Nat.reduceSub, Nat.reduceLeDiff, Nat.zero_add, Nat.sub_zero, rdn_of hb1]
  refine s_l01Is (hv.pre (p1.trans p2)) hl fun H3 p3 => ?_
  have hb1 := pre_get p3 hb1
  have hb2 := pre_get p3 hb2
  unfold likeC at hQ
  cases c0 : isX x with
  | false =>
    have hQ2 := hQ _ ((p1.trans p2).trans p3)
    rw [if_neg (fun e => by rw [c0] at e; cases e.1)] at hQ2
    try simp (maxSteps := 3000000) (disch := first | omega | (simp only [len_new, len_put, len_kill]; omega)) only [↓xpre, xpost, ↓reduceIte, Nat.reduceEqDiff, Nat.reduceAdd, Nat.reduceSub, Nat.reduceLeDiff, Nat.zero_add, Nat.sub_zero, WG_un]
    exact hQ2
  | true =>
    try simp (maxSteps := 3000000) (disch := first | omega | (simp only [len_new, len_put, len_kill]; omega)) only [↓xpre, xpost, ↓reduceIte, Nat.reduceEqDiff, Nat.reduceAdd, Nat.reduceSub, Nat.reduceLeDiff, Nat.zero_add, Nat.sub_zero, rdn_of hb2]
    refine s_l01Is (hw.pre ((p1.trans p2).trans p3)) hl' fun H4 p4 => ?_
    have hb1 := pre_get p4 hb1
    have hb2 := pre_get p4 hb2
    have hQ2 := hQ _ (((p1.trans p2).trans p3).trans p4)
    cases c1 : isX y with
    | false =>
      rw [if_neg (fun e => by rw [c1] at e; cases e.2)] at hQ2
      try simp (maxSteps := 3000000) (disch := first | omega | (simp only [len_new, len_put, len_kill]; omega)) only [↓xpre, xpost, ↓reduceIte, Nat.reduceEqDiff, Nat.reduceAdd, Nat.reduceSub, Nat.reduceLeDiff, Nat.zero_add, Nat.sub_zero]
      exact hQ2
    | true =>
      rw [if_pos ⟨c0, c1⟩] at hQ2
      by_cases k1 : x.p = y.p
      case neg =>
        try simp (maxSteps := 3000000) (disch := first | omega | (simp only [len_new, len_put, len_kill]; omega)) only [↓xpre, xpost, ↓reduceIte, Nat.reduceEqDiff, Nat.reduceAdd, Nat.reduceSub, Nat.reduceLeDiff, Nat.zero_add, Nat.sub_zero, rd1_of hb1, rd1_of hb2, decide_eq_true (show x.p ≠ y.p from k1), WG_un]
        rw [if_neg (fun e => k1 e.1)] at hQ2
        exact hQ2
      have d1 := decide_eq_false (show ¬ (x.p ≠ y.p) from fun e => e k1)
      by_cases k2 : x.n = y.n
      case neg =>
        try simp (maxSteps := 3000000) (disch := first | omega | (simp only [len_new, len_put, len_kill]; omega)) only [↓xpre, xpost, ↓reduceIte, Nat.reduceEqDiff, Nat.reduceAdd, Nat.reduceSub, Nat.reduceLeDiff, Nat.zero_add, Nat.sub_zero, rd1_of hb1, rd1_of hb2, d1, decide_eq_true (show x.n ≠ y.n from k2), WG_un]
        rw [if_neg (fun e => k2 e.2.1)] at hQ2
        exact hQ2
      have d2 := decide_eq_false (show ¬ (x.n ≠ y.n) from fun e => e k2)
      by_cases k3 : x.m = y.m
      case neg =>
        try simp (maxSteps := 3000000) (disch := first | omega | (simp only [len_new, len_put, len_kill]; omega)) only [↓xpre, xpost, ↓reduceIte, Nat.reduceEqDiff, Nat.reduceAdd, Nat.reduceSub, Nat.reduceLeDiff, Nat.zero_add, Nat.sub_zero, rd1_of hb1, rd1_of hb2, d1, d2, decide_eq_true (show x.m ≠ y.m from k3), WG_un]
        rw [if_neg (fun e => k3 e.2.2.1)] at hQ2
        exact hQ2
      have d3 := decide_eq_false (show ¬ (x.m ≠ y.m) from fun e => e k3)
      by_cases k4 : x.k = y.k
      · try simp (maxSteps := 3000000) (disch := first | omega | (simp only [len_new, len_put, len_kill]; omega)) only [↓xpre, xpost, ↓reduceIte, Nat.reduceEqDiff, Nat.reduceAdd, Nat.reduceSub, Nat.reduceLeDiff, Nat.zero_add, Nat.sub_zero, rd1_of hb1, rd1_of hb2, d1, d2, d3, decide_eq_false (show ¬ (x.k ≠ y.k) from fun e => e k4)]
        rw [if_pos ⟨k1, k2, k3, k4⟩] at hQ2
        exact hQ2
      · try simp (maxSteps := 3000000) (disch := first | omega | (simp only [len_new, len_put, len_kill]; omega)) only [↓xpre, xpost, ↓reduceIte, Nat.reduceEqDiff, Nat.reduceAdd, Nat.reduceSub, Nat.reduceLeDiff, Nat.zero_add, Nat.sub_zero, rd1_of hb1, rd1_of hb2, d1, d2, d3, decide_eq_true (show x.k ≠ y.k from k4)]
        rw [if_neg (fun e => k4 e.2.2.2)] at hQ2
        exact hQ2
theorem i_pairCode {v w : Value} {x y : Sch} {h : AH} {Q : Value → AH → Prop} (hv : Prods h v x.ps) (hl : SmallX x.ps) (hw : Prods h w y.ps) (hl' : SmallX y.ps)
    (hQ : ∀ h', h <+: h' → Q (I64 (likeC x y)) h') : WF S 80 [schV x v, schV y w] h Q := by
  refine WF_fn (fn := c80) rfl rfl ?_
  unfold c80
  try simp (maxSteps := 3000000) (disch := first | omega | (simp only [len_new, len_put, len_kill]; omega)) only [↓xpre, xpost, ↓reduceIte, Nat.reduceEqDiff, Nat.reduceAdd, Nat.reduceSub, Nat.reduceLeDiff, Nat.zero_add, Nat.sub_zero, schV, hv.one, hw.one]
  generalize hH1 : AH.new h _ = H1
  obtain ⟨hb1, p1, n1⟩ := new_facts hH1
  generalize hH2 : AH.new H1 _ = H2
  obtain ⟨hb2, p2, n2⟩ := new_facts hH2
  have hb1 := pre_get p2 hb1
  try simp (maxSteps := 3000000) (disch := first | omega | (simp only [len_new, len_put, len_kill]; omega)) only [↓xpre, xpost, ↓reduceIte, Nat.reduceEqDiff, Nat.reduceAdd, Nat.reduceSub, Nat.reduceLeDiff, Nat.zero_add, Nat.sub_zero, rdn_of hb1, rdn_of hb2, fillL, zrep, hv.one, hw.one]
  generalize hH3 : AH.new H2 _ = H3
  obtain ⟨hb3, p3, n3⟩ := new_facts hH3
  have ph := (p1.trans p2).trans p3
  refine i_areSchemes (hv.pre ph) (hw.pre ph) hl hl' hb3 fun H4 p4 => ?_
  have hb1 := pre_get (p3.trans p4) hb1
  have hb2 := pre_get (p3.trans p4) hb2
  unfold likeC at hQ
  have hQ2 := hQ _ (ph.trans p4)
  cases c0 : (isX x && isX y) with
  | false =>
    rw [if_neg (fun e => by rw [e.1, e.2] at c0; cases c0)] at hQ2
    try simp (maxSteps := 3000000) (disch := first | omega | (simp only [len_new, len_put, len_kill]; omega)) only [↓xpre, xpost, ↓reduceIte, Nat.reduceEqDiff, Nat.reduceAdd, Nat.reduceSub, Nat.reduceLeDiff, Nat.zero_add, Nat.sub_zero]
    exact hQ2
  | true =>
    simp only [Bool.and_eq_true] at c0
    rw [if_pos c0] at hQ2
    by_cases k1 : x.p = y.p
    case neg =>
      try simp (maxSteps := 3000000) (disch := first | omega | (simp only [len_new, len_put, len_kill]; omega)) only [↓xpre, xpost, ↓reduceIte, Nat.reduceEqDiff, Nat.reduceAdd, Nat.reduceSub, Nat.reduceLeDiff, Nat.zero_add, Nat.sub_zero, rd1_of hb1, rd1_of hb2, decide_eq_true (show x.p ≠ y.p from k1), WG_un]
      rw [if_neg (fun e => k1 e.1)] at hQ2
      exact hQ2
    have d1 := decide_eq_false (show ¬ (x.p ≠ y.p) from fun e => e k1)
    by_cases k2 : x.n = y.n
    case neg =>
      try simp (maxSteps := 3000000) (disch := first | omega | (simp only [len_new, len_put, len_kill]; omega)) only [↓xpre, xpost, ↓reduceIte, Nat.reduceEqDiff, Nat.reduceAdd, Nat.reduceSub, Nat.reduceLeDiff, Nat.zero_add, Nat.sub_zero, rd1_of hb1, rd1_of hb2, d1, decide_eq_true (show x.n ≠ y.n from k2), WG_un]
      rw [if_neg (fun e => k2 e.2.1)] at hQ2
      exact hQ2
    have d2 := decide_eq_false (show ¬ (x.n ≠ y.n) from fun e => e k2)
    by_cases k3 : x.m = y.m
    case neg =>
      try simp (maxSteps := 3000000) (disch := first | omega | (simp only [len_new, len_put, len_kill]; omega)) only [↓xpre, xpost, ↓reduceIte, Nat.reduceEqDiff, Nat.reduceAdd, Nat.reduceSub, Nat.reduceLeDiff, Nat.zero_add, Nat.sub_zero, rd1_of hb1, rd1_of hb2, d1, d2, decide_eq_true (show x.m ≠ y.m from k3), WG_un]
      rw [if_neg (fun e => k3 e.2.2.1)] at hQ2
      exact hQ2
    have d3 := decide_eq_false (show ¬ (x.m ≠ y.m) from fun e => e k3)
    by_cases k4 : x.k = y.k
    · try simp (maxSteps := 3000000) (disch := first | omega | (simp only [len_new, len_put, len_kill]; omega)) only [↓xpre, xpost, ↓reduceIte, Nat.reduceEqDiff, Nat.reduceAdd, Nat.reduceSub, Nat.reduceLeDiff, Nat.zero_add, Nat.sub_zero, rd1_of hb1, rd1_of hb2, d1, d2, d3, decide_eq_false (show ¬ (x.k ≠ y.k) from fun e => e k4)]
      rw [if_pos ⟨k1, k2, k3, k4⟩] at hQ2
      exact hQ2
    · try simp (maxSteps := 3000000) (disch := first | omega | (simp only [len_new, len_put, len_kill]; omega)) only [↓xpre, xpost, ↓reduceIte, Nat.reduceEqDiff, Nat.reduceAdd, Nat.reduceSub, Nat.reduceLeDiff, Nat.zero_add, Nat.sub_zero, rd1_of hb1, rd1_of hb2, d1, d2, d3, decide_eq_true (show x.k ≠ y.k from k4)]
      rw [if_neg (fun e => k4 e.2.2.2)] at hQ2
      exact hQ2
theorem i_EqualInts {v v' : Value} {ns ms : List Int} {h : AH} {Q : Value → AH → Prop} (hv : Ints h v ns) (hv' : Ints h v' ms) (hl : SmallS ns) (hQ : Q (.bool (decide (ns = ms))) h) :
    WF S 81 [v, v'] h Q := by
  refine WF_fn (fn := c81) rfl rfl ?_
  unfold c81
  unfold SmallS at hl
  by_cases hne : (ns.length : Int) = ms.length
  case neg =>
    try simp (maxSteps := 3000000) (disch := first | omega | (simp only [len_new, len_put, len_kill]; omega)) only [↓xpre, xpost, ↓reduceIte, Nat.reduceEqDiff, Nat.reduceAdd, Nat.reduceSub, Nat.reduceLeDiff, Nat.zero_add, Nat.sub_zero, hv.len, hv'.len, decide_eq_true (show (ns.length : Int) ≠ ms.length from hne)]
    have : ns ≠ ms := fun e => hne (by rw [e])
    simpa [this] using hQ
  try simp (maxSteps := 3000000) (disch := first | omega | (simp only [len_new, len_put, len_kill]; omega)) only [↓xpre, xpost, ↓reduceIte, Nat.reduceEqDiff, Nat.reduceAdd, Nat.reduceSub, Nat.reduceLeDiff, Nat.zero_add, Nat.sub_zero, hv.len, hv'.len, decide_eq_false (show ¬ ((ns.length : Int) ≠ ms.length) from fun e => e hne)]
  refine WC_loop_inv (fun m f K1 => ∃ (i : Nat), m = ns.length - i ∧ i ≤ ns.length ∧ f 0 = v ∧ f 1 = v' ∧ f 12 = I64 ns.length ∧ f 13 = I64 i ∧ (K1 = h) ∧ (∀ j, j < i → ns.getD j 0 = ms.getD j 0)) ?_ (ns.length - 0) _ _ ⟨0, rfl, by omega, (by first | rfl | (simp [upd_apply]; done)), (by first | rfl | (simp [upd_apply]; done)), (by first | rfl | (simp [upd_apply]; done)), (by first | rfl | (simp [upd_apply]; done)), rfl, (by omega)⟩
  rintro m f K1 ⟨i, rfl, hi, f0, f1, f12, f13, hK, hj⟩
  subst hK
  by_cases hlt : (i : Int) < ns.length
  · have hix := hv.ix (k := .i64) (j := i) (by omega) (by omega)
    have hrd := hv.rd (j := i) (by omega) (by omega)
    have hix' := hv'.ix (k := .i64) (j := i) (by omega) (by omega)
    have hrd' := hv'.rd (j := i) (by omega) (by omega)
    simp only [nth, Int.toNat_natCast] at hrd hrd'
    by_cases he : ns.getD i 0 = ms.getD i 0
    · try simp (maxSteps := 3000000) (disch := first | omega | (simp only [len_new, len_put, len_kill]; omega)) only [↓xpre, xpost, ↓reduceIte, Nat.reduceEqDiff, Nat.reduceAdd, Nat.reduceSub, Nat.reduceLeDiff, Nat.zero_add, Nat.sub_zero, f0, f1, f12, f13, decide_eq_true hlt, hix, hrd, hix', hrd', decide_eq_false (show ¬ (ns.getD i 0 ≠ ms.getD i 0) from fun e => e he), wrap64_in]
      refine InvQ_go (ns.length - (i + 1)) (by omega) ⟨(i + 1), rfl, by omega, (by first | rfl | exact f0 | (simp only [upd_apply]; rfl) | (show I64 _ = _; congr 1; omega)), (by first | rfl | exact f1 | (simp only [upd_apply]; rfl) | (show I64 _ = _; congr 1; omega)), (by first | rfl | exact f12 | (simp only [upd_apply]; rfl) | (show I64 _ = _; congr 1; omega)), (by first | rfl | exact f13 | (simp only [upd_apply]; rfl) | (show I64 _ = _; congr 1; omega)), rfl, (step_all hj he)⟩
    · try simp (maxSteps := 3000000) (disch := first | omega | (simp only [len_new, len_put, len_kill]; omega)) only [↓xpre, xpost, ↓reduceIte, Nat.reduceEqDiff, Nat.reduceAdd, Nat.reduceSub, Nat.reduceLeDiff, Nat.zero_add, Nat.sub_zero, f0, f1, f12, f13, decide_eq_true hlt, hix, hrd, hix', hrd', decide_eq_true (show ns.getD i 0 ≠ ms.getD i 0 from he)]
      have : ns ≠ ms := fun e => he (by rw [e])
      simpa [this] using hQ
  · have ei : i = ns.length := by omega
    try simp (maxSteps := 3000000) (disch := first | omega | (simp only [len_new, len_put, len_kill]; omega)) only [↓xpre, xpost, ↓reduceIte, Nat.reduceEqDiff, Nat.reduceAdd, Nat.reduceSub, Nat.reduceLeDiff, Nat.zero_add, Nat.sub_zero, f0, f1, f12, f13, decide_eq_false hlt]
    have : ns = ms := by
      refine getD_ext' (d := 0) (by omega) fun j hj' => hj j (by omega)
    simpa [this] using hQ
theorem i_HaveEqualSums {v w : Value} {x y : Sch} {h : AH} {Q : Value → AH → Prop} (hv : Prods h v x.ps) (hl : SmallX x.ps) (hw : Prods h w y.ps) (hl' : SmallX y.ps)
    (hQ : ∀ h', h <+: h' → Q (.tuple #[.bool (heR x y).1, I64 (heR x y).2]) h') : WF S 35 [schV x v, schV y w] h Q := by
  refine WF_fn (fn := c35) rfl rfl ?_
  unfold c35
  try simp (maxSteps := 3000000) (disch := first | omega | (simp only [len_new, len_put, len_kill]; omega)) only [↓xpre, xpost, ↓reduceIte, Nat.reduceEqDiff, Nat.reduceAdd, Nat.reduceSub, Nat.reduceLeDiff, Nat.zero_add, Nat.sub_zero, schV, hv.one, hw.one]
  generalize hH1 : AH.new h _ = H1
  obtain ⟨hb1, p1, n1⟩ := new_facts hH1
  generalize hH2 : AH.new H1 _ = H2
  obtain ⟨hb2, p2, n2⟩ := new_facts hH2
  have hb1 := pre_get p2 hb1
  try simp (maxSteps := 3000000) (disch := first | omega | (simp only [len_new, len_put, len_kill]; omega)) only [↓xpre, xpost, ↓reduceIte, Nat.reduceEqDiff, Nat.reduceAdd, Nat.reduceSub, Nat.reduceLeDiff, Nat.zero_add, Nat.sub_zero, rdn_of hb1, rdn_of hb2]
  refine i_pairCode (hv.pre (p1.trans p2)) hl (hw.pre (p1.trans p2)) hl' fun H3 p3 => ?_
  have hb1 := pre_get p3 hb1
  have hb2 := pre_get p3 hb2
  have ph := (p1.trans p2).trans p3
  unfold heR at hQ
  by_cases c0 : likeC x y = 0
  case neg =>
    have hQ2 := hQ _ ph
    rw [if_neg c0] at hQ2
    try simp (maxSteps := 3000000) (disch := first | omega | (simp only [len_new, len_put, len_kill]; omega)) only [↓xpre, xpost, ↓reduceIte, Nat.reduceEqDiff, Nat.reduceAdd, Nat.reduceSub, Nat.reduceLeDiff, Nat.zero_add, Nat.sub_zero, decide_eq_true (show likeC x y ≠ 0 from c0)]
    exact hQ2
  rw [if_pos c0] at hQ
  obtain ⟨⟨x1, y1⟩, lk⟩ := likeC_0 c0
  try simp (maxSteps := 3000000) (disch := first | omega | (simp only [len_new, len_put, len_kill]; omega)) only [↓xpre, xpost, ↓reduceIte, Nat.reduceEqDiff, Nat.reduceAdd, Nat.reduceSub, Nat.reduceLeDiff, Nat.zero_add, Nat.sub_zero, decide_eq_false (show ¬ (likeC x y ≠ 0) from fun e => e c0), rdn_of hb1]
  refine i_tensorOf (hv.pre ph) (isX_sz x1).1 (isX_sz x1).2 fun v4 H4 p4 o4 => ?_
  have hb2 := pre_get p4 hb2
  try simp (maxSteps := 3000000) (disch := first | omega | (simp only [len_new, len_put, len_kill]; omega)) only [↓xpre, xpost, ↓reduceIte, Nat.reduceEqDiff, Nat.reduceAdd, Nat.reduceSub, Nat.reduceLeDiff, Nat.zero_add, Nat.sub_zero, tenV, rdn_of hb2]
  refine ⟨p4, ?_⟩
  refine i_tensorOf (hw.pre (ph.trans p4)) (isX_sz y1).1 (isX_sz y1).2 fun v5 H5 p5 o5 => ?_
  try simp (maxSteps := 3000000) (disch := first | omega | (simp only [len_new, len_put, len_kill]; omega)) only [↓xpre, xpost, ↓reduceIte, Nat.reduceEqDiff, Nat.reduceAdd, Nat.reduceSub, Nat.reduceLeDiff, Nat.zero_add, Nat.sub_zero, tenV]
  refine i_EqualInts (o4.pre p5).ints o5.ints (tofX_small (isX_sz x1).1) ?_
  try simp (maxSteps := 3000000) (disch := first | omega | (simp only [len_new, len_put, len_kill]; omega)) only [↓xpre, xpost, ↓reduceIte, Nat.reduceEqDiff, Nat.reduceAdd, Nat.reduceSub, Nat.reduceLeDiff, Nat.zero_add, Nat.sub_zero]
  exact hQ _ ((ph.trans p4).trans p5)
theorem s_HaveEqualSums {v w : Value} {x y : Sch} {h : AH} {Q : Value → AH → Prop} (hv : Prods h v x.ps) (hl : SmallX x.ps) (hw : Prods h w y.ps) (hl' : SmallX y.ps)
    (hQ : ∀ h', h <+: h' → Q (.tuple #[.bool (heR x y).1, I64 (heR x y).2]) h') : WF S 34 [schV x v, schV y w] h Q := by
  refine WF_fn (fn := c34) rfl rfl ?_
  unfold c34
  try simp (maxSteps := 3000000) (disch := first | omega | (simp only [len_new, len_put, len_kill]; omega)) only [↓xpre, xpost, ↓reduceIte, Nat.reduceEqDiff, Nat.reduceAdd, Nat.reduceSub, Nat.reduceLeDiff, Nat.zero_add, Nat.sub_zero, schV, hv.one, hw.one]
  generalize hH1 : AH.new h _ = H1
  obtain ⟨hb1, p1, n1⟩ := new_facts hH1
  generalize hH2 : AH.new H1 _ = H2
  obtain ⟨hb2, p2, n2⟩ := new_facts hH2
  have hb1 := pre_get p2 hb1
  try simp (maxSteps := 3000000) (disch := first | omega | (simp only [len_new, len_put, len_kill]; omega)) only [↓xpre, xpost, ↓reduceIte, Nat.reduceEqDiff, Nat.reduceAdd, Nat.reduceSub, Nat.reduceLeDiff, Nat.zero_add, Nat.sub_zero, rdn_of hb1, rdn_of hb2]
  refine s_l03Like (hv.pre (p1.trans p2)) hl (hw.pre (p1.trans p2)) hl' fun H3 p3 => ?_
  have hb1 := pre_get p3 hb1
  have hb2 := pre_get p3 hb2
  have ph := (p1.trans p2).trans p3
  unfold heR at hQ
  by_cases c0 : likeC x y = 0
  case neg =>
    have hQ2 := hQ _ ph
    rw [if_neg c0] at hQ2
    try simp (maxSteps := 3000000) (disch := first | omega | (simp only [len_new, len_put, len_kill]; omega)) only [↓xpre, xpost, ↓reduceIte, Nat.reduceEqDiff, Nat.reduceAdd, Nat.reduceSub, Nat.reduceLeDiff, Nat.zero_add, Nat.sub_zero, decide_eq_true (show likeC x y ≠ 0 from c0)]
    exact hQ2
  rw [if_pos c0] at hQ
  obtain ⟨⟨x1, y1⟩, lk⟩ := likeC_0 c0
  have zx := (isX_sz x1).1
  have zy := (isX_sz y1).1
  have lx := (isX_sz x1).2
  have ly := (isX_sz y1).2
  try simp (maxSteps := 3000000) (disch := first | omega | (simp only [len_new, len_put, len_kill]; omega)) only [↓xpre, xpost, ↓reduceIte, Nat.reduceEqDiff, Nat.reduceAdd, Nat.reduceSub, Nat.reduceLeDiff, Nat.zero_add, Nat.sub_zero, decide_eq_false (show ¬ (likeC x y ≠ 0) from fun e => e c0), rdn_of hb1]
  refine s_l01Lengths hv.one zx fun H4 p4 => ?_
  have hb1 := pre_get p4 hb1
  have hb2 := pre_get p4 hb2
  have ph := ph.trans p4
  obtain ⟨lk1, lk2, lk3, lk4⟩ := lk
  have zi := zx.nm
  have zj := zx.mk2
  have zk := zx.nk
  have G1 : ∀ a b c : Nat, a < 9 → b < 9 → c < 9 → (lsN x a b c).tmod x.p = lsX x a b c := fun a b c ha hb hc => lsN_in hv zx ha hb hc
  have G2 : ∀ a b c : Nat, a < 9 → b < 9 → c < 9 → (lsN y a b c).tmod y.p = lsX y a b c := fun a b c ha hb hc => lsN_in hw zy ha hb hc
  have ex : (tofX x).ns = gen (x.n * x.m * (x.m * x.k) * (x.n * x.k)).toNat (tenG x.p (x.m * x.k) (x.n * x.k) (lsN x)) := rfl
  have ey : (tofX y).ns = gen (x.n * x.m * (x.m * x.k) * (x.n * x.k)).toNat (tenG y.p (x.m * x.k) (x.n * x.k) (lsN y)) := by
    unfold tofX tenT
    rw [← lk2, ← lk3, ← lk4]
  rw [ex, ey] at hQ
  try simp (maxSteps := 3000000) (disch := first | omega | (simp only [len_new, len_put, len_kill]; omega)) only [↓xpre, xpost, ↓reduceIte, Nat.reduceEqDiff, Nat.reduceAdd, Nat.reduceSub, Nat.reduceLeDiff, Nat.zero_add, Nat.sub_zero]
  generalize hI : x.n * x.m = i1 at *
  generalize hJ : x.m * x.k = j1 at *
  generalize hK : x.n * x.k = k1 at *
  obtain ⟨I, rfl⟩ : ∃ I : Nat, i1 = I := ⟨i1.toNat, by omega⟩
  obtain ⟨J, rfl⟩ : ∃ J : Nat, j1 = J := ⟨j1.toNat, by omega⟩
  obtain ⟨K, rfl⟩ : ∃ K : Nat, k1 = K := ⟨k1.toNat, by omega⟩
  have eN : ((I : Int) * (J : Int) * (K : Int)).toNat = I * J * K := by
    rw [show (I : Int) * (J : Int) * (K : Int) = ((I * J * K : Nat) : Int) by push_cast; rfl, Int.toNat_natCast]
  rw [eN] at hQ
  have ga : ∀ a b c : Nat, a < 9 → b < J → c < K → tenG x.p J K (lsN x) ((a * J + b) * K + c) = lsX x a b c := fun a b c ha hb hc => by
    rw [tenG_at (I := 0) hb hc]
    exact G1 a b c ha (by omega) (by omega)
  have gb : ∀ a b c : Nat, a < 9 → b < J → c < K → tenG y.p J K (lsN y) ((a * J + b) * K + c) = lsX y a b c := fun a b c ha hb hc => by
    rw [tenG_at (I := 0) hb hc]
    exact G2 a b c ha (by omega) (by omega)
  generalize tenG x.p J K (lsN x) = Gx at *
  generalize tenG y.p J K (lsN y) = Gy at *
  refine WC_loop_inv (fun m f K1 => ∃ (a : Nat), m = I - a ∧ a ≤ I ∧ f 2 = .pointer (some ⟨h.length, 0, none⟩) ∧ f 3 = .pointer (some ⟨H1.length, 0, none⟩) ∧ f 7 = I64 I ∧ f 8 = I64 J ∧ f 9 = I64 K ∧ f 10 = I64 a ∧ (H4 <+: K1) ∧ (∀ n, n < a * J * K → Gx n = Gy n)) ?_ (I - 0) _ _ ⟨0, rfl, by omega, (by first | rfl | (simp [upd_apply]; done)), (by first | rfl | (simp [upd_apply]; done)), (by first | rfl | (simp [upd_apply]; done)), (by first | rfl | (simp [upd_apply]; done)), (by first | rfl | (simp [upd_apply]; done)), (by first | rfl | (simp [upd_apply]; done)), List.prefix_refl _, (by omega)⟩
  rintro m f K1 ⟨a, rfl, ha, f2, f3, f7, f8, f9, f10, pp, he⟩
  by_cases hla : (a : Int) < I
  · try simp (maxSteps := 3000000) (disch := first | omega | (simp only [len_new, len_put, len_kill]; omega)) only [↓xpre, xpost, ↓reduceIte, Nat.reduceEqDiff, Nat.reduceAdd, Nat.reduceSub, Nat.reduceLeDiff, Nat.zero_add, Nat.sub_zero, f2, f3, f7, f8, f9, f10, decide_eq_true hla]
    refine WC_loop_inv (fun m f K2 => ∃ (b : Nat), m = J - b ∧ b ≤ J ∧ f 2 = .pointer (some ⟨h.length, 0, none⟩) ∧ f 3 = .pointer (some ⟨H1.length, 0, none⟩) ∧ f 7 = I64 I ∧ f 8 = I64 J ∧ f 9 = I64 K ∧ f 10 = I64 a ∧ f 11 = I64 b ∧ (H4 <+: K2) ∧ (∀ n, n < (a * J + b) * K → Gx n = Gy n)) ?_ (J - 0) _ _ ⟨0, rfl, by omega, (by first | rfl | exact f2 | (simp [upd_apply]; done)), (by first | rfl | exact f3 | (simp [upd_apply]; done)), (by first | rfl | exact f7 | (simp [upd_apply]; done)), (by first | rfl | exact f8 | (simp [upd_apply]; done)), (by first | rfl | exact f9 | (simp [upd_apply]; done)), (by first | rfl | exact f10 | (simp [upd_apply]; done)), (by first | rfl | (simp [upd_apply]; done)), pp, (by rw [Nat.add_zero]; exact he)⟩
    rintro m f K2 ⟨b, rfl, hb, f2, f3, f7, f8, f9, f10, f11, pp, he⟩
    by_cases hlb : (b : Int) < J
    · try simp (maxSteps := 3000000) (disch := first | omega | (simp only [len_new, len_put, len_kill]; omega)) only [↓xpre, xpost, ↓reduceIte, Nat.reduceEqDiff, Nat.reduceAdd, Nat.reduceSub, Nat.reduceLeDiff, Nat.zero_add, Nat.sub_zero, f2, f3, f7, f8, f9, f10, f11, decide_eq_true hlb]
      refine WC_loop_inv (fun m f K3 => ∃ (c : Nat), m = K - c ∧ c ≤ K ∧ f 2 = .pointer (some ⟨h.length, 0, none⟩) ∧ f 3 = .pointer (some ⟨H1.length, 0, none⟩) ∧ f 7 = I64 I ∧ f 8 = I64 J ∧ f 9 = I64 K ∧ f 10 = I64 a ∧ f 11 = I64 b ∧ f 12 = I64 c ∧ (H4 <+: K3) ∧ (∀ n, n < (a * J + b) * K + c → Gx n = Gy n)) ?_ (K - 0) _ _ ⟨0, rfl, by omega, (by first | rfl | exact f2 | (simp [upd_apply]; done)), (by first | rfl | exact f3 | (simp [upd_apply]; done)), (by first | rfl | exact f7 | (simp [upd_apply]; done)), (by first | rfl | exact f8 | (simp [upd_apply]; done)), (by first | rfl | exact f9 | (simp [upd_apply]; done)), (by first | rfl | exact f10 | (simp [upd_apply]; done)), (by first | rfl | exact f11 | (simp [upd_apply]; done)), (by first | rfl | (simp [upd_apply]; done)), pp, he⟩
      rintro m f K3 ⟨c, rfl, hc, f2, f3, f7, f8, f9, f10, f11, f12, pp, he⟩
      have hbx := pre_get pp hb1
      have hby := pre_get pp hb2
      by_cases hlc : (c : Int) < K
      · try simp (maxSteps := 3000000) (disch := first | omega | (simp only [len_new, len_put, len_kill]; omega)) only [↓xpre, xpost, ↓reduceIte, Nat.reduceEqDiff, Nat.reduceAdd, Nat.reduceSub, Nat.reduceLeDiff, Nat.zero_add, Nat.sub_zero, f2, f3, f7, f8, f9, f10, f11, f12, decide_eq_true hlc, rdn_of hbx]
        refine s_l01Sum (hv.pre (ph.trans pp)) zx lx (by omega) (by omega) (by omega) fun H6 p6 => ?_
        have hby := pre_get p6 hby
        try simp (maxSteps := 3000000) (disch := first | omega | (simp only [len_new, len_put, len_kill]; omega)) only [↓xpre, xpost, ↓reduceIte, Nat.reduceEqDiff, Nat.reduceAdd, Nat.reduceSub, Nat.reduceLeDiff, Nat.zero_add, Nat.sub_zero, f2, f3, f7, f8, f9, f10, f11, f12, rdn_of hby]
        refine ⟨p6, ?_⟩
        refine s_l01Sum (hw.pre ((ph.trans pp).trans p6)) zy ly (by omega) (by omega) (by omega) fun H7 p7 => ?_
        have xa := ga a b c (by omega) (by omega) (by omega)
        have xb := gb a b c (by omega) (by omega) (by omega)
        by_cases hd : lsX x a b c = lsX y a b c
        · try simp (maxSteps := 3000000) (disch := first | omega | (simp only [len_new, len_put, len_kill]; omega)) only [↓xpre, xpost, ↓reduceIte, Nat.reduceEqDiff, Nat.reduceAdd, Nat.reduceSub, Nat.reduceLeDiff, Nat.zero_add, Nat.sub_zero, f2, f3, f7, f8, f9, f10, f11, f12, decide_eq_false (show ¬ (lsX x a b c ≠ lsX y a b c) from fun e => e hd), wrap64_in]
          have he' : ∀ n, n < (a * J + b) * K + (c + 1) → Gx n = Gy n := fun n hn => by
            rcases Nat.lt_succ_iff_lt_or_eq.1 (show n < (a * J + b) * K + c + 1 by omega) with h1 | h1
            · exact he n h1
            · rw [h1, xa, xb, hd]
          refine InvQ_go (K - (c + 1)) (by omega) ⟨(c + 1), rfl, by omega, (by first | rfl | exact f2 | (simp only [upd_apply]; rfl) | (show I64 _ = _; congr 1; omega)), (by first | rfl | exact f3 | (simp only [upd_apply]; rfl) | (show I64 _ = _; congr 1; omega)), (by first | rfl | exact f7 | (simp only [upd_apply]; rfl) | (show I64 _ = _; congr 1; omega)), (by first | rfl | exact f8 | (simp only [upd_apply]; rfl) | (show I64 _ = _; congr 1; omega)), (by first | rfl | exact f9 | (simp only [upd_apply]; rfl) | (show I64 _ = _; congr 1; omega)), (by first | rfl | exact f10 | (simp only [upd_apply]; rfl) | (show I64 _ = _; congr 1; omega)), (by first | rfl | exact f11 | (simp only [upd_apply]; rfl) | (show I64 _ = _; congr 1; omega)), (by first | rfl | exact f12 | (simp only [upd_apply]; rfl) | (show I64 _ = _; congr 1; omega)), (pp.trans (p6.trans p7)), he'⟩
        · try simp (maxSteps := 3000000) (disch := first | omega | (simp only [len_new, len_put, len_kill]; omega)) only [↓xpre, xpost, ↓reduceIte, Nat.reduceEqDiff, Nat.reduceAdd, Nat.reduceSub, Nat.reduceLeDiff, Nat.zero_add, Nat.sub_zero, f2, f3, f7, f8, f9, f10, f11, f12, decide_eq_true (show lsX x a b c ≠ lsX y a b c from hd)]
          have hQ2 := hQ _ ((ph.trans pp).trans (p6.trans p7))
          have m2 : (a * J + b) * K + K ≤ I * J * K := mul_row (by have : a * J + J ≤ I * J := mul_row (by omega); omega)
          rw [decide_eq_false (fun e => hd (by
            have := congrArg (fun l => l.getD ((a * J + b) * K + c) 0) e
            simp only [gen_get (show (a * J + b) * K + c < I * J * K by omega)] at this
            rw [xa, xb] at this
            exact this))] at hQ2
          exact hQ2
      · have ec : c = K := by omega
        subst ec
        try simp (maxSteps := 3000000) (disch := first | omega | (simp only [len_new, len_put, len_kill]; omega)) only [↓xpre, xpost, ↓reduceIte, Nat.reduceEqDiff, Nat.reduceAdd, Nat.reduceSub, Nat.reduceLeDiff, Nat.zero_add, Nat.sub_zero, f2, f3, f7, f8, f9, f10, f11, f12, decide_eq_false hlc, wrap64_in]
        refine InvQ_go (J - (b + 1)) (by omega) ⟨(b + 1), rfl, by omega, (by first | rfl | exact f2 | (simp only [upd_apply]; rfl) | (show I64 _ = _; congr 1; omega)), (by first | rfl | exact f3 | (simp only [upd_apply]; rfl) | (show I64 _ = _; congr 1; omega)), (by first | rfl | exact f7 | (simp only [upd_apply]; rfl) | (show I64 _ = _; congr 1; omega)), (by first | rfl | exact f8 | (simp only [upd_apply]; rfl) | (show I64 _ = _; congr 1; omega)), (by first | rfl | exact f9 | (simp only [upd_apply]; rfl) | (show I64 _ = _; congr 1; omega)), (by first | rfl | exact f10 | (simp only [upd_apply]; rfl) | (show I64 _ = _; congr 1; omega)), (by first | rfl | exact f11 | (simp only [upd_apply]; rfl) | (show I64 _ = _; congr 1; omega)), pp, (by rw [show (a * J + (b + 1)) * c = (a * J + b) * c + c by rw [← Nat.add_assoc, Nat.succ_mul]]; exact he)⟩
    · have eb : b = J := by omega
      subst eb
      try simp (maxSteps := 3000000) (disch := first | omega | (simp only [len_new, len_put, len_kill]; omega)) only [↓xpre, xpost, ↓reduceIte, Nat.reduceEqDiff, Nat.reduceAdd, Nat.reduceSub, Nat.reduceLeDiff, Nat.zero_add, Nat.sub_zero, f2, f3, f7, f8, f9, f10, f11, decide_eq_false hlb, wrap64_in]
      refine InvQ_go (I - (a + 1)) (by omega) ⟨(a + 1), rfl, by omega, (by first | rfl | exact f2 | (simp only [upd_apply]; rfl) | (show I64 _ = _; congr 1; omega)), (by first | rfl | exact f3 | (simp only [upd_apply]; rfl) | (show I64 _ = _; congr 1; omega)), (by first | rfl | exact f7 | (simp only [upd_apply]; rfl) | (show I64 _ = _; congr 1; omega)), (by first | rfl | exact f8 | (simp only [upd_apply]; rfl) | (show I64 _ = _; congr 1; omega)), (by first | rfl | exact f9 | (simp only [upd_apply]; rfl) | (show I64 _ = _; congr 1; omega)), (by first | rfl | exact f10 | (simp only [upd_apply]; rfl) | (show I64 _ = _; congr 1; omega)), pp, (by rw [Nat.succ_mul]; exact he)⟩
  · have ea : a = I := by omega
    subst ea
    try simp (maxSteps := 3000000) (disch := first | omega | (simp only [len_new, len_put, len_kill]; omega)) only [↓xpre, xpost, ↓reduceIte, Nat.reduceEqDiff, Nat.reduceAdd, Nat.reduceSub, Nat.reduceLeDiff, Nat.zero_add, Nat.sub_zero, f2, f3, f7, f8, f9, f10, decide_eq_false hla]
    have hQ2 := hQ _ (ph.trans pp)
    rw [decide_eq_true (gen_congr fun i hi => he i hi)] at hQ2
    exact hQ2
end Go.Proofs.Ytphklalbkpohfaa.X
