/- Texts of one claim, put together by merge.py: XF1, XF2, XF3, XF4, XF5, XF6, XF7, XF8, XF9, XF16, XF17, XF18, XF19, XF20, XF21, XF22, XF23, XF24, XF25, XF26. -/
import Derived.Test.YtapafdpnmakekaaSI3
import Derived.Test.YtapafdpnmakekaaSI7
set_option linter.unusedVariables false
set_option linter.unusedSimpArgs false
namespace Go.Proofs.Ytapafdpnmakekaa.X
open Go Go.RowKit
def S : XS := ⟨fun _ => none, T⟩
theorem esound : ESound Try.prog S.E := fun g p hp => by cases hp
theorem s_l01In {a b c : Int} {h : AH} {Q : Value → AH → Prop} (hQ : Q (.bool (decide (b ≤ a ∧ a ≤ c))) h) : WF S 181 [I64 a, I64 b, I64 c] h Q := by
  refine WF_fn (fn := c181) rfl rfl ?_
  unfold c181
  try simp (maxSteps := 3000000) (disch := first | omega | (simp only [len_new, len_put, len_kill]; omega)) only [↓xpre, xpost, ↓reduceIte, Nat.reduceEqDiff, Nat.reduceAdd, Nat.reduceSub, Nat.reduceLeDiff, Nat.zero_add, Nat.sub_zero]
  by_cases h1 : b ≤ a
  · try simp (maxSteps := 3000000) (disch := first | omega | (simp only [len_new, len_put, len_kill]; omega)) only [↓xpre, xpost, ↓reduceIte, Nat.reduceEqDiff, Nat.reduceAdd, Nat.reduceSub, Nat.reduceLeDiff, Nat.zero_add, Nat.sub_zero, h1]
    simpa [h1] using hQ
  · try simp (maxSteps := 3000000) (disch := first | omega | (simp only [len_new, len_put, len_kill]; omega)) only [↓xpre, xpost, ↓reduceIte, Nat.reduceEqDiff, Nat.reduceAdd, Nat.reduceSub, Nat.reduceLeDiff, Nat.zero_add, Nat.sub_zero, h1]
    simpa [h1] using hQ
def isP (p : Int) : Bool := decide (p = 2 ∨ p = 3 ∨ p = 5)
theorem s_l01Prime {p : Int} {h : AH} {Q : Value → AH → Prop} (hQ : Q (.bool (isP p)) h) : WF S 224 [I64 p] h Q := by
  refine WF_fn (fn := c224) rfl rfl ?_
  unfold c224
  try simp (maxSteps := 3000000) (disch := first | omega | (simp only [len_new, len_put, len_kill]; omega)) only [↓xpre, xpost, ↓reduceIte, Nat.reduceEqDiff, Nat.reduceAdd, Nat.reduceSub, Nat.reduceLeDiff, Nat.zero_add, Nat.sub_zero]
  by_cases h1 : p = 2
  · try simp (maxSteps := 3000000) (disch := first | omega | (simp only [len_new, len_put, len_kill]; omega)) only [↓xpre, xpost, ↓reduceIte, Nat.reduceEqDiff, Nat.reduceAdd, Nat.reduceSub, Nat.reduceLeDiff, Nat.zero_add, Nat.sub_zero, h1]
    simpa [h1, isP] using hQ
  · try simp (maxSteps := 3000000) (disch := first | omega | (simp only [len_new, len_put, len_kill]; omega)) only [↓xpre, xpost, ↓reduceIte, Nat.reduceEqDiff, Nat.reduceAdd, Nat.reduceSub, Nat.reduceLeDiff, Nat.zero_add, Nat.sub_zero, h1]
    by_cases h2 : p = 3
    · try simp (maxSteps := 3000000) (disch := first | omega | (simp only [len_new, len_put, len_kill]; omega)) only [↓xpre, xpost, ↓reduceIte, Nat.reduceEqDiff, Nat.reduceAdd, Nat.reduceSub, Nat.reduceLeDiff, Nat.zero_add, Nat.sub_zero, h2]
      simpa [h2, isP] using hQ
    · try simp (maxSteps := 3000000) (disch := first | omega | (simp only [len_new, len_put, len_kill]; omega)) only [↓xpre, xpost, ↓reduceIte, Nat.reduceEqDiff, Nat.reduceAdd, Nat.reduceSub, Nat.reduceLeDiff, Nat.zero_add, Nat.sub_zero, h2]
      simpa [h1, h2, isP] using hQ
theorem i_isPrime {p : Int} {h : AH} {Q : Value → AH → Prop} (hQ : Q (.bool (isP p)) h) : WF S 166 [I64 p] h Q := by
  refine WF_fn (fn := c166) rfl rfl ?_
  unfold c166
  try simp (maxSteps := 3000000) (disch := first | omega | (simp only [len_new, len_put, len_kill]; omega)) only [↓xpre, xpost, ↓reduceIte, Nat.reduceEqDiff, Nat.reduceAdd, Nat.reduceSub, Nat.reduceLeDiff, Nat.zero_add, Nat.sub_zero]
  by_cases h1 : p = 2
  · try simp (maxSteps := 3000000) (disch := first | omega | (simp only [len_new, len_put, len_kill]; omega)) only [↓xpre, xpost, ↓reduceIte, Nat.reduceEqDiff, Nat.reduceAdd, Nat.reduceSub, Nat.reduceLeDiff, Nat.zero_add, Nat.sub_zero, h1]
    simpa [h1, isP] using hQ
  · try simp (maxSteps := 3000000) (disch := first | omega | (simp only [len_new, len_put, len_kill]; omega)) only [↓xpre, xpost, ↓reduceIte, Nat.reduceEqDiff, Nat.reduceAdd, Nat.reduceSub, Nat.reduceLeDiff, Nat.zero_add, Nat.sub_zero, h1]
    by_cases h2 : p = 3
    · try simp (maxSteps := 3000000) (disch := first | omega | (simp only [len_new, len_put, len_kill]; omega)) only [↓xpre, xpost, ↓reduceIte, Nat.reduceEqDiff, Nat.reduceAdd, Nat.reduceSub, Nat.reduceLeDiff, Nat.zero_add, Nat.sub_zero, h2]
      simpa [h2, isP] using hQ
    · try simp (maxSteps := 3000000) (disch := first | omega | (simp only [len_new, len_put, len_kill]; omega)) only [↓xpre, xpost, ↓reduceIte, Nat.reduceEqDiff, Nat.reduceAdd, Nat.reduceSub, Nat.reduceLeDiff, Nat.zero_add, Nat.sub_zero, h2]
      simpa [h1, h2, isP] using hQ
end Go.Proofs.Ytapafdpnmakekaa.X

set_option linter.unusedVariables false
set_option linter.unusedSimpArgs false
namespace Go.Proofs.Ytapafdpnmakekaa.X
open Go Go.RowKit
theorem splice_map {l : List Int} {j : Nat} {x : Int} (hj : j < l.length) : splice (l.map (Value.int .i64)) j [I64 x] = (l.set j x).map (Value.int .i64) := by
  unfold splice
  rw [List.set_eq_take_append_cons_drop, if_pos hj]
  simp [List.map_take, List.map_drop]
def OwnB (h : AH) (n : Nat) (c : List Value) (full : Bool) : Prop := ∃ e, h.get n = some ⟨c, e, false, full⟩
theorem ownB_new {h : AH} {c : List Value} {e : TypeId} {full : Bool} : OwnB (h.new ⟨c, e, false, full⟩) h.length c full := ⟨e, get_new_same⟩
def OwnI (h0 h : AH) (v : Value) (ns : List Int) : Prop := ∃ n e, h0.length ≤ n ∧ v = .slice (some ⟨n, 0, none⟩) ns.length 1 ∧ h.get n = some ⟨ns.map (Value.int .i64), e, false, true⟩
theorem OwnI.ints {h0 h : AH} {v : Value} {ns : List Int} (o : OwnI h0 h v ns) : Ints h v ns := by
  obtain ⟨n, e, h1, rfl, h2⟩ := o
  exact Ints.own h2 rfl
theorem OwnI.pre {h0 h h' : AH} {v : Value} {ns : List Int} (o : OwnI h0 h v ns) (p : h <+: h') : OwnI h0 h' v ns := by
  obtain ⟨n, e, h1, rfl, h2⟩ := o
  exact ⟨n, e, h1, rfl, pre_get p h2⟩
def allIn (p : Int) (ns : List Int) : Bool := ns.all fun n => decide (0 ≤ n ∧ n < p)
theorem allIn_iff {p : Int} {ns : List Int} : allIn p ns = true ↔ ∀ j, j < ns.length → 0 ≤ ns.getD j 0 ∧ ns.getD j 0 < p := by
  simp only [allIn, List.all_eq_true, decide_eq_true_eq]
  constructor
  · intro h j hj
    have := h (ns.getD j 0) (by simp [List.getD_eq_getElem?_getD, List.getElem?_eq_getElem hj])
    exact this
  · intro h x hx
    obtain ⟨j, hj, rfl⟩ := List.mem_iff_getElem.1 hx
    have := h j hj
    simpa [List.getD_eq_getElem?_getD, List.getElem?_eq_getElem hj] using this
theorem i_areNumbers {v : Value} {ns : List Int} {p : Int} {h : AH} {Q : Value → AH → Prop} (hv : Ints h v ns) (hl : (ns.length : Int) ≤ 1048576)
    (hQ : Q (.bool (allIn p ns)) h) : WF S 184 [I64 p, v] h Q := by
  refine WF_fn (fn := c184) rfl rfl ?_
  unfold c184
  try simp (maxSteps := 3000000) (disch := first | omega | (simp only [len_new, len_put, len_kill]; omega)) only [↓xpre, xpost, ↓reduceIte, Nat.reduceEqDiff, Nat.reduceAdd, Nat.reduceSub, Nat.reduceLeDiff, Nat.zero_add, Nat.sub_zero, hv.len]
  refine WC_loop_inv (fun n f h1 => ∃ i : Nat, n = ns.length - i ∧ i ≤ ns.length ∧ f 0 = I64 p ∧ f 7 = v ∧ f 8 = I64 ns.length ∧ f 9 = I64 i ∧ h1 = h ∧ ∀ j, j < i → 0 ≤ ns.getD j 0 ∧ ns.getD j 0 < p) ?_ ns.length _ _ ⟨0, rfl, Nat.zero_le _, rfl, rfl, rfl, rfl, rfl, by omega⟩
  rintro n f h1 ⟨i, rfl, hi, f0, f7, f8, f9, rfl, hj⟩
  try simp (maxSteps := 3000000) (disch := first | omega | (simp only [len_new, len_put, len_kill]; omega)) only [↓xpre, xpost, ↓reduceIte, Nat.reduceEqDiff, Nat.reduceAdd, Nat.reduceSub, Nat.reduceLeDiff, Nat.zero_add, Nat.sub_zero, f0, f7, f8, f9, IfW_dec]
  refine ⟨fun hlt => ?_, fun hge => ?_⟩
  · try simp (maxSteps := 3000000) (disch := first | omega | (simp only [len_new, len_put, len_kill]; omega)) only [↓xpre, xpost, ↓reduceIte, Nat.reduceEqDiff, Nat.reduceAdd, Nat.reduceSub, Nat.reduceLeDiff, Nat.zero_add, Nat.sub_zero, f0, f7, f8, f9, hv.ix, hv.rd]
    simp only [nth, Int.toNat_natCast]
    have bad : ¬ (0 ≤ ns.getD i 0 ∧ ns.getD i 0 < p) → allIn p ns = false := fun hb => by
      cases ha : allIn p ns with
      | false => rfl
      | true => exact (hb (allIn_iff.1 ha i (by omega))).elim
    by_cases h1 : ns.getD i 0 < 0
    · try simp (maxSteps := 3000000) (disch := first | omega | (simp only [len_new, len_put, len_kill]; omega)) only [↓xpre, xpost, ↓reduceIte, Nat.reduceEqDiff, Nat.reduceAdd, Nat.reduceSub, Nat.reduceLeDiff, Nat.zero_add, Nat.sub_zero, h1, f0, f7, f8, f9]
      rw [bad (by omega)] at hQ
      exact hQ
    · try simp (maxSteps := 3000000) (disch := first | omega | (simp only [len_new, len_put, len_kill]; omega)) only [↓xpre, xpost, ↓reduceIte, Nat.reduceEqDiff, Nat.reduceAdd, Nat.reduceSub, Nat.reduceLeDiff, Nat.zero_add, Nat.sub_zero, h1, f0, f7, f8, f9, IfW_dec]
      refine ⟨fun h2 => ?_, fun h2 => ?_⟩
      · try simp (maxSteps := 3000000) (disch := first | omega | (simp only [len_new, len_put, len_kill]; omega)) only [↓xpre, xpost, ↓reduceIte, Nat.reduceEqDiff, Nat.reduceAdd, Nat.reduceSub, Nat.reduceLeDiff, Nat.zero_add, Nat.sub_zero]
        rw [bad (by omega)] at hQ
        exact hQ
      · try simp (maxSteps := 3000000) (disch := first | omega | (simp only [len_new, len_put, len_kill]; omega)) only [↓xpre, xpost, ↓reduceIte, Nat.reduceEqDiff, Nat.reduceAdd, Nat.reduceSub, Nat.reduceLeDiff, Nat.zero_add, Nat.sub_zero, f0, f7, f8, f9, wrap64_in]
        refine InvQ_go (ns.length - (i + 1)) (by omega) ⟨i + 1, rfl, by omega, f0, f7, f8, rfl, rfl, fun j hj' => ?_⟩
        rcases Nat.lt_succ_iff_lt_or_eq.1 hj' with hj' | rfl
        · exact hj j hj'
        · omega
  · try simp (maxSteps := 3000000) (disch := first | omega | (simp only [len_new, len_put, len_kill]; omega)) only [↓xpre, xpost, ↓reduceIte, Nat.reduceEqDiff, Nat.reduceAdd, Nat.reduceSub, Nat.reduceLeDiff, Nat.zero_add, Nat.sub_zero, f0, f7, f8, f9]
    have : allIn p ns = true := allIn_iff.2 fun j hj' => hj j (by omega)
    rw [this] at hQ
    exact hQ
end Go.Proofs.Ytapafdpnmakekaa.X

set_option linter.unusedVariables false
set_option linter.unusedSimpArgs false
namespace Go.Proofs.Ytapafdpnmakekaa.X
open Go Go.RowKit
theorem new_facts {h H : AH} {b : Blk} (e : h.new b = H) : H.get h.length = some b ∧ h <+: H ∧ H.length = h.length + 1 := by
  subst e
  exact ⟨get_new_same, pre_new (List.prefix_refl _), len_new⟩
structure Ten where
  p : Int
  i : Int
  j : Int
  k : Int
  ns : List Int
  deriving DecidableEq
def tenV (t : Ten) (v : Value) : Value := .agg #[I64 t.p, I64 t.i, I64 t.j, I64 t.k, v]
def side (n : Int) : Bool := decide (1 ≤ n ∧ n ≤ 9)
def isT (t : Ten) : Bool := isP t.p && side t.i && side t.j && side t.k && decide ((t.ns.length : Int) = t.i * t.j * t.k) && allIn t.p t.ns
theorem side_iff {n : Int} : side n = true ↔ 1 ≤ n ∧ n ≤ 9 := by simp [side]
theorem isP_in {p : Int} (h : isP p = true) : 2 ≤ p ∧ p ≤ 5 := by
  simp [isP] at h
  omega
theorem mul_in {a b A B : Int} (ha : 0 ≤ a ∧ a ≤ A) (hb : 0 ≤ b ∧ b ≤ B) : 0 ≤ a * b ∧ a * b ≤ A * B :=
  ⟨Int.mul_nonneg ha.1 hb.1, Int.mul_le_mul ha.2 hb.2 hb.1 (by omega)⟩
theorem s_l05Is {v : Value} {t : Ten} {h : AH} {Q : Value → AH → Prop} (hv : Ints h v t.ns) (hl : (t.ns.length : Int) ≤ 1048576)
    (hQ : ∀ h', h <+: h' → Q (.bool (isT t)) h') : WF S 173 [tenV t v] h Q := by
  refine WF_fn (fn := c173) rfl rfl ?_
  unfold c173
  try simp (maxSteps := 3000000) (disch := first | omega | (simp only [len_new, len_put, len_kill]; omega)) only [↓xpre, xpost, ↓reduceIte, Nat.reduceEqDiff, Nat.reduceAdd, Nat.reduceSub, Nat.reduceLeDiff, Nat.zero_add, Nat.sub_zero, tenV, hv.one]
  generalize hH : AH.new h _ = H
  obtain ⟨hb, hp, hlen⟩ := new_facts hH
  have hv1 := hv.pre hp
  have hQ' := hQ _ hp
  refine s_l01Prime ?_
  cases h1 : isP t.p with
  | false =>
    try simp (maxSteps := 3000000) (disch := first | omega | (simp only [len_new, len_put, len_kill]; omega)) only [↓xpre, xpost, ↓reduceIte, Nat.reduceEqDiff, Nat.reduceAdd, Nat.reduceSub, Nat.reduceLeDiff, Nat.zero_add, Nat.sub_zero, h1]
    simpa [isT, h1] using hQ'
  | true =>
    try simp (maxSteps := 3000000) (disch := first | omega | (simp only [len_new, len_put, len_kill]; omega)) only [↓xpre, xpost, ↓reduceIte, Nat.reduceEqDiff, Nat.reduceAdd, Nat.reduceSub, Nat.reduceLeDiff, Nat.zero_add, Nat.sub_zero, h1, rd1_of hb]
    refine s_l01In ?_
    by_cases h2 : 1 ≤ t.i ∧ t.i ≤ 9
    case neg =>
      try simp (maxSteps := 3000000) (disch := first | omega | (simp only [len_new, len_put, len_kill]; omega)) only [↓xpre, xpost, ↓reduceIte, Nat.reduceEqDiff, Nat.reduceAdd, Nat.reduceSub, Nat.reduceLeDiff, Nat.zero_add, Nat.sub_zero, h2]
      simpa [isT, side, h2] using hQ'
    try simp (maxSteps := 3000000) (disch := first | omega | (simp only [len_new, len_put, len_kill]; omega)) only [↓xpre, xpost, ↓reduceIte, Nat.reduceEqDiff, Nat.reduceAdd, Nat.reduceSub, Nat.reduceLeDiff, Nat.zero_add, Nat.sub_zero, h2, rd1_of hb]
    refine s_l01In ?_
    by_cases h3 : 1 ≤ t.j ∧ t.j ≤ 9
    case neg =>
      try simp (maxSteps := 3000000) (disch := first | omega | (simp only [len_new, len_put, len_kill]; omega)) only [↓xpre, xpost, ↓reduceIte, Nat.reduceEqDiff, Nat.reduceAdd, Nat.reduceSub, Nat.reduceLeDiff, Nat.zero_add, Nat.sub_zero, h3]
      simpa [isT, side, h3] using hQ'
    try simp (maxSteps := 3000000) (disch := first | omega | (simp only [len_new, len_put, len_kill]; omega)) only [↓xpre, xpost, ↓reduceIte, Nat.reduceEqDiff, Nat.reduceAdd, Nat.reduceSub, Nat.reduceLeDiff, Nat.zero_add, Nat.sub_zero, h3, rd1_of hb]
    refine s_l01In ?_
    by_cases h4 : 1 ≤ t.k ∧ t.k ≤ 9
    case neg =>
      try simp (maxSteps := 3000000) (disch := first | omega | (simp only [len_new, len_put, len_kill]; omega)) only [↓xpre, xpost, ↓reduceIte, Nat.reduceEqDiff, Nat.reduceAdd, Nat.reduceSub, Nat.reduceLeDiff, Nat.zero_add, Nat.sub_zero, h4]
      simpa [isT, side, h4] using hQ'
    have b1 := isP_in h1
    have b2 := mul_in (a := t.i) (b := t.j) (A := 9) (B := 9) (by omega) (by omega)
    have b3 := mul_in (a := t.i * t.j) (b := t.k) (A := 81) (B := 9) (by omega) (by omega)
    try simp (maxSteps := 3000000) (disch := first | omega | (simp only [len_new, len_put, len_kill]; omega)) only [↓xpre, xpost, ↓reduceIte, Nat.reduceEqDiff, Nat.reduceAdd, Nat.reduceSub, Nat.reduceLeDiff, Nat.zero_add, Nat.sub_zero, h4, rd1_of hb, hv1.len, wrap64_in, IfW_dec]
    refine ⟨fun hne => ?_, fun he => ?_⟩
    · simpa [isT, hne] using hQ'
    refine WC_loop_inv (fun n f h1 => ∃ i : Nat, n = t.ns.length - i ∧ i ≤ t.ns.length ∧ f 1 = .pointer (some ⟨h.length, 0, none⟩) ∧ f 3 = I64 i ∧ h1 = H ∧
      ∀ j, j < i → 0 ≤ t.ns.getD j 0 ∧ t.ns.getD j 0 < t.p) ?_ t.ns.length _ _ ⟨0, rfl, Nat.zero_le _, rfl, rfl, rfl, by omega⟩
    rintro n f h1' ⟨i, rfl, hi, f1, f3, rfl, hj⟩
    try simp (maxSteps := 3000000) (disch := first | omega | (simp only [len_new, len_put, len_kill]; omega)) only [↓xpre, xpost, ↓reduceIte, Nat.reduceEqDiff, Nat.reduceAdd, Nat.reduceSub, Nat.reduceLeDiff, Nat.zero_add, Nat.sub_zero, f1, f3, rd1_of hb, hv1.len, IfW_dec]
    refine ⟨fun hlt => ?_, fun hge => ?_⟩
    · try simp (maxSteps := 3000000) (disch := first | omega | (simp only [len_new, len_put, len_kill]; omega)) only [↓xpre, xpost, ↓reduceIte, Nat.reduceEqDiff, Nat.reduceAdd, Nat.reduceSub, Nat.reduceLeDiff, Nat.zero_add, Nat.sub_zero, f1, f3, rd1_of hb, hv1.ix, hv1.rd, wrap64_in]
      refine s_l01In ?_
      simp only [nth, Int.toNat_natCast]
      by_cases h5 : 0 ≤ t.ns.getD i 0 ∧ t.ns.getD i 0 ≤ t.p - 1
      · try simp (maxSteps := 3000000) (disch := first | omega | (simp only [len_new, len_put, len_kill]; omega)) only [↓xpre, xpost, ↓reduceIte, Nat.reduceEqDiff, Nat.reduceAdd, Nat.reduceSub, Nat.reduceLeDiff, Nat.zero_add, Nat.sub_zero, h5, f1, f3, wrap64_in]
        refine InvQ_go (t.ns.length - (i + 1)) (by omega) ⟨i + 1, rfl, by omega, f1, rfl, rfl, fun j hj' => ?_⟩
        rcases Nat.lt_succ_iff_lt_or_eq.1 hj' with hj' | rfl
        · exact hj j hj'
        · omega
      · try simp (maxSteps := 3000000) (disch := first | omega | (simp only [len_new, len_put, len_kill]; omega)) only [↓xpre, xpost, ↓reduceIte, Nat.reduceEqDiff, Nat.reduceAdd, Nat.reduceSub, Nat.reduceLeDiff, Nat.zero_add, Nat.sub_zero, h5, f1, f3]
        have : allIn t.p t.ns = false := by
          cases ha : allIn t.p t.ns with
          | false => rfl
          | true =>
            have := allIn_iff.1 ha i (by omega)
            omega
        simpa [isT, this] using hQ'
    · try simp (maxSteps := 3000000) (disch := first | omega | (simp only [len_new, len_put, len_kill]; omega)) only [↓xpre, xpost, ↓reduceIte, Nat.reduceEqDiff, Nat.reduceAdd, Nat.reduceSub, Nat.reduceLeDiff, Nat.zero_add, Nat.sub_zero, f1, f3]
      have : allIn t.p t.ns = true := allIn_iff.2 fun j hj' => hj j (by omega)
      have e' := Decidable.not_not.1 he
      simpa [isT, this, h1, h2, h3, h4, e', side] using hQ'
end Go.Proofs.Ytapafdpnmakekaa.X

set_option linter.unusedVariables false
set_option linter.unusedSimpArgs false
namespace Go.Proofs.Ytapafdpnmakekaa.X
open Go Go.RowKit
theorem side_no {n : Int} (h : ¬ (1 ≤ n ∧ n ≤ 9)) : side n = false := by simp [side]; omega
theorem all_iff {q : Int → Bool} {ns : List Int} : ns.all q = true ↔ ∀ j, j < ns.length → q (ns.getD j 0) = true := by
  simp only [List.all_eq_true]
  constructor
  · intro h j hj
    exact h _ (by simp [List.getD_eq_getElem?_getD, List.getElem?_eq_getElem hj])
  · intro h x hx
    obtain ⟨j, hj, rfl⟩ := List.mem_iff_getElem.1 hx
    have := h j hj
    simpa [List.getD_eq_getElem?_getD, List.getElem?_eq_getElem hj] using this
theorem all_not {q : Int → Bool} {ns : List Int} {j : Nat} (hj : j < ns.length) (h : q (ns.getD j 0) = false) : ns.all q = false := by
  cases ha : ns.all q with
  | false => rfl
  | true => rw [all_iff.1 ha j hj] at h; cases h
theorem i_isSide {v : Value} {ns : List Int} {h : AH} {Q : Value → AH → Prop} (hv : Ints h v ns) (hl : (ns.length : Int) ≤ 1048576)
    (hQ : Q (.bool (ns.all side)) h) : WF S 183 [v] h Q := by
  refine WF_fn (fn := c183) rfl rfl ?_
  unfold c183
  try simp (maxSteps := 3000000) (disch := first | omega | (simp only [len_new, len_put, len_kill]; omega)) only [↓xpre, xpost, ↓reduceIte, Nat.reduceEqDiff, Nat.reduceAdd, Nat.reduceSub, Nat.reduceLeDiff, Nat.zero_add, Nat.sub_zero, hv.len]
  refine WC_loop_inv (fun n f h1 => ∃ i : Nat, n = ns.length - i ∧ i ≤ ns.length ∧ f 5 = v ∧ f 6 = I64 ns.length ∧ f 7 = I64 i ∧ h1 = h ∧ ∀ j, j < i → side (ns.getD j 0) = true) ?_ ns.length _ _ ⟨0, rfl, Nat.zero_le _, rfl, rfl, rfl, rfl, by omega⟩
  rintro n f h1 ⟨i, rfl, hi, f5, f6, f7, rfl, hj⟩
  try simp (maxSteps := 3000000) (disch := first | omega | (simp only [len_new, len_put, len_kill]; omega)) only [↓xpre, xpost, ↓reduceIte, Nat.reduceEqDiff, Nat.reduceAdd, Nat.reduceSub, Nat.reduceLeDiff, Nat.zero_add, Nat.sub_zero, f5, f6, f7, IfW_dec]
  refine ⟨fun hlt => ?_, fun hge => ?_⟩
  · try simp (maxSteps := 3000000) (disch := first | omega | (simp only [len_new, len_put, len_kill]; omega)) only [↓xpre, xpost, ↓reduceIte, Nat.reduceEqDiff, Nat.reduceAdd, Nat.reduceSub, Nat.reduceLeDiff, Nat.zero_add, Nat.sub_zero, f5, f6, f7, hv.ix, hv.rd]
    simp only [nth, Int.toNat_natCast]
    by_cases h1 : ns.getD i 0 < 1
    · try simp (maxSteps := 3000000) (disch := first | omega | (simp only [len_new, len_put, len_kill]; omega)) only [↓xpre, xpost, ↓reduceIte, Nat.reduceEqDiff, Nat.reduceAdd, Nat.reduceSub, Nat.reduceLeDiff, Nat.zero_add, Nat.sub_zero, h1, f5, f6, f7]
      rw [all_not (j := i) (by omega) (side_no (by omega))] at hQ
      exact hQ
    · try simp (maxSteps := 3000000) (disch := first | omega | (simp only [len_new, len_put, len_kill]; omega)) only [↓xpre, xpost, ↓reduceIte, Nat.reduceEqDiff, Nat.reduceAdd, Nat.reduceSub, Nat.reduceLeDiff, Nat.zero_add, Nat.sub_zero, h1, f5, f6, f7, IfW_dec]
      refine ⟨fun h2 => ?_, fun h2 => ?_⟩
      · rw [all_not (j := i) (by omega) (side_no (by omega))] at hQ
        exact hQ
      · try simp (maxSteps := 3000000) (disch := first | omega | (simp only [len_new, len_put, len_kill]; omega)) only [↓xpre, xpost, ↓reduceIte, Nat.reduceEqDiff, Nat.reduceAdd, Nat.reduceSub, Nat.reduceLeDiff, Nat.zero_add, Nat.sub_zero, f5, f6, f7, wrap64_in]
        refine InvQ_go (ns.length - (i + 1)) (by omega) ⟨i + 1, rfl, by omega, f5, f6, rfl, rfl, fun j hj' => ?_⟩
        rcases Nat.lt_succ_iff_lt_or_eq.1 hj' with hj' | rfl
        · exact hj j hj'
        · rw [side_iff]; omega
  · rw [all_iff.2 fun j hj' => hj j (by omega)] at hQ
    exact hQ
theorem ints_lit {h : AH} {n : Nat} {a b c : Int} {e : TypeId} {ro full : Bool} (hb : h.get n = some ⟨[I64 a, I64 b, I64 c], e, ro, full⟩) : Ints h (.slice (some ⟨n, 0, none⟩) 3 1) [a, b, c] := Ints.own (ns := [a, b, c]) hb rfl
theorem i_IsTensor {v : Value} {t : Ten} {h : AH} {Q : Value → AH → Prop} (hv : Ints h v t.ns) (hl : (t.ns.length : Int) ≤ 1048576)
    (hQ : ∀ h', h <+: h' → Q (.bool (isT t)) h') : WF S 28 [tenV t v] h Q := by
  refine WF_fn (fn := c28) rfl rfl ?_
  unfold c28
  try simp (maxSteps := 3000000) (disch := first | omega | (simp only [len_new, len_put, len_kill]; omega)) only [↓xpre, xpost, ↓reduceIte, Nat.reduceEqDiff, Nat.reduceAdd, Nat.reduceSub, Nat.reduceLeDiff, Nat.zero_add, Nat.sub_zero, tenV, hv.one]
  generalize hH : AH.new h _ = H
  obtain ⟨hb, hp, hlen⟩ := new_facts hH
  have hv1 := hv.pre hp
  have hQ' := hQ _ hp
  refine i_isPrime ?_
  cases h1 : isP t.p with
  | false =>
    try simp (maxSteps := 3000000) (disch := first | omega | (simp only [len_new, len_put, len_kill]; omega)) only [↓xpre, xpost, ↓reduceIte, Nat.reduceEqDiff, Nat.reduceAdd, Nat.reduceSub, Nat.reduceLeDiff, Nat.zero_add, Nat.sub_zero, h1]
    simpa [isT, h1] using hQ'
  | true =>
    try simp (maxSteps := 3000000) (disch := first | omega | (simp only [len_new, len_put, len_kill]; omega)) only [↓xpre, xpost, ↓reduceIte, Nat.reduceEqDiff, Nat.reduceAdd, Nat.reduceSub, Nat.reduceLeDiff, Nat.zero_add, Nat.sub_zero, h1, rd1_of hb, fillL, zrep]
    generalize hH2 : AH.new H _ = H2
    obtain ⟨hb2, hp2, hlen2⟩ := new_facts hH2
    have hb := pre_get hp2 hb
    have hv2 := hv1.pre hp2
    have hQ2 := hQ _ (hp.trans hp2)
    have b1 := isP_in h1
    refine i_isSide (ints_lit hb2) (by simp) ?_
    cases h2 : [t.i, t.j, t.k].all side with
    | false =>
      try simp (maxSteps := 3000000) (disch := first | omega | (simp only [len_new, len_put, len_kill]; omega)) only [↓xpre, xpost, ↓reduceIte, Nat.reduceEqDiff, Nat.reduceAdd, Nat.reduceSub, Nat.reduceLeDiff, Nat.zero_add, Nat.sub_zero, h2]
      have : isT t = false := by
        simp only [List.all_cons, List.all_nil, Bool.and_true] at h2
        simp only [isT, Bool.and_assoc] at h2 ⊢
        cases h3 : side t.i <;> cases h4 : side t.j <;> cases h5 : side t.k <;> simp [h3, h4, h5] at h2 ⊢
      rw [this] at hQ2
      exact hQ2
    | true =>
      simp only [List.all_cons, List.all_nil, Bool.and_true, Bool.and_eq_true] at h2
      have h3 := side_iff.1 h2.1
      have h4 := side_iff.1 h2.2.1
      have h5 := side_iff.1 h2.2.2
      have b2 := mul_in (a := t.i) (b := t.j) (A := 9) (B := 9) (by omega) (by omega)
      have b3 := mul_in (a := t.i * t.j) (b := t.k) (A := 81) (B := 9) (by omega) (by omega)
      try simp (maxSteps := 3000000) (disch := first | omega | (simp only [len_new, len_put, len_kill]; omega)) only [↓xpre, xpost, ↓reduceIte, Nat.reduceEqDiff, Nat.reduceAdd, Nat.reduceSub, Nat.reduceLeDiff, Nat.zero_add, Nat.sub_zero, rd1_of hb, hv2.len, wrap64_in]
      by_cases he : (t.ns.length : Int) = t.i * t.j * t.k
      · try simp (maxSteps := 3000000) (disch := first | omega | (simp only [len_new, len_put, len_kill]; omega)) only [↓xpre, xpost, ↓reduceIte, Nat.reduceEqDiff, Nat.reduceAdd, Nat.reduceSub, Nat.reduceLeDiff, Nat.zero_add, Nat.sub_zero, rd1_of hb, ← he]
        refine i_areNumbers hv2 hl ?_
        try simp (maxSteps := 3000000) (disch := first | omega | (simp only [len_new, len_put, len_kill]; omega)) only [↓xpre, xpost, ↓reduceIte, Nat.reduceEqDiff, Nat.reduceAdd, Nat.reduceSub, Nat.reduceLeDiff, Nat.zero_add, Nat.sub_zero]
        have : isT t = allIn t.p t.ns := by simp [isT, h1, h2, ← he]
        rw [this] at hQ2
        exact hQ2
      · try simp (maxSteps := 3000000) (disch := first | omega | (simp only [len_new, len_put, len_kill]; omega)) only [↓xpre, xpost, ↓reduceIte, Nat.reduceEqDiff, Nat.reduceAdd, Nat.reduceSub, Nat.reduceLeDiff, Nat.zero_add, Nat.sub_zero, he]
        have : isT t = false := by simp [isT, he]
        rw [this] at hQ2
        exact hQ2
end Go.Proofs.Ytapafdpnmakekaa.X

set_option linter.unusedVariables false
set_option linter.unusedSimpArgs false
namespace Go.Proofs.Ytapafdpnmakekaa.X
open Go Go.RowKit
structure TF (t : Ten) : Prop where
  p : 2 ≤ t.p ∧ t.p ≤ 5
  i : 1 ≤ t.i ∧ t.i ≤ 9
  j : 1 ≤ t.j ∧ t.j ≤ 9
  k : 1 ≤ t.k ∧ t.k ≤ 9
  len : (t.ns.length : Int) = t.i * t.j * t.k
  num : ∀ x : Int, 0 ≤ x → x < t.ns.length → 0 ≤ nth t.ns x ∧ nth t.ns x < t.p
  ij : 1 ≤ t.i * t.j ∧ t.i * t.j ≤ 81
  ijk : 1 ≤ t.i * t.j * t.k ∧ t.i * t.j * t.k ≤ 729
theorem mul_in1 {a b A B : Int} (ha : 1 ≤ a ∧ a ≤ A) (hb : 1 ≤ b ∧ b ≤ B) : 1 ≤ a * b ∧ a * b ≤ A * B := by
  refine ⟨?_, (mul_in (by omega) (by omega)).2⟩
  have := Int.mul_le_mul ha.1 hb.1 (by omega) (by omega)
  simpa using this
theorem isT_facts {t : Ten} (h : isT t = true) : TF t := by
  simp only [isT, Bool.and_eq_true, decide_eq_true_eq] at h
  obtain ⟨⟨⟨⟨⟨h1, h2⟩, h3⟩, h4⟩, h5⟩, h6⟩ := h
  have i2 := side_iff.1 h2
  have i3 := side_iff.1 h3
  have i4 := side_iff.1 h4
  have ij := mul_in1 (A := 9) (B := 9) i2 i3
  have ijk := mul_in1 (A := 81) (B := 9) ij i4
  exact ⟨isP_in h1, i2, i3, i4, h5, fun x h0 hx => allIn_iff.1 h6 x.toNat (by omega), ij, ijk⟩
theorem lin_in {i j I J : Int} (hi : 0 ≤ i ∧ i < I) (hj : 0 ≤ j ∧ j < J) : 0 ≤ i * J ∧ 0 ≤ i * J + j ∧ i * J + j < I * J := by
  have h1 := Int.mul_nonneg hi.1 (show 0 ≤ J by omega)
  have h2 := Int.mul_le_mul_of_nonneg_right (show i + 1 ≤ I by omega) (show 0 ≤ J by omega)
  rw [Int.add_mul, Int.one_mul] at h2
  omega
def tat (t : Ten) (i j k : Int) : Int := nth t.ns ((i * t.j + j) * t.k + k)
theorem s_l05At {v : Value} {t : Ten} {i j k : Int} {h : AH} {Q : Value → AH → Prop} (hv : Ints h v t.ns) (f : TF t) (hi : 0 ≤ i ∧ i < t.i) (hj : 0 ≤ j ∧ j < t.j) (hk : 0 ≤ k ∧ k < t.k)
    (hQ : ∀ h', h <+: h' → Q (I64 (tat t i j k)) h') : WF S 190 [tenV t v, I64 i, I64 j, I64 k] h Q := by
  refine WF_fn (fn := c190) rfl rfl ?_
  unfold c190
  have b1 := lin_in hi hj
  have b2 := lin_in b1.2 hk
  have b3 := f.ij
  have b4 := f.ijk
  have b5 := f.len
  have hv1 := hv.pre (pre_new (b := ⟨[I64 t.p, I64 t.i, I64 t.j, I64 t.k, v], 36, false, true⟩) (List.prefix_refl h))
  try simp (maxSteps := 3000000) (disch := first | omega | (simp only [len_new, len_put, len_kill]; omega)) only [↓xpre, xpost, ↓reduceIte, Nat.reduceEqDiff, Nat.reduceAdd, Nat.reduceSub, Nat.reduceLeDiff, Nat.zero_add, Nat.sub_zero, tenV, hv.one, wrap64_in, hv1.ix, hv1.rd]
  exact hQ _ (pre_new (List.prefix_refl _))
theorem i_at {v : Value} {t : Ten} {i j k : Int} {h : AH} {Q : Value → AH → Prop} (hv : Ints h v t.ns) (f : TF t) (hi : 0 ≤ i ∧ i < t.i) (hj : 0 ≤ j ∧ j < t.j) (hk : 0 ≤ k ∧ k < t.k)
    (hQ : ∀ h', h <+: h' → Q (I64 (tat t i j k)) h') : WF S 180 [tenV t v, I64 i, I64 j, I64 k] h Q := by
  refine WF_fn (fn := c180) rfl rfl ?_
  unfold c180
  have b1 := lin_in hi hj
  have b2 := lin_in b1.2 hk
  have b3 := f.ij
  have b4 := f.ijk
  have b5 := f.len
  have hv1 := hv.pre (pre_new (b := ⟨[I64 t.p, I64 t.i, I64 t.j, I64 t.k, v], 36, false, true⟩) (List.prefix_refl h))
  try simp (maxSteps := 3000000) (disch := first | omega | (simp only [len_new, len_put, len_kill]; omega)) only [↓xpre, xpost, ↓reduceIte, Nat.reduceEqDiff, Nat.reduceAdd, Nat.reduceSub, Nat.reduceLeDiff, Nat.zero_add, Nat.sub_zero, tenV, hv.one, wrap64_in, hv1.ix, hv1.rd]
  exact hQ _ (pre_new (List.prefix_refl _))
def numAt (t : Ten) (i j k : Int) : Value :=
  if isT t = true then (if (0 ≤ i ∧ i < t.i) ∧ (0 ≤ j ∧ j < t.j) ∧ (0 ≤ k ∧ k < t.k) then .tuple #[I64 (tat t i j k), I64 0] else .tuple #[I64 0, I64 2]) else .tuple #[I64 0, I64 1]
theorem s_NumberAt {v : Value} {t : Ten} {i j k : Int} {h : AH} {Q : Value → AH → Prop} (hv : Ints h v t.ns) (hl : (t.ns.length : Int) ≤ 1048576)
    (hQ : ∀ h', h <+: h' → Q (numAt t i j k) h') : WF S 117 [tenV t v, I64 i, I64 j, I64 k] h Q := by
  refine WF_fn (fn := c117) rfl rfl ?_
  unfold c117
  try simp (maxSteps := 3000000) (disch := first | omega | (simp only [len_new, len_put, len_kill]; omega)) only [↓xpre, xpost, ↓reduceIte, Nat.reduceEqDiff, Nat.reduceAdd, Nat.reduceSub, Nat.reduceLeDiff, Nat.zero_add, Nat.sub_zero, tenV, hv.one]
  generalize hH : AH.new h _ = H
  obtain ⟨hb, hp, hlen⟩ := new_facts hH
  refine s_l05Is (hv.pre hp) hl fun H2 p2 => ?_
  have hb := pre_get p2 hb
  have hv2 := hv.pre (hp.trans p2)
  have hQ' := hQ _ (hp.trans p2)
  unfold numAt at hQ'
  cases ht : isT t with
  | false =>
    try simp (maxSteps := 3000000) (disch := first | omega | (simp only [len_new, len_put, len_kill]; omega)) only [↓xpre, xpost, ↓reduceIte, Nat.reduceEqDiff, Nat.reduceAdd, Nat.reduceSub, Nat.reduceLeDiff, Nat.zero_add, Nat.sub_zero]
    simpa [ht] using hQ'
  | true =>
    have f := isT_facts ht
    have f1 := f.i
    have f2 := f.j
    have f3 := f.k
    try simp (maxSteps := 3000000) (disch := first | omega | (simp only [len_new, len_put, len_kill]; omega)) only [↓xpre, xpost, ↓reduceIte, Nat.reduceEqDiff, Nat.reduceAdd, Nat.reduceSub, Nat.reduceLeDiff, Nat.zero_add, Nat.sub_zero, rd1_of hb, wrap64_in]
    refine s_l01In ?_
    by_cases h1 : 0 ≤ i ∧ i ≤ t.i - 1
    case neg =>
      try simp (maxSteps := 3000000) (disch := first | omega | (simp only [len_new, len_put, len_kill]; omega)) only [↓xpre, xpost, ↓reduceIte, Nat.reduceEqDiff, Nat.reduceAdd, Nat.reduceSub, Nat.reduceLeDiff, Nat.zero_add, Nat.sub_zero, h1]
      rw [if_pos ht, if_neg (by omega)] at hQ'
      exact hQ'
    try simp (maxSteps := 3000000) (disch := first | omega | (simp only [len_new, len_put, len_kill]; omega)) only [↓xpre, xpost, ↓reduceIte, Nat.reduceEqDiff, Nat.reduceAdd, Nat.reduceSub, Nat.reduceLeDiff, Nat.zero_add, Nat.sub_zero, h1, rd1_of hb, wrap64_in]
    refine s_l01In ?_
    by_cases h2 : 0 ≤ j ∧ j ≤ t.j - 1
    case neg =>
      try simp (maxSteps := 3000000) (disch := first | omega | (simp only [len_new, len_put, len_kill]; omega)) only [↓xpre, xpost, ↓reduceIte, Nat.reduceEqDiff, Nat.reduceAdd, Nat.reduceSub, Nat.reduceLeDiff, Nat.zero_add, Nat.sub_zero, h2]
      rw [if_pos ht, if_neg (by omega)] at hQ'
      exact hQ'
    try simp (maxSteps := 3000000) (disch := first | omega | (simp only [len_new, len_put, len_kill]; omega)) only [↓xpre, xpost, ↓reduceIte, Nat.reduceEqDiff, Nat.reduceAdd, Nat.reduceSub, Nat.reduceLeDiff, Nat.zero_add, Nat.sub_zero, h2, rd1_of hb, wrap64_in]
    refine s_l01In ?_
    by_cases h3 : 0 ≤ k ∧ k ≤ t.k - 1
    case neg =>
      try simp (maxSteps := 3000000) (disch := first | omega | (simp only [len_new, len_put, len_kill]; omega)) only [↓xpre, xpost, ↓reduceIte, Nat.reduceEqDiff, Nat.reduceAdd, Nat.reduceSub, Nat.reduceLeDiff, Nat.zero_add, Nat.sub_zero, h3]
      rw [if_pos ht, if_neg (by omega)] at hQ'
      exact hQ'
    try simp (maxSteps := 3000000) (disch := first | omega | (simp only [len_new, len_put, len_kill]; omega)) only [↓xpre, xpost, ↓reduceIte, Nat.reduceEqDiff, Nat.reduceAdd, Nat.reduceSub, Nat.reduceLeDiff, Nat.zero_add, Nat.sub_zero, h3, rdn_of hb]
    refine s_l05At hv2 f (by omega) (by omega) (by omega) fun H3 p3 => ?_
    try simp (maxSteps := 3000000) (disch := first | omega | (simp only [len_new, len_put, len_kill]; omega)) only [↓xpre, xpost, ↓reduceIte, Nat.reduceEqDiff, Nat.reduceAdd, Nat.reduceSub, Nat.reduceLeDiff, Nat.zero_add, Nat.sub_zero]
    have hQ3 := hQ _ ((hp.trans p2).trans p3)
    unfold numAt at hQ3
    rw [if_pos ht, if_pos (by omega)] at hQ3
    exact hQ3
theorem i_NumberAt {v : Value} {t : Ten} {i j k : Int} {h : AH} {Q : Value → AH → Prop} (hv : Ints h v t.ns) (hl : (t.ns.length : Int) ≤ 1048576)
    (hQ : ∀ h', h <+: h' → Q (numAt t i j k) h') : WF S 109 [tenV t v, I64 i, I64 j, I64 k] h Q := by
  refine WF_fn (fn := c109) rfl rfl ?_
  unfold c109
  try simp (maxSteps := 3000000) (disch := first | omega | (simp only [len_new, len_put, len_kill]; omega)) only [↓xpre, xpost, ↓reduceIte, Nat.reduceEqDiff, Nat.reduceAdd, Nat.reduceSub, Nat.reduceLeDiff, Nat.zero_add, Nat.sub_zero, tenV, hv.one]
  generalize hH : AH.new h _ = H
  obtain ⟨hb, hp, hlen⟩ := new_facts hH
  refine i_IsTensor (hv.pre hp) hl fun H2 p2 => ?_
  have hb := pre_get p2 hb
  have hv2 := hv.pre (hp.trans p2)
  have hQ' := hQ _ (hp.trans p2)
  unfold numAt at hQ'
  cases ht : isT t with
  | false =>
    try simp (maxSteps := 3000000) (disch := first | omega | (simp only [len_new, len_put, len_kill]; omega)) only [↓xpre, xpost, ↓reduceIte, Nat.reduceEqDiff, Nat.reduceAdd, Nat.reduceSub, Nat.reduceLeDiff, Nat.zero_add, Nat.sub_zero]
    simpa [ht] using hQ'
  | true =>
    have f := isT_facts ht
    have f1 := f.i
    have f2 := f.j
    have f3 := f.k
    try simp (maxSteps := 3000000) (disch := first | omega | (simp only [len_new, len_put, len_kill]; omega)) only [↓xpre, xpost, ↓reduceIte, Nat.reduceEqDiff, Nat.reduceAdd, Nat.reduceSub, Nat.reduceLeDiff, Nat.zero_add, Nat.sub_zero, rd1_of hb]
    have no : ¬ ((0 ≤ i ∧ i < t.i) ∧ (0 ≤ j ∧ j < t.j) ∧ (0 ≤ k ∧ k < t.k)) → Q (.tuple #[I64 0, I64 2]) H2 := fun hn => by
      rw [if_pos ht, if_neg hn] at hQ'
      exact hQ'
    by_cases h1 : i < 0
    · try simp (maxSteps := 3000000) (disch := first | omega | (simp only [len_new, len_put, len_kill]; omega)) only [↓xpre, xpost, ↓reduceIte, Nat.reduceEqDiff, Nat.reduceAdd, Nat.reduceSub, Nat.reduceLeDiff, Nat.zero_add, Nat.sub_zero, h1]
      exact no (by omega)
    try simp (maxSteps := 3000000) (disch := first | omega | (simp only [len_new, len_put, len_kill]; omega)) only [↓xpre, xpost, ↓reduceIte, Nat.reduceEqDiff, Nat.reduceAdd, Nat.reduceSub, Nat.reduceLeDiff, Nat.zero_add, Nat.sub_zero, h1, rd1_of hb]
    by_cases h2 : t.i ≤ i
    · try simp (maxSteps := 3000000) (disch := first | omega | (simp only [len_new, len_put, len_kill]; omega)) only [↓xpre, xpost, ↓reduceIte, Nat.reduceEqDiff, Nat.reduceAdd, Nat.reduceSub, Nat.reduceLeDiff, Nat.zero_add, Nat.sub_zero, h2]
      exact no (by omega)
    try simp (maxSteps := 3000000) (disch := first | omega | (simp only [len_new, len_put, len_kill]; omega)) only [↓xpre, xpost, ↓reduceIte, Nat.reduceEqDiff, Nat.reduceAdd, Nat.reduceSub, Nat.reduceLeDiff, Nat.zero_add, Nat.sub_zero, h2, rd1_of hb]
    by_cases h3 : j < 0
    · try simp (maxSteps := 3000000) (disch := first | omega | (simp only [len_new, len_put, len_kill]; omega)) only [↓xpre, xpost, ↓reduceIte, Nat.reduceEqDiff, Nat.reduceAdd, Nat.reduceSub, Nat.reduceLeDiff, Nat.zero_add, Nat.sub_zero, h3]
      exact no (by omega)
    try simp (maxSteps := 3000000) (disch := first | omega | (simp only [len_new, len_put, len_kill]; omega)) only [↓xpre, xpost, ↓reduceIte, Nat.reduceEqDiff, Nat.reduceAdd, Nat.reduceSub, Nat.reduceLeDiff, Nat.zero_add, Nat.sub_zero, h3, rd1_of hb]
    by_cases h4 : t.j ≤ j
    · try simp (maxSteps := 3000000) (disch := first | omega | (simp only [len_new, len_put, len_kill]; omega)) only [↓xpre, xpost, ↓reduceIte, Nat.reduceEqDiff, Nat.reduceAdd, Nat.reduceSub, Nat.reduceLeDiff, Nat.zero_add, Nat.sub_zero, h4]
      exact no (by omega)
    try simp (maxSteps := 3000000) (disch := first | omega | (simp only [len_new, len_put, len_kill]; omega)) only [↓xpre, xpost, ↓reduceIte, Nat.reduceEqDiff, Nat.reduceAdd, Nat.reduceSub, Nat.reduceLeDiff, Nat.zero_add, Nat.sub_zero, h4, rd1_of hb]
    by_cases h5 : k < 0
    · try simp (maxSteps := 3000000) (disch := first | omega | (simp only [len_new, len_put, len_kill]; omega)) only [↓xpre, xpost, ↓reduceIte, Nat.reduceEqDiff, Nat.reduceAdd, Nat.reduceSub, Nat.reduceLeDiff, Nat.zero_add, Nat.sub_zero, h5]
      exact no (by omega)
    try simp (maxSteps := 3000000) (disch := first | omega | (simp only [len_new, len_put, len_kill]; omega)) only [↓xpre, xpost, ↓reduceIte, Nat.reduceEqDiff, Nat.reduceAdd, Nat.reduceSub, Nat.reduceLeDiff, Nat.zero_add, Nat.sub_zero, h5, rd1_of hb]
    by_cases h6 : t.k ≤ k
    · try simp (maxSteps := 3000000) (disch := first | omega | (simp only [len_new, len_put, len_kill]; omega)) only [↓xpre, xpost, ↓reduceIte, Nat.reduceEqDiff, Nat.reduceAdd, Nat.reduceSub, Nat.reduceLeDiff, Nat.zero_add, Nat.sub_zero, h6]
      exact no (by omega)
    try simp (maxSteps := 3000000) (disch := first | omega | (simp only [len_new, len_put, len_kill]; omega)) only [↓xpre, xpost, ↓reduceIte, Nat.reduceEqDiff, Nat.reduceAdd, Nat.reduceSub, Nat.reduceLeDiff, Nat.zero_add, Nat.sub_zero, h6, rdn_of hb]
    refine i_at hv2 f (by omega) (by omega) (by omega) fun H3 p3 => ?_
    try simp (maxSteps := 3000000) (disch := first | omega | (simp only [len_new, len_put, len_kill]; omega)) only [↓xpre, xpost, ↓reduceIte, Nat.reduceEqDiff, Nat.reduceAdd, Nat.reduceSub, Nat.reduceLeDiff, Nat.zero_add, Nat.sub_zero]
    have hQ3 := hQ _ ((hp.trans p2).trans p3)
    unfold numAt at hQ3
    rw [if_pos ht, if_pos (by omega)] at hQ3
    exact hQ3
theorem numAt_shape (t : Ten) (i j k : Int) : ∃ a b, numAt t i j k = .tuple #[I64 a, I64 b] := by
  unfold numAt
  split
  · split <;> exact ⟨_, _, rfl⟩
  · exact ⟨_, _, rfl⟩
end Go.Proofs.Ytapafdpnmakekaa.X

set_option linter.unusedVariables false
set_option linter.unusedSimpArgs false
namespace Go.Proofs.Ytapafdpnmakekaa.X
open Go Go.RowKit
def blkOf (v : Value) : Option Nat := match v with
  | .slice (some a) _ _ => some a.block
  | _ => none
def OwnR (h0 h : AH) (v : Value) (ns : List Int) : Prop :=
  (v = .slice none 0 0 ∧ ns = []) ∨ ∃ n e full, h0.length ≤ n ∧ v = .slice (some ⟨n, 0, none⟩) ns.length 1 ∧ h.get n = some ⟨ns.map (Value.int .i64), e, false, full⟩
theorem OwnI.ownR {h0 h : AH} {v : Value} {ns : List Int} (o : OwnI h0 h v ns) : OwnR h0 h v ns := by
  obtain ⟨n, e, h1, rfl, h2⟩ := o
  exact .inr ⟨n, e, true, h1, rfl, h2⟩
theorem OwnR.ints {h0 h : AH} {v : Value} {ns : List Int} (o : OwnR h0 h v ns) : Ints h v ns := by
  rcases o with ⟨rfl, rfl⟩ | ⟨n, e, full, h1, rfl, h2⟩
  · exact .inl ⟨rfl, 0, by omega, rfl⟩
  · exact Ints.own h2 rfl
theorem OwnR.pre {h0 h h' : AH} {v : Value} {ns : List Int} (o : OwnR h0 h v ns) (p : h <+: h') : OwnR h0 h' v ns := by
  rcases o with ⟨rfl, rfl⟩ | ⟨n, e, full, h1, rfl, h2⟩
  · exact .inl ⟨rfl, rfl⟩
  · exact .inr ⟨n, e, full, h1, rfl, pre_get p h2⟩
theorem OwnR.lo {h0 h1 h : AH} {v : Value} {ns : List Int} (o : OwnR h0 h v ns) (p : h1.length ≤ h0.length) : OwnR h1 h v ns := by
  rcases o with ⟨rfl, rfl⟩ | ⟨n, e, full, q1, rfl, h2⟩
  · exact .inl ⟨rfl, rfl⟩
  · exact .inr ⟨n, e, full, by omega, rfl, h2⟩
structure Only (o : Option Nat) (h h' : AH) : Prop where
  len : h'.length = h.length
  same : ∀ n, o ≠ some n → h'[n]? = h[n]?
theorem Only.get {o : Option Nat} {h h' : AH} (w : Only o h h') (n : Nat) (hn : o ≠ some n) : h'.get n = h.get n := by
  unfold AH.get
  rw [w.same n hn]
theorem Only.refl (o : Option Nat) (h : AH) : Only o h h := ⟨rfl, fun _ _ => rfl⟩
theorem OwnR.only {h0 h h' : AH} {v : Value} {ns : List Int} {o : Option Nat} (q : OwnR h0 h v ns) (w : Only o h h') (hn : ∀ n, o = some n → n < h0.length) : OwnR h0 h' v ns := by
  rcases q with ⟨rfl, rfl⟩ | ⟨n, e, full, h1, rfl, h2⟩
  · exact .inl ⟨rfl, rfl⟩
  · exact .inr ⟨n, e, full, h1, rfl, by rw [w.get n (fun e => by have := hn n e; omega)]; exact h2⟩
theorem OwnR.blk {h0 h : AH} {v : Value} {ns : List Int} (o : OwnR h0 h v ns) : ∀ n, blkOf v = some n → h0.length ≤ n ∧ n < h.length := by
  rcases o with ⟨rfl, rfl⟩ | ⟨n, e, full, h1, rfl, h2⟩
  · intro n hn; cases hn
  · intro m hm
    cases hm
    exact ⟨h1, get_lt h2⟩
theorem Only.pre {h0 h h' : AH} {o : Option Nat} (w : Only o h h') (p : h0 <+: h) (hn : ∀ n, o = some n → h0.length ≤ n) : h0 <+: h' := by
  rw [List.prefix_iff_getElem?] at p ⊢
  intro i hi
  rw [w.same i (fun e => by have := hn i e; omega)]
  exact p i hi
def marks (k : Int) (n : Nat) : List Int := (List.range n).map fun i => k + (i : Nat)
end Go.Proofs.Ytapafdpnmakekaa.X

set_option linter.unusedVariables false
set_option linter.unusedSimpArgs false
namespace Go.Proofs.Ytapafdpnmakekaa.X
open Go Go.RowKit
def gen (N : Nat) (g : Nat → Int) : List Int := (List.range N).map g
theorem gen_len {N : Nat} {g : Nat → Int} : (gen N g).length = N := by simp [gen]
theorem gen_get {N i : Nat} {g : Nat → Int} (hi : i < N) : (gen N g).getD i 0 = g i := by
  simp [gen, List.getD_eq_getElem?_getD, List.getElem?_map, List.getElem?_range hi]
theorem gen_ext {N : Nat} {g : Nat → Int} {l : List Int} (hl : l.length = N) (h : ∀ i, i < N → l.getD i 0 = g i) : l = gen N g := by
  refine List.ext_getElem? fun j => ?_
  by_cases hj : j < N
  · have h1 := h j hj
    rw [List.getD_eq_getElem?_getD, List.getElem?_eq_getElem (by omega)] at h1
    rw [List.getElem?_eq_getElem (by omega)]
    simp [gen, List.getElem?_map, List.getElem?_range hj] at h1 ⊢
    exact h1
  · rw [List.getElem?_eq_none (by omega), List.getElem?_eq_none (by rw [gen_len]; omega)]
theorem gen_succ {N : Nat} {g : Nat → Int} : gen (N + 1) g = gen N g ++ [g N] := by simp [gen, List.range_succ]
theorem gen_congr {N : Nat} {g g' : Nat → Int} (h : ∀ i, i < N → g i = g' i) : gen N g = gen N g' := by
  refine gen_ext gen_len fun i hi => ?_
  rw [gen_get hi, h i hi]
theorem set_getD {l : List Int} {i j : Nat} {x : Int} (hi : i < l.length) : (l.set i x).getD j 0 = if j = i then x else l.getD j 0 := by
  rw [List.getD_eq_getElem?_getD, List.getD_eq_getElem?_getD, List.getElem?_set]
  by_cases h : i = j
  · subst h
    simp [hi]
  · rw [if_neg h, if_neg (fun e => h e.symm)]
theorem dec {a i I : Int} (h : 0 ≤ i ∧ i < I) : (a * I + i) / I = a ∧ (a * I + i) % I = i := by
  have := (Int.ediv_emod_unique (a := a * I + i) (b := I) (q := a) (r := i) (by omega)).2 ⟨by rw [Int.mul_comm]; omega, h.1, h.2⟩
  exact this
theorem enc (n I : Int) : n / I * I + n % I = n := by
  have := Int.mul_ediv_add_emod n I
  rw [Int.mul_comm] at this
  exact this
theorem OwnI.of {h0 h : AH} {v : Value} {ns : List Int} {n : Nat} (h1 : h0.length ≤ n) (e : v = .slice (some ⟨n, 0, none⟩) ns.length 1) (b : OwnB h n (ns.map (Value.int .i64)) true) : OwnI h0 h v ns := by
  obtain ⟨e', hb⟩ := b
  exact ⟨n, e', h1, e, hb⟩
theorem ownB_new' {h : AH} {c : List Value} {e : TypeId} {full : Bool} {n : Nat} (hn : n = h.length) : OwnB (h.new ⟨c, e, false, full⟩) n c full := by subst hn; exact ownB_new
theorem OwnB.pre {h h' : AH} {c : List Value} {full : Bool} {n : Nat} (b : OwnB h n c full) (p : h <+: h') : OwnB h' n c full := by
  obtain ⟨e, hb⟩ := b
  exact ⟨e, pre_get p hb⟩
theorem OwnB.put_ne {h : AH} {c : List Value} {full : Bool} {n m : Nat} {b : Blk} (o : OwnB h n c full) (e : m ≠ n) : OwnB (h.put m b) n c full := by
  obtain ⟨e', hb⟩ := o
  exact ⟨e', by rw [get_put_ne e]; exact hb⟩
theorem OwnB.lt {h : AH} {c : List Value} {full : Bool} {n : Nat} (o : OwnB h n c full) : n < h.length := by
  obtain ⟨e', hb⟩ := o
  exact get_lt hb
theorem s_l05Empty {p i j k : Int} {h : AH} {Q : Value → AH → Prop} (h1 : 0 ≤ i * j ∧ i * j ≤ 1048576) (h2 : 0 ≤ i * j * k ∧ i * j * k ≤ 1048576)
    (hQ : ∀ v' h', h <+: h' → OwnI h h' v' (List.replicate (i * j * k).toNat 0) → Q (tenV ⟨p, i, j, k, List.replicate (i * j * k).toNat 0⟩ v') h') : WF S 182 [I64 p, I64 i, I64 j, I64 k] h Q := by
  refine WF_fn (fn := c182) rfl rfl ?_
  unfold c182
  try simp (maxSteps := 3000000) (disch := first | omega | (simp only [len_new, len_put, len_kill]; omega)) only [↓xpre, xpost, ↓reduceIte, Nat.reduceEqDiff, Nat.reduceAdd, Nat.reduceSub, Nat.reduceLeDiff, Nat.zero_add, Nat.sub_zero, wrap64_in]
  refine ⟨by omega, ?_⟩
  try simp (maxSteps := 3000000) (disch := first | omega | (simp only [len_new, len_put, len_kill]; omega)) only [↓xpre, xpost, ↓reduceIte, Nat.reduceEqDiff, Nat.reduceAdd, Nat.reduceSub, Nat.reduceLeDiff, Nat.zero_add, Nat.sub_zero, fillL, len_new]
  refine hQ _ _ (pre_new (pre_new (List.prefix_refl _))) (OwnI.of (n := h.length + 1) (by omega) ?_ ?_)
  · rw [List.length_replicate]
  · rw [← zrep_ints]
    exact ownB_new' (by rw [len_new])
def turnG (t : Ten) (n : Nat) : Int := tat t ((n : Int) % t.i) ((n : Int) / t.i / t.k) ((n : Int) / t.i % t.k)
def turnT (t : Ten) : Ten := ⟨t.p, t.j, t.k, t.i, gen (t.j * t.k * t.i).toNat (turnG t)⟩
def Done (t : Ten) (l : List Int) (i j k : Int) : Prop := l.length = (t.j * t.k * t.i).toNat ∧ ∀ n : Nat, n < (t.j * t.k * t.i).toNat →
  ((n : Int) % t.i < i ∨ ((n : Int) % t.i = i ∧ ((n : Int) / t.i / t.k < j ∨ ((n : Int) / t.i / t.k = j ∧ (n : Int) / t.i % t.k < k)))) → l.getD n 0 = turnG t n
theorem Done.step {t : Ten} {l : List Int} {i j k : Int} (d : Done t l i j k) (f : TF t) (hi : 0 ≤ i ∧ i < t.i) (hj : 0 ≤ j ∧ j < t.j) (hk : 0 ≤ k ∧ k < t.k) :
    Done t (l.set ((j * t.k + k) * t.i + i).toNat (tat t i j k)) i j (k + 1) := by
  have b1 := lin_in hj hk
  have b2 := lin_in b1.2 hi
  obtain ⟨d1, d2⟩ := d
  refine ⟨by rw [List.length_set]; exact d1, fun n hn hlex => ?_⟩
  rw [set_getD (by omega)]
  have e1 := dec (a := j * t.k + k) hi
  have e2 := dec (a := j) hk
  split
  · rename_i he
    have he' : (n : Int) = (j * t.k + k) * t.i + i := by omega
    unfold turnG
    rw [he', e1.1, e1.2, e2.1, e2.2]
  · rename_i hne
    refine d2 n hn ?_
    refine Decidable.byContradiction fun hnl => hne ?_
    have q1 : (n : Int) % t.i = i := by omega
    have q2 : (n : Int) / t.i / t.k = j := by omega
    have q3 : (n : Int) / t.i % t.k = k := by omega
    have q4 := enc (n : Int) t.i
    have q5 := enc ((n : Int) / t.i) t.k
    rw [q2, q3] at q5
    rw [← q5, q1] at q4
    omega
theorem Done.next_j {t : Ten} {l : List Int} {i j : Int} (d : Done t l i j t.k) (f : TF t) : Done t l i (j + 1) 0 := by
  have fk := f.k
  refine ⟨d.1, fun n hn hlex => d.2 n hn ?_⟩
  have h1 := Int.emod_nonneg ((n : Int) / t.i) (show t.k ≠ 0 by omega)
  have h2 := Int.emod_lt_of_pos ((n : Int) / t.i) (show 0 < t.k by omega)
  omega
theorem Done.next_i {t : Ten} {l : List Int} {i : Int} (d : Done t l i t.j 0) (f : TF t) : Done t l (i + 1) 0 0 := by
  have fi := f.i
  have fk := f.k
  have fj := f.j
  refine ⟨d.1, fun n hn hlex => d.2 n hn ?_⟩
  have h0 : (n : Int) < t.j * t.k * t.i := by omega
  have h1 : (n : Int) / t.i < t.j * t.k := Int.ediv_lt_of_lt_mul (by omega) h0
  have h2 : (n : Int) / t.i / t.k < t.j := Int.ediv_lt_of_lt_mul (by omega) h1
  have h3 : 0 ≤ (n : Int) / t.i := Int.ediv_nonneg (by omega) (by omega)
  have h4 : 0 ≤ (n : Int) / t.i / t.k := Int.ediv_nonneg h3 (by omega)
  have h5 := Int.emod_nonneg ((n : Int) / t.i) (show t.k ≠ 0 by omega)
  omega
theorem Done.all {t : Ten} {l : List Int} (d : Done t l t.i 0 0) (f : TF t) : l = (turnT t).ns := by
  have fi := f.i
  refine gen_ext d.1 fun n hn => d.2 n hn (.inl ?_)
  exact Int.emod_lt_of_pos _ (by omega)
theorem Done.zero {t : Ten} (f : TF t) : Done t (List.replicate (t.j * t.k * t.i).toNat 0) 0 0 0 := by
  have fi := f.i
  have fk := f.k
  refine ⟨List.length_replicate, fun n hn hlex => ?_⟩
  have h1 := Int.emod_nonneg (n : Int) (show t.i ≠ 0 by omega)
  have h3 : 0 ≤ (n : Int) / t.i := Int.ediv_nonneg (by omega) (by omega)
  have h4 : 0 ≤ (n : Int) / t.i / t.k := Int.ediv_nonneg h3 (by omega)
  have h5 := Int.emod_nonneg ((n : Int) / t.i) (show t.k ≠ 0 by omega)
  omega
structure TurnS (t : Ten) (v : Value) (h0 h : AH) (b2 b3 nb : Nat) (l : List Int) : Prop where
  hp : h0 <+: h
  lo : h0.length < b2 ∧ b2 < nb ∧ nb < b3
  g1 : OwnB h h0.length [I64 t.p, I64 t.i, I64 t.j, I64 t.k, v] true
  g2 : ∃ c, c.length = 5 ∧ OwnB h b2 c true
  g3 : OwnB h b3 [I64 t.p, I64 t.j, I64 t.k, I64 t.i, .slice (some ⟨nb, 0, none⟩) (t.j * t.k * t.i).toNat 1] true
  gn : OwnB h nb (l.map (Value.int .i64)) true
theorem s_l05Turn {v : Value} {t : Ten} {h : AH} {Q : Value → AH → Prop} (hv : Ints h v t.ns) (f : TF t)
    (hQ : ∀ v' h', h <+: h' → OwnI h h' v' (turnT t).ns → Q (tenV (turnT t) v') h') : WF S 194 [tenV t v] h Q := by
  refine WF_fn (fn := c194) rfl rfl ?_
  unfold c194
  have fi := f.i
  have fj := f.j
  have fk := f.k
  have jk := mul_in1 (A := 9) (B := 9) fj fk
  have jki := mul_in1 (A := 81) (B := 9) jk fi
  try simp (maxSteps := 3000000) (disch := first | omega | (simp only [len_new, len_put, len_kill]; omega)) only [↓xpre, xpost, ↓reduceIte, Nat.reduceEqDiff, Nat.reduceAdd, Nat.reduceSub, Nat.reduceLeDiff, Nat.zero_add, Nat.sub_zero, tenV, hv.one]
  refine s_l05Empty (by omega) (by omega) fun v' H3 hp o => ?_
  try simp (maxSteps := 3000000) (disch := first | omega | (simp only [len_new, len_put, len_kill]; omega)) only [↓xpre, xpost, ↓reduceIte, Nat.reduceEqDiff, Nat.reduceAdd, Nat.reduceSub, Nat.reduceLeDiff, Nat.zero_add, Nat.sub_zero, tenV, o.ints.one]
  obtain ⟨nb, e, q1, rfl, q2⟩ := o
  generalize hH1 : AH.new h _ = H1 at hp q1 ⊢
  obtain ⟨hb1, p1, n1⟩ := new_facts hH1
  generalize hH2 : AH.new H1 _ = H2 at hp q1
  obtain ⟨hb2, p2, n2⟩ := new_facts hH2
  generalize hH4 : AH.new H3 _ = H4
  obtain ⟨hb4, p4, n4⟩ := new_facts hH4
  have q3 := get_lt q2
  rw [List.length_replicate] at hb4
  refine WC_loop_inv (fun n f h1 => ∃ (i : Int) (l : List Int), n = (t.i - i).toNat ∧ (0 ≤ i ∧ i ≤ t.i) ∧ f 1 = .pointer (some ⟨h.length, 0, none⟩) ∧ f 2 = .pointer (some ⟨H1.length, 0, none⟩) ∧ f 3 = .pointer (some ⟨H3.length, 0, none⟩) ∧
    f 4 = I64 i ∧ TurnS t v h h1 H1.length H3.length nb l ∧ Done t l i 0 0) ?_ (t.i - 0).toNat _ _ ⟨0, _, rfl, by omega, rfl, rfl, rfl, rfl, ⟨((p1.trans p2).trans hp).trans p4, by omega, ⟨_, pre_get p4 (pre_get hp (pre_get p2 hb1))⟩, ⟨_, rfl, _, pre_get p4 (pre_get hp hb2)⟩, ⟨_, hb4⟩, ⟨_, pre_get p4 q2⟩⟩, Done.zero f⟩
  rintro n fr h1 ⟨i, l, rfl, hi, f1, f2, f3, f4, st, dn⟩
  obtain ⟨t1, g1⟩ := st.g1
  try simp (maxSteps := 3000000) (disch := first | omega | (simp only [len_new, len_put, len_kill]; omega)) only [↓xpre, xpost, ↓reduceIte, Nat.reduceEqDiff, Nat.reduceAdd, Nat.reduceSub, Nat.reduceLeDiff, Nat.zero_add, Nat.sub_zero, f1, f2, f3, f4, rd1_of g1, IfW_dec]
  refine ⟨fun hlt => ?_, fun hge => ?_⟩
  · clear g1
    refine WC_loop_inv (fun n f h1 => ∃ (j : Int) (l : List Int), n = (t.j - j).toNat ∧ (0 ≤ j ∧ j ≤ t.j) ∧ f 1 = .pointer (some ⟨h.length, 0, none⟩) ∧ f 2 = .pointer (some ⟨H1.length, 0, none⟩) ∧ f 3 = .pointer (some ⟨H3.length, 0, none⟩) ∧
      f 4 = I64 i ∧ f 5 = I64 j ∧ TurnS t v h h1 H1.length H3.length nb l ∧ Done t l i j 0) ?_ (t.j - 0).toNat _ _ ⟨0, l, rfl, by omega, f1, f2, f3, f4, rfl, st, dn⟩
    clear f1 f2 f3 f4 st dn
    rintro n fr h1 ⟨j, l, rfl, hj, f1, f2, f3, f4, f5, st, dn⟩
    obtain ⟨t1, g1⟩ := st.g1
    try simp (maxSteps := 3000000) (disch := first | omega | (simp only [len_new, len_put, len_kill]; omega)) only [↓xpre, xpost, ↓reduceIte, Nat.reduceEqDiff, Nat.reduceAdd, Nat.reduceSub, Nat.reduceLeDiff, Nat.zero_add, Nat.sub_zero, f1, f2, f3, f4, f5, rd1_of g1, IfW_dec]
    refine ⟨fun hltj => ?_, fun hge => ?_⟩
    · clear g1
      refine WC_loop_inv (fun n f h1 => ∃ (k : Int) (l : List Int), n = (t.k - k).toNat ∧ (0 ≤ k ∧ k ≤ t.k) ∧ f 1 = .pointer (some ⟨h.length, 0, none⟩) ∧ f 2 = .pointer (some ⟨H1.length, 0, none⟩) ∧ f 3 = .pointer (some ⟨H3.length, 0, none⟩) ∧
        f 4 = I64 i ∧ f 5 = I64 j ∧ f 6 = I64 k ∧ TurnS t v h h1 H1.length H3.length nb l ∧ Done t l i j k) ?_ (t.k - 0).toNat _ _ ⟨0, l, rfl, by omega, f1, f2, f3, f4, f5, rfl, st, dn⟩
      clear f1 f2 f3 f4 f5 st dn
      rintro n fr h1 ⟨k, l, rfl, hk, f1, f2, f3, f4, f5, f6, st, dn⟩
      obtain ⟨t1, g1⟩ := st.g1
      obtain ⟨t3, g3⟩ := st.g3
      try simp (maxSteps := 3000000) (disch := first | omega | (simp only [len_new, len_put, len_kill]; omega)) only [↓xpre, xpost, ↓reduceIte, Nat.reduceEqDiff, Nat.reduceAdd, Nat.reduceSub, Nat.reduceLeDiff, Nat.zero_add, Nat.sub_zero, f1, f2, f3, f4, f5, f6, rd1_of g1, IfW_dec]
      refine ⟨fun hltk => ?_, fun hge => ?_⟩
      · have b1 := lin_in (i := j) (I := t.j) (j := k) (J := t.k) (by omega) (by omega)
        have b2 := lin_in b1.2 (j := i) (J := t.i) (by omega)
        try simp (maxSteps := 3000000) (disch := first | omega | (simp only [len_new, len_put, len_kill]; omega)) only [↓xpre, xpost, ↓reduceIte, Nat.reduceEqDiff, Nat.reduceAdd, Nat.reduceSub, Nat.reduceLeDiff, Nat.zero_add, Nat.sub_zero, f1, f2, f3, f4, f5, f6, rd1_of g1, rd1_of g3, rdn_of g1, wrap64_in]
        refine s_l05At (t := t) (hv.pre st.hp) f (by omega) (by omega) (by omega) fun h2 p5 => ?_
        obtain ⟨tn, gn⟩ := st.gn
        have gn := pre_get p5 gn
        have hll := dn.1
        try simp (maxSteps := 3000000) (disch := first | omega | (simp only [len_new, len_put, len_kill]; omega)) only [↓xpre, xpost, ↓reduceIte, Nat.reduceEqDiff, Nat.reduceAdd, Nat.reduceSub, Nat.reduceLeDiff, Nat.zero_add, Nat.sub_zero, f1, f2, f3, f4, f5, f6, ixsV_some, wr_of gn, wrap64_in]
        refine ⟨p5, ⟨by omega, by omega⟩, by simp [hll]; omega, ?_⟩
        refine InvQ_go (t.k - (k + 1)).toNat (by omega) ⟨k + 1, l.set ((j * t.k + k) * t.i + i).toNat (tat t i j k), rfl, by omega, f1, f2, f3, f4, f5, rfl, ?_, dn.step f (by omega) (by omega) (by omega)⟩
        have lo := st.lo
        obtain ⟨c2, c3, c4⟩ := st.g2
        refine ⟨pre_put (st.hp.trans p5) (by omega), lo, (st.g1.pre p5).put_ne (by omega), ⟨c2, c3, (c4.pre p5).put_ne (by omega)⟩, (st.g3.pre p5).put_ne (by omega), ⟨tn, ?_⟩⟩
        rw [get_put_same (get_lt gn)]
        simp only [Nat.zero_add, Nat.mul_one]
        rw [splice_map (by omega)]
      · try simp (maxSteps := 3000000) (disch := first | omega | (simp only [len_new, len_put, len_kill]; omega)) only [↓xpre, xpost, ↓reduceIte, Nat.reduceEqDiff, Nat.reduceAdd, Nat.reduceSub, Nat.reduceLeDiff, Nat.zero_add, Nat.sub_zero, f1, f2, f3, f4, f5, f6, wrap64_in]
        have : k = t.k := by omega
        subst this
        exact InvQ_go (t.j - (j + 1)).toNat (by omega) ⟨j + 1, l, rfl, by omega, f1, f2, f3, f4, rfl, st, dn.next_j f⟩
    · try simp (maxSteps := 3000000) (disch := first | omega | (simp only [len_new, len_put, len_kill]; omega)) only [↓xpre, xpost, ↓reduceIte, Nat.reduceEqDiff, Nat.reduceAdd, Nat.reduceSub, Nat.reduceLeDiff, Nat.zero_add, Nat.sub_zero, f1, f2, f3, f4, f5, wrap64_in]
      have : j = t.j := by omega
      subst this
      exact InvQ_go (t.i - (i + 1)).toNat (by omega) ⟨i + 1, l, rfl, by omega, f1, f2, f3, rfl, st, dn.next_i f⟩
  · have : i = t.i := by omega
    subst this
    have hall := dn.all f
    obtain ⟨t3, g3⟩ := st.g3
    obtain ⟨c, c3, t2, g2⟩ := st.g2
    have lo := st.lo
    obtain ⟨c0, c1, c2, c4, c5, rfl⟩ : ∃ a b d e g, c = [a, b, d, e, g] := by
      match c, c3 with
      | [a, b, d, e, g], _ => exact ⟨_, _, _, _, _, rfl⟩
    have l2 := get_lt g2
    try simp (maxSteps := 3000000) (disch := first | omega | (simp only [len_new, len_put, len_kill]; omega)) only [↓xpre, xpost, ↓reduceIte, Nat.reduceEqDiff, Nat.reduceAdd, Nat.reduceSub, Nat.reduceLeDiff, Nat.zero_add, Nat.sub_zero, f1, f2, f3, f4, rdn_of g3, wr_of g2]
    refine hQ _ _ (pre_put (n := H1.length) st.hp (by omega)) (OwnI.of (n := nb) (by omega) ?_ ?_)
    · simp only [turnT, gen_len]
    · rw [← hall]
      exact st.gn.put_ne (by omega)
end Go.Proofs.Ytapafdpnmakekaa.X

set_option linter.unusedVariables false
set_option linter.unusedSimpArgs false
namespace Go.Proofs.Ytapafdpnmakekaa.X
open Go Go.RowKit
def Way (h : AH) (lo : Nat) (sv : Value) (l : List Int) : Prop :=
  (sv = .slice none 0 0 ∧ l = []) ∨ ∃ kb, sv = .slice (some ⟨kb, 0, none⟩) l.length 1 ∧ lo ≤ kb ∧ h.get kb = some ⟨l.map (Value.int .i64), 2, false, false⟩
theorem Way.pre {h h' : AH} {lo : Nat} {sv : Value} {l : List Int} (w : Way h lo sv l) (p : h <+: h') : Way h' lo sv l := by
  rcases w with w | ⟨kb, h1, h2, h3⟩
  · exact .inl w
  · exact .inr ⟨kb, h1, h2, pre_get p h3⟩
theorem Way.one {h : AH} {lo : Nat} {sv : Value} {l : List Int} (w : Way h lo sv l) : isOne sv = true := by
  rcases w with ⟨rfl, _⟩ | ⟨kb, rfl, h2, h3⟩ <;> rfl
theorem Way.cells {h : AH} {lo : Nat} {sv : Value} {l : List Int} (w : Way h lo sv l) : cellsL sv = [sv] := by
  rcases w with ⟨rfl, _⟩ | ⟨kb, rfl, h2, h3⟩ <;> rfl
theorem Way.put {h : AH} {lo n : Nat} {b : Blk} {sv : Value} {l : List Int} (w : Way h lo sv l) (hn : n < lo) : Way (h.put n b) lo sv l := by
  rcases w with w | ⟨kb, h1, h2, h3⟩
  · exact .inl w
  · exact .inr ⟨kb, h1, h2, by rw [get_put_ne (by omega)]; exact h3⟩
theorem Way.ownR {h0 h : AH} {lo : Nat} {sv : Value} {l : List Int} (w : Way h lo sv l) (hl : h0.length ≤ lo) : OwnR h0 h sv l := by
  rcases w with w | ⟨kb, h1, h2, h3⟩
  · exact .inl w
  · exact .inr ⟨kb, _, _, by omega, h1, h3⟩
theorem Way.app {S : XS} {H : AH} {lo : Nat} {sv : Value} {l : List Int} {x : Int} {e : TypeId} {full : Bool} (w : Way H lo sv l) (hl : (l.length : Int) ≤ 1048576) (hlo : lo ≤ H.length) {Q : Value → AH → Prop}
    (hQ : ∀ sv' H', H'.length = H.length + 2 → (∀ h0 : AH, h0.length ≤ lo → h0 <+: H → h0 <+: H') → (∀ n c f, n < lo → OwnB H n c f → OwnB H' n c f) → Way H' lo sv' (l ++ [x]) → Q sv' H') :
    OQ (appV 2 1 8 sv (.slice (some ⟨H.length, 0, none⟩) 1 1) (H.new ⟨[I64 x], e, false, full⟩)) Q := by
  have hn : (H.new ⟨[I64 x], e, false, full⟩).rdn H.length 0 1 = some [I64 x] := by rw [rdn_new_same]; rfl
  rcases w with ⟨rfl, rfl⟩ | ⟨kb, rfl, h2, h3⟩
  · rw [app_nil (.inl rfl) hn (by omega), OQ_some]
    refine hQ _ _ (by rw [len_new, len_new]) (fun h0 _ p => pre_new (pre_new p)) (fun n c f hn o => (o.pre (pre_new (List.prefix_refl _))).pre (pre_new (List.prefix_refl _))) ?_
    exact .inr ⟨(H.new ⟨[I64 x], e, false, full⟩).length, rfl, by rw [len_new]; omega, get_new_same⟩
  · have hk : (H.new ⟨[I64 x], e, false, full⟩).get kb = some ⟨l.map (Value.int .i64), 2, false, false⟩ := get_new_any h3
    have hkb := get_lt h3
    rw [app_own hk (by simp) hn (by omega), OQ_some]
    refine hQ _ _ (by rw [len_new, len_kill, len_new]) (fun h0 q p => pre_new (pre_kill (pre_new p) (by omega))) (fun n c f hn o => ?_) ?_
    · obtain ⟨e', o⟩ := o
      exact ⟨e', get_new_any (by rw [get_kill_ne (by omega)]; exact get_new_any o)⟩
    · refine .inr ⟨(H.new ⟨[I64 x], e, false, full⟩).length, by simp, by rw [len_new]; omega, ?_⟩
      rw [get_new_eq (by rw [len_kill])]
      simp
def Tells (S : XS) (h : AH) (fv : Value) (i j k : Int) (num : Int → Int → Int → Int) : Prop :=
  ∀ a b c, (0 ≤ a ∧ a < i) → (0 ≤ b ∧ b < j) → (0 ≤ c ∧ c < k) → ∀ h1, h <+: h1 → ∀ Q : Value → AH → Prop, (∀ h2, h1 <+: h2 → Q (I64 (num a b c)) h2) → WK S fv [I64 a, I64 b, I64 c] h1 Q
def tenG (p j k : Int) (num : Int → Int → Int → Int) (n : Nat) : Int := (num ((n : Int) / k / j) ((n : Int) / k % j) ((n : Int) % k)).tmod p
def tenT (p i j k : Int) (num : Int → Int → Int → Int) : Ten := ⟨p, i, j, k, gen (i * j * k).toNat (tenG p j k num)⟩
structure TensS (t : Ten) (h0 h : AH) (b11 : Nat) (l : List Int) : Prop where
  hp : h0 <+: h
  lo : h0.length < b11 ∧ b11 < h.length
  g10 : ∃ c, c.length = 5 ∧ OwnB h h0.length c true
  g11 : ∃ sv, OwnB h b11 [I64 t.p, I64 t.i, I64 t.j, I64 t.k, sv] true ∧ Way h (b11 + 1) sv l
theorem i_tensor {p i j k : Int} {fv : Value} {num : Int → Int → Int → Int} {h : AH} {Q : Value → AH → Prop} (hp1 : 1 ≤ p) (fi : 1 ≤ i ∧ i ≤ 9) (fj : 1 ≤ j ∧ j ≤ 9) (fk : 1 ≤ k ∧ k ≤ 9)
    (hf : Tells S h fv i j k num) (hQ : ∀ v' h', h <+: h' → OwnR h h' v' (tenT p i j k num).ns → Q (tenV (tenT p i j k num) v') h') : WF S 178 [I64 p, I64 i, I64 j, I64 k, fv] h Q := by
  refine WF_fn (fn := c178) rfl rfl ?_
  unfold c178
  have ij := mul_in1 (A := 9) (B := 9) fi fj
  have ijk := mul_in1 (A := 81) (B := 9) ij fk
  try simp (maxSteps := 3000000) (disch := first | omega | (simp only [len_new, len_put, len_kill]; omega)) only [↓xpre, xpost, ↓reduceIte, Nat.reduceEqDiff, Nat.reduceAdd, Nat.reduceSub, Nat.reduceLeDiff, Nat.zero_add, Nat.sub_zero, fillL]
  generalize hH1 : AH.new h _ = H1
  obtain ⟨hb1, p1, n1⟩ := new_facts hH1
  generalize hH2 : AH.new H1 _ = H2
  obtain ⟨hb2, p2, n2⟩ := new_facts hH2
  refine WC_loop_inv (fun n f h1 => ∃ (a : Int), n = (i - a).toNat ∧ (0 ≤ a ∧ a ≤ i) ∧ f 0 = I64 p ∧ f 2 = I64 j ∧ f 3 = I64 k ∧ f 4 = fv ∧ f 10 = .pointer (some ⟨h.length, 0, none⟩) ∧ f 11 = .pointer (some ⟨H1.length, 0, none⟩) ∧
    f 20 = I64 i ∧ f 21 = I64 a ∧ TensS ⟨p, i, j, k, []⟩ h h1 H1.length (gen (a * j * k).toNat (tenG p j k num))) ?_ (i - 0).toNat _ _ ⟨0, rfl, by omega, rfl, rfl, rfl, rfl, rfl, rfl, rfl, rfl,
      ⟨p1.trans p2, by omega, ⟨_, rfl, _, pre_get p2 hb1⟩, _, ⟨_, hb2⟩, .inl ⟨rfl, by simp [gen]⟩⟩⟩
  rintro n fr h1 ⟨a, rfl, ha, f0, f2, f3, f4, f10, f11, f20, f21, st⟩
  try simp (maxSteps := 3000000) (disch := first | omega | (simp only [len_new, len_put, len_kill]; omega)) only [↓xpre, xpost, ↓reduceIte, Nat.reduceEqDiff, Nat.reduceAdd, Nat.reduceSub, Nat.reduceLeDiff, Nat.zero_add, Nat.sub_zero, f0, f2, f3, f4, f10, f11, f20, f21, IfW_dec]
  refine ⟨fun hlt => ?_, fun hge => ?_⟩
  · refine WC_loop_inv (fun n f h1 => ∃ (b : Int), n = (j - b).toNat ∧ (0 ≤ b ∧ b ≤ j) ∧ f 0 = I64 p ∧ f 2 = I64 j ∧ f 3 = I64 k ∧ f 4 = fv ∧ f 10 = .pointer (some ⟨h.length, 0, none⟩) ∧ f 11 = .pointer (some ⟨H1.length, 0, none⟩) ∧
      f 20 = I64 i ∧ f 21 = I64 a ∧ f 12 = I64 a ∧ f 24 = I64 j ∧ f 25 = I64 b ∧ TensS ⟨p, i, j, k, []⟩ h h1 H1.length (gen ((a * j + b) * k).toNat (tenG p j k num))) ?_ (j - 0).toNat _ _ ⟨0, rfl, by omega, f0, f2, f3, f4, f10, f11, f20, f21, rfl, rfl, rfl,
        by rw [Int.add_zero]; exact st⟩
    clear f0 f2 f3 f4 f10 f11 f20 f21 st
    rintro n fr h1 ⟨b, rfl, hb, f0, f2, f3, f4, f10, f11, f20, f21, f12, f24, f25, st⟩
    try simp (maxSteps := 3000000) (disch := first | omega | (simp only [len_new, len_put, len_kill]; omega)) only [↓xpre, xpost, ↓reduceIte, Nat.reduceEqDiff, Nat.reduceAdd, Nat.reduceSub, Nat.reduceLeDiff, Nat.zero_add, Nat.sub_zero, f0, f2, f3, f4, f10, f11, f20, f21, f12, f24, f25, IfW_dec]
    refine ⟨fun hltb => ?_, fun hge => ?_⟩
    · refine WC_loop_inv (fun n f h1 => ∃ (c : Int), n = (k - c).toNat ∧ (0 ≤ c ∧ c ≤ k) ∧ f 0 = I64 p ∧ f 2 = I64 j ∧ f 3 = I64 k ∧ f 4 = fv ∧ f 10 = .pointer (some ⟨h.length, 0, none⟩) ∧ f 11 = .pointer (some ⟨H1.length, 0, none⟩) ∧
        f 20 = I64 i ∧ f 21 = I64 a ∧ f 12 = I64 a ∧ f 24 = I64 j ∧ f 25 = I64 b ∧ f 13 = I64 b ∧ f 28 = I64 k ∧ f 29 = I64 c ∧ TensS ⟨p, i, j, k, []⟩ h h1 H1.length (gen ((a * j + b) * k + c).toNat (tenG p j k num))) ?_ (k - 0).toNat _ _
          ⟨0, rfl, by omega, f0, f2, f3, f4, f10, f11, f20, f21, f12, f24, f25, rfl, rfl, rfl, by rw [Int.add_zero]; exact st⟩
      clear f0 f2 f3 f4 f10 f11 f20 f21 f12 f24 f25 st
      rintro n fr h1 ⟨c, rfl, hc, f0, f2, f3, f4, f10, f11, f20, f21, f12, f24, f25, f13, f28, f29, st⟩
      obtain ⟨sv, ⟨t1, g11⟩, way⟩ := st.g11
      try simp (maxSteps := 3000000) (disch := first | omega | (simp only [len_new, len_put, len_kill]; omega)) only [↓xpre, xpost, ↓reduceIte, Nat.reduceEqDiff, Nat.reduceAdd, Nat.reduceSub, Nat.reduceLeDiff, Nat.zero_add, Nat.sub_zero, f0, f2, f3, f4, f10, f11, f20, f21, f12, f24, f25, f13, f28, f29, rd1_of g11, IfW_dec]
      refine ⟨fun hltc => ?_, fun hge => ?_⟩
      · have b1 := lin_in (i := a) (I := i) (j := b) (J := j) (by omega) (by omega)
        have b2 := lin_in b1.2 (j := c) (J := k) (by omega)
        refine hf a b c (by omega) (by omega) (by omega) h1 st.hp _ fun h2 p5 => ?_
        try simp (maxSteps := 3000000) (disch := first | omega | (simp only [len_new, len_put, len_kill]; omega)) only [↓xpre, xpost, ↓reduceIte, Nat.reduceEqDiff, Nat.reduceAdd, Nat.reduceSub, Nat.reduceLeDiff, Nat.zero_add, Nat.sub_zero, f0, f2, f3, f4, f10, f11, f20, f21, f12, f24, f25, f13, f28, f29, bin_rem, fillL, zrep]
        refine ⟨p5, ?_⟩
        have lo := st.lo
        have l5 := pre_len p5
        refine (way.pre p5).app (S := S) (by rw [gen_len]; omega) (by omega) fun sv' H' hl' hpre hown hw => ?_
        obtain ⟨t2, g11'⟩ := hown _ _ _ (by omega) ⟨t1, pre_get p5 g11⟩
        obtain ⟨c10, c11, c12⟩ := st.g10
        try simp (maxSteps := 3000000) (disch := first | omega | (simp only [len_new, len_put, len_kill]; omega)) only [↓xpre, xpost, ↓reduceIte, Nat.reduceEqDiff, Nat.reduceAdd, Nat.reduceSub, Nat.reduceLeDiff, Nat.zero_add, Nat.sub_zero, f0, f2, f3, f4, f10, f11, f20, f21, f12, f24, f25, f13, f28, f29, hw.one, hw.cells, wr_of g11', wrap64_in]
        refine InvQ_go (k - (c + 1)).toNat (by omega) ⟨c + 1, rfl, by omega, f0, f2, f3, f4, f10, f11, f20, f21, f12, f24, f25, f13, f28, rfl, ?_⟩
        refine ⟨pre_put (hpre h (by omega) (st.hp.trans p5)) (by omega), by rw [len_put]; omega, ⟨c10, c11, (hown _ _ _ (by omega) (c12.pre p5)).put_ne (by omega)⟩, sv', ⟨t2, ?_⟩, ?_⟩
        · rw [get_put_same (get_lt g11')]
        · have e1 : ((a * j + b) * k + (c + 1)).toNat = ((a * j + b) * k + c).toNat + 1 := by omega
          rw [e1, gen_succ]
          have e2 : tenG p j k num ((a * j + b) * k + c).toNat = (num a b c).tmod p := by
            have d1 := dec (a := a * j + b) (i := c) (I := k) (by omega)
            have d2 := dec (a := a) (i := b) (I := j) (by omega)
            unfold tenG
            rw [Int.toNat_of_nonneg (by omega), d1.1, d1.2, d2.1, d2.2]
          rw [e2]
          exact hw.put (by omega)
      · try simp (maxSteps := 3000000) (disch := first | omega | (simp only [len_new, len_put, len_kill]; omega)) only [↓xpre, xpost, ↓reduceIte, Nat.reduceEqDiff, Nat.reduceAdd, Nat.reduceSub, Nat.reduceLeDiff, Nat.zero_add, Nat.sub_zero, f0, f2, f3, f4, f10, f11, f20, f21, f12, f24, f25, wrap64_in]
        have e : c = k := by omega
        subst e
        refine InvQ_go (j - (b + 1)).toNat (by omega) ⟨b + 1, rfl, by omega, f0, f2, f3, f4, f10, f11, f20, f21, f12, f24, rfl, ?_⟩
        have e1 : (a * j + (b + 1)) * c = (a * j + b) * c + c := by rw [← Int.add_assoc, Int.add_mul (a * j + b), Int.one_mul]
        rw [e1]
        exact st
    · try simp (maxSteps := 3000000) (disch := first | omega | (simp only [len_new, len_put, len_kill]; omega)) only [↓xpre, xpost, ↓reduceIte, Nat.reduceEqDiff, Nat.reduceAdd, Nat.reduceSub, Nat.reduceLeDiff, Nat.zero_add, Nat.sub_zero, f0, f2, f3, f4, f10, f11, f20, f21, wrap64_in]
      have e : b = j := by omega
      subst e
      refine InvQ_go (i - (a + 1)).toNat (by omega) ⟨a + 1, rfl, by omega, f0, f2, f3, f4, f10, f11, f20, rfl, ?_⟩
      have e1 : (a + 1) * b * k = (a * b + b) * k := by rw [Int.add_mul a, Int.one_mul]
      rw [e1]
      exact st
  · have e : a = i := by omega
    subst e
    obtain ⟨sv, ⟨t1, g11⟩, way⟩ := st.g11
    obtain ⟨c, c3, t2, g2⟩ := st.g10
    have lo := st.lo
    obtain ⟨c0, c1, c2, c4, c5, rfl⟩ : ∃ a b d e g, c = [a, b, d, e, g] := by
      match c, c3 with
      | [a, b, d, e, g], _ => exact ⟨_, _, _, _, _, rfl⟩
    have l2 := get_lt g2
    try simp (maxSteps := 3000000) (disch := first | omega | (simp only [len_new, len_put, len_kill]; omega)) only [↓xpre, xpost, ↓reduceIte, Nat.reduceEqDiff, Nat.reduceAdd, Nat.reduceSub, Nat.reduceLeDiff, Nat.zero_add, Nat.sub_zero, f0, f2, f3, f4, f10, f11, f20, f21, rdn_of g11, wr_of g2, way.one]
    exact hQ _ _ (pre_put st.hp (Nat.le_refl _)) ((way.put (by omega)).ownR (by omega))
end Go.Proofs.Ytapafdpnmakekaa.X

set_option linter.unusedVariables false
set_option linter.unusedSimpArgs false
namespace Go.Proofs.Ytapafdpnmakekaa.X
open Go Go.RowKit
theorem tat_in {t : Ten} {i j k : Int} (f : TF t) (hi : 0 ≤ i ∧ i < t.i) (hj : 0 ≤ j ∧ j < t.j) (hk : 0 ≤ k ∧ k < t.k) : 0 ≤ tat t i j k ∧ tat t i j k < t.p := by
  have b1 := lin_in hi hj
  have b2 := lin_in b1.2 hk
  exact f.num _ (by omega) (by rw [f.len]; omega)
theorem places {n i j k : Int} (hn : 0 ≤ n ∧ n < i * j * k) (hj : 1 ≤ j) (hk : 1 ≤ k) : (0 ≤ n / k / j ∧ n / k / j < i) ∧ (0 ≤ n / k % j ∧ n / k % j < j) ∧ (0 ≤ n % k ∧ n % k < k) := by
  have h1 : n / k < i * j := Int.ediv_lt_of_lt_mul (by omega) hn.2
  have h2 : n / k / j < i := Int.ediv_lt_of_lt_mul (by omega) h1
  have h3 : 0 ≤ n / k := Int.ediv_nonneg (by omega) (by omega)
  exact ⟨⟨Int.ediv_nonneg h3 (by omega), h2⟩, ⟨Int.emod_nonneg _ (by omega), Int.emod_lt_of_pos _ (by omega)⟩, ⟨Int.emod_nonneg _ (by omega), Int.emod_lt_of_pos _ (by omega)⟩⟩
theorem i_turn1 {v : Value} {t : Ten} {i j k : Int} {h : AH} {n : Nat} {e : TypeId} {ro full : Bool} {Q : Value → AH → Prop} (hb : h.get n = some ⟨[I64 t.p, I64 t.i, I64 t.j, I64 t.k, v], e, ro, full⟩) (hv : Ints h v t.ns) (f : TF t)
    (hi : 0 ≤ i ∧ i < t.i) (hj : 0 ≤ j ∧ j < t.j) (hk : 0 ≤ k ∧ k < t.k) (hQ : ∀ h', h <+: h' → Q (I64 (tat t i j k)) h') : WF S 293 [I64 j, I64 k, I64 i, .pointer (some ⟨n, 0, none⟩)] h Q := by
  refine WF_fn (fn := c293) rfl rfl ?_
  unfold c293
  try simp (maxSteps := 3000000) (disch := first | omega | (simp only [len_new, len_put, len_kill]; omega)) only [↓xpre, xpost, ↓reduceIte, Nat.reduceEqDiff, Nat.reduceAdd, Nat.reduceSub, Nat.reduceLeDiff, Nat.zero_add, Nat.sub_zero, rdn_of hb]
  refine i_at (t := t) hv f hi hj hk fun h' hp => ?_
  try simp (maxSteps := 3000000) (disch := first | omega | (simp only [len_new, len_put, len_kill]; omega)) only [↓xpre, xpost, ↓reduceIte, Nat.reduceEqDiff, Nat.reduceAdd, Nat.reduceSub, Nat.reduceLeDiff, Nat.zero_add, Nat.sub_zero]
  exact hQ _ hp
theorem turn_eq {t : Ten} (f : TF t) : tenT t.p t.j t.k t.i (fun j k i => tat t i j k) = turnT t := by
  unfold tenT turnT
  congr 1
  refine gen_congr fun n hn => ?_
  unfold tenG turnG
  have h := places (n := n) (i := t.j) (j := t.k) (k := t.i) (by omega) f.k.1 f.i.1
  have b := tat_in f h.2.2 h.1 h.2.1
  exact Int.tmod_eq_of_lt b.1 b.2
theorem OwnR.put_ne {h0 h : AH} {v : Value} {ns : List Int} {n : Nat} {b : Blk} (o : OwnR h0 h v ns) (hn : n < h0.length) : OwnR h0 (h.put n b) v ns := by
  rcases o with ⟨rfl, rfl⟩ | ⟨m, e, full, h1, rfl, h2⟩
  · exact .inl ⟨rfl, rfl⟩
  · exact .inr ⟨m, e, full, h1, rfl, by rw [get_put_ne (by omega)]; exact h2⟩
theorem i_turn {v : Value} {t : Ten} {h : AH} {Q : Value → AH → Prop} (hv : Ints h v t.ns) (f : TF t)
    (hQ : ∀ v' h', h <+: h' → OwnR h h' v' (turnT t).ns → Q (tenV (turnT t) v') h') : WF S 193 [tenV t v] h Q := by
  refine WF_fn (fn := c193) rfl rfl ?_
  unfold c193
  try simp (maxSteps := 3000000) (disch := first | omega | (simp only [len_new, len_put, len_kill]; omega)) only [↓xpre, xpost, ↓reduceIte, Nat.reduceEqDiff, Nat.reduceAdd, Nat.reduceSub, Nat.reduceLeDiff, Nat.zero_add, Nat.sub_zero, tenV, hv.one]
  generalize hH1 : AH.new h _ = H1
  obtain ⟨hb1, p1, n1⟩ := new_facts hH1
  generalize hH2 : AH.new H1 _ = H2
  obtain ⟨hb2, p2, n2⟩ := new_facts hH2
  have hb1 := pre_get p2 hb1
  have hf : Tells S H2 (.func (.func 293) #[] #[.pointer (some ⟨h.length, 0, none⟩)]) t.j t.k t.i (fun j k i => tat t i j k) := by
    intro a b c ha hb hc h1 hp Q hQ
    rw [WK_func]
    exact i_turn1 (t := t) (pre_get hp hb1) (hv.pre ((p1.trans p2).trans hp)) f hc ha hb hQ
  refine i_tensor (num := fun j k i => tat t i j k) (by have := f.p; omega) f.j f.k f.i hf fun v' H3 p3 o => ?_
  rw [turn_eq f] at o ⊢
  have hb2 := pre_get p3 hb2
  have l3 := get_lt hb2
  try simp (maxSteps := 3000000) (disch := first | omega | (simp only [len_new, len_put, len_kill]; omega)) only [↓xpre, xpost, ↓reduceIte, Nat.reduceEqDiff, Nat.reduceAdd, Nat.reduceSub, Nat.reduceLeDiff, Nat.zero_add, Nat.sub_zero, tenV, o.ints.one, wr_of hb2]
  exact hQ v' _ (pre_put ((p1.trans p2).trans p3) (by omega)) ((o.put_ne (by omega)).lo (by omega))
end Go.Proofs.Ytapafdpnmakekaa.X

set_option linter.unusedVariables false
set_option linter.unusedSimpArgs false
set_option maxRecDepth 20000
set_option maxHeartbeats 4000000
namespace Go.Proofs.Ytapafdpnmakekaa.X
open Go Go.RowKit
def Vals (h : AH) (v : Value) (cs : List Value) : Prop :=
  (cs = [] ∧ ∃ t, t ≤ 2 ∧ v = .slice none 0 t) ∨
  ∃ b off blk, v = .slice (some ⟨b, off, none⟩) cs.length 1 ∧ h.get b = some blk ∧ off + cs.length ≤ blk.c.length ∧ ∀ i, i < cs.length → blk.c[off + i]? = some (cs.getD i undef)
section
variable {h h' : AH} {v : Value} {cs : List Value}
theorem Vals.pre (p : h <+: h') (hv : Vals h v cs) : Vals h' v cs := by
  rcases hv with hv | ⟨b, off, blk, h1, h2, h3, h4⟩
  · exact .inl hv
  · exact .inr ⟨b, off, blk, h1, pre_get p h2, h3, h4⟩
theorem Vals.len (hv : Vals h v cs) : lenV v = some (.int .i64 cs.length) := by
  rcases hv with ⟨rfl, t, _, rfl⟩ | ⟨b, off, blk, rfl, h2, h3, h4⟩ <;> rfl
theorem Vals.one (hv : Vals h v cs) : isOne v = true := by
  rcases hv with ⟨rfl, t, _, rfl⟩ | ⟨b, off, blk, rfl, h2, h3, h4⟩ <;> rfl
theorem Vals.cells (hv : Vals h v cs) : cellsL v = [v] := by
  rcases hv with ⟨rfl, t, _, rfl⟩ | ⟨b, off, blk, rfl, h2, h3, h4⟩ <;> rfl
theorem Vals.ix (hv : Vals h v cs) {k : IntKind} {j : Int} (h0 : 0 ≤ j) (h1 : j < cs.length) : ixsV 1 v (.int k j) = some (.pointer (some (pAt v 1 j))) := by
  rcases hv with ⟨rfl, t, _, rfl⟩ | ⟨b, off, blk, rfl, h2, h3, h4⟩
  · simp at h1; omega
  · simp [ixsV, h0, h1, pAt]
theorem Vals.rd (hv : Vals h v cs) {j : Int} (h0 : 0 ≤ j) (h1 : j < cs.length) : h.rd1 (pAt v 1 j).block (pAt v 1 j).off = some (cs.getD j.toNat undef) := by
  rcases hv with ⟨rfl, t, _, rfl⟩ | ⟨b, off, blk, rfl, h2, h3, h4⟩
  · simp at h1; omega
  · have := h4 j.toNat (by omega)
    simp [AH.rd1, pAt, h2, this]
end
def Rows (h : AH) (v : Value) (rows : List (List Int)) : Prop := ∃ cs, Vals h v cs ∧ cs.length = rows.length ∧ ∀ i, i < rows.length → Ints h (cs.getD i undef) (rows.getD i [])
theorem Rows.pre {h h' : AH} {v : Value} {rows : List (List Int)} (p : h <+: h') (hv : Rows h v rows) : Rows h' v rows := by
  obtain ⟨cs, h1, h2, h3⟩ := hv
  exact ⟨cs, h1.pre p, h2, fun i hi => (h3 i hi).pre p⟩
theorem Rows.one {h : AH} {v : Value} {rows : List (List Int)} (hv : Rows h v rows) : isOne v = true := by
  obtain ⟨cs, h1, h2, h3⟩ := hv
  exact h1.one
def tot (rows : List (List Int)) (i : Nat) : Int := ((rows.take i).map fun r => (r.length : Int)).sum
theorem tot_succ {rows : List (List Int)} {i : Nat} (hi : i < rows.length) : tot rows (i + 1) = tot rows i + ((rows.getD i []).length : Int) := by
  unfold tot
  rw [List.take_succ_eq_append_getElem hi]
  simp only [List.map_append, List.sum_append, List.map_cons, List.map_nil, List.sum_cons, List.sum_nil, Int.add_zero, List.getD_eq_getElem?_getD, List.getElem?_eq_getElem hi, Option.getD_some]
end Go.Proofs.Ytapafdpnmakekaa.X

set_option linter.unusedVariables false
set_option linter.unusedSimpArgs false
set_option maxRecDepth 20000
set_option maxHeartbeats 4000000
namespace Go.Proofs.Ytapafdpnmakekaa.X
open Go Go.RowKit
theorem set_getD' {α : Type} {l : List α} {i j : Nat} {x d : α} (hi : i < l.length) : (l.set i x).getD j d = if j = i then x else l.getD j d := by
  rw [List.getD_eq_getElem?_getD, List.getD_eq_getElem?_getD, List.getElem?_set]
  by_cases h : i = j
  · subst h
    simp [hi]
  · rw [if_neg h, if_neg (fun e => h e.symm)]
theorem splice_set {l : List Value} {j : Nat} {x : Value} (hj : j < l.length) : splice l j [x] = l.set j x := by
  unfold splice
  rw [List.set_eq_take_append_cons_drop, if_pos hj]
  simp
def OwnRows (h0 h : AH) (v : Value) (rows : List (List Int)) : Prop :=
  (v = .slice none 0 0 ∧ rows = []) ∨
  ∃ n e full cs, h0.length ≤ n ∧ v = .slice (some ⟨n, 0, none⟩) cs.length 1 ∧ h.get n = some ⟨cs, e, false, full⟩ ∧ cs.length = rows.length ∧
    (∀ i, i < rows.length → OwnR h0 h (cs.getD i undef) (rows.getD i []) ∧ blkOf (cs.getD i undef) ≠ some n) ∧
    ∀ i j, i < j → j < rows.length → ∀ b, blkOf (cs.getD i undef) = some b → blkOf (cs.getD j undef) ≠ some b
theorem OwnRows.rows {h0 h : AH} {v : Value} {rows : List (List Int)} (o : OwnRows h0 h v rows) : Rows h v rows := by
  rcases o with ⟨rfl, rfl⟩ | ⟨n, e, full, cs, h1, rfl, h2, h3, h4, h5⟩
  · exact ⟨[], .inl ⟨rfl, 0, by omega, rfl⟩, rfl, fun i hi => by simp at hi⟩
  · refine ⟨cs, .inr ⟨n, 0, _, rfl, h2, by simp, fun i hi => ?_⟩, h3, fun i hi => (h4 i hi).1.ints⟩
    rw [Nat.zero_add, List.getD_eq_getElem?_getD, List.getElem?_eq_getElem hi]
    rfl
theorem OwnRows.pre {h0 h h' : AH} {v : Value} {rows : List (List Int)} (o : OwnRows h0 h v rows) (p : h <+: h') : OwnRows h0 h' v rows := by
  rcases o with ⟨rfl, rfl⟩ | ⟨n, e, full, cs, h1, rfl, h2, h3, h4, h5⟩
  · exact .inl ⟨rfl, rfl⟩
  · exact .inr ⟨n, e, full, cs, h1, rfl, pre_get p h2, h3, fun i hi => ⟨(h4 i hi).1.pre p, (h4 i hi).2⟩, h5⟩
end Go.Proofs.Ytapafdpnmakekaa.X

set_option linter.unusedVariables false
set_option linter.unusedSimpArgs false
set_option maxRecDepth 20000
set_option maxHeartbeats 4000000
namespace Go.Proofs.Ytapafdpnmakekaa.X
open Go Go.RowKit
theorem s_l05Numbers {v : Value} {ns : List Int} {p n : Int} {h : AH} {Q : Value → AH → Prop} (hv : Ints h v ns) (hl : (ns.length : Int) ≤ 1048576) (hp : 2 ≤ p ∧ p ≤ 5)
    (hQ : Q (.bool (allIn p ns && decide ((ns.length : Int) = n))) h) : WF S 251 [I64 p, v, I64 n] h Q := by
  refine WF_fn (fn := c251) rfl rfl ?_
  unfold c251
  try simp (maxSteps := 3000000) (disch := first | omega | (simp only [len_new, len_put, len_kill]; omega)) only [↓xpre, xpost, ↓reduceIte, Nat.reduceEqDiff, Nat.reduceAdd, Nat.reduceSub, Nat.reduceLeDiff, Nat.zero_add, Nat.sub_zero]
  refine WC_loop_inv (fun m f h1 => ∃ i : Nat, m = ns.length - i ∧ i ≤ ns.length ∧ f 0 = I64 p ∧ f 1 = v ∧ f 2 = I64 n ∧ f 7 = I64 i ∧ h1 = h ∧ ∀ j, j < i → 0 ≤ ns.getD j 0 ∧ ns.getD j 0 < p) ?_ ns.length _ _ ⟨0, rfl, Nat.zero_le _, rfl, rfl, rfl, rfl, rfl, by omega⟩
  rintro m f h1 ⟨i, rfl, hi, f0, f1, f2, f7, rfl, hj⟩
  try simp (maxSteps := 3000000) (disch := first | omega | (simp only [len_new, len_put, len_kill]; omega)) only [↓xpre, xpost, ↓reduceIte, Nat.reduceEqDiff, Nat.reduceAdd, Nat.reduceSub, Nat.reduceLeDiff, Nat.zero_add, Nat.sub_zero, f0, f1, f2, f7, hv.len, IfW_dec]
  refine ⟨fun hlt => ?_, fun hge => ?_⟩
  · try simp (maxSteps := 3000000) (disch := first | omega | (simp only [len_new, len_put, len_kill]; omega)) only [↓xpre, xpost, ↓reduceIte, Nat.reduceEqDiff, Nat.reduceAdd, Nat.reduceSub, Nat.reduceLeDiff, Nat.zero_add, Nat.sub_zero, f0, f1, f2, f7, hv.ix, hv.rd, wrap64_in]
    refine s_l01In ?_
    simp only [nth, Int.toNat_natCast]
    by_cases h5 : 0 ≤ ns.getD i 0 ∧ ns.getD i 0 ≤ p - 1
    · try simp (maxSteps := 3000000) (disch := first | omega | (simp only [len_new, len_put, len_kill]; omega)) only [↓xpre, xpost, ↓reduceIte, Nat.reduceEqDiff, Nat.reduceAdd, Nat.reduceSub, Nat.reduceLeDiff, Nat.zero_add, Nat.sub_zero, h5, f0, f1, f2, f7, wrap64_in]
      refine InvQ_go (ns.length - (i + 1)) (by omega) ⟨i + 1, rfl, by omega, f0, f1, f2, rfl, rfl, fun j hj' => ?_⟩
      rcases Nat.lt_succ_iff_lt_or_eq.1 hj' with hj' | rfl
      · exact hj j hj'
      · omega
    · try simp (maxSteps := 3000000) (disch := first | omega | (simp only [len_new, len_put, len_kill]; omega)) only [↓xpre, xpost, ↓reduceIte, Nat.reduceEqDiff, Nat.reduceAdd, Nat.reduceSub, Nat.reduceLeDiff, Nat.zero_add, Nat.sub_zero, h5, f0, f1, f2, f7]
      have : allIn p ns = false := by
        cases ha : allIn p ns with
        | false => rfl
        | true =>
          have := allIn_iff.1 ha i (by omega)
          omega
      rw [this] at hQ
      exact hQ
  · try simp (maxSteps := 3000000) (disch := first | omega | (simp only [len_new, len_put, len_kill]; omega)) only [↓xpre, xpost, ↓reduceIte, Nat.reduceEqDiff, Nat.reduceAdd, Nat.reduceSub, Nat.reduceLeDiff, Nat.zero_add, Nat.sub_zero, f0, f1, f2, f7, hv.len]
    have : allIn p ns = true := allIn_iff.2 fun j hj' => hj j (by omega)
    rw [this, Bool.true_and] at hQ
    exact hQ
def md (p x : Int) : Int := (x.tmod p + p).tmod p
theorem tmod_bound {x p : Int} (hp : 2 ≤ p) : -p < x.tmod p ∧ x.tmod p < p := by
  have h1 := Int.tmod_lt_of_pos x (show 0 < p by omega)
  have h2 := Int.tmod_lt_of_pos (-x) (show 0 < p by omega)
  rw [Int.neg_tmod] at h2
  omega
theorem tmod_nn {a J : Int} (ha : 0 ≤ a) (hJ : 1 ≤ J) : 0 ≤ a.tmod J ∧ a.tmod J < J := by
  rw [Int.tmod_eq_emod_of_nonneg ha]
  exact ⟨Int.emod_nonneg _ (by omega), Int.emod_lt_of_pos _ (by omega)⟩
theorem md_in {x p : Int} (hp : 2 ≤ p) : 0 ≤ md p x ∧ md p x < p := by
  have := tmod_bound (x := x) hp
  exact tmod_nn (by omega) (by omega)
theorem md_small {x p : Int} (hx : 0 ≤ x ∧ x < p) : md p x = x := by
  unfold md
  rw [Int.tmod_eq_of_lt hx.1 hx.2, Int.tmod_eq_emod_of_nonneg (by omega), Int.add_emod_right, Int.emod_eq_of_lt hx.1 hx.2]
theorem s_l01Mod {p x : Int} {h : AH} {Q : Value → AH → Prop} (hp : 2 ≤ p ∧ p ≤ 5) (hQ : Q (I64 (md p x)) h) : WF S 314 [I64 p, I64 x] h Q := by
  refine WF_fn (fn := c314) rfl rfl ?_
  unfold c314
  have := tmod_bound (x := x) hp.1
  try simp (maxSteps := 3000000) (disch := first | omega | (simp only [len_new, len_put, len_kill]; omega)) only [↓xpre, xpost, ↓reduceIte, Nat.reduceEqDiff, Nat.reduceAdd, Nat.reduceSub, Nat.reduceLeDiff, Nat.zero_add, Nat.sub_zero, bin_rem, wrap64_in]
  exact hQ
def IsInv (p n w : Int) : Prop := 1 ≤ w ∧ w < p ∧ (w * n).tmod p = 1 ∧ ∀ k, 1 ≤ k → k < w → (k * n).tmod p ≠ 1
theorem inv_is {p n : Int} (hp : isP p = true) (hn : 1 ≤ n ∧ n < p) : ∃ w, IsInv p n w := by
  have hpp : p = 2 ∨ p = 3 ∨ p = 5 := by simpa [isP] using hp
  have one : IsInv p 1 1 → n = 1 → ∃ w, IsInv p n w := fun h e => ⟨1, by rw [e]; exact h⟩
  have hcase : (n = 1) ∨ (p = 3 ∧ n = 2) ∨ (p = 5 ∧ n = 2) ∨ (p = 5 ∧ n = 3) ∨ (p = 5 ∧ n = 4) := by omega
  rcases hcase with rfl | ⟨rfl, rfl⟩ | ⟨rfl, rfl⟩ | ⟨rfl, rfl⟩ | ⟨rfl, rfl⟩
  · refine ⟨1, by omega, by omega, ?_, fun k h1 h2 => by omega⟩
    exact Int.tmod_eq_of_lt (by omega) (by omega)
  · refine ⟨2, by omega, by omega, by decide, fun k h1 h2 => ?_⟩
    have : k = 1 := by omega
    subst this
    decide
  · refine ⟨3, by omega, by omega, by decide, fun k h1 h2 => ?_⟩
    have : k = 1 ∨ k = 2 := by omega
    rcases this with rfl | rfl <;> decide
  · refine ⟨2, by omega, by omega, by decide, fun k h1 h2 => ?_⟩
    have : k = 1 := by omega
    subst this
    decide
  · refine ⟨4, by omega, by omega, by decide, fun k h1 h2 => ?_⟩
    have : k = 1 ∨ k = 2 ∨ k = 3 := by omega
    rcases this with rfl | rfl | rfl <;> decide
theorem s_l01Inverse {p n w : Int} {h : AH} {Q : Value → AH → Prop} (hp : 2 ≤ p ∧ p ≤ 5) (hn : 1 ≤ n ∧ n < p) (hw : IsInv p n w) (hQ : Q (I64 w) h) : WF S 311 [I64 p, I64 n] h Q := by
  refine WF_fn (fn := c311) rfl rfl ?_
  unfold c311
  try simp (maxSteps := 3000000) (disch := first | omega | (simp only [len_new, len_put, len_kill]; omega)) only [↓xpre, xpost, ↓reduceIte, Nat.reduceEqDiff, Nat.reduceAdd, Nat.reduceSub, Nat.reduceLeDiff, Nat.zero_add, Nat.sub_zero]
  obtain ⟨w1, w2, w3, w4⟩ := hw
  refine WC_loop_inv (fun m f h1 => ∃ k : Int, m = (w - k).toNat ∧ (1 ≤ k ∧ k ≤ w) ∧ f 0 = I64 p ∧ f 1 = I64 n ∧ f 5 = I64 k ∧ h1 = h) ?_ (w - 1).toNat _ _ ⟨1, rfl, by omega, rfl, rfl, rfl, rfl⟩
  rintro m f h1 ⟨k, rfl, hk, f0, f1, f5, rfl⟩
  try simp (maxSteps := 3000000) (disch := first | omega | (simp only [len_new, len_put, len_kill]; omega)) only [↓xpre, xpost, ↓reduceIte, Nat.reduceEqDiff, Nat.reduceAdd, Nat.reduceSub, Nat.reduceLeDiff, Nat.zero_add, Nat.sub_zero, f0, f1, f5, IfW_dec]
  refine ⟨fun hlt => ?_, fun hge => by omega⟩
  refine s_l01Mod hp ?_
  rw [md_small (by omega)]
  have b := mul_in (a := k) (b := n) (A := 5) (B := 5) (by omega) (by omega)
  try simp (maxSteps := 3000000) (disch := first | omega | (simp only [len_new, len_put, len_kill]; omega)) only [↓xpre, xpost, ↓reduceIte, Nat.reduceEqDiff, Nat.reduceAdd, Nat.reduceSub, Nat.reduceLeDiff, Nat.zero_add, Nat.sub_zero, f0, f1, f5, wrap64_in, bin_rem, IfW_dec]
  refine ⟨fun he => ?_, fun he => ?_⟩
  · have : k = w := Decidable.byContradiction fun hne => w4 k hk.1 (by omega) he
    subst this
    exact hQ
  · have : k ≠ w := fun e => he (by rw [e]; exact w3)
    try simp (maxSteps := 3000000) (disch := first | omega | (simp only [len_new, len_put, len_kill]; omega)) only [↓xpre, xpost, ↓reduceIte, Nat.reduceEqDiff, Nat.reduceAdd, Nat.reduceSub, Nat.reduceLeDiff, Nat.zero_add, Nat.sub_zero, f0, f1, f5, wrap64_in]
    exact InvQ_go (w - (k + 1)).toNat (by omega) ⟨k + 1, rfl, by omega, f0, f1, rfl, rfl⟩
theorem i_inverse {p n w : Int} {h : AH} {Q : Value → AH → Prop} (hp : 2 ≤ p ∧ p ≤ 5) (hn : 1 ≤ n ∧ n < p) (hw : IsInv p n w) (hQ : Q (I64 w) h) : WF S 243 [I64 p, I64 n] h Q := by
  refine WF_fn (fn := c243) rfl rfl ?_
  unfold c243
  try simp (maxSteps := 3000000) (disch := first | omega | (simp only [len_new, len_put, len_kill]; omega)) only [↓xpre, xpost, ↓reduceIte, Nat.reduceEqDiff, Nat.reduceAdd, Nat.reduceSub, Nat.reduceLeDiff, Nat.zero_add, Nat.sub_zero]
  obtain ⟨w1, w2, w3, w4⟩ := hw
  refine WC_loop_inv (fun m f h1 => ∃ k : Int, m = (w - k).toNat ∧ (1 ≤ k ∧ k ≤ w) ∧ f 0 = I64 p ∧ f 1 = I64 n ∧ f 5 = I64 k ∧ h1 = h) ?_ (w - 1).toNat _ _ ⟨1, rfl, by omega, rfl, rfl, rfl, rfl⟩
  rintro m f h1 ⟨k, rfl, hk, f0, f1, f5, rfl⟩
  have b := mul_in (a := k) (b := n) (A := 5) (B := 5) (by omega) (by omega)
  try simp (maxSteps := 3000000) (disch := first | omega | (simp only [len_new, len_put, len_kill]; omega)) only [↓xpre, xpost, ↓reduceIte, Nat.reduceEqDiff, Nat.reduceAdd, Nat.reduceSub, Nat.reduceLeDiff, Nat.zero_add, Nat.sub_zero, f0, f1, f5, wrap64_in, bin_rem, IfW_dec]
  refine ⟨fun he => ?_, fun he => ?_⟩
  · have : k = w := Decidable.byContradiction fun hne => w4 k hk.1 (by omega) he
    subst this
    exact hQ
  · have : k ≠ w := fun e => he (by rw [e]; exact w3)
    try simp (maxSteps := 3000000) (disch := first | omega | (simp only [len_new, len_put, len_kill]; omega)) only [↓xpre, xpost, ↓reduceIte, Nat.reduceEqDiff, Nat.reduceAdd, Nat.reduceSub, Nat.reduceLeDiff, Nat.zero_add, Nat.sub_zero, f0, f1, f5, wrap64_in]
    exact InvQ_go (w - (k + 1)).toNat (by omega) ⟨k + 1, rfl, by omega, f0, f1, rfl, rfl⟩
end Go.Proofs.Ytapafdpnmakekaa.X

set_option linter.unusedVariables false
set_option linter.unusedSimpArgs false
set_option maxRecDepth 20000
set_option maxHeartbeats 4000000
namespace Go.Proofs.Ytapafdpnmakekaa.X
open Go Go.RowKit
def isMat (p cols : Int) (rows : List (List Int)) : Bool := rows.all fun r => decide ((r.length : Int) = cols) && allIn p r
theorem isMat_iff {p cols : Int} {rows : List (List Int)} : isMat p cols rows = true ↔ ∀ j, j < rows.length → ((rows.getD j []).length : Int) = cols ∧ allIn p (rows.getD j []) = true := by
  simp only [isMat, List.all_eq_true, Bool.and_eq_true, decide_eq_true_eq]
  constructor
  · intro h j hj
    exact h _ (by simp [List.getD_eq_getElem?_getD, List.getElem?_eq_getElem hj])
  · intro h x hx
    obtain ⟨j, hj, rfl⟩ := List.mem_iff_getElem.1 hx
    have := h j hj
    simpa [List.getD_eq_getElem?_getD, List.getElem?_eq_getElem hj] using this
theorem isMat_no {p cols : Int} {rows : List (List Int)} {j : Nat} (hj : j < rows.length) (h : ¬ (((rows.getD j []).length : Int) = cols ∧ allIn p (rows.getD j []) = true)) : isMat p cols rows = false := by
  cases ha : isMat p cols rows with
  | false => rfl
  | true => exact (h (isMat_iff.1 ha j hj)).elim
theorem i_isMatrix {v : Value} {rows : List (List Int)} {p n cols : Int} {h : AH} {Q : Value → AH → Prop} (hv : Rows h v rows) (hl : (rows.length : Int) ≤ 1048576) (hl' : ∀ i, i < rows.length → ((rows.getD i []).length : Int) ≤ 1048576)
    (hQ : Q (.bool (isMat p cols rows && decide ((rows.length : Int) = n))) h) : WF S 168 [I64 p, I64 n, I64 cols, v] h Q := by
  refine WF_fn (fn := c168) rfl rfl ?_
  unfold c168
  obtain ⟨cs, hv, hcl, hr⟩ := hv
  try simp (maxSteps := 3000000) (disch := first | omega | (simp only [len_new, len_put, len_kill]; omega)) only [↓xpre, xpost, ↓reduceIte, Nat.reduceEqDiff, Nat.reduceAdd, Nat.reduceSub, Nat.reduceLeDiff, Nat.zero_add, Nat.sub_zero, hv.len, hcl]
  refine WC_loop_inv (fun m f h1 => ∃ i : Nat, m = rows.length - i ∧ i ≤ rows.length ∧ f 0 = I64 p ∧ f 1 = I64 n ∧ f 2 = I64 cols ∧ f 3 = v ∧ f 11 = v ∧ f 12 = I64 rows.length ∧ f 13 = I64 i ∧ h1 = h ∧
    ∀ j, j < i → ((rows.getD j []).length : Int) = cols ∧ allIn p (rows.getD j []) = true) ?_ rows.length _ _ ⟨0, rfl, Nat.zero_le _, rfl, rfl, rfl, rfl, rfl, rfl, rfl, rfl, by omega⟩
  rintro m f h1 ⟨i, rfl, hi, f0, f1, f2, f3, f11, f12, f13, rfl, hj⟩
  try simp (maxSteps := 3000000) (disch := first | omega | (simp only [len_new, len_put, len_kill]; omega)) only [↓xpre, xpost, ↓reduceIte, Nat.reduceEqDiff, Nat.reduceAdd, Nat.reduceSub, Nat.reduceLeDiff, Nat.zero_add, Nat.sub_zero, f0, f1, f2, f3, f11, f12, f13, IfW_dec]
  refine ⟨fun hlt => ?_, fun hge => ?_⟩
  · have hi' : i < rows.length := by omega
    have hix := hv.ix (k := .i64) (j := i) (by omega) (by omega)
    have hrd := hv.rd (j := i) (by omega) (by omega)
    have hri := hr i hi'
    try simp (maxSteps := 3000000) (disch := first | omega | (simp only [len_new, len_put, len_kill]; omega)) only [↓xpre, xpost, ↓reduceIte, Nat.reduceEqDiff, Nat.reduceAdd, Nat.reduceSub, Nat.reduceLeDiff, Nat.zero_add, Nat.sub_zero, f0, f1, f2, f3, f11, f12, f13, hix, hrd, Int.toNat_natCast, hri.len]
    by_cases h1 : ((rows.getD i []).length : Int) = cols
    · try simp (maxSteps := 3000000) (disch := first | omega | (simp only [len_new, len_put, len_kill]; omega)) only [↓xpre, xpost, ↓reduceIte, Nat.reduceEqDiff, Nat.reduceAdd, Nat.reduceSub, Nat.reduceLeDiff, Nat.zero_add, Nat.sub_zero, decide_eq_false (show ¬ (((rows.getD i []).length : Int) ≠ cols) from fun h => h h1), f0, f1, f2, f3, f11, f12, f13]
      refine i_areNumbers hri (hl' i hi') ?_
      cases h2 : allIn p (rows.getD i []) with
      | true =>
        try simp (maxSteps := 3000000) (disch := first | omega | (simp only [len_new, len_put, len_kill]; omega)) only [↓xpre, xpost, ↓reduceIte, Nat.reduceEqDiff, Nat.reduceAdd, Nat.reduceSub, Nat.reduceLeDiff, Nat.zero_add, Nat.sub_zero, f0, f1, f2, f3, f11, f12, f13, wrap64_in]
        refine InvQ_go (rows.length - (i + 1)) (by omega) ⟨i + 1, rfl, by omega, f0, f1, f2, f3, f11, f12, rfl, rfl, fun j hj' => ?_⟩
        rcases Nat.lt_succ_iff_lt_or_eq.1 hj' with hj' | rfl
        · exact hj j hj'
        · exact ⟨h1, h2⟩
      | false =>
        try simp (maxSteps := 3000000) (disch := first | omega | (simp only [len_new, len_put, len_kill]; omega)) only [↓xpre, xpost, ↓reduceIte, Nat.reduceEqDiff, Nat.reduceAdd, Nat.reduceSub, Nat.reduceLeDiff, Nat.zero_add, Nat.sub_zero]
        rw [isMat_no hi' (by rw [h2]; simp)] at hQ
        exact hQ
    · try simp (maxSteps := 3000000) (disch := first | omega | (simp only [len_new, len_put, len_kill]; omega)) only [↓xpre, xpost, ↓reduceIte, Nat.reduceEqDiff, Nat.reduceAdd, Nat.reduceSub, Nat.reduceLeDiff, Nat.zero_add, Nat.sub_zero, decide_eq_true (show ((rows.getD i []).length : Int) ≠ cols from h1)]
      rw [isMat_no hi' (fun h => h1 h.1)] at hQ
      exact hQ
  · try simp (maxSteps := 3000000) (disch := first | omega | (simp only [len_new, len_put, len_kill]; omega)) only [↓xpre, xpost, ↓reduceIte, Nat.reduceEqDiff, Nat.reduceAdd, Nat.reduceSub, Nat.reduceLeDiff, Nat.zero_add, Nat.sub_zero, f0, f1, f2, f3, f11, f12, f13, hv.len, hcl]
    rw [isMat_iff.2 (fun j hj' => hj j (by omega)), Bool.true_and] at hQ
    exact hQ
end Go.Proofs.Ytapafdpnmakekaa.X

set_option linter.unusedVariables false
set_option linter.unusedSimpArgs false
set_option maxRecDepth 20000
set_option maxHeartbeats 4000000
namespace Go.Proofs.Ytapafdpnmakekaa.X
open Go Go.RowKit
def isnilV (neg : Bool) (x : Value) : Option Value := match x with
  | .slice none 0 0 => some (.bool (!neg))
  | .slice (some _) _ _ => some (.bool neg)
  | _ => none
theorem isnilV_some {neg : Bool} {a : Addr} {n c : Nat} : isnilV neg (.slice (some a) n c) = some (.bool neg) := rfl
theorem WX_isnil {S : XS} {f : Fr} {h : AH} {Q : Value → AH → Prop} {neg : Bool} {x : Operand} : WX S (.isnil neg x) f h Q = WV (isnilV neg (ev f x)) fun v => Q v h := by
  rw [WX_op (fun _ => rfl)]
  have : xop (.isnil neg x) f h = (isnilV neg (ev f x)).map (·, h) := by
    simp only [xop, isnilV]
    split <;> simp_all
  rw [this]
  cases isnilV neg (ev f x) <;> simp [OQ_some, WV_some, OQ_none, WV_none]
theorem Ints.vals {h : AH} {v : Value} {ns : List Int} (hv : Ints h v ns) : Vals h v (ns.map (Value.int .i64)) := by
  rcases hv with ⟨rfl, t, ht, rfl⟩ | ⟨b, off, blk, rfl, h2, h3, h4⟩
  · exact .inl ⟨rfl, t, ht, rfl⟩
  · refine .inr ⟨b, off, blk, by simp, h2, by simpa using h3, fun i hi => ?_⟩
    have hi' : i < ns.length := by simpa using hi
    rw [h4 i hi']
    simp [List.getD_eq_getElem?_getD, List.getElem?_map, List.getElem?_eq_getElem hi']
theorem Vals.rdn {h : AH} {v : Value} {cs : List Value} (hv : Vals h v cs) (h0 : 0 < cs.length) : ∃ n off, v = .slice (some ⟨n, off, none⟩) cs.length 1 ∧ h.rdn n off cs.length = some cs := by
  rcases hv with ⟨rfl, t, _, rfl⟩ | ⟨b, off, blk, rfl, h2, h3, h4⟩
  · simp at h0
  · refine ⟨b, off, rfl, ?_⟩
    rw [rdn_of h2, if_pos h3]
    congr 1
    refine List.ext_getElem? fun j => ?_
    by_cases hj : j < cs.length
    · rw [List.getElem?_take, if_pos hj, List.getElem?_drop, h4 j hj, List.getD_eq_getElem?_getD, List.getElem?_eq_getElem hj]
      rfl
    · rw [List.getElem?_eq_none (by simp; omega), List.getElem?_eq_none (by omega)]
theorem app_zero {e : TypeId} {bytes : Nat} {h : AH} {k n' off m : Nat} {news : List Value} {full : Bool} (hk : h.get k = some ⟨[], e, false, full⟩) (hn : h.rdn n' off m = some news) (hm : 0 < m)
    (hs : (m : Int) * bytes ≤ 140737488355328 ∧ (m : Int) ≤ 9223372036854775807) :
    appV e 1 bytes (.slice (some ⟨k, 0, none⟩) 0 1) (.slice (some ⟨n', off, none⟩) m 1) h = some (.slice (some ⟨h.length, 0, none⟩) m 1, (h.kill k).new ⟨news, e, false, false⟩) := by
  simp only [appV, xop, ev, if_true, Nat.mul_one, hn, hk]
  rw [if_pos (by simpa using hs), if_neg (by omega)]
  simp
theorem OwnR.of {h0 h : AH} {v : Value} {ns : List Int} {n : Nat} {e : TypeId} {full : Bool} (h1 : h0.length ≤ n) (e1 : v = .slice (some ⟨n, 0, none⟩) ns.length 1) (hb : h.get n = some ⟨ns.map (Value.int .i64), e, false, full⟩) : OwnR h0 h v ns := .inr ⟨n, e, full, h1, e1, hb⟩
end Go.Proofs.Ytapafdpnmakekaa.X

set_option linter.unusedVariables false
set_option linter.unusedSimpArgs false
set_option maxRecDepth 20000
set_option maxHeartbeats 4000000
namespace Go.Proofs.Ytapafdpnmakekaa.X
open Go Go.RowKit
theorem Ints.put_ne {h : AH} {v : Value} {ns : List Int} {n : Nat} {b : Blk} (hv : Ints h v ns) (hn : blkOf v ≠ some n) : Ints (h.put n b) v ns := by
  rcases hv with hv | ⟨m, off, blk, rfl, h2, h3, h4⟩
  · exact .inl hv
  · exact .inr ⟨m, off, blk, rfl, by rw [get_put_ne (fun e => hn (by rw [e]; rfl))]; exact h2, h3, h4⟩
theorem Ints.kill_ne {h : AH} {v : Value} {ns : List Int} {n : Nat} (hv : Ints h v ns) (hn : blkOf v ≠ some n) : Ints (h.kill n) v ns := by
  rcases hv with hv | ⟨m, off, blk, rfl, h2, h3, h4⟩
  · exact .inl hv
  · exact .inr ⟨m, off, blk, rfl, by rw [get_kill_ne (fun e => hn (by rw [e]; rfl))]; exact h2, h3, h4⟩
theorem Ints.lt {h : AH} {v : Value} {ns : List Int} (hv : Ints h v ns) : ∀ n, blkOf v = some n → n < h.length := by
  intro n hn
  rcases hv with ⟨_, t, _, rfl⟩ | ⟨m, off, blk, rfl, h2, h3, h4⟩
  · cases hn
  · cases hn
    exact get_lt h2
def tb (T : List (List Int)) (i c : Nat) : Int := (T.getD i []).getD c 0
open Classical in
noncomputable def invN (p n : Int) : Int := if h : ∃ w, IsInv p n w then Classical.choose h else 0
theorem invN_is {p n : Int} (hp : isP p = true) (hn : 1 ≤ n ∧ n < p) : IsInv p n (invN p n) := by
  have h := inv_is hp hn
  unfold invN
  rw [dif_pos h]
  exact Classical.choose_spec h
def pivot (T : List (List Int)) (c : Nat) : Nat → Nat → Nat
  | 0, r => r
  | m + 1, r => if tb T r c = 0 then pivot T c m (r + 1) else r
noncomputable def rowOp (p : Int) (own row : List Int) (c : Nat) : List Int :=
  gen row.length fun l => md p (row.getD l 0 - (row.getD c 0 * invN p (own.getD c 0)).tmod p * own.getD l 0)
def swapped (T : List (List Int)) (r i : Nat) : List (List Int) := (T.set i (T.getD r [])).set r (T.getD i [])
noncomputable def swept (p : Int) (T : List (List Int)) (r c k : Nat) : List (List Int) :=
  (List.range T.length).map fun j => if r < j ∧ j < k then rowOp p (T.getD r []) (T.getD j []) c else T.getD j []
noncomputable def colStep (p : Int) (T : List (List Int)) (r c : Nat) : List (List Int) × Nat :=
  if pivot T c (T.length - r) r = T.length then (T, r) else (swept p (swapped T r (pivot T c (T.length - r) r)) r c T.length, r + 1)
noncomputable def elim : Int → List (List Int) → Nat → Nat → Nat → Nat
  | p, T, r, c, 0 => r
  | p, T, r, c, m + 1 => elim p (colStep p T r c).1 (colStep p T r c).2 (c + 1) m
noncomputable def rankN (p : Int) (T : List (List Int)) : Nat := elim p T 0 0 (T.getD 0 []).length
def Good (p : Int) (T : List (List Int)) (w : Nat) : Prop := ∀ i, i < T.length → (T.getD i []).length = w ∧ ∀ l, l < w → 0 ≤ tb T i l ∧ tb T i l < p
theorem pivot_le {T : List (List Int)} {c : Nat} : ∀ {m r : Nat}, r ≤ pivot T c m r ∧ pivot T c m r ≤ r + m
  | 0, r => by simp [pivot]
  | m + 1, r => by
    unfold pivot
    split
    · have := pivot_le (T := T) (c := c) (m := m) (r := r + 1)
      omega
    · omega
theorem pivot_ne {T : List (List Int)} {c : Nat} : ∀ {m r : Nat}, pivot T c m r < r + m → tb T (pivot T c m r) c ≠ 0
  | 0, r, h => by simp [pivot] at h
  | m + 1, r, h => by
    unfold pivot at h ⊢
    split
    · rename_i h0
      rw [if_pos h0] at h
      exact pivot_ne (by omega)
    · rename_i h0
      exact h0
theorem swept_len {p : Int} {T : List (List Int)} {r c k : Nat} : (swept p T r c k).length = T.length := by simp [swept]
theorem swept_get {p : Int} {T : List (List Int)} {r c k j : Nat} (hj : j < T.length) : (swept p T r c k).getD j [] = if r < j ∧ j < k then rowOp p (T.getD r []) (T.getD j []) c else T.getD j [] := by
  simp [swept, List.getD_eq_getElem?_getD, List.getElem?_map, List.getElem?_range hj]
theorem getD_ext {T T' : List (List Int)} (hl : T.length = T'.length) (h : ∀ j, j < T.length → T.getD j [] = T'.getD j []) : T = T' := by
  refine List.ext_getElem? fun j => ?_
  by_cases h1 : j < T.length
  · have := h j h1
    rw [List.getElem?_eq_getElem h1, List.getElem?_eq_getElem (by omega)]
    simpa [List.getD_eq_getElem?_getD, List.getElem?_eq_getElem h1, List.getElem?_eq_getElem (show j < T'.length by omega)] using this
  · rw [List.getElem?_eq_none (by omega), List.getElem?_eq_none (by omega)]
theorem swept_start {p : Int} {T : List (List Int)} {r c : Nat} : swept p T r c (r + 1) = T := by
  refine getD_ext swept_len fun j hj => ?_
  rw [swept_len] at hj
  rw [swept_get hj, if_neg (by omega)]
theorem swept_next {p : Int} {T : List (List Int)} {r c k : Nat} (hr : r < k) (hk : k < T.length) : swept p T r c (k + 1) = (swept p T r c k).set k (rowOp p (T.getD r []) (T.getD k []) c) := by
  refine getD_ext (by rw [List.length_set, swept_len, swept_len]) fun j hj => ?_
  rw [swept_len] at hj
  rw [set_getD' (by rw [swept_len]; omega), swept_get hj, swept_get hj]
  by_cases h : j = k
  · subst h
    rw [if_pos (by omega), if_pos rfl]
  · rw [if_neg h]
    by_cases h2 : r < j ∧ j < k
    · rw [if_pos h2, if_pos (by omega)]
    · rw [if_neg h2, if_neg (by omega)]
theorem rowOp_zero {p : Int} {own row : List Int} {c : Nat} (hs : (row.getD c 0 * invN p (own.getD c 0)).tmod p = 0) (hr : ∀ l, l < row.length → 0 ≤ row.getD l 0 ∧ row.getD l 0 < p) : rowOp p own row c = row := by
  unfold rowOp
  symm
  refine gen_ext rfl fun l hl => ?_
  rw [hs, Int.zero_mul, Int.sub_zero, md_small (hr l hl)]
theorem swapped_len {T : List (List Int)} {r i : Nat} : (swapped T r i).length = T.length := by simp [swapped]
theorem swapped_get {T : List (List Int)} {r i j : Nat} (hr : r < T.length) (hi : i < T.length) : (swapped T r i).getD j [] = if j = r then T.getD i [] else if j = i then T.getD r [] else T.getD j [] := by
  unfold swapped
  rw [set_getD' (by simpa using hr)]
  split
  · rfl
  · rw [set_getD' hi]
theorem Good.swapped {p : Int} {T : List (List Int)} {w r i : Nat} (g : Good p T w) (hr : r < T.length) (hi : i < T.length) : Good p (swapped T r i) w := by
  intro j hj
  rw [swapped_len] at hj
  unfold tb
  rw [swapped_get hr hi]
  split
  · exact g i hi
  · split
    · exact g r hr
    · exact g j hj
theorem Good.swept {p : Int} {T : List (List Int)} {w r c k : Nat} (g : Good p T w) (hp : 2 ≤ p) : Good p (swept p T r c k) w := by
  intro j hj
  rw [swept_len] at hj
  unfold tb
  rw [swept_get hj]
  split
  · unfold rowOp
    rw [gen_len, (g j hj).1]
    refine ⟨rfl, fun l hl => ?_⟩
    rw [gen_get hl]
    exact md_in hp
  · exact g j hj
theorem Good.colStep {p : Int} {T : List (List Int)} {w r c : Nat} (g : Good p T w) (hp : 2 ≤ p) (hr : r ≤ T.length) : Good p (colStep p T r c).1 w ∧ (colStep p T r c).1.length = T.length ∧ (colStep p T r c).2 ≤ T.length := by
  unfold X.colStep
  split
  · exact ⟨g, rfl, hr⟩
  · rename_i hne
    have h1 := pivot_le (T := T) (c := c) (m := T.length - r) (r := r)
    exact ⟨(g.swapped (by omega) (by omega)).swept hp, by rw [swept_len, swapped_len], by simp only; omega⟩
theorem elim_full {p : Int} : ∀ {m : Nat} {T : List (List Int)} {r c : Nat}, r = T.length → elim p T r c m = r
  | 0, T, r, c, h => rfl
  | m + 1, T, r, c, h => by
    unfold elim
    have : colStep p T r c = (T, r) := by
      unfold colStep
      rw [if_pos (by subst h; simp [pivot])]
    rw [this]
    exact elim_full h
end Go.Proofs.Ytapafdpnmakekaa.X

set_option linter.unusedVariables false
set_option linter.unusedSimpArgs false
set_option maxRecDepth 20000
set_option maxHeartbeats 4000000
namespace Go.Proofs.Ytapafdpnmakekaa.X
open Go Go.RowKit
theorem ownB_new'' {h : AH} {c : List Value} {e : TypeId} {full : Bool} {n : Nat} (hn : n = h.length) : OwnB (h.new ⟨c, e, false, full⟩) n c full := by subst hn; exact ownB_new
def WayF (h : AH) (lo : Nat) (sv : Value) (l : List Int) : Prop :=
  ∃ kb full, sv = .slice (some ⟨kb, 0, none⟩) l.length 1 ∧ lo ≤ kb ∧ h.get kb = some ⟨l.map (Value.int .i64), 2, false, full⟩
def Keeps (lo : Nat) (h h' : AH) : Prop := h.length ≤ h'.length ∧ ∀ n b, n < lo → h.get n = some b → h'.get n = some b
theorem Ints.keeps {lo : Nat} {h h' : AH} {v : Value} {ns : List Int} (hv : Ints h v ns) (k : Keeps lo h h') (hb : ∀ n, blkOf v = some n → n < lo) : Ints h' v ns := by
  rcases hv with hv | ⟨m, off, blk, rfl, h2, h3, h4⟩
  · exact .inl hv
  · exact .inr ⟨m, off, blk, rfl, k.2 m blk (hb m rfl) h2, h3, h4⟩
theorem WayF.app {H : AH} {lo : Nat} {sv : Value} {l : List Int} {x : Int} {e : TypeId} {full : Bool} (w : WayF H lo sv l) (hl : (l.length : Int) ≤ 1048576) {Q : Value → AH → Prop}
    (hQ : ∀ sv' H', Keeps lo H H' → (∀ h0 : AH, h0.length ≤ lo → h0 <+: H → h0 <+: H') → WayF H' lo sv' (l ++ [x]) → Q sv' H') :
    OQ (appV 2 1 8 sv (.slice (some ⟨H.length, 0, none⟩) 1 1) (H.new ⟨[I64 x], e, false, full⟩)) Q := by
  have hn : (H.new ⟨[I64 x], e, false, full⟩).rdn H.length 0 1 = some [I64 x] := by rw [rdn_new_same]; rfl
  obtain ⟨kb, fu, rfl, h2, h3⟩ := w
  have hk : (H.new ⟨[I64 x], e, false, full⟩).get kb = some ⟨l.map (Value.int .i64), 2, false, fu⟩ := get_new_any h3
  have hkb := get_lt h3
  rw [app_own hk (by simp) hn (by omega), OQ_some]
  refine hQ _ _ ⟨by rw [len_new, len_kill, len_new]; omega, fun n b hn hb => get_new_any (by rw [get_kill_ne (by omega)]; exact get_new_any hb)⟩ (fun h0 q p => pre_new (pre_kill (pre_new p) (by omega))) ?_
  refine ⟨(H.new ⟨[I64 x], e, false, full⟩).length, false, by simp, by rw [len_new]; omega, ?_⟩
  rw [get_new_eq (by rw [len_kill])]
  simp
structure RankS (h0 h : AH) (n0 : Nat) (cs : List Value) (T : List (List Int)) : Prop where
  hp : h0 <+: h
  lo : h0.length ≤ n0
  g : OwnB h n0 cs false
  len : cs.length = T.length
  rows : ∀ i, i < T.length → Ints h (cs.getD i undef) (T.getD i []) ∧ blkOf (cs.getD i undef) ≠ some n0
theorem RankS.vals {h0 h : AH} {n0 : Nat} {cs : List Value} {T : List (List Int)} (s : RankS h0 h n0 cs T) : Vals h (.slice (some ⟨n0, 0, none⟩) T.length 1) cs := by
  obtain ⟨e, hg⟩ := s.g
  refine .inr ⟨n0, 0, _, by rw [s.len], hg, by simp, fun i hi => ?_⟩
  rw [Nat.zero_add, List.getD_eq_getElem?_getD, List.getElem?_eq_getElem hi]
  rfl
theorem RankS.lt {h0 h : AH} {n0 : Nat} {cs : List Value} {T : List (List Int)} (s : RankS h0 h n0 cs T) : n0 < h.length := s.g.choose_spec |> get_lt
theorem RankS.pre {h0 h h' : AH} {n0 : Nat} {cs : List Value} {T : List (List Int)} (s : RankS h0 h n0 cs T) (p : h <+: h') : RankS h0 h' n0 cs T := by
  obtain ⟨e, hg⟩ := s.g
  exact ⟨s.hp.trans p, s.lo, ⟨e, pre_get p hg⟩, s.len, fun i hi => ⟨(s.rows i hi).1.pre p, (s.rows i hi).2⟩⟩
theorem RankS.keeps {h0 h h' : AH} {n0 lo : Nat} {cs : List Value} {T : List (List Int)} (s : RankS h0 h n0 cs T) (k : Keeps lo h h') (hh : h0 <+: h') (h1 : n0 < lo) (h2 : ∀ i, i < T.length → ∀ n, blkOf (cs.getD i undef) = some n → n < lo) : RankS h0 h' n0 cs T := by
  obtain ⟨e, hg⟩ := s.g
  exact ⟨hh, s.lo, ⟨e, k.2 _ _ h1 hg⟩, s.len, fun i hi => ⟨(s.rows i hi).1.keeps k (h2 i hi), (s.rows i hi).2⟩⟩
theorem RankS.put {h0 h : AH} {n0 : Nat} {cs : List Value} {T T' : List (List Int)} (s : RankS h0 h n0 cs T) {i : Nat} {x : Value} {r : List Int} {e : TypeId} (hi : i < T.length) (hT : T' = T.set i r)
    (hx : Ints h x r) (hb : blkOf x ≠ some n0) : RankS h0 (h.put n0 ⟨cs.set i x, e, false, false⟩) n0 (cs.set i x) T' := by
  subst hT
  have hlt := s.lt
  refine ⟨pre_put s.hp s.lo, s.lo, ⟨e, get_put_same hlt⟩, by simp [s.len], fun j hj => ?_⟩
  have hl := s.len
  rw [List.length_set] at hj
  rw [set_getD' (by omega), set_getD' hi]
  by_cases h : j = i
  · rw [if_pos h, if_pos h]
    exact ⟨hx.put_ne hb, hb⟩
  · rw [if_neg h, if_neg h]
    exact ⟨(s.rows j hj).1.put_ne (s.rows j hj).2, (s.rows j hj).2⟩
theorem RankS.blk {h0 h : AH} {n0 : Nat} {cs : List Value} {T : List (List Int)} (s : RankS h0 h n0 cs T) : ∀ i, i < T.length → ∀ n, blkOf (cs.getD i undef) = some n → n < h.length := fun i hi => (s.rows i hi).1.lt
end Go.Proofs.Ytapafdpnmakekaa.X

set_option linter.unusedVariables false
set_option linter.unusedSimpArgs false
set_option maxRecDepth 20000
set_option maxHeartbeats 4000000
namespace Go.Proofs.Ytapafdpnmakekaa.X
open Go Go.RowKit
theorem s_l05Rank {v : Value} {rows : List (List Int)} {p : Int} {W : Nat} {h : AH} {Q : Value → AH → Prop} (hv : Rows h v rows) (hp : isP p = true) (hN : 1 ≤ rows.length ∧ rows.length ≤ 1048576) (gd : Good p rows W) (hW : W ≤ 1048576)
    (hQ : ∀ h', h <+: h' → Q (I64 (rankN p rows)) h') : WF S 252 [I64 p, v] h Q := by
  refine WF_fn (fn := c252) rfl rfl ?_
  unfold c252
  have hp5 := isP_in hp
  obtain ⟨cs, hvv, hcl, hr⟩ := hv
  obtain ⟨n, off, rfl, hrd⟩ := hvv.rdn (by omega)
  try simp (maxSteps := 3000000) (disch := first | omega | (simp only [len_new, len_put, len_kill]; omega)) only [↓xpre, xpost, ↓reduceIte, Nat.reduceEqDiff, Nat.reduceAdd, Nat.reduceSub, Nat.reduceLeDiff, Nat.zero_add, Nat.sub_zero, fillL, zrep]
  rw [app_zero get_new_same (show AH.rdn (AH.new h _) n off cs.length = some cs by rw [rdn_eq] at hrd ⊢; obtain ⟨b, hb, hc⟩ := Option.bind_eq_some_iff.1 hrd; rw [get_new_any hb]; exact hc) (by omega) (by omega)]
  try simp (maxSteps := 3000000) (disch := first | omega | (simp only [len_new, len_put, len_kill]; omega)) only [↓xpre, xpost, ↓reduceIte, Nat.reduceEqDiff, Nat.reduceAdd, Nat.reduceSub, Nat.reduceLeDiff, Nat.zero_add, Nat.sub_zero, len_new, hcl]
  generalize hH : AH.new (AH.kill _ _) _ = H
  have st0 : RankS h H (h.length + 1) cs rows := by
    refine ⟨?_, by omega, ?_, hcl, fun i hi => ⟨(hr i hi).pre ?_, fun e => ?_⟩⟩
    · rw [← hH]; exact pre_new (pre_kill (pre_new (List.prefix_refl _)) (Nat.le_refl _))
    · rw [← hH]; exact ownB_new'' (by rw [len_kill, len_new])
    · rw [← hH]; exact pre_new (pre_kill (pre_new (List.prefix_refl _)) (Nat.le_refl _))
    · have := (hr i hi).lt _ e
      omega
  have hrk : elim p rows 0 0 (W - 0) = rankN p rows := by
    unfold rankN
    rw [(gd 0 (by omega)).1]
    rfl
  refine WC_loop_inv (fun m f h1 => ∃ (c r : Nat) (cs : List Value) (T : List (List Int)), m = W - c ∧ c ≤ W ∧ f 0 = I64 p ∧ f 5 = .slice (some ⟨h.length + 1, 0, none⟩) rows.length 1 ∧ f 6 = I64 r ∧ f 7 = I64 c ∧ r ≤ rows.length ∧ T.length = rows.length ∧ Good p T W ∧
    RankS h h1 (h.length + 1) cs T ∧ elim p T r c (W - c) = rankN p rows) ?_ (W - 0) _ _ ⟨0, 0, cs, rows, rfl, Nat.zero_le _, rfl, rfl, rfl, rfl, Nat.zero_le _, rfl, gd, st0, hrk⟩
  clear st0 hrk hr hrd hvv hcl
  rintro m f h1 ⟨c, r, cs, T, rfl, hc, f0, f5, f6, f7, hrN, hTN, g, st, hel⟩
  have hv1 := st.vals
  rw [hTN] at hv1
  have hcl := st.len
  have hix0 := hv1.ix (k := .i64) (j := 0) (by omega) (by omega)
  have hrd0 := hv1.rd (j := 0) (by omega) (by omega)
  have r0 := (st.rows 0 (by omega)).1.len
  rw [(g 0 (by omega)).1] at r0
  try simp (maxSteps := 3000000) (disch := first | omega | (simp only [len_new, len_put, len_kill]; omega)) only [↓xpre, xpost, ↓reduceIte, Nat.reduceEqDiff, Nat.reduceAdd, Nat.reduceSub, Nat.reduceLeDiff, Nat.zero_add, Nat.sub_zero, f0, f5, f6, f7, decide_eq_true (show (0 : Int) < (rows.length : Int) by omega), hix0, hrd0, Int.toNat_zero, r0, IfW_dec]
  refine ⟨fun hlt => ?_, fun hge => ?_⟩
  · refine WC_loop_inv (fun m f h2 => ∃ b : Nat, m = rows.length - b ∧ r ≤ b ∧ b ≤ rows.length ∧ f 0 = I64 p ∧ f 5 = .slice (some ⟨h.length + 1, 0, none⟩) rows.length 1 ∧ f 6 = I64 r ∧ f 7 = I64 c ∧ f 8 = I64 b ∧ h2 = h1 ∧
      pivot T c (rows.length - b) b = pivot T c (rows.length - r) r) ?_ (rows.length - r) _ _ ⟨r, rfl, Nat.le_refl _, hrN, f0, f5, f6, f7, rfl, rfl, rfl⟩
    clear f0 f5 f6 f7
    rintro m f h2 ⟨b, rfl, hrb, hb, f0, f5, f6, f7, f8, rfl, hpv⟩
    by_cases hbN : b < rows.length
    · have hixb := hv1.ix (k := .i64) (j := b) (by omega) (by omega)
      have hrdb := hv1.rd (j := b) (by omega) (by omega)
      have hrow := (st.rows b (by omega)).1
      have hrl := (g b (by omega)).1
      have hixc := hrow.ix (k := .i64) (j := c) (by omega) (by omega)
      have hrdc := hrow.rd (j := c) (by omega) (by omega)
      simp only [nth, Int.toNat_natCast] at hrdc
      by_cases hz : tb T b c = 0
      · have hz' : (T.getD b []).getD c 0 = 0 := hz
        try simp (maxSteps := 3000000) (disch := first | omega | (simp only [len_new, len_put, len_kill]; omega)) only [↓xpre, xpost, ↓reduceIte, Nat.reduceEqDiff, Nat.reduceAdd, Nat.reduceSub, Nat.reduceLeDiff, Nat.zero_add, Nat.sub_zero, f0, f5, f6, f7, f8, decide_eq_true (show (b : Int) < (rows.length : Int) by omega), hixb, hrdb, Int.toNat_natCast, hixc, hrdc, hz', wrap64_in]
        refine InvQ_go (rows.length - (b + 1)) (by omega) ⟨b + 1, rfl, by omega, by omega, f0, f5, f6, f7, rfl, rfl, ?_⟩
        rw [← hpv, show rows.length - b = (rows.length - (b + 1)) + 1 by omega]
        conv => rhs; unfold pivot
        rw [if_pos hz]
      · have hz' : ¬ (T.getD b []).getD c 0 = 0 := hz
        have hpb : pivot T c (rows.length - r) r = b := by
          rw [← hpv, show rows.length - b = (rows.length - (b + 1)) + 1 by omega]
          unfold pivot
          rw [if_neg hz]
        try simp (maxSteps := 3000000) (disch := first | omega | (simp only [len_new, len_put, len_kill]; omega)) only [↓xpre, xpost, ↓reduceIte, Nat.reduceEqDiff, Nat.reduceAdd, Nat.reduceSub, Nat.reduceLeDiff, Nat.zero_add, Nat.sub_zero, f0, f5, f6, f7, f8, decide_eq_true (show (b : Int) < (rows.length : Int) by omega), hixb, hrdb, Int.toNat_natCast, hixc, hrdc, decide_eq_false hz', decide_eq_false (show ¬ ((b : Int) = (rows.length : Int)) by omega)]
        have hpAt : ∀ j : Int, pAt (.slice (some ⟨h.length + 1, 0, none⟩) rows.length 1) 1 j = ⟨h.length + 1, 0 + j.toNat * 1, none⟩ := fun _ => rfl
        have hixr := hv1.ix (k := .i64) (j := r) (by omega) (by omega)
        have hrdr := hv1.rd (j := r) (by omega) (by omega)
        have rowr := st.rows r (by omega)
        have rowb := st.rows b (by omega)
        obtain ⟨e, hg⟩ := st.g
        have st1 := st.put (i := b) (T' := T.set b (T.getD r [])) (e := e) (by omega) rfl rowr.1 rowr.2
        have own1 := rowb.1.put_ne (b := ⟨cs.set b (cs.getD r undef), e, false, false⟩) rowb.2
        have st2 := st1.put (i := r) (T' := swapped T r b) (e := e) (by simp; omega) rfl own1 rowb.2
        have own2 := own1.put_ne (b := ⟨(cs.set b (cs.getD r undef)).set r (cs.getD b undef), e, false, false⟩) rowb.2
        have lt2 := st.lt
        simp only [hpAt, Int.toNat_natCast, Nat.mul_one, Nat.zero_add] at hixr hrdr
        have pp : ∀ a b : Blk, (h2.put (h.length + 1) a).put (h.length + 1) b = h2.put (h.length + 1) b := fun a b => by simp [AH.put]
        rw [pp] at st2 own2
        try simp (maxSteps := 3000000) (disch := first | omega | (simp only [len_new, len_put, len_kill]; omega)) only [↓xpre, xpost, ↓reduceIte, Nat.reduceEqDiff, Nat.reduceAdd, Nat.reduceSub, Nat.reduceLeDiff, Nat.zero_add, Nat.sub_zero, hpAt, hixr, hrdr, Int.toNat_natCast, rowr.1.one, rowr.1.cells, rowb.1.one, rowb.1.cells, wr_of hg, Nat.mul_one, splice_set, List.length_set]
        refine ⟨by omega, by omega, ?_⟩
        generalize hG : AH.put _ _ _ = G2 at st2 own2 ⊢
        have ownc := own2.rd (j := c) (by omega) (by omega)
        simp only [nth, Int.toNat_natCast] at ownc
        have gb := (g b (by omega)).2 c (by omega)
        have nz : 1 ≤ (T.getD b []).getD c 0 ∧ (T.getD b []).getD c 0 < p := by unfold tb at gb; omega
        try simp (maxSteps := 3000000) (disch := first | omega | (simp only [len_new, len_put, len_kill]; omega)) only [↓xpre, xpost, ↓reduceIte, Nat.reduceEqDiff, Nat.reduceAdd, Nat.reduceSub, Nat.reduceLeDiff, Nat.zero_add, Nat.sub_zero, ownc]
        refine s_l01Inverse hp5 nz (invN_is hp nz) ?_
        generalize hiv : invN p ((T.getD b []).getD c 0) = iv
        have ivb : 1 ≤ iv ∧ iv < p := by have := invN_is hp nz; rw [hiv] at this; exact ⟨this.1, this.2.1⟩
        have g1 := g.swapped (r := r) (i := b) (by omega) (by omega)
        have t1l : (swapped T r b).length = rows.length := by rw [swapped_len, hTN]
        have t1r : (swapped T r b).getD r [] = T.getD b [] := by rw [swapped_get (by omega) (by omega), if_pos rfl]
        have c2r : ((cs.set b (cs.getD r undef)).set r (cs.getD b undef)).getD r undef = cs.getD b undef := by rw [set_getD' (by simp; omega), if_pos rfl]
        generalize hT1 : swapped T r b = T1 at *
        generalize hcs2 : (cs.set b (cs.getD r undef)).set r (cs.getD b undef) = cs2 at *
        generalize hown : cs.getD b undef = own at *
        try simp (maxSteps := 3000000) (disch := first | omega | (simp only [len_new, len_put, len_kill]; omega)) only [↓xpre, xpost, ↓reduceIte, Nat.reduceEqDiff, Nat.reduceAdd, Nat.reduceSub, Nat.reduceLeDiff, Nat.zero_add, Nat.sub_zero, f0, f5, f6, f7, f8, wrap64_in]
        refine WC_loop_inv (fun m f h3 => ∃ (k : Nat) (cs' : List Value), m = rows.length - k ∧ (r + 1 ≤ k ∧ k ≤ rows.length) ∧ f 0 = I64 p ∧ f 5 = .slice (some ⟨h.length + 1, 0, none⟩) rows.length 1 ∧ f 6 = I64 r ∧ f 7 = I64 c ∧
          f 9 = own ∧ f 10 = I64 iv ∧ f 11 = I64 k ∧ RankS h h3 (h.length + 1) cs' (swept p T1 r c k) ∧ cs'.getD r undef = own) ?_ (rows.length - (r + 1)) _ _
          ⟨r + 1, cs2, rfl, by omega, f0, f5, f6, f7, rfl, rfl, rfl, by rw [swept_start]; exact st2, c2r⟩
        clear f0 f5 f6 f7 f8 st2 own2 ownc st1 own1 hG c2r
        rintro m f h3 ⟨k, cs', rfl, hk, f0, f5, f6, f7, f9, f10, f11, sk, ck⟩
        have hv3 := sk.vals
        rw [swept_len, t1l] at hv3
        try simp (maxSteps := 3000000) (disch := first | omega | (simp only [len_new, len_put, len_kill]; omega)) only [↓xpre, xpost, ↓reduceIte, Nat.reduceEqDiff, Nat.reduceAdd, Nat.reduceSub, Nat.reduceLeDiff, Nat.zero_add, Nat.sub_zero, f0, f5, f6, f7, f9, f10, f11, hv3.len, IfW_dec, sk.len, swept_len, t1l]
        refine ⟨fun hltk => ?_, fun hgek => ?_⟩
        · have hk' : k < rows.length := by omega
          have hixk := hv3.ix (k := .i64) (j := k) (by omega) (by rw [sk.len, swept_len, t1l]; omega)
          have hrdk := hv3.rd (j := k) (by omega) (by rw [sk.len, swept_len, t1l]; omega)
          have rowk := (sk.rows k (by rw [swept_len]; omega)).1
          rw [swept_get (by omega), if_neg (by omega)] at rowk
          have gk := g1 k (by omega)
          have hixc := rowk.ix (k := .i64) (j := c) (by omega) (by omega)
          have hrdc := rowk.rd (j := c) (by omega) (by omega)
          simp only [nth, Int.toNat_natCast] at hrdc
          have gkc := gk.2 c (by omega)
          have bm := mul_in (a := (T1.getD k []).getD c 0) (b := iv) (A := 5) (B := 5) (by unfold tb at gkc; omega) (by omega)
          generalize hsd : ((T1.getD k []).getD c 0 * iv).tmod p = sN
          have sb : 0 ≤ sN ∧ sN < p := by rw [← hsd]; exact tmod_nn bm.1 (by omega)
          try simp (maxSteps := 3000000) (disch := first | omega | (simp only [len_new, len_put, len_kill]; omega)) only [↓xpre, xpost, ↓reduceIte, Nat.reduceEqDiff, Nat.reduceAdd, Nat.reduceSub, Nat.reduceLeDiff, Nat.zero_add, Nat.sub_zero, f0, f5, f6, f7, f9, f10, f11, hixk, hrdk, Int.toNat_natCast, hixc, hrdc, wrap64_in, bin_rem, hsd, fillL, zrep]
          generalize hH5 : AH.new h3 _ = H5
          obtain ⟨hb5, p5, n5⟩ := new_facts hH5
          have ek : swept p T1 r c (k + 1) = (swept p T1 r c k).set k (rowOp p (T1.getD r []) (T1.getD k []) c) := swept_next (by omega) (by omega)
          have hivr : invN p ((T1.getD r []).getD c 0) = iv := by rw [t1r]; exact hiv
          by_cases hs0 : sN = 0
          · try simp (maxSteps := 3000000) (disch := first | omega | (simp only [len_new, len_put, len_kill]; omega)) only [↓xpre, xpost, ↓reduceIte, Nat.reduceEqDiff, Nat.reduceAdd, Nat.reduceSub, Nat.reduceLeDiff, Nat.zero_add, Nat.sub_zero, decide_eq_true hs0, f0, f5, f6, f7, f9, f10, f11, wrap64_in]
            refine InvQ_go (rows.length - (k + 1)) (by omega) ⟨k + 1, cs', rfl, by omega, f0, f5, f6, f7, f9, f10, rfl, ?_, ck⟩
            rw [ek, rowOp_zero (by rw [hivr, hsd]; exact hs0) (fun l hl => by rw [gk.1] at hl; exact gk.2 l hl)]
            have e1 : (swept p T1 r c k).set k (T1.getD k []) = swept p T1 r c k := by
              refine getD_ext (by rw [List.length_set]) fun j hj => ?_
              rw [List.length_set] at hj
              rw [set_getD' (by rw [swept_len]; omega)]
              split
              · rename_i e
                rw [e, swept_get (by omega), if_neg (by omega)]
              · rfl
            rw [e1]
            exact sk.pre p5
          · try simp (maxSteps := 3000000) (disch := first | omega | (simp only [len_new, len_put, len_kill]; omega)) only [↓xpre, xpost, ↓reduceIte, Nat.reduceEqDiff, Nat.reduceAdd, Nat.reduceSub, Nat.reduceLeDiff, Nat.zero_add, Nat.sub_zero, decide_eq_false hs0, f0, f5, f6, f7, f9, f10, f11]
            have s5 := sk.pre p5
            have blk3 := sk.blk
            have lt3 := sk.lt
            have lrow := rowk.lt
            have lown : ∀ n, blkOf own = some n → n < h3.length := fun n hn => blk3 r (by rw [swept_len]; omega) n (by rw [ck]; exact hn)
            have rown := (sk.rows r (by rw [swept_len]; omega)).1
            rw [ck, swept_get (by omega), if_neg (by omega), t1r] at rown
            have gown := g b (by omega)
            refine WC_loop_inv (fun m f h4 => ∃ (l : Nat) (sv : Value), m = W - l ∧ l ≤ W ∧ f 0 = I64 p ∧ f 5 = .slice (some ⟨h.length + 1, 0, none⟩) rows.length 1 ∧ f 6 = I64 r ∧ f 7 = I64 c ∧
              f 9 = own ∧ f 10 = I64 iv ∧ f 11 = I64 k ∧ f 12 = I64 sN ∧ f 13 = sv ∧ f 14 = I64 l ∧ Keeps h3.length h3 h4 ∧ h <+: h4 ∧
              WayF h4 h3.length sv (gen l fun x => md p ((T1.getD k []).getD x 0 - sN * (T.getD b []).getD x 0))) ?_ (W - 0) _ _
              ⟨0, .slice (some ⟨h3.length, 0, none⟩) 0 1, rfl, Nat.zero_le _, f0, f5, f6, f7, f9, f10, f11, rfl, rfl, rfl, ⟨by omega, fun n b _ hb => pre_get p5 hb⟩, sk.hp.trans p5, ⟨h3.length, true, by rw [gen_len], Nat.le_refl _, by simpa [gen] using hb5⟩⟩
            clear f0 f5 f6 f7 f9 f10 f11
            rintro m f h4 ⟨l, sv, rfl, hl, f0, f5, f6, f7, f9, f10, f11, f12, f13, f14, kp, hp4, way⟩
            have s4 := sk.keeps kp hp4 lt3 blk3
            have hv4 := s4.vals
            rw [swept_len, t1l] at hv4
            have rowk4 := rowk.keeps kp lrow
            have rown4 := rown.keeps kp lown
            have lo := rown4.len
            rw [gown.1] at lo
            try simp (maxSteps := 3000000) (disch := first | omega | (simp only [len_new, len_put, len_kill]; omega)) only [↓xpre, xpost, ↓reduceIte, Nat.reduceEqDiff, Nat.reduceAdd, Nat.reduceSub, Nat.reduceLeDiff, Nat.zero_add, Nat.sub_zero, f0, f5, f6, f7, f9, f10, f11, f12, f13, f14, lo, IfW_dec]
            refine ⟨fun hltl => ?_, fun hgel => ?_⟩
            · have hl' : l < W := by omega
              have hixk := hv4.ix (k := .i64) (j := k) (by omega) (by rw [sk.len, swept_len, t1l]; omega)
              have hrdk := hv4.rd (j := k) (by omega) (by rw [sk.len, swept_len, t1l]; omega)
              have hixl := rowk4.ix (k := .i64) (j := l) (by omega) (by omega)
              have hrdl := rowk4.rd (j := l) (by omega) (by omega)
              have hixo := rown4.ix (k := .i64) (j := l) (by omega) (by omega)
              have hrdo := rown4.rd (j := l) (by omega) (by omega)
              simp only [nth, Int.toNat_natCast] at hrdl hrdo
              have b1 := gk.2 l hl'
              have b2 := gown.2 l hl'
              unfold tb at b1 b2
              have b3 := mul_in (a := sN) (b := (T.getD b []).getD l 0) (A := 5) (B := 5) (by omega) (by omega)
              try simp (maxSteps := 3000000) (disch := first | omega | (simp only [len_new, len_put, len_kill]; omega)) only [↓xpre, xpost, ↓reduceIte, Nat.reduceEqDiff, Nat.reduceAdd, Nat.reduceSub, Nat.reduceLeDiff, Nat.zero_add, Nat.sub_zero, f0, f5, f6, f7, f9, f10, f11, f12, f13, f14, hixk, hrdk, Int.toNat_natCast, hixl, hrdl, hixo, hrdo, wrap64_in]
              refine s_l01Mod hp5 ?_
              try simp (maxSteps := 3000000) (disch := first | omega | (simp only [len_new, len_put, len_kill]; omega)) only [↓xpre, xpost, ↓reduceIte, Nat.reduceEqDiff, Nat.reduceAdd, Nat.reduceSub, Nat.reduceLeDiff, Nat.zero_add, Nat.sub_zero, f0, f5, f6, f7, f9, f10, f11, f12, f13, f14, fillL, zrep]
              refine way.app (by rw [gen_len]; omega) fun sv' h5 k5 pre5 way5 => ?_
              try simp (maxSteps := 3000000) (disch := first | omega | (simp only [len_new, len_put, len_kill]; omega)) only [↓xpre, xpost, ↓reduceIte, Nat.reduceEqDiff, Nat.reduceAdd, Nat.reduceSub, Nat.reduceLeDiff, Nat.zero_add, Nat.sub_zero, f0, f5, f6, f7, f9, f10, f11, f12, f13, f14, wrap64_in]
              refine InvQ_go (W - (l + 1)) (by omega) ⟨l + 1, sv', rfl, by omega, f0, f5, f6, f7, f9, f10, f11, f12, rfl, rfl, ⟨by have := kp.1; have := k5.1; omega, fun n b hn hb => k5.2 n b hn (kp.2 n b hn hb)⟩, pre5 h (by have := pre_len sk.hp; omega) hp4, ?_⟩
              rw [gen_succ]
              exact way5
            · have le : l = W := by omega
              subst le
              obtain ⟨kb, fu, rfl, q2, q3⟩ := way
              obtain ⟨e4, hg4⟩ := s4.g
              have hnew : Ints h4 (.slice (some ⟨kb, 0, none⟩) (gen l fun x => md p ((T1.getD k []).getD x 0 - sN * (T.getD b []).getD x 0)).length 1) _ := Ints.own q3 rfl
              have hix4 := hv4.ix (k := .i64) (j := k) (by omega) (by rw [sk.len, swept_len, t1l]; omega)
              have hpAt : ∀ j : Int, pAt (.slice (some ⟨h.length + 1, 0, none⟩) rows.length 1) 1 j = ⟨h.length + 1, 0 + j.toNat * 1, none⟩ := fun _ => rfl
              simp only [hpAt, Int.toNat_natCast, Nat.mul_one, Nat.zero_add] at hix4
              have l4 := s4.len
              rw [swept_len, t1l] at l4
              try simp (maxSteps := 3000000) (disch := first | omega | (simp only [len_new, len_put, len_kill]; omega)) only [↓xpre, xpost, ↓reduceIte, Nat.reduceEqDiff, Nat.reduceAdd, Nat.reduceSub, Nat.reduceLeDiff, Nat.zero_add, Nat.sub_zero, f0, f5, f6, f7, f9, f10, f11, f12, f13, f14, hix4, wr_of hg4, splice_set, wrap64_in]
              refine ⟨by omega, ?_⟩
              have lt4 := s4.lt
              have sp := s4.put (i := k) (x := .slice (some ⟨kb, 0, none⟩) (gen l fun x => md p ((T1.getD k []).getD x 0 - sN * (T.getD b []).getD x 0)).length 1) (T' := swept p T1 r c (k + 1)) (e := e4) (by rw [swept_len]; omega)
                (by rw [ek]; congr 1; unfold rowOp; rw [gk.1, hivr, hsd, t1r]) hnew (fun e => by
                  have e' : kb = h.length + 1 := by simpa [blkOf] using e
                  have q2' : List.length h3 ≤ kb := q2
                  have lt3' : h.length + 1 < List.length h3 := lt3
                  omega)
              refine InvQ_go (rows.length - (k + 1)) (by omega) ⟨k + 1, _, rfl, by omega, f0, f5, f6, f7, f9, f10, rfl, sp, ?_⟩
              rw [set_getD' (by omega), if_neg (by omega)]
              exact ck
        · have ke : k = rows.length := by omega
          subst ke
          try simp (maxSteps := 3000000) (disch := first | omega | (simp only [len_new, len_put, len_kill]; omega)) only [↓xpre, xpost, ↓reduceIte, Nat.reduceEqDiff, Nat.reduceAdd, Nat.reduceSub, Nat.reduceLeDiff, Nat.zero_add, Nat.sub_zero, f0, f5, f6, f7, f9, f10, f11, wrap64_in]
          refine InvQ_go (W - (c + 1)) (by omega) ⟨c + 1, r + 1, cs', _, rfl, by omega, f0, f5, rfl, rfl, by omega, by rw [swept_len, t1l], g1.swept (r := r) (c := c) (k := rows.length) (by omega), sk, ?_⟩
          rw [← hel, show W - c = (W - (c + 1)) + 1 by omega]
          conv => rhs; unfold elim
          have hcs : colStep p T r c = (swept p T1 r c rows.length, r + 1) := by
            unfold colStep
            rw [hTN, hpb, if_neg (by omega), hT1]
          rw [hcs]
    · have hbe : b = rows.length := by omega
      have hcs : colStep p T r c = (T, r) := by
        unfold colStep
        rw [hTN, ← hpv, hbe, if_pos (by simp [pivot])]
      try simp (maxSteps := 3000000) (disch := first | omega | (simp only [len_new, len_put, len_kill]; omega)) only [↓xpre, xpost, ↓reduceIte, Nat.reduceEqDiff, Nat.reduceAdd, Nat.reduceSub, Nat.reduceLeDiff, Nat.zero_add, Nat.sub_zero, f0, f5, f6, f7, f8, decide_eq_false (show ¬ ((b : Int) < (rows.length : Int)) by omega), decide_eq_true (show ((b : Int) = (rows.length : Int)) by omega), wrap64_in]
      refine InvQ_go (W - (c + 1)) (by omega) ⟨c + 1, r, cs, T, rfl, by omega, f0, f5, f6, rfl, hrN, hTN, g, st, ?_⟩
      rw [← hel, show W - c = (W - (c + 1)) + 1 by omega]
      conv => rhs; unfold elim
      rw [hcs]
  · have : c = W := by omega
    subst this
    try simp (maxSteps := 3000000) (disch := first | omega | (simp only [len_new, len_put, len_kill]; omega)) only [↓xpre, xpost, ↓reduceIte, Nat.reduceEqDiff, Nat.reduceAdd, Nat.reduceSub, Nat.reduceLeDiff, Nat.zero_add, Nat.sub_zero, f0, f5, f6, f7]
    have := hQ _ st.hp
    rw [← hel] at this
    simpa [elim] using this
end Go.Proofs.Ytapafdpnmakekaa.X

set_option linter.unusedVariables false
set_option linter.unusedSimpArgs false
set_option maxRecDepth 20000
set_option maxHeartbeats 4000000
namespace Go.Proofs.Ytapafdpnmakekaa.X
open Go Go.RowKit
def width (rows : List (List Int)) : Nat := (rows.getD 0 []).length
def rrOK (p : Int) (rows : List (List Int)) : Prop := isP p = true ∧ (1 ≤ rows.length ∧ rows.length ≤ 9) ∧ (1 ≤ width rows ∧ width rows ≤ 81) ∧ isMat p (width rows) rows = true
open Classical in
noncomputable def rrR (p : Int) (rows : List (List Int)) : Int × Int := if rrOK p rows then ((rankN p rows : Nat), 0) else (0, 2)
theorem good_of {p : Int} {rows : List (List Int)} (h : isMat p (width rows) rows = true) : Good p rows (width rows) := by
  intro i hi
  have := isMat_iff.1 h i hi
  refine ⟨by omega, fun l hl => ?_⟩
  exact allIn_iff.1 this.2 l (by omega)
theorem s_RowRank {v : Value} {rows : List (List Int)} {p : Int} {h : AH} {Q : Value → AH → Prop} (hv : Rows h v rows) (hl : (rows.length : Int) ≤ 1048576) (hl' : ∀ i, i < rows.length → ((rows.getD i []).length : Int) ≤ 1048576)
    (hQ : ∀ h', h <+: h' → Q (.tuple #[I64 (rrR p rows).1, I64 (rrR p rows).2]) h') : WF S 113 [I64 p, v] h Q := by
  refine WF_fn (fn := c113) rfl rfl ?_
  unfold c113
  have hrows := hv
  obtain ⟨cs, hv, hcl, hr⟩ := hv
  have no : ¬ rrOK p rows → Q (.tuple #[I64 0, I64 2]) h := fun hn => by
    have := hQ h (List.prefix_refl _)
    unfold rrR at this
    rw [if_neg hn] at this
    exact this
  try simp (maxSteps := 3000000) (disch := first | omega | (simp only [len_new, len_put, len_kill]; omega)) only [↓xpre, xpost, ↓reduceIte, Nat.reduceEqDiff, Nat.reduceAdd, Nat.reduceSub, Nat.reduceLeDiff, Nat.zero_add, Nat.sub_zero]
  refine s_l01Prime ?_
  cases h1 : isP p with
  | false =>
    try simp (maxSteps := 3000000) (disch := first | omega | (simp only [len_new, len_put, len_kill]; omega)) only [↓xpre, xpost, ↓reduceIte, Nat.reduceEqDiff, Nat.reduceAdd, Nat.reduceSub, Nat.reduceLeDiff, Nat.zero_add, Nat.sub_zero]
    exact no (fun h => by rw [h.1] at h1; cases h1)
  | true =>
    have hp5 := isP_in h1
    try simp (maxSteps := 3000000) (disch := first | omega | (simp only [len_new, len_put, len_kill]; omega)) only [↓xpre, xpost, ↓reduceIte, Nat.reduceEqDiff, Nat.reduceAdd, Nat.reduceSub, Nat.reduceLeDiff, Nat.zero_add, Nat.sub_zero, hv.len, hcl]
    by_cases h2 : (rows.length : Int) < 1
    · try simp (maxSteps := 3000000) (disch := first | omega | (simp only [len_new, len_put, len_kill]; omega)) only [↓xpre, xpost, ↓reduceIte, Nat.reduceEqDiff, Nat.reduceAdd, Nat.reduceSub, Nat.reduceLeDiff, Nat.zero_add, Nat.sub_zero, h2]
      exact no (fun h => by have := h.2.1; omega)
    try simp (maxSteps := 3000000) (disch := first | omega | (simp only [len_new, len_put, len_kill]; omega)) only [↓xpre, xpost, ↓reduceIte, Nat.reduceEqDiff, Nat.reduceAdd, Nat.reduceSub, Nat.reduceLeDiff, Nat.zero_add, Nat.sub_zero, h2, hv.len, hcl]
    by_cases h3 : 9 < (rows.length : Int)
    · try simp (maxSteps := 3000000) (disch := first | omega | (simp only [len_new, len_put, len_kill]; omega)) only [↓xpre, xpost, ↓reduceIte, Nat.reduceEqDiff, Nat.reduceAdd, Nat.reduceSub, Nat.reduceLeDiff, Nat.zero_add, Nat.sub_zero, h3]
      exact no (fun h => by have := h.2.1; omega)
    have hix0 := hv.ix (k := .i64) (j := 0) (by omega) (by omega)
    have hrd0 := hv.rd (j := 0) (by omega) (by omega)
    have r0 := (hr 0 (by omega)).len
    have hw : (rows.getD 0 []).length = width rows := rfl
    rw [hw] at r0
    try simp (maxSteps := 3000000) (disch := first | omega | (simp only [len_new, len_put, len_kill]; omega)) only [↓xpre, xpost, ↓reduceIte, Nat.reduceEqDiff, Nat.reduceAdd, Nat.reduceSub, Nat.reduceLeDiff, Nat.zero_add, Nat.sub_zero, h3, hix0, hrd0, Int.toNat_zero, r0]
    by_cases h4 : (width rows : Int) < 1
    · try simp (maxSteps := 3000000) (disch := first | omega | (simp only [len_new, len_put, len_kill]; omega)) only [↓xpre, xpost, ↓reduceIte, Nat.reduceEqDiff, Nat.reduceAdd, Nat.reduceSub, Nat.reduceLeDiff, Nat.zero_add, Nat.sub_zero, h4]
      exact no (fun h => by have := h.2.2.1; omega)
    try simp (maxSteps := 3000000) (disch := first | omega | (simp only [len_new, len_put, len_kill]; omega)) only [↓xpre, xpost, ↓reduceIte, Nat.reduceEqDiff, Nat.reduceAdd, Nat.reduceSub, Nat.reduceLeDiff, Nat.zero_add, Nat.sub_zero, h4, hix0, hrd0, Int.toNat_zero, r0]
    by_cases h5 : 81 < (width rows : Int)
    · try simp (maxSteps := 3000000) (disch := first | omega | (simp only [len_new, len_put, len_kill]; omega)) only [↓xpre, xpost, ↓reduceIte, Nat.reduceEqDiff, Nat.reduceAdd, Nat.reduceSub, Nat.reduceLeDiff, Nat.zero_add, Nat.sub_zero, h5]
      exact no (fun h => by have := h.2.2.1; omega)
    try simp (maxSteps := 3000000) (disch := first | omega | (simp only [len_new, len_put, len_kill]; omega)) only [↓xpre, xpost, ↓reduceIte, Nat.reduceEqDiff, Nat.reduceAdd, Nat.reduceSub, Nat.reduceLeDiff, Nat.zero_add, Nat.sub_zero, h5]
    refine WC_loop_inv (fun m f h1 => ∃ i : Nat, m = rows.length - i ∧ i ≤ rows.length ∧ f 0 = I64 p ∧ f 1 = v ∧ f 6 = I64 i ∧ h1 = h ∧ ∀ j, j < i → ((rows.getD j []).length : Int) = width rows ∧ allIn p (rows.getD j []) = true) ?_ rows.length _ _
      ⟨0, rfl, Nat.zero_le _, rfl, rfl, rfl, rfl, by omega⟩
    rintro m f h1' ⟨i, rfl, hi, f0, f1, f6, rfl, hj⟩
    try simp (maxSteps := 3000000) (disch := first | omega | (simp only [len_new, len_put, len_kill]; omega)) only [↓xpre, xpost, ↓reduceIte, Nat.reduceEqDiff, Nat.reduceAdd, Nat.reduceSub, Nat.reduceLeDiff, Nat.zero_add, Nat.sub_zero, f0, f1, f6, hv.len, hcl, IfW_dec]
    refine ⟨fun hlt => ?_, fun hge => ?_⟩
    · have hi' : i < rows.length := by omega
      have hix := hv.ix (k := .i64) (j := i) (by omega) (by omega)
      have hrd := hv.rd (j := i) (by omega) (by omega)
      try simp (maxSteps := 3000000) (disch := first | omega | (simp only [len_new, len_put, len_kill]; omega)) only [↓xpre, xpost, ↓reduceIte, Nat.reduceEqDiff, Nat.reduceAdd, Nat.reduceSub, Nat.reduceLeDiff, Nat.zero_add, Nat.sub_zero, f0, f1, f6, hix, hrd, Int.toNat_natCast, hix0, hrd0, Int.toNat_zero, r0]
      refine s_l05Numbers (hr i hi') (hl' i hi') hp5 ?_
      cases hb : (allIn p (rows.getD i []) && decide (((rows.getD i []).length : Int) = width rows)) with
      | true =>
        simp only [Bool.and_eq_true, decide_eq_true_eq] at hb
        try simp (maxSteps := 3000000) (disch := first | omega | (simp only [len_new, len_put, len_kill]; omega)) only [↓xpre, xpost, ↓reduceIte, Nat.reduceEqDiff, Nat.reduceAdd, Nat.reduceSub, Nat.reduceLeDiff, Nat.zero_add, Nat.sub_zero, f0, f1, f6, wrap64_in]
        refine InvQ_go (rows.length - (i + 1)) (by omega) ⟨i + 1, rfl, by omega, f0, f1, rfl, rfl, fun j hj' => ?_⟩
        rcases Nat.lt_succ_iff_lt_or_eq.1 hj' with hj' | rfl
        · exact hj j hj'
        · exact ⟨hb.2, hb.1⟩
      | false =>
        try simp (maxSteps := 3000000) (disch := first | omega | (simp only [len_new, len_put, len_kill]; omega)) only [↓xpre, xpost, ↓reduceIte, Nat.reduceEqDiff, Nat.reduceAdd, Nat.reduceSub, Nat.reduceLeDiff, Nat.zero_add, Nat.sub_zero]
        refine no fun h => ?_
        have := isMat_iff.1 h.2.2.2 i hi'
        rw [this.2, decide_eq_true this.1] at hb
        cases hb
    · have hm : isMat p (width rows) rows = true := isMat_iff.2 fun j hj' => hj j (by omega)
      try simp (maxSteps := 3000000) (disch := first | omega | (simp only [len_new, len_put, len_kill]; omega)) only [↓xpre, xpost, ↓reduceIte, Nat.reduceEqDiff, Nat.reduceAdd, Nat.reduceSub, Nat.reduceLeDiff, Nat.zero_add, Nat.sub_zero, f0, f1, f6]
      refine s_l05Rank hrows h1 (by omega) (good_of hm) (by omega) fun h' hp' => ?_
      try simp (maxSteps := 3000000) (disch := first | omega | (simp only [len_new, len_put, len_kill]; omega)) only [↓xpre, xpost, ↓reduceIte, Nat.reduceEqDiff, Nat.reduceAdd, Nat.reduceSub, Nat.reduceLeDiff, Nat.zero_add, Nat.sub_zero]
      have := hQ h' hp'
      unfold rrR at this
      rw [if_pos ⟨h1, by omega, by omega, hm⟩] at this
      exact this
end Go.Proofs.Ytapafdpnmakekaa.X

set_option linter.unusedVariables false
set_option linter.unusedSimpArgs false
set_option maxRecDepth 20000
set_option maxHeartbeats 4000000
namespace Go.Proofs.Ytapafdpnmakekaa.X
open Go Go.RowKit
def firstAt (q : Nat → Bool) : Nat → Nat → Int
  | 0, i => -1
  | m + 1, i => if q i = true then i else firstAt q m (i + 1)
theorem i_IndexRows {v fv : Value} {cs : List Value} {q : Nat → Bool} {h : AH} {Q : Value → AH → Prop} (hv : Vals h v cs) (hl : (cs.length : Int) ≤ 1048576)
    (hf : ∀ i, i < cs.length → ∀ Q : Value → AH → Prop, Q (.bool (q i)) h → WK S fv [cs.getD i undef] h Q)
    (hQ : Q (I64 (firstAt q cs.length 0)) h) : WF S 312 [v, fv] h Q := by
  refine WF_fn (fn := c312) rfl rfl ?_
  unfold c312
  try simp (maxSteps := 3000000) (disch := first | omega | (simp only [len_new, len_put, len_kill]; omega)) only [↓xpre, xpost, ↓reduceIte, Nat.reduceEqDiff, Nat.reduceAdd, Nat.reduceSub, Nat.reduceLeDiff, Nat.zero_add, Nat.sub_zero, hv.len]
  refine WC_loop_inv (fun m f h1 => ∃ i : Nat, m = cs.length - i ∧ i ≤ cs.length ∧ f 0 = v ∧ f 1 = fv ∧ f 7 = I64 cs.length ∧ f 8 = I64 i ∧ h1 = h ∧ firstAt q (cs.length - i) i = firstAt q cs.length 0) ?_ cs.length _ _ ⟨0, rfl, Nat.zero_le _, rfl, rfl, rfl, rfl, rfl, rfl⟩
  rintro m f h1 ⟨i, rfl, hi, f0, f1, f7, f8, rfl, hj⟩
  try simp (maxSteps := 3000000) (disch := first | omega | (simp only [len_new, len_put, len_kill]; omega)) only [↓xpre, xpost, ↓reduceIte, Nat.reduceEqDiff, Nat.reduceAdd, Nat.reduceSub, Nat.reduceLeDiff, Nat.zero_add, Nat.sub_zero, f0, f1, f7, f8, IfW_dec]
  refine ⟨fun hlt => ?_, fun hge => ?_⟩
  · have hi' : i < cs.length := by omega
    have hix := hv.ix (k := .i64) (j := i) (by omega) (by omega)
    have hrd := hv.rd (j := i) (by omega) (by omega)
    have hstep : firstAt q (cs.length - i) i = if q i = true then (i : Int) else firstAt q (cs.length - (i + 1)) (i + 1) := by
      rw [show cs.length - i = (cs.length - (i + 1)) + 1 by omega]
      rfl
    try simp (maxSteps := 3000000) (disch := first | omega | (simp only [len_new, len_put, len_kill]; omega)) only [↓xpre, xpost, ↓reduceIte, Nat.reduceEqDiff, Nat.reduceAdd, Nat.reduceSub, Nat.reduceLeDiff, Nat.zero_add, Nat.sub_zero, f0, f1, f7, f8, hix, hrd, Int.toNat_natCast]
    refine hf i hi' _ ?_
    cases hq : q i with
    | true =>
      try simp (maxSteps := 3000000) (disch := first | omega | (simp only [len_new, len_put, len_kill]; omega)) only [↓xpre, xpost, ↓reduceIte, Nat.reduceEqDiff, Nat.reduceAdd, Nat.reduceSub, Nat.reduceLeDiff, Nat.zero_add, Nat.sub_zero, f0, f1, f7, f8]
      rw [← hj, hstep, if_pos hq] at hQ
      exact hQ
    | false =>
      try simp (maxSteps := 3000000) (disch := first | omega | (simp only [len_new, len_put, len_kill]; omega)) only [↓xpre, xpost, ↓reduceIte, Nat.reduceEqDiff, Nat.reduceAdd, Nat.reduceSub, Nat.reduceLeDiff, Nat.zero_add, Nat.sub_zero, f0, f1, f7, f8, wrap64_in]
      refine InvQ_go (cs.length - (i + 1)) (by omega) ⟨i + 1, rfl, by omega, f0, f1, f7, rfl, rfl, ?_⟩
      rw [← hj, hstep, if_neg (by rw [hq]; simp)]
  · have e : i = cs.length := by omega
    subst e
    try simp (maxSteps := 3000000) (disch := first | omega | (simp only [len_new, len_put, len_kill]; omega)) only [↓xpre, xpost, ↓reduceIte, Nat.reduceEqDiff, Nat.reduceAdd, Nat.reduceSub, Nat.reduceLeDiff, Nat.zero_add, Nat.sub_zero, f0, f1, f7, f8]
    rw [← hj, Nat.sub_self] at hQ
    exact hQ
theorem i_rank1 {v : Value} {ns : List Int} {c : Nat} {n : Nat} {e : TypeId} {ro full : Bool} {h : AH} {Q : Value → AH → Prop} (hv : Ints h v ns) (hc : c < ns.length) (hb : h.get n = some ⟨[I64 c], e, ro, full⟩)
    (hQ : Q (.bool (decide (ns.getD c 0 ≠ 0))) h) : WF S 313 [v, .pointer (some ⟨n, 0, none⟩)] h Q := by
  refine WF_fn (fn := c313) rfl rfl ?_
  unfold c313
  have hix := hv.ix (k := .i64) (j := c) (by omega) (by omega)
  have hrd := hv.rd (j := c) (by omega) (by omega)
  simp only [nth, Int.toNat_natCast] at hrd
  try simp (maxSteps := 3000000) (disch := first | omega | (simp only [len_new, len_put, len_kill]; omega)) only [↓xpre, xpost, ↓reduceIte, Nat.reduceEqDiff, Nat.reduceAdd, Nat.reduceSub, Nat.reduceLeDiff, Nat.zero_add, Nat.sub_zero, rd1_of hb, hix, hrd]
  exact hQ
end Go.Proofs.Ytapafdpnmakekaa.X

set_option linter.unusedVariables false
set_option linter.unusedSimpArgs false
set_option maxRecDepth 20000
set_option maxHeartbeats 4000000
namespace Go.Proofs.Ytapafdpnmakekaa.X
open Go Go.RowKit
def RankDoes (g : FuncId) : Prop := ∀ (v : Value) (rows : List (List Int)) (p : Int) (W : Nat) (h : AH) (Q : Value → AH → Prop), Rows h v rows → isP p = true → (1 ≤ rows.length ∧ rows.length ≤ 1048576) → Good p rows W → 1 ≤ W ∧ W ≤ 1048576 →
  (∀ h', h <+: h' → Q (I64 (rankN p rows)) h') → WF S g [I64 p, v] h Q
theorem i_RowRank (hrank : RankDoes 246) {v : Value} {rows : List (List Int)} {p : Int} {h : AH} {Q : Value → AH → Prop} (hv : Rows h v rows) (hl : (rows.length : Int) ≤ 1048576) (hl' : ∀ i, i < rows.length → ((rows.getD i []).length : Int) ≤ 1048576)
    (hQ : ∀ h', h <+: h' → Q (.tuple #[I64 (rrR p rows).1, I64 (rrR p rows).2]) h') : WF S 105 [I64 p, v] h Q := by
  refine WF_fn (fn := c105) rfl rfl ?_
  unfold c105
  have hrows := hv
  obtain ⟨cs, hv, hcl, hr⟩ := hv
  have no : ∀ h', h <+: h' → ¬ rrOK p rows → Q (.tuple #[I64 0, I64 2]) h' := fun h' hp hn => by
    have := hQ h' hp
    unfold rrR at this
    rw [if_neg hn] at this
    exact this
  try simp (maxSteps := 3000000) (disch := first | omega | (simp only [len_new, len_put, len_kill]; omega)) only [↓xpre, xpost, ↓reduceIte, Nat.reduceEqDiff, Nat.reduceAdd, Nat.reduceSub, Nat.reduceLeDiff, Nat.zero_add, Nat.sub_zero]
  refine i_isPrime ?_
  cases h1 : isP p with
  | false =>
    try simp (maxSteps := 3000000) (disch := first | omega | (simp only [len_new, len_put, len_kill]; omega)) only [↓xpre, xpost, ↓reduceIte, Nat.reduceEqDiff, Nat.reduceAdd, Nat.reduceSub, Nat.reduceLeDiff, Nat.zero_add, Nat.sub_zero]
    exact no _ (List.prefix_refl _) (fun h => by rw [h.1] at h1; cases h1)
  | true =>
    have hp5 := isP_in h1
    try simp (maxSteps := 3000000) (disch := first | omega | (simp only [len_new, len_put, len_kill]; omega)) only [↓xpre, xpost, ↓reduceIte, Nat.reduceEqDiff, Nat.reduceAdd, Nat.reduceSub, Nat.reduceLeDiff, Nat.zero_add, Nat.sub_zero, hv.len, hcl, fillL, zrep]
    generalize hH1 : AH.new h _ = H1
    obtain ⟨hb1, p1, n1⟩ := new_facts hH1
    refine i_isSide (ns := [(rows.length : Int)]) (Ints.own (ns := [(rows.length : Int)]) hb1 rfl) (by simp) ?_
    cases h2 : [(rows.length : Int)].all side with
    | false =>
      try simp (maxSteps := 3000000) (disch := first | omega | (simp only [len_new, len_put, len_kill]; omega)) only [↓xpre, xpost, ↓reduceIte, Nat.reduceEqDiff, Nat.reduceAdd, Nat.reduceSub, Nat.reduceLeDiff, Nat.zero_add, Nat.sub_zero]
      exact no _ p1 (fun h => by
        have h3 := h.2.1
        have : side (rows.length : Int) = true := side_iff.2 (by omega)
        simp [this] at h2)
    | true =>
      have h3 : 1 ≤ (rows.length : Int) ∧ (rows.length : Int) ≤ 9 := side_iff.1 (by simpa using h2)
      have hv1 := hv.pre p1
      have hix0 := hv1.ix (k := .i64) (j := 0) (by omega) (by omega)
      have hrd0 := hv1.rd (j := 0) (by omega) (by omega)
      have r0 := (hr 0 (by omega)).len
      have hw : (rows.getD 0 []).length = width rows := rfl
      rw [hw] at r0
      try simp (maxSteps := 3000000) (disch := first | omega | (simp only [len_new, len_put, len_kill]; omega)) only [↓xpre, xpost, ↓reduceIte, Nat.reduceEqDiff, Nat.reduceAdd, Nat.reduceSub, Nat.reduceLeDiff, Nat.zero_add, Nat.sub_zero, hix0, hrd0, Int.toNat_zero, r0]
      by_cases h4 : (width rows : Int) < 1
      · try simp (maxSteps := 3000000) (disch := first | omega | (simp only [len_new, len_put, len_kill]; omega)) only [↓xpre, xpost, ↓reduceIte, Nat.reduceEqDiff, Nat.reduceAdd, Nat.reduceSub, Nat.reduceLeDiff, Nat.zero_add, Nat.sub_zero, h4]
        exact no _ p1 (fun h => by have := h.2.2.1; omega)
      try simp (maxSteps := 3000000) (disch := first | omega | (simp only [len_new, len_put, len_kill]; omega)) only [↓xpre, xpost, ↓reduceIte, Nat.reduceEqDiff, Nat.reduceAdd, Nat.reduceSub, Nat.reduceLeDiff, Nat.zero_add, Nat.sub_zero, h4]
      by_cases h5 : 81 < (width rows : Int)
      · try simp (maxSteps := 3000000) (disch := first | omega | (simp only [len_new, len_put, len_kill]; omega)) only [↓xpre, xpost, ↓reduceIte, Nat.reduceEqDiff, Nat.reduceAdd, Nat.reduceSub, Nat.reduceLeDiff, Nat.zero_add, Nat.sub_zero, h5]
        exact no _ p1 (fun h => by have := h.2.2.1; omega)
      try simp (maxSteps := 3000000) (disch := first | omega | (simp only [len_new, len_put, len_kill]; omega)) only [↓xpre, xpost, ↓reduceIte, Nat.reduceEqDiff, Nat.reduceAdd, Nat.reduceSub, Nat.reduceLeDiff, Nat.zero_add, Nat.sub_zero, h5, hv.len, hcl]
      refine i_isMatrix (hrows.pre p1) hl hl' ?_
      rw [decide_eq_true rfl, Bool.and_true]
      cases hm : isMat p (width rows) rows with
      | false =>
        try simp (maxSteps := 3000000) (disch := first | omega | (simp only [len_new, len_put, len_kill]; omega)) only [↓xpre, xpost, ↓reduceIte, Nat.reduceEqDiff, Nat.reduceAdd, Nat.reduceSub, Nat.reduceLeDiff, Nat.zero_add, Nat.sub_zero]
        exact no _ p1 (fun h => by rw [h.2.2.2] at hm; cases hm)
      | true =>
        try simp (maxSteps := 3000000) (disch := first | omega | (simp only [len_new, len_put, len_kill]; omega)) only [↓xpre, xpost, ↓reduceIte, Nat.reduceEqDiff, Nat.reduceAdd, Nat.reduceSub, Nat.reduceLeDiff, Nat.zero_add, Nat.sub_zero]
        refine hrank _ _ _ _ _ _ (hrows.pre p1) h1 (by omega) (good_of hm) (by omega) fun h' hp' => ?_
        try simp (maxSteps := 3000000) (disch := first | omega | (simp only [len_new, len_put, len_kill]; omega)) only [↓xpre, xpost, ↓reduceIte, Nat.reduceEqDiff, Nat.reduceAdd, Nat.reduceSub, Nat.reduceLeDiff, Nat.zero_add, Nat.sub_zero]
        have := hQ h' (p1.trans hp')
        unfold rrR at this
        rw [if_pos ⟨h1, by omega, by omega, hm⟩] at this
        exact this
end Go.Proofs.Ytapafdpnmakekaa.X
