/- Texts of one claim, put together by merge.py: XF1, XF2, XF3, XF4, XF5, XF6, XF7, XF8, XF9, XF16, XF17, XF18, XF19, XF20, XF21, XF22, XF23, XF24, XF25, XF26, XF27, XF28, XF29. -/
import Derived.Test.YtapafdpnmakekaaTS3
import Derived.Test.YtapafdpnmakekaaTS6
/- The functions on whole numbers and their lists. -/
set_option linter.unusedVariables false
set_option linter.unusedSimpArgs false
namespace Go.Proofs.Ytapafdpnmakekaa.X
open Go Go.RowKit
def S : XS := ⟨fun _ => none, T⟩
theorem esound : ESound Try.prog S.E := fun g p hp => by cases hp

theorem s_l01In {a b c : Int} {h : AH} {Q : Value → AH → Prop} (hQ : Q (.bool (decide (b ≤ a ∧ a ≤ c))) h) : WF S 181 [I64 a, I64 b, I64 c] h Q := by
  refine WF_fn (fn := c181) rfl rfl ?_
  unfold c181
  try simp (maxSteps := 3000000) (disch := first | omega | (simp only [len_new, len_put, len_kill]; omega)) only [↓xpre, xpost, ↓reduceIte, Nat.reduceEqDiff, Nat.reduceAdd, Nat.reduceSub, Nat.reduceLeDiff, Nat.zero_add, Nat.sub_zero]
  by_cases h1 : b ≤ a
  · try simp (maxSteps := 3000000) (disch := first | omega | (simp only [len_new, len_put, len_kill]; omega)) only [↓xpre, xpost, ↓reduceIte, Nat.reduceEqDiff, Nat.reduceAdd, Nat.reduceSub, Nat.reduceLeDiff, Nat.zero_add, Nat.sub_zero, h1]
    simpa [h1] using hQ
  · try simp (maxSteps := 3000000) (disch := first | omega | (simp only [len_new, len_put, len_kill]; omega)) only [↓xpre, xpost, ↓reduceIte, Nat.reduceEqDiff, Nat.reduceAdd, Nat.reduceSub, Nat.reduceLeDiff, Nat.zero_add, Nat.sub_zero, h1]
    simpa [h1] using hQ

def isP (p : Int) : Bool := decide (p = 2 ∨ p = 3 ∨ p = 5)
theorem s_l01Prime {p : Int} {h : AH} {Q : Value → AH → Prop} (hQ : Q (.bool (isP p)) h) : WF S 224 [I64 p] h Q := by
  refine WF_fn (fn := c224) rfl rfl ?_
  unfold c224
  try simp (maxSteps := 3000000) (disch := first | omega | (simp only [len_new, len_put, len_kill]; omega)) only [↓xpre, xpost, ↓reduceIte, Nat.reduceEqDiff, Nat.reduceAdd, Nat.reduceSub, Nat.reduceLeDiff, Nat.zero_add, Nat.sub_zero]
  by_cases h1 : p = 2
  · try simp (maxSteps := 3000000) (disch := first | omega | (simp only [len_new, len_put, len_kill]; omega)) only [↓xpre, xpost, ↓reduceIte, Nat.reduceEqDiff, Nat.reduceAdd, Nat.reduceSub, Nat.reduceLeDiff, Nat.zero_add, Nat.sub_zero, h1]
    simpa [h1, isP] using hQ
  · try simp (maxSteps := 3000000) (disch := first | omega | (simp only [len_new, len_put, len_kill]; omega)) only [↓xpre, xpost, ↓reduceIte, Nat.reduceEqDiff, Nat.reduceAdd, Nat.reduceSub, Nat.reduceLeDiff, Nat.zero_add, Nat.sub_zero, h1]
    by_cases h2 : p = 3
    · try simp (maxSteps := 3000000) (disch := first | omega | (simp only [len_new, len_put, len_kill]; omega)) only [↓xpre, xpost, ↓reduceIte, Nat.reduceEqDiff, Nat.reduceAdd, Nat.reduceSub, Nat.reduceLeDiff, Nat.zero_add, Nat.sub_zero, h2]
      simpa [h2, isP] using hQ
    · try simp (maxSteps := 3000000) (disch := first | omega | (simp only [len_new, len_put, len_kill]; omega)) only [↓xpre, xpost, ↓reduceIte, Nat.reduceEqDiff, Nat.reduceAdd, Nat.reduceSub, Nat.reduceLeDiff, Nat.zero_add, Nat.sub_zero, h2]
      simpa [h1, h2, isP] using hQ
theorem i_isPrime {p : Int} {h : AH} {Q : Value → AH → Prop} (hQ : Q (.bool (isP p)) h) : WF S 166 [I64 p] h Q := by
  refine WF_fn (fn := c166) rfl rfl ?_
  unfold c166
  try simp (maxSteps := 3000000) (disch := first | omega | (simp only [len_new, len_put, len_kill]; omega)) only [↓xpre, xpost, ↓reduceIte, Nat.reduceEqDiff, Nat.reduceAdd, Nat.reduceSub, Nat.reduceLeDiff, Nat.zero_add, Nat.sub_zero]
  by_cases h1 : p = 2
  · try simp (maxSteps := 3000000) (disch := first | omega | (simp only [len_new, len_put, len_kill]; omega)) only [↓xpre, xpost, ↓reduceIte, Nat.reduceEqDiff, Nat.reduceAdd, Nat.reduceSub, Nat.reduceLeDiff, Nat.zero_add, Nat.sub_zero, h1]
    simpa [h1, isP] using hQ
  · try simp (maxSteps := 3000000) (disch := first | omega | (simp only [len_new, len_put, len_kill]; omega)) only [↓xpre, xpost, ↓reduceIte, Nat.reduceEqDiff, Nat.reduceAdd, Nat.reduceSub, Nat.reduceLeDiff, Nat.zero_add, Nat.sub_zero, h1]
    by_cases h2 : p = 3
    · try simp (maxSteps := 3000000) (disch := first | omega | (simp only [len_new, len_put, len_kill]; omega)) only [↓xpre, xpost, ↓reduceIte, Nat.reduceEqDiff, Nat.reduceAdd, Nat.reduceSub, Nat.reduceLeDiff, Nat.zero_add, Nat.sub_zero, h2]
      simpa [h2, isP] using hQ
    · try simp (maxSteps := 3000000) (disch := first | omega | (simp only [len_new, len_put, len_kill]; omega)) only [↓xpre, xpost, ↓reduceIte, Nat.reduceEqDiff, Nat.reduceAdd, Nat.reduceSub, Nat.reduceLeDiff, Nat.zero_add, Nat.sub_zero, h2]
      simpa [h1, h2, isP] using hQ

end Go.Proofs.Ytapafdpnmakekaa.X

/- Lists of whole numbers: copies, comparisons, bounds. -/
set_option linter.unusedVariables false
set_option linter.unusedSimpArgs false
namespace Go.Proofs.Ytapafdpnmakekaa.X
open Go Go.RowKit

theorem splice_map {l : List Int} {j : Nat} {x : Int} (hj : j < l.length) : splice (l.map (Value.int .i64)) j [I64 x] = (l.set j x).map (Value.int .i64) := by
  unfold splice
  rw [List.set_eq_take_append_cons_drop, if_pos hj]
  simp [List.map_take, List.map_drop]

def OwnB (h : AH) (n : Nat) (c : List Value) (full : Bool) : Prop := ∃ e, h.get n = some ⟨c, e, false, full⟩
theorem ownB_new {h : AH} {c : List Value} {e : TypeId} {full : Bool} : OwnB (h.new ⟨c, e, false, full⟩) h.length c full := ⟨e, get_new_same⟩
/-- A list of one's own: a block made behind a heap. -/
def OwnI (h0 h : AH) (v : Value) (ns : List Int) : Prop := ∃ n e, h0.length ≤ n ∧ v = .slice (some ⟨n, 0, none⟩) ns.length 1 ∧ h.get n = some ⟨ns.map (Value.int .i64), e, false, true⟩
theorem OwnI.ints {h0 h : AH} {v : Value} {ns : List Int} (o : OwnI h0 h v ns) : Ints h v ns := by
  obtain ⟨n, e, h1, rfl, h2⟩ := o
  exact Ints.own h2 rfl
theorem OwnI.pre {h0 h h' : AH} {v : Value} {ns : List Int} (o : OwnI h0 h v ns) (p : h <+: h') : OwnI h0 h' v ns := by
  obtain ⟨n, e, h1, rfl, h2⟩ := o
  exact ⟨n, e, h1, rfl, pre_get p h2⟩

def allIn (p : Int) (ns : List Int) : Bool := ns.all fun n => decide (0 ≤ n ∧ n < p)
theorem allIn_iff {p : Int} {ns : List Int} : allIn p ns = true ↔ ∀ j, j < ns.length → 0 ≤ ns.getD j 0 ∧ ns.getD j 0 < p := by
  simp only [allIn, List.all_eq_true, decide_eq_true_eq]
  constructor
  · intro h j hj
    have := h (ns.getD j 0) (by simp [List.getD_eq_getElem?_getD, List.getElem?_eq_getElem hj])
    exact this
  · intro h x hx
    obtain ⟨j, hj, rfl⟩ := List.mem_iff_getElem.1 hx
    have := h j hj
    simpa [List.getD_eq_getElem?_getD, List.getElem?_eq_getElem hj] using this
theorem i_areNumbers {v : Value} {ns : List Int} {p : Int} {h : AH} {Q : Value → AH → Prop} (hv : Ints h v ns) (hl : (ns.length : Int) ≤ 1048576)
    (hQ : Q (.bool (allIn p ns)) h) : WF S 184 [I64 p, v] h Q := by
  refine WF_fn (fn := c184) rfl rfl ?_
  unfold c184
  try simp (maxSteps := 3000000) (disch := first | omega | (simp only [len_new, len_put, len_kill]; omega)) only [↓xpre, xpost, ↓reduceIte, Nat.reduceEqDiff, Nat.reduceAdd, Nat.reduceSub, Nat.reduceLeDiff, Nat.zero_add, Nat.sub_zero, hv.len]
  refine WC_loop_inv (fun n f h1 => ∃ i : Nat, n = ns.length - i ∧ i ≤ ns.length ∧ f 0 = I64 p ∧ f 7 = v ∧ f 8 = I64 ns.length ∧ f 9 = I64 i ∧ h1 = h ∧ ∀ j, j < i → 0 ≤ ns.getD j 0 ∧ ns.getD j 0 < p) ?_ ns.length _ _ ⟨0, rfl, Nat.zero_le _, rfl, rfl, rfl, rfl, rfl, by omega⟩
  rintro n f h1 ⟨i, rfl, hi, f0, f7, f8, f9, rfl, hj⟩
  try simp (maxSteps := 3000000) (disch := first | omega | (simp only [len_new, len_put, len_kill]; omega)) only [↓xpre, xpost, ↓reduceIte, Nat.reduceEqDiff, Nat.reduceAdd, Nat.reduceSub, Nat.reduceLeDiff, Nat.zero_add, Nat.sub_zero, f0, f7, f8, f9, IfW_dec]
  refine ⟨fun hlt => ?_, fun hge => ?_⟩
  · try simp (maxSteps := 3000000) (disch := first | omega | (simp only [len_new, len_put, len_kill]; omega)) only [↓xpre, xpost, ↓reduceIte, Nat.reduceEqDiff, Nat.reduceAdd, Nat.reduceSub, Nat.reduceLeDiff, Nat.zero_add, Nat.sub_zero, f0, f7, f8, f9, hv.ix, hv.rd]
    simp only [nth, Int.toNat_natCast]
    have bad : ¬ (0 ≤ ns.getD i 0 ∧ ns.getD i 0 < p) → allIn p ns = false := fun hb => by
      cases ha : allIn p ns with
      | false => rfl
      | true => exact (hb (allIn_iff.1 ha i (by omega))).elim
    by_cases h1 : ns.getD i 0 < 0
    · try simp (maxSteps := 3000000) (disch := first | omega | (simp only [len_new, len_put, len_kill]; omega)) only [↓xpre, xpost, ↓reduceIte, Nat.reduceEqDiff, Nat.reduceAdd, Nat.reduceSub, Nat.reduceLeDiff, Nat.zero_add, Nat.sub_zero, h1, f0, f7, f8, f9]
      rw [bad (by omega)] at hQ
      exact hQ
    · try simp (maxSteps := 3000000) (disch := first | omega | (simp only [len_new, len_put, len_kill]; omega)) only [↓xpre, xpost, ↓reduceIte, Nat.reduceEqDiff, Nat.reduceAdd, Nat.reduceSub, Nat.reduceLeDiff, Nat.zero_add, Nat.sub_zero, h1, f0, f7, f8, f9, IfW_dec]
      refine ⟨fun h2 => ?_, fun h2 => ?_⟩
      · try simp (maxSteps := 3000000) (disch := first | omega | (simp only [len_new, len_put, len_kill]; omega)) only [↓xpre, xpost, ↓reduceIte, Nat.reduceEqDiff, Nat.reduceAdd, Nat.reduceSub, Nat.reduceLeDiff, Nat.zero_add, Nat.sub_zero]
        rw [bad (by omega)] at hQ
        exact hQ
      · try simp (maxSteps := 3000000) (disch := first | omega | (simp only [len_new, len_put, len_kill]; omega)) only [↓xpre, xpost, ↓reduceIte, Nat.reduceEqDiff, Nat.reduceAdd, Nat.reduceSub, Nat.reduceLeDiff, Nat.zero_add, Nat.sub_zero, f0, f7, f8, f9, wrap64_in]
        refine InvQ_go (ns.length - (i + 1)) (by omega) ⟨i + 1, rfl, by omega, f0, f7, f8, rfl, rfl, fun j hj' => ?_⟩
        rcases Nat.lt_succ_iff_lt_or_eq.1 hj' with hj' | rfl
        · exact hj j hj'
        · omega
  · try simp (maxSteps := 3000000) (disch := first | omega | (simp only [len_new, len_put, len_kill]; omega)) only [↓xpre, xpost, ↓reduceIte, Nat.reduceEqDiff, Nat.reduceAdd, Nat.reduceSub, Nat.reduceLeDiff, Nat.zero_add, Nat.sub_zero, f0, f7, f8, f9]
    have : allIn p ns = true := allIn_iff.2 fun j hj' => hj j (by omega)
    rw [this] at hQ
    exact hQ
end Go.Proofs.Ytapafdpnmakekaa.X

/- Tensors: what they are, copies, comparisons. -/
set_option linter.unusedVariables false
set_option linter.unusedSimpArgs false
namespace Go.Proofs.Ytapafdpnmakekaa.X
open Go Go.RowKit

theorem new_facts {h H : AH} {b : Blk} (e : h.new b = H) : H.get h.length = some b ∧ h <+: H ∧ H.length = h.length + 1 := by
  subst e
  exact ⟨get_new_same, pre_new (List.prefix_refl _), len_new⟩

structure Ten where
  p : Int
  i : Int
  j : Int
  k : Int
  ns : List Int
  deriving DecidableEq
def tenV (t : Ten) (v : Value) : Value := .agg #[I64 t.p, I64 t.i, I64 t.j, I64 t.k, v]
def side (n : Int) : Bool := decide (1 ≤ n ∧ n ≤ 9)
def isT (t : Ten) : Bool := isP t.p && side t.i && side t.j && side t.k && decide ((t.ns.length : Int) = t.i * t.j * t.k) && allIn t.p t.ns
theorem side_iff {n : Int} : side n = true ↔ 1 ≤ n ∧ n ≤ 9 := by simp [side]
theorem isP_in {p : Int} (h : isP p = true) : 2 ≤ p ∧ p ≤ 5 := by
  simp [isP] at h
  omega
theorem mul_in {a b A B : Int} (ha : 0 ≤ a ∧ a ≤ A) (hb : 0 ≤ b ∧ b ≤ B) : 0 ≤ a * b ∧ a * b ≤ A * B :=
  ⟨Int.mul_nonneg ha.1 hb.1, Int.mul_le_mul ha.2 hb.2 hb.1 (by omega)⟩

theorem s_l05Is {v : Value} {t : Ten} {h : AH} {Q : Value → AH → Prop} (hv : Ints h v t.ns) (hl : (t.ns.length : Int) ≤ 1048576)
    (hQ : ∀ h', h <+: h' → Q (.bool (isT t)) h') : WF S 173 [tenV t v] h Q := by
  refine WF_fn (fn := c173) rfl rfl ?_
  unfold c173
  try simp (maxSteps := 3000000) (disch := first | omega | (simp only [len_new, len_put, len_kill]; omega)) only [↓xpre, xpost, ↓reduceIte, Nat.reduceEqDiff, Nat.reduceAdd, Nat.reduceSub, Nat.reduceLeDiff, Nat.zero_add, Nat.sub_zero, tenV, hv.one]
  generalize hH : AH.new h _ = H
  obtain ⟨hb, hp, hlen⟩ := new_facts hH
  have hv1 := hv.pre hp
  have hQ' := hQ _ hp
  refine s_l01Prime ?_
  cases h1 : isP t.p with
  | false =>
    try simp (maxSteps := 3000000) (disch := first | omega | (simp only [len_new, len_put, len_kill]; omega)) only [↓xpre, xpost, ↓reduceIte, Nat.reduceEqDiff, Nat.reduceAdd, Nat.reduceSub, Nat.reduceLeDiff, Nat.zero_add, Nat.sub_zero, h1]
    simpa [isT, h1] using hQ'
  | true =>
    try simp (maxSteps := 3000000) (disch := first | omega | (simp only [len_new, len_put, len_kill]; omega)) only [↓xpre, xpost, ↓reduceIte, Nat.reduceEqDiff, Nat.reduceAdd, Nat.reduceSub, Nat.reduceLeDiff, Nat.zero_add, Nat.sub_zero, h1, rd1_of hb]
    refine s_l01In ?_
    by_cases h2 : 1 ≤ t.i ∧ t.i ≤ 9
    case neg =>
      try simp (maxSteps := 3000000) (disch := first | omega | (simp only [len_new, len_put, len_kill]; omega)) only [↓xpre, xpost, ↓reduceIte, Nat.reduceEqDiff, Nat.reduceAdd, Nat.reduceSub, Nat.reduceLeDiff, Nat.zero_add, Nat.sub_zero, h2]
      simpa [isT, side, h2] using hQ'
    try simp (maxSteps := 3000000) (disch := first | omega | (simp only [len_new, len_put, len_kill]; omega)) only [↓xpre, xpost, ↓reduceIte, Nat.reduceEqDiff, Nat.reduceAdd, Nat.reduceSub, Nat.reduceLeDiff, Nat.zero_add, Nat.sub_zero, h2, rd1_of hb]
    refine s_l01In ?_
    by_cases h3 : 1 ≤ t.j ∧ t.j ≤ 9
    case neg =>
      try simp (maxSteps := 3000000) (disch := first | omega | (simp only [len_new, len_put, len_kill]; omega)) only [↓xpre, xpost, ↓reduceIte, Nat.reduceEqDiff, Nat.reduceAdd, Nat.reduceSub, Nat.reduceLeDiff, Nat.zero_add, Nat.sub_zero, h3]
      simpa [isT, side, h3] using hQ'
    try simp (maxSteps := 3000000) (disch := first | omega | (simp only [len_new, len_put, len_kill]; omega)) only [↓xpre, xpost, ↓reduceIte, Nat.reduceEqDiff, Nat.reduceAdd, Nat.reduceSub, Nat.reduceLeDiff, Nat.zero_add, Nat.sub_zero, h3, rd1_of hb]
    refine s_l01In ?_
    by_cases h4 : 1 ≤ t.k ∧ t.k ≤ 9
    case neg =>
      try simp (maxSteps := 3000000) (disch := first | omega | (simp only [len_new, len_put, len_kill]; omega)) only [↓xpre, xpost, ↓reduceIte, Nat.reduceEqDiff, Nat.reduceAdd, Nat.reduceSub, Nat.reduceLeDiff, Nat.zero_add, Nat.sub_zero, h4]
      simpa [isT, side, h4] using hQ'
    have b1 := isP_in h1
    have b2 := mul_in (a := t.i) (b := t.j) (A := 9) (B := 9) (by omega) (by omega)
    have b3 := mul_in (a := t.i * t.j) (b := t.k) (A := 81) (B := 9) (by omega) (by omega)
    try simp (maxSteps := 3000000) (disch := first | omega | (simp only [len_new, len_put, len_kill]; omega)) only [↓xpre, xpost, ↓reduceIte, Nat.reduceEqDiff, Nat.reduceAdd, Nat.reduceSub, Nat.reduceLeDiff, Nat.zero_add, Nat.sub_zero, h4, rd1_of hb, hv1.len, wrap64_in, IfW_dec]
    refine ⟨fun hne => ?_, fun he => ?_⟩
    · simpa [isT, hne] using hQ'
    refine WC_loop_inv (fun n f h1 => ∃ i : Nat, n = t.ns.length - i ∧ i ≤ t.ns.length ∧ f 1 = .pointer (some ⟨h.length, 0, none⟩) ∧ f 3 = I64 i ∧ h1 = H ∧
      ∀ j, j < i → 0 ≤ t.ns.getD j 0 ∧ t.ns.getD j 0 < t.p) ?_ t.ns.length _ _ ⟨0, rfl, Nat.zero_le _, rfl, rfl, rfl, by omega⟩
    rintro n f h1' ⟨i, rfl, hi, f1, f3, rfl, hj⟩
    try simp (maxSteps := 3000000) (disch := first | omega | (simp only [len_new, len_put, len_kill]; omega)) only [↓xpre, xpost, ↓reduceIte, Nat.reduceEqDiff, Nat.reduceAdd, Nat.reduceSub, Nat.reduceLeDiff, Nat.zero_add, Nat.sub_zero, f1, f3, rd1_of hb, hv1.len, IfW_dec]
    refine ⟨fun hlt => ?_, fun hge => ?_⟩
    · try simp (maxSteps := 3000000) (disch := first | omega | (simp only [len_new, len_put, len_kill]; omega)) only [↓xpre, xpost, ↓reduceIte, Nat.reduceEqDiff, Nat.reduceAdd, Nat.reduceSub, Nat.reduceLeDiff, Nat.zero_add, Nat.sub_zero, f1, f3, rd1_of hb, hv1.ix, hv1.rd, wrap64_in]
      refine s_l01In ?_
      simp only [nth, Int.toNat_natCast]
      by_cases h5 : 0 ≤ t.ns.getD i 0 ∧ t.ns.getD i 0 ≤ t.p - 1
      · try simp (maxSteps := 3000000) (disch := first | omega | (simp only [len_new, len_put, len_kill]; omega)) only [↓xpre, xpost, ↓reduceIte, Nat.reduceEqDiff, Nat.reduceAdd, Nat.reduceSub, Nat.reduceLeDiff, Nat.zero_add, Nat.sub_zero, h5, f1, f3, wrap64_in]
        refine InvQ_go (t.ns.length - (i + 1)) (by omega) ⟨i + 1, rfl, by omega, f1, rfl, rfl, fun j hj' => ?_⟩
        rcases Nat.lt_succ_iff_lt_or_eq.1 hj' with hj' | rfl
        · exact hj j hj'
        · omega
      · try simp (maxSteps := 3000000) (disch := first | omega | (simp only [len_new, len_put, len_kill]; omega)) only [↓xpre, xpost, ↓reduceIte, Nat.reduceEqDiff, Nat.reduceAdd, Nat.reduceSub, Nat.reduceLeDiff, Nat.zero_add, Nat.sub_zero, h5, f1, f3]
        have : allIn t.p t.ns = false := by
          cases ha : allIn t.p t.ns with
          | false => rfl
          | true =>
            have := allIn_iff.1 ha i (by omega)
            omega
        simpa [isT, this] using hQ'
    · try simp (maxSteps := 3000000) (disch := first | omega | (simp only [len_new, len_put, len_kill]; omega)) only [↓xpre, xpost, ↓reduceIte, Nat.reduceEqDiff, Nat.reduceAdd, Nat.reduceSub, Nat.reduceLeDiff, Nat.zero_add, Nat.sub_zero, f1, f3]
      have : allIn t.p t.ns = true := allIn_iff.2 fun j hj' => hj j (by omega)
      have e' := Decidable.not_not.1 he
      simpa [isT, this, h1, h2, h3, h4, e', side] using hQ'

theorem s_IsTensor {v : Value} {t : Ten} {h : AH} {Q : Value → AH → Prop} (hv : Ints h v t.ns) (hl : (t.ns.length : Int) ≤ 1048576)
    (hQ : ∀ h', h <+: h' → Q (.bool (isT t)) h') : WF S 29 [tenV t v] h Q := by
  refine WF_fn (fn := c29) rfl rfl ?_
  unfold c29
  try simp (maxSteps := 3000000) (disch := first | omega | (simp only [len_new, len_put, len_kill]; omega)) only [↓xpre, xpost, ↓reduceIte, Nat.reduceEqDiff, Nat.reduceAdd, Nat.reduceSub, Nat.reduceLeDiff, Nat.zero_add, Nat.sub_zero, tenV, hv.one]
  refine s_l05Is (hv.pre (pre_new (List.prefix_refl _))) hl fun h' hp => ?_
  try simp (maxSteps := 3000000) (disch := first | omega | (simp only [len_new, len_put, len_kill]; omega)) only [↓xpre, xpost, ↓reduceIte, Nat.reduceEqDiff, Nat.reduceAdd, Nat.reduceSub, Nat.reduceLeDiff, Nat.zero_add, Nat.sub_zero]
  exact hQ _ ((pre_new (List.prefix_refl _)).trans hp)

end Go.Proofs.Ytapafdpnmakekaa.X

/- Tensors: the program's own test, copies, comparisons. -/
set_option linter.unusedVariables false
set_option linter.unusedSimpArgs false
namespace Go.Proofs.Ytapafdpnmakekaa.X
open Go Go.RowKit

theorem side_no {n : Int} (h : ¬ (1 ≤ n ∧ n ≤ 9)) : side n = false := by simp [side]; omega
theorem all_iff {q : Int → Bool} {ns : List Int} : ns.all q = true ↔ ∀ j, j < ns.length → q (ns.getD j 0) = true := by
  simp only [List.all_eq_true]
  constructor
  · intro h j hj
    exact h _ (by simp [List.getD_eq_getElem?_getD, List.getElem?_eq_getElem hj])
  · intro h x hx
    obtain ⟨j, hj, rfl⟩ := List.mem_iff_getElem.1 hx
    have := h j hj
    simpa [List.getD_eq_getElem?_getD, List.getElem?_eq_getElem hj] using this
theorem all_not {q : Int → Bool} {ns : List Int} {j : Nat} (hj : j < ns.length) (h : q (ns.getD j 0) = false) : ns.all q = false := by
  cases ha : ns.all q with
  | false => rfl
  | true => rw [all_iff.1 ha j hj] at h; cases h

theorem i_isSide {v : Value} {ns : List Int} {h : AH} {Q : Value → AH → Prop} (hv : Ints h v ns) (hl : (ns.length : Int) ≤ 1048576)
    (hQ : Q (.bool (ns.all side)) h) : WF S 183 [v] h Q := by
  refine WF_fn (fn := c183) rfl rfl ?_
  unfold c183
  try simp (maxSteps := 3000000) (disch := first | omega | (simp only [len_new, len_put, len_kill]; omega)) only [↓xpre, xpost, ↓reduceIte, Nat.reduceEqDiff, Nat.reduceAdd, Nat.reduceSub, Nat.reduceLeDiff, Nat.zero_add, Nat.sub_zero, hv.len]
  refine WC_loop_inv (fun n f h1 => ∃ i : Nat, n = ns.length - i ∧ i ≤ ns.length ∧ f 5 = v ∧ f 6 = I64 ns.length ∧ f 7 = I64 i ∧ h1 = h ∧ ∀ j, j < i → side (ns.getD j 0) = true) ?_ ns.length _ _ ⟨0, rfl, Nat.zero_le _, rfl, rfl, rfl, rfl, by omega⟩
  rintro n f h1 ⟨i, rfl, hi, f5, f6, f7, rfl, hj⟩
  try simp (maxSteps := 3000000) (disch := first | omega | (simp only [len_new, len_put, len_kill]; omega)) only [↓xpre, xpost, ↓reduceIte, Nat.reduceEqDiff, Nat.reduceAdd, Nat.reduceSub, Nat.reduceLeDiff, Nat.zero_add, Nat.sub_zero, f5, f6, f7, IfW_dec]
  refine ⟨fun hlt => ?_, fun hge => ?_⟩
  · try simp (maxSteps := 3000000) (disch := first | omega | (simp only [len_new, len_put, len_kill]; omega)) only [↓xpre, xpost, ↓reduceIte, Nat.reduceEqDiff, Nat.reduceAdd, Nat.reduceSub, Nat.reduceLeDiff, Nat.zero_add, Nat.sub_zero, f5, f6, f7, hv.ix, hv.rd]
    simp only [nth, Int.toNat_natCast]
    by_cases h1 : ns.getD i 0 < 1
    · try simp (maxSteps := 3000000) (disch := first | omega | (simp only [len_new, len_put, len_kill]; omega)) only [↓xpre, xpost, ↓reduceIte, Nat.reduceEqDiff, Nat.reduceAdd, Nat.reduceSub, Nat.reduceLeDiff, Nat.zero_add, Nat.sub_zero, h1, f5, f6, f7]
      rw [all_not (j := i) (by omega) (side_no (by omega))] at hQ
      exact hQ
    · try simp (maxSteps := 3000000) (disch := first | omega | (simp only [len_new, len_put, len_kill]; omega)) only [↓xpre, xpost, ↓reduceIte, Nat.reduceEqDiff, Nat.reduceAdd, Nat.reduceSub, Nat.reduceLeDiff, Nat.zero_add, Nat.sub_zero, h1, f5, f6, f7, IfW_dec]
      refine ⟨fun h2 => ?_, fun h2 => ?_⟩
      · rw [all_not (j := i) (by omega) (side_no (by omega))] at hQ
        exact hQ
      · try simp (maxSteps := 3000000) (disch := first | omega | (simp only [len_new, len_put, len_kill]; omega)) only [↓xpre, xpost, ↓reduceIte, Nat.reduceEqDiff, Nat.reduceAdd, Nat.reduceSub, Nat.reduceLeDiff, Nat.zero_add, Nat.sub_zero, f5, f6, f7, wrap64_in]
        refine InvQ_go (ns.length - (i + 1)) (by omega) ⟨i + 1, rfl, by omega, f5, f6, rfl, rfl, fun j hj' => ?_⟩
        rcases Nat.lt_succ_iff_lt_or_eq.1 hj' with hj' | rfl
        · exact hj j hj'
        · rw [side_iff]; omega
  · rw [all_iff.2 fun j hj' => hj j (by omega)] at hQ
    exact hQ

theorem ints_lit {h : AH} {n : Nat} {a b c : Int} {e : TypeId} {ro full : Bool} (hb : h.get n = some ⟨[I64 a, I64 b, I64 c], e, ro, full⟩) : Ints h (.slice (some ⟨n, 0, none⟩) 3 1) [a, b, c] := Ints.own (ns := [a, b, c]) hb rfl

theorem i_IsTensor {v : Value} {t : Ten} {h : AH} {Q : Value → AH → Prop} (hv : Ints h v t.ns) (hl : (t.ns.length : Int) ≤ 1048576)
    (hQ : ∀ h', h <+: h' → Q (.bool (isT t)) h') : WF S 28 [tenV t v] h Q := by
  refine WF_fn (fn := c28) rfl rfl ?_
  unfold c28
  try simp (maxSteps := 3000000) (disch := first | omega | (simp only [len_new, len_put, len_kill]; omega)) only [↓xpre, xpost, ↓reduceIte, Nat.reduceEqDiff, Nat.reduceAdd, Nat.reduceSub, Nat.reduceLeDiff, Nat.zero_add, Nat.sub_zero, tenV, hv.one]
  generalize hH : AH.new h _ = H
  obtain ⟨hb, hp, hlen⟩ := new_facts hH
  have hv1 := hv.pre hp
  have hQ' := hQ _ hp
  refine i_isPrime ?_
  cases h1 : isP t.p with
  | false =>
    try simp (maxSteps := 3000000) (disch := first | omega | (simp only [len_new, len_put, len_kill]; omega)) only [↓xpre, xpost, ↓reduceIte, Nat.reduceEqDiff, Nat.reduceAdd, Nat.reduceSub, Nat.reduceLeDiff, Nat.zero_add, Nat.sub_zero, h1]
    simpa [isT, h1] using hQ'
  | true =>
    try simp (maxSteps := 3000000) (disch := first | omega | (simp only [len_new, len_put, len_kill]; omega)) only [↓xpre, xpost, ↓reduceIte, Nat.reduceEqDiff, Nat.reduceAdd, Nat.reduceSub, Nat.reduceLeDiff, Nat.zero_add, Nat.sub_zero, h1, rd1_of hb, fillL, zrep]
    generalize hH2 : AH.new H _ = H2
    obtain ⟨hb2, hp2, hlen2⟩ := new_facts hH2
    have hb := pre_get hp2 hb
    have hv2 := hv1.pre hp2
    have hQ2 := hQ _ (hp.trans hp2)
    have b1 := isP_in h1
    refine i_isSide (ints_lit hb2) (by simp) ?_
    cases h2 : [t.i, t.j, t.k].all side with
    | false =>
      try simp (maxSteps := 3000000) (disch := first | omega | (simp only [len_new, len_put, len_kill]; omega)) only [↓xpre, xpost, ↓reduceIte, Nat.reduceEqDiff, Nat.reduceAdd, Nat.reduceSub, Nat.reduceLeDiff, Nat.zero_add, Nat.sub_zero, h2]
      have : isT t = false := by
        simp only [List.all_cons, List.all_nil, Bool.and_true] at h2
        simp only [isT, Bool.and_assoc] at h2 ⊢
        cases h3 : side t.i <;> cases h4 : side t.j <;> cases h5 : side t.k <;> simp [h3, h4, h5] at h2 ⊢
      rw [this] at hQ2
      exact hQ2
    | true =>
      simp only [List.all_cons, List.all_nil, Bool.and_true, Bool.and_eq_true] at h2
      have h3 := side_iff.1 h2.1
      have h4 := side_iff.1 h2.2.1
      have h5 := side_iff.1 h2.2.2
      have b2 := mul_in (a := t.i) (b := t.j) (A := 9) (B := 9) (by omega) (by omega)
      have b3 := mul_in (a := t.i * t.j) (b := t.k) (A := 81) (B := 9) (by omega) (by omega)
      try simp (maxSteps := 3000000) (disch := first | omega | (simp only [len_new, len_put, len_kill]; omega)) only [↓xpre, xpost, ↓reduceIte, Nat.reduceEqDiff, Nat.reduceAdd, Nat.reduceSub, Nat.reduceLeDiff, Nat.zero_add, Nat.sub_zero, rd1_of hb, hv2.len, wrap64_in]
      by_cases he : (t.ns.length : Int) = t.i * t.j * t.k
      · try simp (maxSteps := 3000000) (disch := first | omega | (simp only [len_new, len_put, len_kill]; omega)) only [↓xpre, xpost, ↓reduceIte, Nat.reduceEqDiff, Nat.reduceAdd, Nat.reduceSub, Nat.reduceLeDiff, Nat.zero_add, Nat.sub_zero, rd1_of hb, ← he]
        refine i_areNumbers hv2 hl ?_
        try simp (maxSteps := 3000000) (disch := first | omega | (simp only [len_new, len_put, len_kill]; omega)) only [↓xpre, xpost, ↓reduceIte, Nat.reduceEqDiff, Nat.reduceAdd, Nat.reduceSub, Nat.reduceLeDiff, Nat.zero_add, Nat.sub_zero]
        have : isT t = allIn t.p t.ns := by simp [isT, h1, h2, ← he]
        rw [this] at hQ2
        exact hQ2
      · try simp (maxSteps := 3000000) (disch := first | omega | (simp only [len_new, len_put, len_kill]; omega)) only [↓xpre, xpost, ↓reduceIte, Nat.reduceEqDiff, Nat.reduceAdd, Nat.reduceSub, Nat.reduceLeDiff, Nat.zero_add, Nat.sub_zero, he]
        have : isT t = false := by simp [isT, he]
        rw [this] at hQ2
        exact hQ2

end Go.Proofs.Ytapafdpnmakekaa.X

/- The number at three places. -/
set_option linter.unusedVariables false
set_option linter.unusedSimpArgs false
namespace Go.Proofs.Ytapafdpnmakekaa.X
open Go Go.RowKit

structure TF (t : Ten) : Prop where
  p : 2 ≤ t.p ∧ t.p ≤ 5
  i : 1 ≤ t.i ∧ t.i ≤ 9
  j : 1 ≤ t.j ∧ t.j ≤ 9
  k : 1 ≤ t.k ∧ t.k ≤ 9
  len : (t.ns.length : Int) = t.i * t.j * t.k
  num : ∀ x : Int, 0 ≤ x → x < t.ns.length → 0 ≤ nth t.ns x ∧ nth t.ns x < t.p
  ij : 1 ≤ t.i * t.j ∧ t.i * t.j ≤ 81
  ijk : 1 ≤ t.i * t.j * t.k ∧ t.i * t.j * t.k ≤ 729
theorem mul_in1 {a b A B : Int} (ha : 1 ≤ a ∧ a ≤ A) (hb : 1 ≤ b ∧ b ≤ B) : 1 ≤ a * b ∧ a * b ≤ A * B := by
  refine ⟨?_, (mul_in (by omega) (by omega)).2⟩
  have := Int.mul_le_mul ha.1 hb.1 (by omega) (by omega)
  simpa using this
theorem isT_facts {t : Ten} (h : isT t = true) : TF t := by
  simp only [isT, Bool.and_eq_true, decide_eq_true_eq] at h
  obtain ⟨⟨⟨⟨⟨h1, h2⟩, h3⟩, h4⟩, h5⟩, h6⟩ := h
  have i2 := side_iff.1 h2
  have i3 := side_iff.1 h3
  have i4 := side_iff.1 h4
  have ij := mul_in1 (A := 9) (B := 9) i2 i3
  have ijk := mul_in1 (A := 81) (B := 9) ij i4
  exact ⟨isP_in h1, i2, i3, i4, h5, fun x h0 hx => allIn_iff.1 h6 x.toNat (by omega), ij, ijk⟩
theorem lin_in {i j I J : Int} (hi : 0 ≤ i ∧ i < I) (hj : 0 ≤ j ∧ j < J) : 0 ≤ i * J ∧ 0 ≤ i * J + j ∧ i * J + j < I * J := by
  have h1 := Int.mul_nonneg hi.1 (show 0 ≤ J by omega)
  have h2 := Int.mul_le_mul_of_nonneg_right (show i + 1 ≤ I by omega) (show 0 ≤ J by omega)
  rw [Int.add_mul, Int.one_mul] at h2
  omega
def tat (t : Ten) (i j k : Int) : Int := nth t.ns ((i * t.j + j) * t.k + k)

theorem s_l05At {v : Value} {t : Ten} {i j k : Int} {h : AH} {Q : Value → AH → Prop} (hv : Ints h v t.ns) (f : TF t) (hi : 0 ≤ i ∧ i < t.i) (hj : 0 ≤ j ∧ j < t.j) (hk : 0 ≤ k ∧ k < t.k)
    (hQ : ∀ h', h <+: h' → Q (I64 (tat t i j k)) h') : WF S 190 [tenV t v, I64 i, I64 j, I64 k] h Q := by
  refine WF_fn (fn := c190) rfl rfl ?_
  unfold c190
  have b1 := lin_in hi hj
  have b2 := lin_in b1.2 hk
  have b3 := f.ij
  have b4 := f.ijk
  have b5 := f.len
  have hv1 := hv.pre (pre_new (b := ⟨[I64 t.p, I64 t.i, I64 t.j, I64 t.k, v], 36, false, true⟩) (List.prefix_refl h))
  try simp (maxSteps := 3000000) (disch := first | omega | (simp only [len_new, len_put, len_kill]; omega)) only [↓xpre, xpost, ↓reduceIte, Nat.reduceEqDiff, Nat.reduceAdd, Nat.reduceSub, Nat.reduceLeDiff, Nat.zero_add, Nat.sub_zero, tenV, hv.one, wrap64_in, hv1.ix, hv1.rd]
  exact hQ _ (pre_new (List.prefix_refl _))
theorem i_at {v : Value} {t : Ten} {i j k : Int} {h : AH} {Q : Value → AH → Prop} (hv : Ints h v t.ns) (f : TF t) (hi : 0 ≤ i ∧ i < t.i) (hj : 0 ≤ j ∧ j < t.j) (hk : 0 ≤ k ∧ k < t.k)
    (hQ : ∀ h', h <+: h' → Q (I64 (tat t i j k)) h') : WF S 180 [tenV t v, I64 i, I64 j, I64 k] h Q := by
  refine WF_fn (fn := c180) rfl rfl ?_
  unfold c180
  have b1 := lin_in hi hj
  have b2 := lin_in b1.2 hk
  have b3 := f.ij
  have b4 := f.ijk
  have b5 := f.len
  have hv1 := hv.pre (pre_new (b := ⟨[I64 t.p, I64 t.i, I64 t.j, I64 t.k, v], 36, false, true⟩) (List.prefix_refl h))
  try simp (maxSteps := 3000000) (disch := first | omega | (simp only [len_new, len_put, len_kill]; omega)) only [↓xpre, xpost, ↓reduceIte, Nat.reduceEqDiff, Nat.reduceAdd, Nat.reduceSub, Nat.reduceLeDiff, Nat.zero_add, Nat.sub_zero, tenV, hv.one, wrap64_in, hv1.ix, hv1.rd]
  exact hQ _ (pre_new (List.prefix_refl _))

end Go.Proofs.Ytapafdpnmakekaa.X

/- Lists of one's own: marks and holds. -/
set_option linter.unusedVariables false
set_option linter.unusedSimpArgs false
namespace Go.Proofs.Ytapafdpnmakekaa.X
open Go Go.RowKit

/-- The heap's block of a slice. -/
def blkOf (v : Value) : Option Nat := match v with
  | .slice (some a) _ _ => some a.block
  | _ => none
/-- A list of one's own, or nil. -/
def OwnR (h0 h : AH) (v : Value) (ns : List Int) : Prop :=
  (v = .slice none 0 0 ∧ ns = []) ∨ ∃ n e full, h0.length ≤ n ∧ v = .slice (some ⟨n, 0, none⟩) ns.length 1 ∧ h.get n = some ⟨ns.map (Value.int .i64), e, false, full⟩
theorem OwnI.ownR {h0 h : AH} {v : Value} {ns : List Int} (o : OwnI h0 h v ns) : OwnR h0 h v ns := by
  obtain ⟨n, e, h1, rfl, h2⟩ := o
  exact .inr ⟨n, e, true, h1, rfl, h2⟩
theorem OwnR.ints {h0 h : AH} {v : Value} {ns : List Int} (o : OwnR h0 h v ns) : Ints h v ns := by
  rcases o with ⟨rfl, rfl⟩ | ⟨n, e, full, h1, rfl, h2⟩
  · exact .inl ⟨rfl, 0, by omega, rfl⟩
  · exact Ints.own h2 rfl
theorem OwnR.pre {h0 h h' : AH} {v : Value} {ns : List Int} (o : OwnR h0 h v ns) (p : h <+: h') : OwnR h0 h' v ns := by
  rcases o with ⟨rfl, rfl⟩ | ⟨n, e, full, h1, rfl, h2⟩
  · exact .inl ⟨rfl, rfl⟩
  · exact .inr ⟨n, e, full, h1, rfl, pre_get p h2⟩
theorem OwnR.lo {h0 h1 h : AH} {v : Value} {ns : List Int} (o : OwnR h0 h v ns) (p : h1.length ≤ h0.length) : OwnR h1 h v ns := by
  rcases o with ⟨rfl, rfl⟩ | ⟨n, e, full, q1, rfl, h2⟩
  · exact .inl ⟨rfl, rfl⟩
  · exact .inr ⟨n, e, full, by omega, rfl, h2⟩
/-- One block alone changes. -/
structure Only (o : Option Nat) (h h' : AH) : Prop where
  len : h'.length = h.length
  same : ∀ n, o ≠ some n → h'[n]? = h[n]?
theorem Only.get {o : Option Nat} {h h' : AH} (w : Only o h h') (n : Nat) (hn : o ≠ some n) : h'.get n = h.get n := by
  unfold AH.get
  rw [w.same n hn]
theorem Only.refl (o : Option Nat) (h : AH) : Only o h h := ⟨rfl, fun _ _ => rfl⟩
theorem OwnR.only {h0 h h' : AH} {v : Value} {ns : List Int} {o : Option Nat} (q : OwnR h0 h v ns) (w : Only o h h') (hn : ∀ n, o = some n → n < h0.length) : OwnR h0 h' v ns := by
  rcases q with ⟨rfl, rfl⟩ | ⟨n, e, full, h1, rfl, h2⟩
  · exact .inl ⟨rfl, rfl⟩
  · exact .inr ⟨n, e, full, h1, rfl, by rw [w.get n (fun e => by have := hn n e; omega)]; exact h2⟩
theorem OwnR.blk {h0 h : AH} {v : Value} {ns : List Int} (o : OwnR h0 h v ns) : ∀ n, blkOf v = some n → h0.length ≤ n ∧ n < h.length := by
  rcases o with ⟨rfl, rfl⟩ | ⟨n, e, full, h1, rfl, h2⟩
  · intro n hn; cases hn
  · intro m hm
    cases hm
    exact ⟨h1, get_lt h2⟩
theorem Only.pre {h0 h h' : AH} {o : Option Nat} (w : Only o h h') (p : h0 <+: h) (hn : ∀ n, o = some n → h0.length ≤ n) : h0 <+: h' := by
  rw [List.prefix_iff_getElem?] at p ⊢
  intro i hi
  rw [w.same i (fun e => by have := hn i e; omega)]
  exact p i hi

def marks (k : Int) (n : Nat) : List Int := (List.range n).map fun i => k + (i : Nat)
end Go.Proofs.Ytapafdpnmakekaa.X

/- Tensors made of a rule: the empty one, the turn of the reference. -/
set_option linter.unusedVariables false
set_option linter.unusedSimpArgs false
namespace Go.Proofs.Ytapafdpnmakekaa.X
open Go Go.RowKit

def gen (N : Nat) (g : Nat → Int) : List Int := (List.range N).map g
theorem gen_len {N : Nat} {g : Nat → Int} : (gen N g).length = N := by simp [gen]
theorem gen_get {N i : Nat} {g : Nat → Int} (hi : i < N) : (gen N g).getD i 0 = g i := by
  simp [gen, List.getD_eq_getElem?_getD, List.getElem?_map, List.getElem?_range hi]
theorem gen_ext {N : Nat} {g : Nat → Int} {l : List Int} (hl : l.length = N) (h : ∀ i, i < N → l.getD i 0 = g i) : l = gen N g := by
  refine List.ext_getElem? fun j => ?_
  by_cases hj : j < N
  · have h1 := h j hj
    rw [List.getD_eq_getElem?_getD, List.getElem?_eq_getElem (by omega)] at h1
    rw [List.getElem?_eq_getElem (by omega)]
    simp [gen, List.getElem?_map, List.getElem?_range hj] at h1 ⊢
    exact h1
  · rw [List.getElem?_eq_none (by omega), List.getElem?_eq_none (by rw [gen_len]; omega)]
theorem gen_succ {N : Nat} {g : Nat → Int} : gen (N + 1) g = gen N g ++ [g N] := by simp [gen, List.range_succ]
theorem gen_congr {N : Nat} {g g' : Nat → Int} (h : ∀ i, i < N → g i = g' i) : gen N g = gen N g' := by
  refine gen_ext gen_len fun i hi => ?_
  rw [gen_get hi, h i hi]
theorem set_getD {l : List Int} {i j : Nat} {x : Int} (hi : i < l.length) : (l.set i x).getD j 0 = if j = i then x else l.getD j 0 := by
  rw [List.getD_eq_getElem?_getD, List.getD_eq_getElem?_getD, List.getElem?_set]
  by_cases h : i = j
  · subst h
    simp [hi]
  · rw [if_neg h, if_neg (fun e => h e.symm)]
theorem dec {a i I : Int} (h : 0 ≤ i ∧ i < I) : (a * I + i) / I = a ∧ (a * I + i) % I = i := by
  have := (Int.ediv_emod_unique (a := a * I + i) (b := I) (q := a) (r := i) (by omega)).2 ⟨by rw [Int.mul_comm]; omega, h.1, h.2⟩
  exact this
theorem enc (n I : Int) : n / I * I + n % I = n := by
  have := Int.mul_ediv_add_emod n I
  rw [Int.mul_comm] at this
  exact this

theorem OwnI.of {h0 h : AH} {v : Value} {ns : List Int} {n : Nat} (h1 : h0.length ≤ n) (e : v = .slice (some ⟨n, 0, none⟩) ns.length 1) (b : OwnB h n (ns.map (Value.int .i64)) true) : OwnI h0 h v ns := by
  obtain ⟨e', hb⟩ := b
  exact ⟨n, e', h1, e, hb⟩
theorem ownB_new' {h : AH} {c : List Value} {e : TypeId} {full : Bool} {n : Nat} (hn : n = h.length) : OwnB (h.new ⟨c, e, false, full⟩) n c full := by subst hn; exact ownB_new
theorem OwnB.pre {h h' : AH} {c : List Value} {full : Bool} {n : Nat} (b : OwnB h n c full) (p : h <+: h') : OwnB h' n c full := by
  obtain ⟨e, hb⟩ := b
  exact ⟨e, pre_get p hb⟩
theorem OwnB.put_ne {h : AH} {c : List Value} {full : Bool} {n m : Nat} {b : Blk} (o : OwnB h n c full) (e : m ≠ n) : OwnB (h.put m b) n c full := by
  obtain ⟨e', hb⟩ := o
  exact ⟨e', by rw [get_put_ne e]; exact hb⟩
theorem OwnB.lt {h : AH} {c : List Value} {full : Bool} {n : Nat} (o : OwnB h n c full) : n < h.length := by
  obtain ⟨e', hb⟩ := o
  exact get_lt hb
theorem s_l05Empty {p i j k : Int} {h : AH} {Q : Value → AH → Prop} (h1 : 0 ≤ i * j ∧ i * j ≤ 1048576) (h2 : 0 ≤ i * j * k ∧ i * j * k ≤ 1048576)
    (hQ : ∀ v' h', h <+: h' → OwnI h h' v' (List.replicate (i * j * k).toNat 0) → Q (tenV ⟨p, i, j, k, List.replicate (i * j * k).toNat 0⟩ v') h') : WF S 182 [I64 p, I64 i, I64 j, I64 k] h Q := by
  refine WF_fn (fn := c182) rfl rfl ?_
  unfold c182
  try simp (maxSteps := 3000000) (disch := first | omega | (simp only [len_new, len_put, len_kill]; omega)) only [↓xpre, xpost, ↓reduceIte, Nat.reduceEqDiff, Nat.reduceAdd, Nat.reduceSub, Nat.reduceLeDiff, Nat.zero_add, Nat.sub_zero, wrap64_in]
  refine ⟨by omega, ?_⟩
  try simp (maxSteps := 3000000) (disch := first | omega | (simp only [len_new, len_put, len_kill]; omega)) only [↓xpre, xpost, ↓reduceIte, Nat.reduceEqDiff, Nat.reduceAdd, Nat.reduceSub, Nat.reduceLeDiff, Nat.zero_add, Nat.sub_zero, fillL, len_new]
  refine hQ _ _ (pre_new (pre_new (List.prefix_refl _))) (OwnI.of (n := h.length + 1) (by omega) ?_ ?_)
  · rw [List.length_replicate]
  · rw [← zrep_ints]
    exact ownB_new' (by rw [len_new])

def turnG (t : Ten) (n : Nat) : Int := tat t ((n : Int) % t.i) ((n : Int) / t.i / t.k) ((n : Int) / t.i % t.k)
def turnT (t : Ten) : Ten := ⟨t.p, t.j, t.k, t.i, gen (t.j * t.k * t.i).toNat (turnG t)⟩
/-- What has been written ahead of i, j, k. -/
def Done (t : Ten) (l : List Int) (i j k : Int) : Prop := l.length = (t.j * t.k * t.i).toNat ∧ ∀ n : Nat, n < (t.j * t.k * t.i).toNat →
  ((n : Int) % t.i < i ∨ ((n : Int) % t.i = i ∧ ((n : Int) / t.i / t.k < j ∨ ((n : Int) / t.i / t.k = j ∧ (n : Int) / t.i % t.k < k)))) → l.getD n 0 = turnG t n

theorem Done.step {t : Ten} {l : List Int} {i j k : Int} (d : Done t l i j k) (f : TF t) (hi : 0 ≤ i ∧ i < t.i) (hj : 0 ≤ j ∧ j < t.j) (hk : 0 ≤ k ∧ k < t.k) :
    Done t (l.set ((j * t.k + k) * t.i + i).toNat (tat t i j k)) i j (k + 1) := by
  have b1 := lin_in hj hk
  have b2 := lin_in b1.2 hi
  obtain ⟨d1, d2⟩ := d
  refine ⟨by rw [List.length_set]; exact d1, fun n hn hlex => ?_⟩
  rw [set_getD (by omega)]
  have e1 := dec (a := j * t.k + k) hi
  have e2 := dec (a := j) hk
  split
  · rename_i he
    have he' : (n : Int) = (j * t.k + k) * t.i + i := by omega
    unfold turnG
    rw [he', e1.1, e1.2, e2.1, e2.2]
  · rename_i hne
    refine d2 n hn ?_
    refine Decidable.byContradiction fun hnl => hne ?_
    have q1 : (n : Int) % t.i = i := by omega
    have q2 : (n : Int) / t.i / t.k = j := by omega
    have q3 : (n : Int) / t.i % t.k = k := by omega
    have q4 := enc (n : Int) t.i
    have q5 := enc ((n : Int) / t.i) t.k
    rw [q2, q3] at q5
    rw [← q5, q1] at q4
    omega
theorem Done.next_j {t : Ten} {l : List Int} {i j : Int} (d : Done t l i j t.k) (f : TF t) : Done t l i (j + 1) 0 := by
  have fk := f.k
  refine ⟨d.1, fun n hn hlex => d.2 n hn ?_⟩
  have h1 := Int.emod_nonneg ((n : Int) / t.i) (show t.k ≠ 0 by omega)
  have h2 := Int.emod_lt_of_pos ((n : Int) / t.i) (show 0 < t.k by omega)
  omega
theorem Done.next_i {t : Ten} {l : List Int} {i : Int} (d : Done t l i t.j 0) (f : TF t) : Done t l (i + 1) 0 0 := by
  have fi := f.i
  have fk := f.k
  have fj := f.j
  refine ⟨d.1, fun n hn hlex => d.2 n hn ?_⟩
  have h0 : (n : Int) < t.j * t.k * t.i := by omega
  have h1 : (n : Int) / t.i < t.j * t.k := Int.ediv_lt_of_lt_mul (by omega) h0
  have h2 : (n : Int) / t.i / t.k < t.j := Int.ediv_lt_of_lt_mul (by omega) h1
  have h3 : 0 ≤ (n : Int) / t.i := Int.ediv_nonneg (by omega) (by omega)
  have h4 : 0 ≤ (n : Int) / t.i / t.k := Int.ediv_nonneg h3 (by omega)
  have h5 := Int.emod_nonneg ((n : Int) / t.i) (show t.k ≠ 0 by omega)
  omega
theorem Done.all {t : Ten} {l : List Int} (d : Done t l t.i 0 0) (f : TF t) : l = (turnT t).ns := by
  have fi := f.i
  refine gen_ext d.1 fun n hn => d.2 n hn (.inl ?_)
  exact Int.emod_lt_of_pos _ (by omega)
theorem Done.zero {t : Ten} (f : TF t) : Done t (List.replicate (t.j * t.k * t.i).toNat 0) 0 0 0 := by
  have fi := f.i
  have fk := f.k
  refine ⟨List.length_replicate, fun n hn hlex => ?_⟩
  have h1 := Int.emod_nonneg (n : Int) (show t.i ≠ 0 by omega)
  have h3 : 0 ≤ (n : Int) / t.i := Int.ediv_nonneg (by omega) (by omega)
  have h4 : 0 ≤ (n : Int) / t.i / t.k := Int.ediv_nonneg h3 (by omega)
  have h5 := Int.emod_nonneg ((n : Int) / t.i) (show t.k ≠ 0 by omega)
  omega

/-- The state of the reference's turn. -/
structure TurnS (t : Ten) (v : Value) (h0 h : AH) (b2 b3 nb : Nat) (l : List Int) : Prop where
  hp : h0 <+: h
  lo : h0.length < b2 ∧ b2 < nb ∧ nb < b3
  g1 : OwnB h h0.length [I64 t.p, I64 t.i, I64 t.j, I64 t.k, v] true
  g2 : ∃ c, c.length = 5 ∧ OwnB h b2 c true
  g3 : OwnB h b3 [I64 t.p, I64 t.j, I64 t.k, I64 t.i, .slice (some ⟨nb, 0, none⟩) (t.j * t.k * t.i).toNat 1] true
  gn : OwnB h nb (l.map (Value.int .i64)) true

theorem s_l05Turn {v : Value} {t : Ten} {h : AH} {Q : Value → AH → Prop} (hv : Ints h v t.ns) (f : TF t)
    (hQ : ∀ v' h', h <+: h' → OwnI h h' v' (turnT t).ns → Q (tenV (turnT t) v') h') : WF S 194 [tenV t v] h Q := by
  refine WF_fn (fn := c194) rfl rfl ?_
  unfold c194
  have fi := f.i
  have fj := f.j
  have fk := f.k
  have jk := mul_in1 (A := 9) (B := 9) fj fk
  have jki := mul_in1 (A := 81) (B := 9) jk fi
  try simp (maxSteps := 3000000) (disch := first | omega | (simp only [len_new, len_put, len_kill]; omega)) only [↓xpre, xpost, ↓reduceIte, Nat.reduceEqDiff, Nat.reduceAdd, Nat.reduceSub, Nat.reduceLeDiff, Nat.zero_add, Nat.sub_zero, tenV, hv.one]
  refine s_l05Empty (by omega) (by omega) fun v' H3 hp o => ?_
  try simp (maxSteps := 3000000) (disch := first | omega | (simp only [len_new, len_put, len_kill]; omega)) only [↓xpre, xpost, ↓reduceIte, Nat.reduceEqDiff, Nat.reduceAdd, Nat.reduceSub, Nat.reduceLeDiff, Nat.zero_add, Nat.sub_zero, tenV, o.ints.one]
  obtain ⟨nb, e, q1, rfl, q2⟩ := o
  generalize hH1 : AH.new h _ = H1 at hp q1 ⊢
  obtain ⟨hb1, p1, n1⟩ := new_facts hH1
  generalize hH2 : AH.new H1 _ = H2 at hp q1
  obtain ⟨hb2, p2, n2⟩ := new_facts hH2
  generalize hH4 : AH.new H3 _ = H4
  obtain ⟨hb4, p4, n4⟩ := new_facts hH4
  have q3 := get_lt q2
  rw [List.length_replicate] at hb4
  refine WC_loop_inv (fun n f h1 => ∃ (i : Int) (l : List Int), n = (t.i - i).toNat ∧ (0 ≤ i ∧ i ≤ t.i) ∧ f 1 = .pointer (some ⟨h.length, 0, none⟩) ∧ f 2 = .pointer (some ⟨H1.length, 0, none⟩) ∧ f 3 = .pointer (some ⟨H3.length, 0, none⟩) ∧
    f 4 = I64 i ∧ TurnS t v h h1 H1.length H3.length nb l ∧ Done t l i 0 0) ?_ (t.i - 0).toNat _ _ ⟨0, _, rfl, by omega, rfl, rfl, rfl, rfl, ⟨((p1.trans p2).trans hp).trans p4, by omega, ⟨_, pre_get p4 (pre_get hp (pre_get p2 hb1))⟩, ⟨_, rfl, _, pre_get p4 (pre_get hp hb2)⟩, ⟨_, hb4⟩, ⟨_, pre_get p4 q2⟩⟩, Done.zero f⟩
  rintro n fr h1 ⟨i, l, rfl, hi, f1, f2, f3, f4, st, dn⟩
  obtain ⟨t1, g1⟩ := st.g1
  try simp (maxSteps := 3000000) (disch := first | omega | (simp only [len_new, len_put, len_kill]; omega)) only [↓xpre, xpost, ↓reduceIte, Nat.reduceEqDiff, Nat.reduceAdd, Nat.reduceSub, Nat.reduceLeDiff, Nat.zero_add, Nat.sub_zero, f1, f2, f3, f4, rd1_of g1, IfW_dec]
  refine ⟨fun hlt => ?_, fun hge => ?_⟩
  · clear g1
    refine WC_loop_inv (fun n f h1 => ∃ (j : Int) (l : List Int), n = (t.j - j).toNat ∧ (0 ≤ j ∧ j ≤ t.j) ∧ f 1 = .pointer (some ⟨h.length, 0, none⟩) ∧ f 2 = .pointer (some ⟨H1.length, 0, none⟩) ∧ f 3 = .pointer (some ⟨H3.length, 0, none⟩) ∧
      f 4 = I64 i ∧ f 5 = I64 j ∧ TurnS t v h h1 H1.length H3.length nb l ∧ Done t l i j 0) ?_ (t.j - 0).toNat _ _ ⟨0, l, rfl, by omega, f1, f2, f3, f4, rfl, st, dn⟩
    clear f1 f2 f3 f4 st dn
    rintro n fr h1 ⟨j, l, rfl, hj, f1, f2, f3, f4, f5, st, dn⟩
    obtain ⟨t1, g1⟩ := st.g1
    try simp (maxSteps := 3000000) (disch := first | omega | (simp only [len_new, len_put, len_kill]; omega)) only [↓xpre, xpost, ↓reduceIte, Nat.reduceEqDiff, Nat.reduceAdd, Nat.reduceSub, Nat.reduceLeDiff, Nat.zero_add, Nat.sub_zero, f1, f2, f3, f4, f5, rd1_of g1, IfW_dec]
    refine ⟨fun hltj => ?_, fun hge => ?_⟩
    · clear g1
      refine WC_loop_inv (fun n f h1 => ∃ (k : Int) (l : List Int), n = (t.k - k).toNat ∧ (0 ≤ k ∧ k ≤ t.k) ∧ f 1 = .pointer (some ⟨h.length, 0, none⟩) ∧ f 2 = .pointer (some ⟨H1.length, 0, none⟩) ∧ f 3 = .pointer (some ⟨H3.length, 0, none⟩) ∧
        f 4 = I64 i ∧ f 5 = I64 j ∧ f 6 = I64 k ∧ TurnS t v h h1 H1.length H3.length nb l ∧ Done t l i j k) ?_ (t.k - 0).toNat _ _ ⟨0, l, rfl, by omega, f1, f2, f3, f4, f5, rfl, st, dn⟩
      clear f1 f2 f3 f4 f5 st dn
      rintro n fr h1 ⟨k, l, rfl, hk, f1, f2, f3, f4, f5, f6, st, dn⟩
      obtain ⟨t1, g1⟩ := st.g1
      obtain ⟨t3, g3⟩ := st.g3
      try simp (maxSteps := 3000000) (disch := first | omega | (simp only [len_new, len_put, len_kill]; omega)) only [↓xpre, xpost, ↓reduceIte, Nat.reduceEqDiff, Nat.reduceAdd, Nat.reduceSub, Nat.reduceLeDiff, Nat.zero_add, Nat.sub_zero, f1, f2, f3, f4, f5, f6, rd1_of g1, IfW_dec]
      refine ⟨fun hltk => ?_, fun hge => ?_⟩
      · have b1 := lin_in (i := j) (I := t.j) (j := k) (J := t.k) (by omega) (by omega)
        have b2 := lin_in b1.2 (j := i) (J := t.i) (by omega)
        try simp (maxSteps := 3000000) (disch := first | omega | (simp only [len_new, len_put, len_kill]; omega)) only [↓xpre, xpost, ↓reduceIte, Nat.reduceEqDiff, Nat.reduceAdd, Nat.reduceSub, Nat.reduceLeDiff, Nat.zero_add, Nat.sub_zero, f1, f2, f3, f4, f5, f6, rd1_of g1, rd1_of g3, rdn_of g1, wrap64_in]
        refine s_l05At (t := t) (hv.pre st.hp) f (by omega) (by omega) (by omega) fun h2 p5 => ?_
        obtain ⟨tn, gn⟩ := st.gn
        have gn := pre_get p5 gn
        have hll := dn.1
        try simp (maxSteps := 3000000) (disch := first | omega | (simp only [len_new, len_put, len_kill]; omega)) only [↓xpre, xpost, ↓reduceIte, Nat.reduceEqDiff, Nat.reduceAdd, Nat.reduceSub, Nat.reduceLeDiff, Nat.zero_add, Nat.sub_zero, f1, f2, f3, f4, f5, f6, ixsV_some, wr_of gn, wrap64_in]
        refine ⟨p5, ⟨by omega, by omega⟩, by simp [hll]; omega, ?_⟩
        refine InvQ_go (t.k - (k + 1)).toNat (by omega) ⟨k + 1, l.set ((j * t.k + k) * t.i + i).toNat (tat t i j k), rfl, by omega, f1, f2, f3, f4, f5, rfl, ?_, dn.step f (by omega) (by omega) (by omega)⟩
        have lo := st.lo
        obtain ⟨c2, c3, c4⟩ := st.g2
        refine ⟨pre_put (st.hp.trans p5) (by omega), lo, (st.g1.pre p5).put_ne (by omega), ⟨c2, c3, (c4.pre p5).put_ne (by omega)⟩, (st.g3.pre p5).put_ne (by omega), ⟨tn, ?_⟩⟩
        rw [get_put_same (get_lt gn)]
        simp only [Nat.zero_add, Nat.mul_one]
        rw [splice_map (by omega)]
      · try simp (maxSteps := 3000000) (disch := first | omega | (simp only [len_new, len_put, len_kill]; omega)) only [↓xpre, xpost, ↓reduceIte, Nat.reduceEqDiff, Nat.reduceAdd, Nat.reduceSub, Nat.reduceLeDiff, Nat.zero_add, Nat.sub_zero, f1, f2, f3, f4, f5, f6, wrap64_in]
        have : k = t.k := by omega
        subst this
        exact InvQ_go (t.j - (j + 1)).toNat (by omega) ⟨j + 1, l, rfl, by omega, f1, f2, f3, f4, rfl, st, dn.next_j f⟩
    · try simp (maxSteps := 3000000) (disch := first | omega | (simp only [len_new, len_put, len_kill]; omega)) only [↓xpre, xpost, ↓reduceIte, Nat.reduceEqDiff, Nat.reduceAdd, Nat.reduceSub, Nat.reduceLeDiff, Nat.zero_add, Nat.sub_zero, f1, f2, f3, f4, f5, wrap64_in]
      have : j = t.j := by omega
      subst this
      exact InvQ_go (t.i - (i + 1)).toNat (by omega) ⟨i + 1, l, rfl, by omega, f1, f2, f3, rfl, st, dn.next_i f⟩
  · have : i = t.i := by omega
    subst this
    have hall := dn.all f
    obtain ⟨t3, g3⟩ := st.g3
    obtain ⟨c, c3, t2, g2⟩ := st.g2
    have lo := st.lo
    obtain ⟨c0, c1, c2, c4, c5, rfl⟩ : ∃ a b d e g, c = [a, b, d, e, g] := by
      match c, c3 with
      | [a, b, d, e, g], _ => exact ⟨_, _, _, _, _, rfl⟩
    have l2 := get_lt g2
    try simp (maxSteps := 3000000) (disch := first | omega | (simp only [len_new, len_put, len_kill]; omega)) only [↓xpre, xpost, ↓reduceIte, Nat.reduceEqDiff, Nat.reduceAdd, Nat.reduceSub, Nat.reduceLeDiff, Nat.zero_add, Nat.sub_zero, f1, f2, f3, f4, rdn_of g3, wr_of g2]
    refine hQ _ _ (pre_put (n := H1.length) st.hp (by omega)) (OwnI.of (n := nb) (by omega) ?_ ?_)
    · simp only [turnT, gen_len]
    · rw [← hall]
      exact st.gn.put_ne (by omega)

end Go.Proofs.Ytapafdpnmakekaa.X

/- The program's 'tensor': a list appended number by number out of a function value. -/
set_option linter.unusedVariables false
set_option linter.unusedSimpArgs false
namespace Go.Proofs.Ytapafdpnmakekaa.X
open Go Go.RowKit

/-- A list under way: nil, or a block of one's own behind a place. -/
def Way (h : AH) (lo : Nat) (sv : Value) (l : List Int) : Prop :=
  (sv = .slice none 0 0 ∧ l = []) ∨ ∃ kb, sv = .slice (some ⟨kb, 0, none⟩) l.length 1 ∧ lo ≤ kb ∧ h.get kb = some ⟨l.map (Value.int .i64), 2, false, false⟩
theorem Way.pre {h h' : AH} {lo : Nat} {sv : Value} {l : List Int} (w : Way h lo sv l) (p : h <+: h') : Way h' lo sv l := by
  rcases w with w | ⟨kb, h1, h2, h3⟩
  · exact .inl w
  · exact .inr ⟨kb, h1, h2, pre_get p h3⟩
theorem Way.one {h : AH} {lo : Nat} {sv : Value} {l : List Int} (w : Way h lo sv l) : isOne sv = true := by
  rcases w with ⟨rfl, _⟩ | ⟨kb, rfl, h2, h3⟩ <;> rfl
theorem Way.cells {h : AH} {lo : Nat} {sv : Value} {l : List Int} (w : Way h lo sv l) : cellsL sv = [sv] := by
  rcases w with ⟨rfl, _⟩ | ⟨kb, rfl, h2, h3⟩ <;> rfl
theorem Way.put {h : AH} {lo n : Nat} {b : Blk} {sv : Value} {l : List Int} (w : Way h lo sv l) (hn : n < lo) : Way (h.put n b) lo sv l := by
  rcases w with w | ⟨kb, h1, h2, h3⟩
  · exact .inl w
  · exact .inr ⟨kb, h1, h2, by rw [get_put_ne (by omega)]; exact h3⟩
theorem Way.ownR {h0 h : AH} {lo : Nat} {sv : Value} {l : List Int} (w : Way h lo sv l) (hl : h0.length ≤ lo) : OwnR h0 h sv l := by
  rcases w with w | ⟨kb, h1, h2, h3⟩
  · exact .inl w
  · exact .inr ⟨kb, _, _, by omega, h1, h3⟩

/-- One number more: what 'append' of a slice of one number does. -/
theorem Way.app {S : XS} {H : AH} {lo : Nat} {sv : Value} {l : List Int} {x : Int} {e : TypeId} {full : Bool} (w : Way H lo sv l) (hl : (l.length : Int) ≤ 1048576) (hlo : lo ≤ H.length) {Q : Value → AH → Prop}
    (hQ : ∀ sv' H', H'.length = H.length + 2 → (∀ h0 : AH, h0.length ≤ lo → h0 <+: H → h0 <+: H') → (∀ n c f, n < lo → OwnB H n c f → OwnB H' n c f) → Way H' lo sv' (l ++ [x]) → Q sv' H') :
    OQ (appV 2 1 8 sv (.slice (some ⟨H.length, 0, none⟩) 1 1) (H.new ⟨[I64 x], e, false, full⟩)) Q := by
  have hn : (H.new ⟨[I64 x], e, false, full⟩).rdn H.length 0 1 = some [I64 x] := by rw [rdn_new_same]; rfl
  rcases w with ⟨rfl, rfl⟩ | ⟨kb, rfl, h2, h3⟩
  · rw [app_nil (.inl rfl) hn (by omega), OQ_some]
    refine hQ _ _ (by rw [len_new, len_new]) (fun h0 _ p => pre_new (pre_new p)) (fun n c f hn o => (o.pre (pre_new (List.prefix_refl _))).pre (pre_new (List.prefix_refl _))) ?_
    exact .inr ⟨(H.new ⟨[I64 x], e, false, full⟩).length, rfl, by rw [len_new]; omega, get_new_same⟩
  · have hk : (H.new ⟨[I64 x], e, false, full⟩).get kb = some ⟨l.map (Value.int .i64), 2, false, false⟩ := get_new_any h3
    have hkb := get_lt h3
    rw [app_own hk (by simp) hn (by omega), OQ_some]
    refine hQ _ _ (by rw [len_new, len_kill, len_new]) (fun h0 q p => pre_new (pre_kill (pre_new p) (by omega))) (fun n c f hn o => ?_) ?_
    · obtain ⟨e', o⟩ := o
      exact ⟨e', get_new_any (by rw [get_kill_ne (by omega)]; exact get_new_any o)⟩
    · refine .inr ⟨(H.new ⟨[I64 x], e, false, full⟩).length, by simp, by rw [len_new]; omega, ?_⟩
      rw [get_new_eq (by rw [len_kill])]
      simp

/-- What a function value tells of three places. -/
def Tells (S : XS) (h : AH) (fv : Value) (i j k : Int) (num : Int → Int → Int → Int) : Prop :=
  ∀ a b c, (0 ≤ a ∧ a < i) → (0 ≤ b ∧ b < j) → (0 ≤ c ∧ c < k) → ∀ h1, h <+: h1 → ∀ Q : Value → AH → Prop, (∀ h2, h1 <+: h2 → Q (I64 (num a b c)) h2) → WK S fv [I64 a, I64 b, I64 c] h1 Q
def tenG (p j k : Int) (num : Int → Int → Int → Int) (n : Nat) : Int := (num ((n : Int) / k / j) ((n : Int) / k % j) ((n : Int) % k)).tmod p
def tenT (p i j k : Int) (num : Int → Int → Int → Int) : Ten := ⟨p, i, j, k, gen (i * j * k).toNat (tenG p j k num)⟩

structure TensS (t : Ten) (h0 h : AH) (b11 : Nat) (l : List Int) : Prop where
  hp : h0 <+: h
  lo : h0.length < b11 ∧ b11 < h.length
  g10 : ∃ c, c.length = 5 ∧ OwnB h h0.length c true
  g11 : ∃ sv, OwnB h b11 [I64 t.p, I64 t.i, I64 t.j, I64 t.k, sv] true ∧ Way h (b11 + 1) sv l

theorem i_tensor {p i j k : Int} {fv : Value} {num : Int → Int → Int → Int} {h : AH} {Q : Value → AH → Prop} (hp1 : 1 ≤ p) (fi : 1 ≤ i ∧ i ≤ 9) (fj : 1 ≤ j ∧ j ≤ 9) (fk : 1 ≤ k ∧ k ≤ 9)
    (hf : Tells S h fv i j k num) (hQ : ∀ v' h', h <+: h' → OwnR h h' v' (tenT p i j k num).ns → Q (tenV (tenT p i j k num) v') h') : WF S 178 [I64 p, I64 i, I64 j, I64 k, fv] h Q := by
  refine WF_fn (fn := c178) rfl rfl ?_
  unfold c178
  have ij := mul_in1 (A := 9) (B := 9) fi fj
  have ijk := mul_in1 (A := 81) (B := 9) ij fk
  try simp (maxSteps := 3000000) (disch := first | omega | (simp only [len_new, len_put, len_kill]; omega)) only [↓xpre, xpost, ↓reduceIte, Nat.reduceEqDiff, Nat.reduceAdd, Nat.reduceSub, Nat.reduceLeDiff, Nat.zero_add, Nat.sub_zero, fillL]
  generalize hH1 : AH.new h _ = H1
  obtain ⟨hb1, p1, n1⟩ := new_facts hH1
  generalize hH2 : AH.new H1 _ = H2
  obtain ⟨hb2, p2, n2⟩ := new_facts hH2
  refine WC_loop_inv (fun n f h1 => ∃ (a : Int), n = (i - a).toNat ∧ (0 ≤ a ∧ a ≤ i) ∧ f 0 = I64 p ∧ f 2 = I64 j ∧ f 3 = I64 k ∧ f 4 = fv ∧ f 10 = .pointer (some ⟨h.length, 0, none⟩) ∧ f 11 = .pointer (some ⟨H1.length, 0, none⟩) ∧
    f 20 = I64 i ∧ f 21 = I64 a ∧ TensS ⟨p, i, j, k, []⟩ h h1 H1.length (gen (a * j * k).toNat (tenG p j k num))) ?_ (i - 0).toNat _ _ ⟨0, rfl, by omega, rfl, rfl, rfl, rfl, rfl, rfl, rfl, rfl,
      ⟨p1.trans p2, by omega, ⟨_, rfl, _, pre_get p2 hb1⟩, _, ⟨_, hb2⟩, .inl ⟨rfl, by simp [gen]⟩⟩⟩
  rintro n fr h1 ⟨a, rfl, ha, f0, f2, f3, f4, f10, f11, f20, f21, st⟩
  try simp (maxSteps := 3000000) (disch := first | omega | (simp only [len_new, len_put, len_kill]; omega)) only [↓xpre, xpost, ↓reduceIte, Nat.reduceEqDiff, Nat.reduceAdd, Nat.reduceSub, Nat.reduceLeDiff, Nat.zero_add, Nat.sub_zero, f0, f2, f3, f4, f10, f11, f20, f21, IfW_dec]
  refine ⟨fun hlt => ?_, fun hge => ?_⟩
  · refine WC_loop_inv (fun n f h1 => ∃ (b : Int), n = (j - b).toNat ∧ (0 ≤ b ∧ b ≤ j) ∧ f 0 = I64 p ∧ f 2 = I64 j ∧ f 3 = I64 k ∧ f 4 = fv ∧ f 10 = .pointer (some ⟨h.length, 0, none⟩) ∧ f 11 = .pointer (some ⟨H1.length, 0, none⟩) ∧
      f 20 = I64 i ∧ f 21 = I64 a ∧ f 12 = I64 a ∧ f 24 = I64 j ∧ f 25 = I64 b ∧ TensS ⟨p, i, j, k, []⟩ h h1 H1.length (gen ((a * j + b) * k).toNat (tenG p j k num))) ?_ (j - 0).toNat _ _ ⟨0, rfl, by omega, f0, f2, f3, f4, f10, f11, f20, f21, rfl, rfl, rfl,
        by rw [Int.add_zero]; exact st⟩
    clear f0 f2 f3 f4 f10 f11 f20 f21 st
    rintro n fr h1 ⟨b, rfl, hb, f0, f2, f3, f4, f10, f11, f20, f21, f12, f24, f25, st⟩
    try simp (maxSteps := 3000000) (disch := first | omega | (simp only [len_new, len_put, len_kill]; omega)) only [↓xpre, xpost, ↓reduceIte, Nat.reduceEqDiff, Nat.reduceAdd, Nat.reduceSub, Nat.reduceLeDiff, Nat.zero_add, Nat.sub_zero, f0, f2, f3, f4, f10, f11, f20, f21, f12, f24, f25, IfW_dec]
    refine ⟨fun hltb => ?_, fun hge => ?_⟩
    · refine WC_loop_inv (fun n f h1 => ∃ (c : Int), n = (k - c).toNat ∧ (0 ≤ c ∧ c ≤ k) ∧ f 0 = I64 p ∧ f 2 = I64 j ∧ f 3 = I64 k ∧ f 4 = fv ∧ f 10 = .pointer (some ⟨h.length, 0, none⟩) ∧ f 11 = .pointer (some ⟨H1.length, 0, none⟩) ∧
        f 20 = I64 i ∧ f 21 = I64 a ∧ f 12 = I64 a ∧ f 24 = I64 j ∧ f 25 = I64 b ∧ f 13 = I64 b ∧ f 28 = I64 k ∧ f 29 = I64 c ∧ TensS ⟨p, i, j, k, []⟩ h h1 H1.length (gen ((a * j + b) * k + c).toNat (tenG p j k num))) ?_ (k - 0).toNat _ _
          ⟨0, rfl, by omega, f0, f2, f3, f4, f10, f11, f20, f21, f12, f24, f25, rfl, rfl, rfl, by rw [Int.add_zero]; exact st⟩
      clear f0 f2 f3 f4 f10 f11 f20 f21 f12 f24 f25 st
      rintro n fr h1 ⟨c, rfl, hc, f0, f2, f3, f4, f10, f11, f20, f21, f12, f24, f25, f13, f28, f29, st⟩
      obtain ⟨sv, ⟨t1, g11⟩, way⟩ := st.g11
      try simp (maxSteps := 3000000) (disch := first | omega | (simp only [len_new, len_put, len_kill]; omega)) only [↓xpre, xpost, ↓reduceIte, Nat.reduceEqDiff, Nat.reduceAdd, Nat.reduceSub, Nat.reduceLeDiff, Nat.zero_add, Nat.sub_zero, f0, f2, f3, f4, f10, f11, f20, f21, f12, f24, f25, f13, f28, f29, rd1_of g11, IfW_dec]
      refine ⟨fun hltc => ?_, fun hge => ?_⟩
      · have b1 := lin_in (i := a) (I := i) (j := b) (J := j) (by omega) (by omega)
        have b2 := lin_in b1.2 (j := c) (J := k) (by omega)
        refine hf a b c (by omega) (by omega) (by omega) h1 st.hp _ fun h2 p5 => ?_
        try simp (maxSteps := 3000000) (disch := first | omega | (simp only [len_new, len_put, len_kill]; omega)) only [↓xpre, xpost, ↓reduceIte, Nat.reduceEqDiff, Nat.reduceAdd, Nat.reduceSub, Nat.reduceLeDiff, Nat.zero_add, Nat.sub_zero, f0, f2, f3, f4, f10, f11, f20, f21, f12, f24, f25, f13, f28, f29, bin_rem, fillL, zrep]
        refine ⟨p5, ?_⟩
        have lo := st.lo
        have l5 := pre_len p5
        refine (way.pre p5).app (S := S) (by rw [gen_len]; omega) (by omega) fun sv' H' hl' hpre hown hw => ?_
        obtain ⟨t2, g11'⟩ := hown _ _ _ (by omega) ⟨t1, pre_get p5 g11⟩
        obtain ⟨c10, c11, c12⟩ := st.g10
        try simp (maxSteps := 3000000) (disch := first | omega | (simp only [len_new, len_put, len_kill]; omega)) only [↓xpre, xpost, ↓reduceIte, Nat.reduceEqDiff, Nat.reduceAdd, Nat.reduceSub, Nat.reduceLeDiff, Nat.zero_add, Nat.sub_zero, f0, f2, f3, f4, f10, f11, f20, f21, f12, f24, f25, f13, f28, f29, hw.one, hw.cells, wr_of g11', wrap64_in]
        refine InvQ_go (k - (c + 1)).toNat (by omega) ⟨c + 1, rfl, by omega, f0, f2, f3, f4, f10, f11, f20, f21, f12, f24, f25, f13, f28, rfl, ?_⟩
        refine ⟨pre_put (hpre h (by omega) (st.hp.trans p5)) (by omega), by rw [len_put]; omega, ⟨c10, c11, (hown _ _ _ (by omega) (c12.pre p5)).put_ne (by omega)⟩, sv', ⟨t2, ?_⟩, ?_⟩
        · rw [get_put_same (get_lt g11')]
        · have e1 : ((a * j + b) * k + (c + 1)).toNat = ((a * j + b) * k + c).toNat + 1 := by omega
          rw [e1, gen_succ]
          have e2 : tenG p j k num ((a * j + b) * k + c).toNat = (num a b c).tmod p := by
            have d1 := dec (a := a * j + b) (i := c) (I := k) (by omega)
            have d2 := dec (a := a) (i := b) (I := j) (by omega)
            unfold tenG
            rw [Int.toNat_of_nonneg (by omega), d1.1, d1.2, d2.1, d2.2]
          rw [e2]
          exact hw.put (by omega)
      · try simp (maxSteps := 3000000) (disch := first | omega | (simp only [len_new, len_put, len_kill]; omega)) only [↓xpre, xpost, ↓reduceIte, Nat.reduceEqDiff, Nat.reduceAdd, Nat.reduceSub, Nat.reduceLeDiff, Nat.zero_add, Nat.sub_zero, f0, f2, f3, f4, f10, f11, f20, f21, f12, f24, f25, wrap64_in]
        have e : c = k := by omega
        subst e
        refine InvQ_go (j - (b + 1)).toNat (by omega) ⟨b + 1, rfl, by omega, f0, f2, f3, f4, f10, f11, f20, f21, f12, f24, rfl, ?_⟩
        have e1 : (a * j + (b + 1)) * c = (a * j + b) * c + c := by rw [← Int.add_assoc, Int.add_mul (a * j + b), Int.one_mul]
        rw [e1]
        exact st
    · try simp (maxSteps := 3000000) (disch := first | omega | (simp only [len_new, len_put, len_kill]; omega)) only [↓xpre, xpost, ↓reduceIte, Nat.reduceEqDiff, Nat.reduceAdd, Nat.reduceSub, Nat.reduceLeDiff, Nat.zero_add, Nat.sub_zero, f0, f2, f3, f4, f10, f11, f20, f21, wrap64_in]
      have e : b = j := by omega
      subst e
      refine InvQ_go (i - (a + 1)).toNat (by omega) ⟨a + 1, rfl, by omega, f0, f2, f3, f4, f10, f11, f20, rfl, ?_⟩
      have e1 : (a + 1) * b * k = (a * b + b) * k := by rw [Int.add_mul a, Int.one_mul]
      rw [e1]
      exact st
  · have e : a = i := by omega
    subst e
    obtain ⟨sv, ⟨t1, g11⟩, way⟩ := st.g11
    obtain ⟨c, c3, t2, g2⟩ := st.g10
    have lo := st.lo
    obtain ⟨c0, c1, c2, c4, c5, rfl⟩ : ∃ a b d e g, c = [a, b, d, e, g] := by
      match c, c3 with
      | [a, b, d, e, g], _ => exact ⟨_, _, _, _, _, rfl⟩
    have l2 := get_lt g2
    try simp (maxSteps := 3000000) (disch := first | omega | (simp only [len_new, len_put, len_kill]; omega)) only [↓xpre, xpost, ↓reduceIte, Nat.reduceEqDiff, Nat.reduceAdd, Nat.reduceSub, Nat.reduceLeDiff, Nat.zero_add, Nat.sub_zero, f0, f2, f3, f4, f10, f11, f20, f21, rdn_of g11, wr_of g2, way.one]
    exact hQ _ _ (pre_put st.hp (Nat.le_refl _)) ((way.put (by omega)).ownR (by omega))

end Go.Proofs.Ytapafdpnmakekaa.X

/- The turn; marks and holds of tensors. -/
set_option linter.unusedVariables false
set_option linter.unusedSimpArgs false
namespace Go.Proofs.Ytapafdpnmakekaa.X
open Go Go.RowKit

theorem tat_in {t : Ten} {i j k : Int} (f : TF t) (hi : 0 ≤ i ∧ i < t.i) (hj : 0 ≤ j ∧ j < t.j) (hk : 0 ≤ k ∧ k < t.k) : 0 ≤ tat t i j k ∧ tat t i j k < t.p := by
  have b1 := lin_in hi hj
  have b2 := lin_in b1.2 hk
  exact f.num _ (by omega) (by rw [f.len]; omega)
/-- Places out of a number. -/
theorem places {n i j k : Int} (hn : 0 ≤ n ∧ n < i * j * k) (hj : 1 ≤ j) (hk : 1 ≤ k) : (0 ≤ n / k / j ∧ n / k / j < i) ∧ (0 ≤ n / k % j ∧ n / k % j < j) ∧ (0 ≤ n % k ∧ n % k < k) := by
  have h1 : n / k < i * j := Int.ediv_lt_of_lt_mul (by omega) hn.2
  have h2 : n / k / j < i := Int.ediv_lt_of_lt_mul (by omega) h1
  have h3 : 0 ≤ n / k := Int.ediv_nonneg (by omega) (by omega)
  exact ⟨⟨Int.ediv_nonneg h3 (by omega), h2⟩, ⟨Int.emod_nonneg _ (by omega), Int.emod_lt_of_pos _ (by omega)⟩, ⟨Int.emod_nonneg _ (by omega), Int.emod_lt_of_pos _ (by omega)⟩⟩

theorem i_turn1 {v : Value} {t : Ten} {i j k : Int} {h : AH} {n : Nat} {e : TypeId} {ro full : Bool} {Q : Value → AH → Prop} (hb : h.get n = some ⟨[I64 t.p, I64 t.i, I64 t.j, I64 t.k, v], e, ro, full⟩) (hv : Ints h v t.ns) (f : TF t)
    (hi : 0 ≤ i ∧ i < t.i) (hj : 0 ≤ j ∧ j < t.j) (hk : 0 ≤ k ∧ k < t.k) (hQ : ∀ h', h <+: h' → Q (I64 (tat t i j k)) h') : WF S 293 [I64 j, I64 k, I64 i, .pointer (some ⟨n, 0, none⟩)] h Q := by
  refine WF_fn (fn := c293) rfl rfl ?_
  unfold c293
  try simp (maxSteps := 3000000) (disch := first | omega | (simp only [len_new, len_put, len_kill]; omega)) only [↓xpre, xpost, ↓reduceIte, Nat.reduceEqDiff, Nat.reduceAdd, Nat.reduceSub, Nat.reduceLeDiff, Nat.zero_add, Nat.sub_zero, rdn_of hb]
  refine i_at (t := t) hv f hi hj hk fun h' hp => ?_
  try simp (maxSteps := 3000000) (disch := first | omega | (simp only [len_new, len_put, len_kill]; omega)) only [↓xpre, xpost, ↓reduceIte, Nat.reduceEqDiff, Nat.reduceAdd, Nat.reduceSub, Nat.reduceLeDiff, Nat.zero_add, Nat.sub_zero]
  exact hQ _ hp

theorem turn_eq {t : Ten} (f : TF t) : tenT t.p t.j t.k t.i (fun j k i => tat t i j k) = turnT t := by
  unfold tenT turnT
  congr 1
  refine gen_congr fun n hn => ?_
  unfold tenG turnG
  have h := places (n := n) (i := t.j) (j := t.k) (k := t.i) (by omega) f.k.1 f.i.1
  have b := tat_in f h.2.2 h.1 h.2.1
  exact Int.tmod_eq_of_lt b.1 b.2

theorem OwnR.put_ne {h0 h : AH} {v : Value} {ns : List Int} {n : Nat} {b : Blk} (o : OwnR h0 h v ns) (hn : n < h0.length) : OwnR h0 (h.put n b) v ns := by
  rcases o with ⟨rfl, rfl⟩ | ⟨m, e, full, h1, rfl, h2⟩
  · exact .inl ⟨rfl, rfl⟩
  · exact .inr ⟨m, e, full, h1, rfl, by rw [get_put_ne (by omega)]; exact h2⟩
theorem i_turn {v : Value} {t : Ten} {h : AH} {Q : Value → AH → Prop} (hv : Ints h v t.ns) (f : TF t)
    (hQ : ∀ v' h', h <+: h' → OwnR h h' v' (turnT t).ns → Q (tenV (turnT t) v') h') : WF S 193 [tenV t v] h Q := by
  refine WF_fn (fn := c193) rfl rfl ?_
  unfold c193
  try simp (maxSteps := 3000000) (disch := first | omega | (simp only [len_new, len_put, len_kill]; omega)) only [↓xpre, xpost, ↓reduceIte, Nat.reduceEqDiff, Nat.reduceAdd, Nat.reduceSub, Nat.reduceLeDiff, Nat.zero_add, Nat.sub_zero, tenV, hv.one]
  generalize hH1 : AH.new h _ = H1
  obtain ⟨hb1, p1, n1⟩ := new_facts hH1
  generalize hH2 : AH.new H1 _ = H2
  obtain ⟨hb2, p2, n2⟩ := new_facts hH2
  have hb1 := pre_get p2 hb1
  have hf : Tells S H2 (.func (.func 293) #[] #[.pointer (some ⟨h.length, 0, none⟩)]) t.j t.k t.i (fun j k i => tat t i j k) := by
    intro a b c ha hb hc h1 hp Q hQ
    rw [WK_func]
    exact i_turn1 (t := t) (pre_get hp hb1) (hv.pre ((p1.trans p2).trans hp)) f hc ha hb hQ
  refine i_tensor (num := fun j k i => tat t i j k) (by have := f.p; omega) f.j f.k f.i hf fun v' H3 p3 o => ?_
  rw [turn_eq f] at o ⊢
  have hb2 := pre_get p3 hb2
  have l3 := get_lt hb2
  try simp (maxSteps := 3000000) (disch := first | omega | (simp only [len_new, len_put, len_kill]; omega)) only [↓xpre, xpost, ↓reduceIte, Nat.reduceEqDiff, Nat.reduceAdd, Nat.reduceSub, Nat.reduceLeDiff, Nat.zero_add, Nat.sub_zero, tenV, o.ints.one, wr_of hb2]
  exact hQ v' _ (pre_put ((p1.trans p2).trans p3) (by omega)) ((o.put_ne (by omega)).lo (by omega))

def noT : Ten := ⟨0, 0, 0, 0, []⟩
def turnR (t : Ten) : Ten × Int := if isT t = true then (turnT t, 0) else (noT, 1)

theorem s_TurnTensor {v : Value} {t : Ten} {h : AH} {Q : Value → AH → Prop} (hv : Ints h v t.ns) (hl : (t.ns.length : Int) ≤ 1048576)
    (hQ : ∀ v' h', h <+: h' → OwnR h h' v' (turnR t).1.ns → Q (.tuple #[tenV (turnR t).1 v', I64 (turnR t).2]) h') : WF S 38 [tenV t v] h Q := by
  refine WF_fn (fn := c38) rfl rfl ?_
  unfold c38
  try simp (maxSteps := 3000000) (disch := first | omega | (simp only [len_new, len_put, len_kill]; omega)) only [↓xpre, xpost, ↓reduceIte, Nat.reduceEqDiff, Nat.reduceAdd, Nat.reduceSub, Nat.reduceLeDiff, Nat.zero_add, Nat.sub_zero, tenV, hv.one]
  generalize hH1 : AH.new h _ = H1
  obtain ⟨hb1, p1, n1⟩ := new_facts hH1
  generalize hH2 : AH.new H1 _ = H2
  obtain ⟨hb2, p2, n2⟩ := new_facts hH2
  have hb1 := pre_get p2 hb1
  refine s_l05Is (hv.pre (p1.trans p2)) hl fun H3 p3 => ?_
  have hb1 := pre_get p3 hb1
  have hb2 := pre_get p3 hb2
  have l3 := get_lt hb2
  cases ht : isT t with
  | false =>
    try simp (maxSteps := 3000000) (disch := first | omega | (simp only [len_new, len_put, len_kill]; omega)) only [↓xpre, xpost, ↓reduceIte, Nat.reduceEqDiff, Nat.reduceAdd, Nat.reduceSub, Nat.reduceLeDiff, Nat.zero_add, Nat.sub_zero, fillL, wr_of hb2]
    simp only [turnR, ht, Bool.false_eq_true, if_false] at hQ
    exact hQ (.slice none 0 0) _ (pre_put ((p1.trans p2).trans p3) (by omega)) (.inl ⟨rfl, rfl⟩)
  | true =>
    try simp (maxSteps := 3000000) (disch := first | omega | (simp only [len_new, len_put, len_kill]; omega)) only [↓xpre, xpost, ↓reduceIte, Nat.reduceEqDiff, Nat.reduceAdd, Nat.reduceSub, Nat.reduceLeDiff, Nat.zero_add, Nat.sub_zero, rdn_of hb1]
    refine s_l05Turn (hv.pre ((p1.trans p2).trans p3)) (isT_facts ht) fun v' H4 p4 o => ?_
    have hb2 := pre_get p4 hb2
    have l4 := get_lt hb2
    try simp (maxSteps := 3000000) (disch := first | omega | (simp only [len_new, len_put, len_kill]; omega)) only [↓xpre, xpost, ↓reduceIte, Nat.reduceEqDiff, Nat.reduceAdd, Nat.reduceSub, Nat.reduceLeDiff, Nat.zero_add, Nat.sub_zero, tenV, o.ints.one, wr_of hb2]
    simp only [turnR, ht, if_true] at hQ
    exact hQ v' _ (pre_put (((p1.trans p2).trans p3).trans p4) (by omega)) ((o.ownR.put_ne (by have := pre_len p3; omega)).lo (by have := pre_len p3; omega))

theorem i_TurnTensor {v : Value} {t : Ten} {h : AH} {Q : Value → AH → Prop} (hv : Ints h v t.ns) (hl : (t.ns.length : Int) ≤ 1048576)
    (hQ : ∀ v' h', h <+: h' → OwnR h h' v' (turnR t).1.ns → Q (.tuple #[tenV (turnR t).1 v', I64 (turnR t).2]) h') : WF S 37 [tenV t v] h Q := by
  refine WF_fn (fn := c37) rfl rfl ?_
  unfold c37
  try simp (maxSteps := 3000000) (disch := first | omega | (simp only [len_new, len_put, len_kill]; omega)) only [↓xpre, xpost, ↓reduceIte, Nat.reduceEqDiff, Nat.reduceAdd, Nat.reduceSub, Nat.reduceLeDiff, Nat.zero_add, Nat.sub_zero, tenV, hv.one]
  generalize hH1 : AH.new h _ = H1
  obtain ⟨hb1, p1, n1⟩ := new_facts hH1
  generalize hH2 : AH.new H1 _ = H2
  obtain ⟨hb2, p2, n2⟩ := new_facts hH2
  have hb1 := pre_get p2 hb1
  refine i_IsTensor (hv.pre (p1.trans p2)) hl fun H3 p3 => ?_
  have hb1 := pre_get p3 hb1
  have hb2 := pre_get p3 hb2
  have l3 := get_lt hb2
  cases ht : isT t with
  | false =>
    try simp (maxSteps := 3000000) (disch := first | omega | (simp only [len_new, len_put, len_kill]; omega)) only [↓xpre, xpost, ↓reduceIte, Nat.reduceEqDiff, Nat.reduceAdd, Nat.reduceSub, Nat.reduceLeDiff, Nat.zero_add, Nat.sub_zero, fillL, wr_of hb2]
    simp only [turnR, ht, Bool.false_eq_true, if_false] at hQ
    exact hQ (.slice none 0 0) _ (pre_put ((p1.trans p2).trans p3) (by omega)) (.inl ⟨rfl, rfl⟩)
  | true =>
    try simp (maxSteps := 3000000) (disch := first | omega | (simp only [len_new, len_put, len_kill]; omega)) only [↓xpre, xpost, ↓reduceIte, Nat.reduceEqDiff, Nat.reduceAdd, Nat.reduceSub, Nat.reduceLeDiff, Nat.zero_add, Nat.sub_zero, rdn_of hb1]
    refine i_turn (hv.pre ((p1.trans p2).trans p3)) (isT_facts ht) fun v' H4 p4 o => ?_
    have hb2 := pre_get p4 hb2
    have l4 := get_lt hb2
    try simp (maxSteps := 3000000) (disch := first | omega | (simp only [len_new, len_put, len_kill]; omega)) only [↓xpre, xpost, ↓reduceIte, Nat.reduceEqDiff, Nat.reduceAdd, Nat.reduceSub, Nat.reduceLeDiff, Nat.zero_add, Nat.sub_zero, tenV, o.ints.one, wr_of hb2]
    simp only [turnR, ht, if_true] at hQ
    exact hQ v' _ (pre_put (((p1.trans p2).trans p3).trans p4) (by omega)) ((o.put_ne (by have := pre_len p3; omega)).lo (by have := pre_len p3; omega))

theorem turnR_len (t : Ten) : (((turnR t).1.ns.length : Nat) : Int) ≤ 1048576 := by
  unfold turnR
  split
  · rename_i h
    have f := isT_facts h
    have jk := mul_in1 (A := 9) (B := 9) f.j f.k
    have jki := mul_in1 (A := 81) (B := 9) jk f.i
    simp only [turnT, gen_len]
    omega
  · simp [noT]
end Go.Proofs.Ytapafdpnmakekaa.X

/- Lists of lists of whole numbers. -/
set_option linter.unusedVariables false
set_option linter.unusedSimpArgs false
set_option maxRecDepth 20000
set_option maxHeartbeats 4000000
namespace Go.Proofs.Ytapafdpnmakekaa.X
open Go Go.RowKit

/-- A slice that reads values, one cell each. -/
def Vals (h : AH) (v : Value) (cs : List Value) : Prop :=
  (cs = [] ∧ ∃ t, t ≤ 2 ∧ v = .slice none 0 t) ∨
  ∃ b off blk, v = .slice (some ⟨b, off, none⟩) cs.length 1 ∧ h.get b = some blk ∧ off + cs.length ≤ blk.c.length ∧ ∀ i, i < cs.length → blk.c[off + i]? = some (cs.getD i undef)
section
variable {h h' : AH} {v : Value} {cs : List Value}
theorem Vals.pre (p : h <+: h') (hv : Vals h v cs) : Vals h' v cs := by
  rcases hv with hv | ⟨b, off, blk, h1, h2, h3, h4⟩
  · exact .inl hv
  · exact .inr ⟨b, off, blk, h1, pre_get p h2, h3, h4⟩
theorem Vals.len (hv : Vals h v cs) : lenV v = some (.int .i64 cs.length) := by
  rcases hv with ⟨rfl, t, _, rfl⟩ | ⟨b, off, blk, rfl, h2, h3, h4⟩ <;> rfl
theorem Vals.one (hv : Vals h v cs) : isOne v = true := by
  rcases hv with ⟨rfl, t, _, rfl⟩ | ⟨b, off, blk, rfl, h2, h3, h4⟩ <;> rfl
theorem Vals.cells (hv : Vals h v cs) : cellsL v = [v] := by
  rcases hv with ⟨rfl, t, _, rfl⟩ | ⟨b, off, blk, rfl, h2, h3, h4⟩ <;> rfl
theorem Vals.ix (hv : Vals h v cs) {k : IntKind} {j : Int} (h0 : 0 ≤ j) (h1 : j < cs.length) : ixsV 1 v (.int k j) = some (.pointer (some (pAt v 1 j))) := by
  rcases hv with ⟨rfl, t, _, rfl⟩ | ⟨b, off, blk, rfl, h2, h3, h4⟩
  · simp at h1; omega
  · simp [ixsV, h0, h1, pAt]
theorem Vals.rd (hv : Vals h v cs) {j : Int} (h0 : 0 ≤ j) (h1 : j < cs.length) : h.rd1 (pAt v 1 j).block (pAt v 1 j).off = some (cs.getD j.toNat undef) := by
  rcases hv with ⟨rfl, t, _, rfl⟩ | ⟨b, off, blk, rfl, h2, h3, h4⟩
  · simp at h1; omega
  · have := h4 j.toNat (by omega)
    simp [AH.rd1, pAt, h2, this]
end
/-- A list of lists. -/
def Rows (h : AH) (v : Value) (rows : List (List Int)) : Prop := ∃ cs, Vals h v cs ∧ cs.length = rows.length ∧ ∀ i, i < rows.length → Ints h (cs.getD i undef) (rows.getD i [])
theorem Rows.pre {h h' : AH} {v : Value} {rows : List (List Int)} (p : h <+: h') (hv : Rows h v rows) : Rows h' v rows := by
  obtain ⟨cs, h1, h2, h3⟩ := hv
  exact ⟨cs, h1.pre p, h2, fun i hi => (h3 i hi).pre p⟩
theorem Rows.one {h : AH} {v : Value} {rows : List (List Int)} (hv : Rows h v rows) : isOne v = true := by
  obtain ⟨cs, h1, h2, h3⟩ := hv
  exact h1.one

/-- All numbers of the rows ahead of one. -/
def tot (rows : List (List Int)) (i : Nat) : Int := ((rows.take i).map fun r => (r.length : Int)).sum
end Go.Proofs.Ytapafdpnmakekaa.X

/- Copies of lists of lists. -/
set_option linter.unusedVariables false
set_option linter.unusedSimpArgs false
set_option maxRecDepth 20000
set_option maxHeartbeats 4000000
namespace Go.Proofs.Ytapafdpnmakekaa.X
open Go Go.RowKit

theorem set_getD' {α : Type} {l : List α} {i j : Nat} {x d : α} (hi : i < l.length) : (l.set i x).getD j d = if j = i then x else l.getD j d := by
  rw [List.getD_eq_getElem?_getD, List.getD_eq_getElem?_getD, List.getElem?_set]
  by_cases h : i = j
  · subst h
    simp [hi]
  · rw [if_neg h, if_neg (fun e => h e.symm)]
theorem splice_set {l : List Value} {j : Nat} {x : Value} (hj : j < l.length) : splice l j [x] = l.set j x := by
  unfold splice
  rw [List.set_eq_take_append_cons_drop, if_pos hj]
  simp
/-- A list of lists of one's own, or nil: each row has a block for itself. -/
def OwnRows (h0 h : AH) (v : Value) (rows : List (List Int)) : Prop :=
  (v = .slice none 0 0 ∧ rows = []) ∨
  ∃ n e full cs, h0.length ≤ n ∧ v = .slice (some ⟨n, 0, none⟩) cs.length 1 ∧ h.get n = some ⟨cs, e, false, full⟩ ∧ cs.length = rows.length ∧
    (∀ i, i < rows.length → OwnR h0 h (cs.getD i undef) (rows.getD i []) ∧ blkOf (cs.getD i undef) ≠ some n) ∧
    ∀ i j, i < j → j < rows.length → ∀ b, blkOf (cs.getD i undef) = some b → blkOf (cs.getD j undef) ≠ some b
theorem OwnRows.rows {h0 h : AH} {v : Value} {rows : List (List Int)} (o : OwnRows h0 h v rows) : Rows h v rows := by
  rcases o with ⟨rfl, rfl⟩ | ⟨n, e, full, cs, h1, rfl, h2, h3, h4, h5⟩
  · exact ⟨[], .inl ⟨rfl, 0, by omega, rfl⟩, rfl, fun i hi => by simp at hi⟩
  · refine ⟨cs, .inr ⟨n, 0, _, rfl, h2, by simp, fun i hi => ?_⟩, h3, fun i hi => (h4 i hi).1.ints⟩
    rw [Nat.zero_add, List.getD_eq_getElem?_getD, List.getElem?_eq_getElem hi]
    rfl
theorem OwnRows.pre {h0 h h' : AH} {v : Value} {rows : List (List Int)} (o : OwnRows h0 h v rows) (p : h <+: h') : OwnRows h0 h' v rows := by
  rcases o with ⟨rfl, rfl⟩ | ⟨n, e, full, cs, h1, rfl, h2, h3, h4, h5⟩
  · exact .inl ⟨rfl, rfl⟩
  · exact .inr ⟨n, e, full, cs, h1, rfl, pre_get p h2, h3, fun i hi => ⟨(h4 i hi).1.pre p, (h4 i hi).2⟩, h5⟩

end Go.Proofs.Ytapafdpnmakekaa.X

/- Numbers modulo a prime: lists, remainders, inverses; matrices. -/
set_option linter.unusedVariables false
set_option linter.unusedSimpArgs false
set_option maxRecDepth 20000
set_option maxHeartbeats 4000000
namespace Go.Proofs.Ytapafdpnmakekaa.X
open Go Go.RowKit

def md (p x : Int) : Int := (x.tmod p + p).tmod p
theorem tmod_bound {x p : Int} (hp : 2 ≤ p) : -p < x.tmod p ∧ x.tmod p < p := by
  have h1 := Int.tmod_lt_of_pos x (show 0 < p by omega)
  have h2 := Int.tmod_lt_of_pos (-x) (show 0 < p by omega)
  rw [Int.neg_tmod] at h2
  omega
theorem tmod_nn {a J : Int} (ha : 0 ≤ a) (hJ : 1 ≤ J) : 0 ≤ a.tmod J ∧ a.tmod J < J := by
  rw [Int.tmod_eq_emod_of_nonneg ha]
  exact ⟨Int.emod_nonneg _ (by omega), Int.emod_lt_of_pos _ (by omega)⟩
theorem md_in {x p : Int} (hp : 2 ≤ p) : 0 ≤ md p x ∧ md p x < p := by
  have := tmod_bound (x := x) hp
  exact tmod_nn (by omega) (by omega)
/-- w is the least inverse. -/
def IsInv (p n w : Int) : Prop := 1 ≤ w ∧ w < p ∧ (w * n).tmod p = 1 ∧ ∀ k, 1 ≤ k → k < w → (k * n).tmod p ≠ 1
theorem inv_is {p n : Int} (hp : isP p = true) (hn : 1 ≤ n ∧ n < p) : ∃ w, IsInv p n w := by
  have hpp : p = 2 ∨ p = 3 ∨ p = 5 := by simpa [isP] using hp
  have one : IsInv p 1 1 → n = 1 → ∃ w, IsInv p n w := fun h e => ⟨1, by rw [e]; exact h⟩
  have hcase : (n = 1) ∨ (p = 3 ∧ n = 2) ∨ (p = 5 ∧ n = 2) ∨ (p = 5 ∧ n = 3) ∨ (p = 5 ∧ n = 4) := by omega
  rcases hcase with rfl | ⟨rfl, rfl⟩ | ⟨rfl, rfl⟩ | ⟨rfl, rfl⟩ | ⟨rfl, rfl⟩
  · refine ⟨1, by omega, by omega, ?_, fun k h1 h2 => by omega⟩
    exact Int.tmod_eq_of_lt (by omega) (by omega)
  · refine ⟨2, by omega, by omega, by decide, fun k h1 h2 => ?_⟩
    have : k = 1 := by omega
    subst this
    decide
  · refine ⟨3, by omega, by omega, by decide, fun k h1 h2 => ?_⟩
    have : k = 1 ∨ k = 2 := by omega
    rcases this with rfl | rfl <;> decide
  · refine ⟨2, by omega, by omega, by decide, fun k h1 h2 => ?_⟩
    have : k = 1 := by omega
    subst this
    decide
  · refine ⟨4, by omega, by omega, by decide, fun k h1 h2 => ?_⟩
    have : k = 1 ∨ k = 2 ∨ k = 3 := by omega
    rcases this with rfl | rfl | rfl <;> decide

theorem i_inverse {p n w : Int} {h : AH} {Q : Value → AH → Prop} (hp : 2 ≤ p ∧ p ≤ 5) (hn : 1 ≤ n ∧ n < p) (hw : IsInv p n w) (hQ : Q (I64 w) h) : WF S 243 [I64 p, I64 n] h Q := by
  refine WF_fn (fn := c243) rfl rfl ?_
  unfold c243
  try simp (maxSteps := 3000000) (disch := first | omega | (simp only [len_new, len_put, len_kill]; omega)) only [↓xpre, xpost, ↓reduceIte, Nat.reduceEqDiff, Nat.reduceAdd, Nat.reduceSub, Nat.reduceLeDiff, Nat.zero_add, Nat.sub_zero]
  obtain ⟨w1, w2, w3, w4⟩ := hw
  refine WC_loop_inv (fun m f h1 => ∃ k : Int, m = (w - k).toNat ∧ (1 ≤ k ∧ k ≤ w) ∧ f 0 = I64 p ∧ f 1 = I64 n ∧ f 5 = I64 k ∧ h1 = h) ?_ (w - 1).toNat _ _ ⟨1, rfl, by omega, rfl, rfl, rfl, rfl⟩
  rintro m f h1 ⟨k, rfl, hk, f0, f1, f5, rfl⟩
  have b := mul_in (a := k) (b := n) (A := 5) (B := 5) (by omega) (by omega)
  try simp (maxSteps := 3000000) (disch := first | omega | (simp only [len_new, len_put, len_kill]; omega)) only [↓xpre, xpost, ↓reduceIte, Nat.reduceEqDiff, Nat.reduceAdd, Nat.reduceSub, Nat.reduceLeDiff, Nat.zero_add, Nat.sub_zero, f0, f1, f5, wrap64_in, bin_rem, IfW_dec]
  refine ⟨fun he => ?_, fun he => ?_⟩
  · have : k = w := Decidable.byContradiction fun hne => w4 k hk.1 (by omega) he
    subst this
    exact hQ
  · have : k ≠ w := fun e => he (by rw [e]; exact w3)
    try simp (maxSteps := 3000000) (disch := first | omega | (simp only [len_new, len_put, len_kill]; omega)) only [↓xpre, xpost, ↓reduceIte, Nat.reduceEqDiff, Nat.reduceAdd, Nat.reduceSub, Nat.reduceLeDiff, Nat.zero_add, Nat.sub_zero, f0, f1, f5, wrap64_in]
    exact InvQ_go (w - (k + 1)).toNat (by omega) ⟨k + 1, rfl, by omega, f0, f1, rfl, rfl⟩
end Go.Proofs.Ytapafdpnmakekaa.X

/- Matrices modulo a prime: the test; copies of one list. -/
set_option linter.unusedVariables false
set_option linter.unusedSimpArgs false
set_option maxRecDepth 20000
set_option maxHeartbeats 4000000
namespace Go.Proofs.Ytapafdpnmakekaa.X
open Go Go.RowKit

end Go.Proofs.Ytapafdpnmakekaa.X

/- Copies by append onto an empty slice: slices.Clone. -/
set_option linter.unusedVariables false
set_option linter.unusedSimpArgs false
set_option maxRecDepth 20000
set_option maxHeartbeats 4000000
namespace Go.Proofs.Ytapafdpnmakekaa.X
open Go Go.RowKit

def isnilV (neg : Bool) (x : Value) : Option Value := match x with
  | .slice none 0 0 => some (.bool (!neg))
  | .slice (some _) _ _ => some (.bool neg)
  | _ => none
theorem isnilV_some {neg : Bool} {a : Addr} {n c : Nat} : isnilV neg (.slice (some a) n c) = some (.bool neg) := rfl
theorem WX_isnil {S : XS} {f : Fr} {h : AH} {Q : Value → AH → Prop} {neg : Bool} {x : Operand} : WX S (.isnil neg x) f h Q = WV (isnilV neg (ev f x)) fun v => Q v h := by
  rw [WX_op (fun _ => rfl)]
  have : xop (.isnil neg x) f h = (isnilV neg (ev f x)).map (·, h) := by
    simp only [xop, isnilV]
    split <;> simp_all
  rw [this]
  cases isnilV neg (ev f x) <;> simp [OQ_some, WV_some, OQ_none, WV_none]

theorem Ints.vals {h : AH} {v : Value} {ns : List Int} (hv : Ints h v ns) : Vals h v (ns.map (Value.int .i64)) := by
  rcases hv with ⟨rfl, t, ht, rfl⟩ | ⟨b, off, blk, rfl, h2, h3, h4⟩
  · exact .inl ⟨rfl, t, ht, rfl⟩
  · refine .inr ⟨b, off, blk, by simp, h2, by simpa using h3, fun i hi => ?_⟩
    have hi' : i < ns.length := by simpa using hi
    rw [h4 i hi']
    simp [List.getD_eq_getElem?_getD, List.getElem?_map, List.getElem?_eq_getElem hi']
theorem Vals.rdn {h : AH} {v : Value} {cs : List Value} (hv : Vals h v cs) (h0 : 0 < cs.length) : ∃ n off, v = .slice (some ⟨n, off, none⟩) cs.length 1 ∧ h.rdn n off cs.length = some cs := by
  rcases hv with ⟨rfl, t, _, rfl⟩ | ⟨b, off, blk, rfl, h2, h3, h4⟩
  · simp at h0
  · refine ⟨b, off, rfl, ?_⟩
    rw [rdn_of h2, if_pos h3]
    congr 1
    refine List.ext_getElem? fun j => ?_
    by_cases hj : j < cs.length
    · rw [List.getElem?_take, if_pos hj, List.getElem?_drop, h4 j hj, List.getD_eq_getElem?_getD, List.getElem?_eq_getElem hj]
      rfl
    · rw [List.getElem?_eq_none (by simp; omega), List.getElem?_eq_none (by omega)]
theorem app_zero {e : TypeId} {bytes : Nat} {h : AH} {k n' off m : Nat} {news : List Value} {full : Bool} (hk : h.get k = some ⟨[], e, false, full⟩) (hn : h.rdn n' off m = some news) (hm : 0 < m)
    (hs : (m : Int) * bytes ≤ 140737488355328 ∧ (m : Int) ≤ 9223372036854775807) :
    appV e 1 bytes (.slice (some ⟨k, 0, none⟩) 0 1) (.slice (some ⟨n', off, none⟩) m 1) h = some (.slice (some ⟨h.length, 0, none⟩) m 1, (h.kill k).new ⟨news, e, false, false⟩) := by
  simp only [appV, xop, ev, if_true, Nat.mul_one, hn, hk]
  rw [if_pos (by simpa using hs), if_neg (by omega)]
  simp

theorem OwnR.of {h0 h : AH} {v : Value} {ns : List Int} {n : Nat} {e : TypeId} {full : Bool} (h1 : h0.length ≤ n) (e1 : v = .slice (some ⟨n, 0, none⟩) ns.length 1) (hb : h.get n = some ⟨ns.map (Value.int .i64), e, false, full⟩) : OwnR h0 h v ns := .inr ⟨n, e, full, h1, e1, hb⟩
end Go.Proofs.Ytapafdpnmakekaa.X

/- Elimination, plainly. -/
set_option linter.unusedVariables false
set_option linter.unusedSimpArgs false
set_option maxRecDepth 20000
set_option maxHeartbeats 4000000
namespace Go.Proofs.Ytapafdpnmakekaa.X
open Go Go.RowKit

theorem Ints.put_ne {h : AH} {v : Value} {ns : List Int} {n : Nat} {b : Blk} (hv : Ints h v ns) (hn : blkOf v ≠ some n) : Ints (h.put n b) v ns := by
  rcases hv with hv | ⟨m, off, blk, rfl, h2, h3, h4⟩
  · exact .inl hv
  · exact .inr ⟨m, off, blk, rfl, by rw [get_put_ne (fun e => hn (by rw [e]; rfl))]; exact h2, h3, h4⟩
theorem Ints.kill_ne {h : AH} {v : Value} {ns : List Int} {n : Nat} (hv : Ints h v ns) (hn : blkOf v ≠ some n) : Ints (h.kill n) v ns := by
  rcases hv with hv | ⟨m, off, blk, rfl, h2, h3, h4⟩
  · exact .inl hv
  · exact .inr ⟨m, off, blk, rfl, by rw [get_kill_ne (fun e => hn (by rw [e]; rfl))]; exact h2, h3, h4⟩
theorem Ints.lt {h : AH} {v : Value} {ns : List Int} (hv : Ints h v ns) : ∀ n, blkOf v = some n → n < h.length := by
  intro n hn
  rcases hv with ⟨_, t, _, rfl⟩ | ⟨m, off, blk, rfl, h2, h3, h4⟩
  · cases hn
  · cases hn
    exact get_lt h2

/-- A number of a table. -/
def tb (T : List (List Int)) (i c : Nat) : Int := (T.getD i []).getD c 0
open Classical in
noncomputable def invN (p n : Int) : Int := if h : ∃ w, IsInv p n w then Classical.choose h else 0
theorem invN_is {p n : Int} (hp : isP p = true) (hn : 1 ≤ n ∧ n < p) : IsInv p n (invN p n) := by
  have h := inv_is hp hn
  unfold invN
  rw [dif_pos h]
  exact Classical.choose_spec h
/-- The first row from r on whose number in column c is other than 0; else the number of rows. -/
def pivot (T : List (List Int)) (c : Nat) : Nat → Nat → Nat
  | 0, r => r
  | m + 1, r => if tb T r c = 0 then pivot T c m (r + 1) else r
noncomputable def rowOp (p : Int) (own row : List Int) (c : Nat) : List Int :=
  gen row.length fun l => md p (row.getD l 0 - (row.getD c 0 * invN p (own.getD c 0)).tmod p * own.getD l 0)
def swapped (T : List (List Int)) (r i : Nat) : List (List Int) := (T.set i (T.getD r [])).set r (T.getD i [])
/-- The rows behind r, changed as far as k. -/
noncomputable def swept (p : Int) (T : List (List Int)) (r c k : Nat) : List (List Int) :=
  (List.range T.length).map fun j => if r < j ∧ j < k then rowOp p (T.getD r []) (T.getD j []) c else T.getD j []
noncomputable def colStep (p : Int) (T : List (List Int)) (r c : Nat) : List (List Int) × Nat :=
  if pivot T c (T.length - r) r = T.length then (T, r) else (swept p (swapped T r (pivot T c (T.length - r) r)) r c T.length, r + 1)
noncomputable def elim : Int → List (List Int) → Nat → Nat → Nat → Nat
  | p, T, r, c, 0 => r
  | p, T, r, c, m + 1 => elim p (colStep p T r c).1 (colStep p T r c).2 (c + 1) m
noncomputable def rankN (p : Int) (T : List (List Int)) : Nat := elim p T 0 0 (T.getD 0 []).length

/-- A table of rows of one width, of numbers modulo p. -/
def Good (p : Int) (T : List (List Int)) (w : Nat) : Prop := ∀ i, i < T.length → (T.getD i []).length = w ∧ ∀ l, l < w → 0 ≤ tb T i l ∧ tb T i l < p

theorem pivot_le {T : List (List Int)} {c : Nat} : ∀ {m r : Nat}, r ≤ pivot T c m r ∧ pivot T c m r ≤ r + m
  | 0, r => by simp [pivot]
  | m + 1, r => by
    unfold pivot
    split
    · have := pivot_le (T := T) (c := c) (m := m) (r := r + 1)
      omega
    · omega
theorem pivot_ne {T : List (List Int)} {c : Nat} : ∀ {m r : Nat}, pivot T c m r < r + m → tb T (pivot T c m r) c ≠ 0
  | 0, r, h => by simp [pivot] at h
  | m + 1, r, h => by
    unfold pivot at h ⊢
    split
    · rename_i h0
      rw [if_pos h0] at h
      exact pivot_ne (by omega)
    · rename_i h0
      exact h0
theorem swept_len {p : Int} {T : List (List Int)} {r c k : Nat} : (swept p T r c k).length = T.length := by simp [swept]
theorem swept_get {p : Int} {T : List (List Int)} {r c k j : Nat} (hj : j < T.length) : (swept p T r c k).getD j [] = if r < j ∧ j < k then rowOp p (T.getD r []) (T.getD j []) c else T.getD j [] := by
  simp [swept, List.getD_eq_getElem?_getD, List.getElem?_map, List.getElem?_range hj]
theorem getD_ext {T T' : List (List Int)} (hl : T.length = T'.length) (h : ∀ j, j < T.length → T.getD j [] = T'.getD j []) : T = T' := by
  refine List.ext_getElem? fun j => ?_
  by_cases h1 : j < T.length
  · have := h j h1
    rw [List.getElem?_eq_getElem h1, List.getElem?_eq_getElem (by omega)]
    simpa [List.getD_eq_getElem?_getD, List.getElem?_eq_getElem h1, List.getElem?_eq_getElem (show j < T'.length by omega)] using this
  · rw [List.getElem?_eq_none (by omega), List.getElem?_eq_none (by omega)]
theorem swept_start {p : Int} {T : List (List Int)} {r c : Nat} : swept p T r c (r + 1) = T := by
  refine getD_ext swept_len fun j hj => ?_
  rw [swept_len] at hj
  rw [swept_get hj, if_neg (by omega)]
theorem swept_next {p : Int} {T : List (List Int)} {r c k : Nat} (hr : r < k) (hk : k < T.length) : swept p T r c (k + 1) = (swept p T r c k).set k (rowOp p (T.getD r []) (T.getD k []) c) := by
  refine getD_ext (by rw [List.length_set, swept_len, swept_len]) fun j hj => ?_
  rw [swept_len] at hj
  rw [set_getD' (by rw [swept_len]; omega), swept_get hj, swept_get hj]
  by_cases h : j = k
  · subst h
    rw [if_pos (by omega), if_pos rfl]
  · rw [if_neg h]
    by_cases h2 : r < j ∧ j < k
    · rw [if_pos h2, if_pos (by omega)]
    · rw [if_neg h2, if_neg (by omega)]
theorem swapped_len {T : List (List Int)} {r i : Nat} : (swapped T r i).length = T.length := by simp [swapped]
theorem swapped_get {T : List (List Int)} {r i j : Nat} (hr : r < T.length) (hi : i < T.length) : (swapped T r i).getD j [] = if j = r then T.getD i [] else if j = i then T.getD r [] else T.getD j [] := by
  unfold swapped
  rw [set_getD' (by simpa using hr)]
  split
  · rfl
  · rw [set_getD' hi]
theorem Good.swapped {p : Int} {T : List (List Int)} {w r i : Nat} (g : Good p T w) (hr : r < T.length) (hi : i < T.length) : Good p (swapped T r i) w := by
  intro j hj
  rw [swapped_len] at hj
  unfold tb
  rw [swapped_get hr hi]
  split
  · exact g i hi
  · split
    · exact g r hr
    · exact g j hj
theorem Good.swept {p : Int} {T : List (List Int)} {w r c k : Nat} (g : Good p T w) (hp : 2 ≤ p) : Good p (swept p T r c k) w := by
  intro j hj
  rw [swept_len] at hj
  unfold tb
  rw [swept_get hj]
  split
  · unfold rowOp
    rw [gen_len, (g j hj).1]
    refine ⟨rfl, fun l hl => ?_⟩
    rw [gen_get hl]
    exact md_in hp
  · exact g j hj
theorem Good.colStep {p : Int} {T : List (List Int)} {w r c : Nat} (g : Good p T w) (hp : 2 ≤ p) (hr : r ≤ T.length) : Good p (colStep p T r c).1 w ∧ (colStep p T r c).1.length = T.length ∧ (colStep p T r c).2 ≤ T.length := by
  unfold X.colStep
  split
  · exact ⟨g, rfl, hr⟩
  · rename_i hne
    have h1 := pivot_le (T := T) (c := c) (m := T.length - r) (r := r)
    exact ⟨(g.swapped (by omega) (by omega)).swept hp, by rw [swept_len, swapped_len], by simp only; omega⟩
/-- No row is left: nothing changes any more. -/
theorem elim_full {p : Int} : ∀ {m : Nat} {T : List (List Int)} {r c : Nat}, r = T.length → elim p T r c m = r
  | 0, T, r, c, h => rfl
  | m + 1, T, r, c, h => by
    unfold elim
    have : colStep p T r c = (T, r) := by
      unfold colStep
      rw [if_pos (by subst h; simp [pivot])]
    rw [this]
    exact elim_full h
end Go.Proofs.Ytapafdpnmakekaa.X

/- The rank of the reference. -/
set_option linter.unusedVariables false
set_option linter.unusedSimpArgs false
set_option maxRecDepth 20000
set_option maxHeartbeats 4000000
namespace Go.Proofs.Ytapafdpnmakekaa.X
open Go Go.RowKit

/-- A list under way in a block of its own. -/
def WayF (h : AH) (lo : Nat) (sv : Value) (l : List Int) : Prop :=
  ∃ kb full, sv = .slice (some ⟨kb, 0, none⟩) l.length 1 ∧ lo ≤ kb ∧ h.get kb = some ⟨l.map (Value.int .i64), 2, false, full⟩
/-- What lies below a place stays. -/
def Keeps (lo : Nat) (h h' : AH) : Prop := h.length ≤ h'.length ∧ ∀ n b, n < lo → h.get n = some b → h'.get n = some b
theorem Ints.keeps {lo : Nat} {h h' : AH} {v : Value} {ns : List Int} (hv : Ints h v ns) (k : Keeps lo h h') (hb : ∀ n, blkOf v = some n → n < lo) : Ints h' v ns := by
  rcases hv with hv | ⟨m, off, blk, rfl, h2, h3, h4⟩
  · exact .inl hv
  · exact .inr ⟨m, off, blk, rfl, k.2 m blk (hb m rfl) h2, h3, h4⟩
theorem WayF.app {H : AH} {lo : Nat} {sv : Value} {l : List Int} {x : Int} {e : TypeId} {full : Bool} (w : WayF H lo sv l) (hl : (l.length : Int) ≤ 1048576) {Q : Value → AH → Prop}
    (hQ : ∀ sv' H', Keeps lo H H' → (∀ h0 : AH, h0.length ≤ lo → h0 <+: H → h0 <+: H') → WayF H' lo sv' (l ++ [x]) → Q sv' H') :
    OQ (appV 2 1 8 sv (.slice (some ⟨H.length, 0, none⟩) 1 1) (H.new ⟨[I64 x], e, false, full⟩)) Q := by
  have hn : (H.new ⟨[I64 x], e, false, full⟩).rdn H.length 0 1 = some [I64 x] := by rw [rdn_new_same]; rfl
  obtain ⟨kb, fu, rfl, h2, h3⟩ := w
  have hk : (H.new ⟨[I64 x], e, false, full⟩).get kb = some ⟨l.map (Value.int .i64), 2, false, fu⟩ := get_new_any h3
  have hkb := get_lt h3
  rw [app_own hk (by simp) hn (by omega), OQ_some]
  refine hQ _ _ ⟨by rw [len_new, len_kill, len_new]; omega, fun n b hn hb => get_new_any (by rw [get_kill_ne (by omega)]; exact get_new_any hb)⟩ (fun h0 q p => pre_new (pre_kill (pre_new p) (by omega))) ?_
  refine ⟨(H.new ⟨[I64 x], e, false, full⟩).length, false, by simp, by rw [len_new]; omega, ?_⟩
  rw [get_new_eq (by rw [len_kill])]
  simp

/-- The state of an elimination by new rows. -/
structure RankS (h0 h : AH) (n0 : Nat) (cs : List Value) (T : List (List Int)) : Prop where
  hp : h0 <+: h
  lo : h0.length ≤ n0
  g : OwnB h n0 cs false
  len : cs.length = T.length
  rows : ∀ i, i < T.length → Ints h (cs.getD i undef) (T.getD i []) ∧ blkOf (cs.getD i undef) ≠ some n0
theorem RankS.vals {h0 h : AH} {n0 : Nat} {cs : List Value} {T : List (List Int)} (s : RankS h0 h n0 cs T) : Vals h (.slice (some ⟨n0, 0, none⟩) T.length 1) cs := by
  obtain ⟨e, hg⟩ := s.g
  refine .inr ⟨n0, 0, _, by rw [s.len], hg, by simp, fun i hi => ?_⟩
  rw [Nat.zero_add, List.getD_eq_getElem?_getD, List.getElem?_eq_getElem hi]
  rfl
theorem RankS.lt {h0 h : AH} {n0 : Nat} {cs : List Value} {T : List (List Int)} (s : RankS h0 h n0 cs T) : n0 < h.length := s.g.choose_spec |> get_lt
theorem RankS.pre {h0 h h' : AH} {n0 : Nat} {cs : List Value} {T : List (List Int)} (s : RankS h0 h n0 cs T) (p : h <+: h') : RankS h0 h' n0 cs T := by
  obtain ⟨e, hg⟩ := s.g
  exact ⟨s.hp.trans p, s.lo, ⟨e, pre_get p hg⟩, s.len, fun i hi => ⟨(s.rows i hi).1.pre p, (s.rows i hi).2⟩⟩
theorem RankS.keeps {h0 h h' : AH} {n0 lo : Nat} {cs : List Value} {T : List (List Int)} (s : RankS h0 h n0 cs T) (k : Keeps lo h h') (hh : h0 <+: h') (h1 : n0 < lo) (h2 : ∀ i, i < T.length → ∀ n, blkOf (cs.getD i undef) = some n → n < lo) : RankS h0 h' n0 cs T := by
  obtain ⟨e, hg⟩ := s.g
  exact ⟨hh, s.lo, ⟨e, k.2 _ _ h1 hg⟩, s.len, fun i hi => ⟨(s.rows i hi).1.keeps k (h2 i hi), (s.rows i hi).2⟩⟩
/-- A row put in. -/
theorem RankS.put {h0 h : AH} {n0 : Nat} {cs : List Value} {T T' : List (List Int)} (s : RankS h0 h n0 cs T) {i : Nat} {x : Value} {r : List Int} {e : TypeId} (hi : i < T.length) (hT : T' = T.set i r)
    (hx : Ints h x r) (hb : blkOf x ≠ some n0) : RankS h0 (h.put n0 ⟨cs.set i x, e, false, false⟩) n0 (cs.set i x) T' := by
  subst hT
  have hlt := s.lt
  refine ⟨pre_put s.hp s.lo, s.lo, ⟨e, get_put_same hlt⟩, by simp [s.len], fun j hj => ?_⟩
  have hl := s.len
  rw [List.length_set] at hj
  rw [set_getD' (by omega), set_getD' hi]
  by_cases h : j = i
  · rw [if_pos h, if_pos h]
    exact ⟨hx.put_ne hb, hb⟩
  · rw [if_neg h, if_neg h]
    exact ⟨(s.rows j hj).1.put_ne (s.rows j hj).2, (s.rows j hj).2⟩
theorem RankS.blk {h0 h : AH} {n0 : Nat} {cs : List Value} {T : List (List Int)} (s : RankS h0 h n0 cs T) : ∀ i, i < T.length → ∀ n, blkOf (cs.getD i undef) = some n → n < h.length := fun i hi => (s.rows i hi).1.lt
end Go.Proofs.Ytapafdpnmakekaa.X

/- The rank of the reference: the walk. -/
set_option linter.unusedVariables false
set_option linter.unusedSimpArgs false
set_option maxRecDepth 20000
set_option maxHeartbeats 4000000
namespace Go.Proofs.Ytapafdpnmakekaa.X
open Go Go.RowKit

end Go.Proofs.Ytapafdpnmakekaa.X

/- RowRank of the reference. -/
set_option linter.unusedVariables false
set_option linter.unusedSimpArgs false
set_option maxRecDepth 20000
set_option maxHeartbeats 4000000
namespace Go.Proofs.Ytapafdpnmakekaa.X
open Go Go.RowKit

def width (rows : List (List Int)) : Nat := (rows.getD 0 []).length
end Go.Proofs.Ytapafdpnmakekaa.X

/- slices.IndexFunc over rows. -/
set_option linter.unusedVariables false
set_option linter.unusedSimpArgs false
set_option maxRecDepth 20000
set_option maxHeartbeats 4000000
namespace Go.Proofs.Ytapafdpnmakekaa.X
open Go Go.RowKit

/-- The first place from i on, among m, that a test likes; else -1. -/
def firstAt (q : Nat → Bool) : Nat → Nat → Int
  | 0, i => -1
  | m + 1, i => if q i = true then i else firstAt q m (i + 1)
theorem i_IndexRows {v fv : Value} {cs : List Value} {q : Nat → Bool} {h : AH} {Q : Value → AH → Prop} (hv : Vals h v cs) (hl : (cs.length : Int) ≤ 1048576)
    (hf : ∀ i, i < cs.length → ∀ Q : Value → AH → Prop, Q (.bool (q i)) h → WK S fv [cs.getD i undef] h Q)
    (hQ : Q (I64 (firstAt q cs.length 0)) h) : WF S 312 [v, fv] h Q := by
  refine WF_fn (fn := c312) rfl rfl ?_
  unfold c312
  try simp (maxSteps := 3000000) (disch := first | omega | (simp only [len_new, len_put, len_kill]; omega)) only [↓xpre, xpost, ↓reduceIte, Nat.reduceEqDiff, Nat.reduceAdd, Nat.reduceSub, Nat.reduceLeDiff, Nat.zero_add, Nat.sub_zero, hv.len]
  refine WC_loop_inv (fun m f h1 => ∃ i : Nat, m = cs.length - i ∧ i ≤ cs.length ∧ f 0 = v ∧ f 1 = fv ∧ f 7 = I64 cs.length ∧ f 8 = I64 i ∧ h1 = h ∧ firstAt q (cs.length - i) i = firstAt q cs.length 0) ?_ cs.length _ _ ⟨0, rfl, Nat.zero_le _, rfl, rfl, rfl, rfl, rfl, rfl⟩
  rintro m f h1 ⟨i, rfl, hi, f0, f1, f7, f8, rfl, hj⟩
  try simp (maxSteps := 3000000) (disch := first | omega | (simp only [len_new, len_put, len_kill]; omega)) only [↓xpre, xpost, ↓reduceIte, Nat.reduceEqDiff, Nat.reduceAdd, Nat.reduceSub, Nat.reduceLeDiff, Nat.zero_add, Nat.sub_zero, f0, f1, f7, f8, IfW_dec]
  refine ⟨fun hlt => ?_, fun hge => ?_⟩
  · have hi' : i < cs.length := by omega
    have hix := hv.ix (k := .i64) (j := i) (by omega) (by omega)
    have hrd := hv.rd (j := i) (by omega) (by omega)
    have hstep : firstAt q (cs.length - i) i = if q i = true then (i : Int) else firstAt q (cs.length - (i + 1)) (i + 1) := by
      rw [show cs.length - i = (cs.length - (i + 1)) + 1 by omega]
      rfl
    try simp (maxSteps := 3000000) (disch := first | omega | (simp only [len_new, len_put, len_kill]; omega)) only [↓xpre, xpost, ↓reduceIte, Nat.reduceEqDiff, Nat.reduceAdd, Nat.reduceSub, Nat.reduceLeDiff, Nat.zero_add, Nat.sub_zero, f0, f1, f7, f8, hix, hrd, Int.toNat_natCast]
    refine hf i hi' _ ?_
    cases hq : q i with
    | true =>
      try simp (maxSteps := 3000000) (disch := first | omega | (simp only [len_new, len_put, len_kill]; omega)) only [↓xpre, xpost, ↓reduceIte, Nat.reduceEqDiff, Nat.reduceAdd, Nat.reduceSub, Nat.reduceLeDiff, Nat.zero_add, Nat.sub_zero, f0, f1, f7, f8]
      rw [← hj, hstep, if_pos hq] at hQ
      exact hQ
    | false =>
      try simp (maxSteps := 3000000) (disch := first | omega | (simp only [len_new, len_put, len_kill]; omega)) only [↓xpre, xpost, ↓reduceIte, Nat.reduceEqDiff, Nat.reduceAdd, Nat.reduceSub, Nat.reduceLeDiff, Nat.zero_add, Nat.sub_zero, f0, f1, f7, f8, wrap64_in]
      refine InvQ_go (cs.length - (i + 1)) (by omega) ⟨i + 1, rfl, by omega, f0, f1, f7, rfl, rfl, ?_⟩
      rw [← hj, hstep, if_neg (by rw [hq]; simp)]
  · have e : i = cs.length := by omega
    subst e
    try simp (maxSteps := 3000000) (disch := first | omega | (simp only [len_new, len_put, len_kill]; omega)) only [↓xpre, xpost, ↓reduceIte, Nat.reduceEqDiff, Nat.reduceAdd, Nat.reduceSub, Nat.reduceLeDiff, Nat.zero_add, Nat.sub_zero, f0, f1, f7, f8]
    rw [← hj, Nat.sub_self] at hQ
    exact hQ
theorem i_rank1 {v : Value} {ns : List Int} {c : Nat} {n : Nat} {e : TypeId} {ro full : Bool} {h : AH} {Q : Value → AH → Prop} (hv : Ints h v ns) (hc : c < ns.length) (hb : h.get n = some ⟨[I64 c], e, ro, full⟩)
    (hQ : Q (.bool (decide (ns.getD c 0 ≠ 0))) h) : WF S 313 [v, .pointer (some ⟨n, 0, none⟩)] h Q := by
  refine WF_fn (fn := c313) rfl rfl ?_
  unfold c313
  have hix := hv.ix (k := .i64) (j := c) (by omega) (by omega)
  have hrd := hv.rd (j := c) (by omega) (by omega)
  simp only [nth, Int.toNat_natCast] at hrd
  try simp (maxSteps := 3000000) (disch := first | omega | (simp only [len_new, len_put, len_kill]; omega)) only [↓xpre, xpost, ↓reduceIte, Nat.reduceEqDiff, Nat.reduceAdd, Nat.reduceSub, Nat.reduceLeDiff, Nat.zero_add, Nat.sub_zero, rd1_of hb, hix, hrd]
  exact hQ
end Go.Proofs.Ytapafdpnmakekaa.X

/- RowRank of the program, out of its rank. -/
set_option linter.unusedVariables false
set_option linter.unusedSimpArgs false
set_option maxRecDepth 20000
set_option maxHeartbeats 4000000
namespace Go.Proofs.Ytapafdpnmakekaa.X
open Go Go.RowKit

/-- What the program's rank is to do (to be proved: i_rank). -/
def RankDoes (g : FuncId) : Prop := ∀ (v : Value) (rows : List (List Int)) (p : Int) (W : Nat) (h : AH) (Q : Value → AH → Prop), Rows h v rows → isP p = true → (1 ≤ rows.length ∧ rows.length ≤ 1048576) → Good p rows W → 1 ≤ W ∧ W ≤ 1048576 →
  (∀ h', h <+: h' → Q (I64 (rankN p rows)) h') → WF S g [I64 p, v] h Q

end Go.Proofs.Ytapafdpnmakekaa.X

/- The program's rank: a table of rows that are blocks of their own, changed in place. -/
set_option linter.unusedVariables false
set_option linter.unusedSimpArgs false
set_option maxRecDepth 20000
set_option maxHeartbeats 4000000
namespace Go.Proofs.Ytapafdpnmakekaa.X
open Go Go.RowKit

/-- The state: the table in block n0, each row in a block of its own behind lo. -/
structure OwnT (h0 h : AH) (lo n0 : Nat) (bs : List Nat) (T : List (List Int)) : Prop where
  hp : h0 <+: h
  lo0 : h0.length ≤ n0 ∧ n0 < h.length
  g : OwnB h n0 (T.mapIdx fun i r => .slice (some ⟨bs.getD i 0, 0, none⟩) r.length 1) false
  len : bs.length = T.length
  rows : ∀ i, i < T.length → (h0.length ≤ bs.getD i 0 ∧ bs.getD i 0 ≠ n0) ∧ OwnB h (bs.getD i 0) ((T.getD i []).map (Value.int .i64)) false
  dist : ∀ i j, i < T.length → j < T.length → i ≠ j → bs.getD i 0 ≠ bs.getD j 0
/-- A number changed in a row. -/
theorem OwnT.cell {h0 h : AH} {lo n0 : Nat} {bs : List Nat} {T : List (List Int)} (s : OwnT h0 h lo n0 bs T) {k l : Nat} {x : Int} (hk : k < T.length) (hl : l < (T.getD k []).length) {e : TypeId} (he : h.get (bs.getD k 0) = some ⟨(T.getD k []).map (Value.int .i64), e, false, false⟩) :
    OwnT h0 (h.put (bs.getD k 0) ⟨((T.getD k []).set l x).map (Value.int .i64), e, false, false⟩) lo n0 bs (T.set k ((T.getD k []).set l x)) := by
  have hlt := get_lt he
  have hr := (s.rows k hk).1
  refine ⟨pre_put s.hp hr.1, ⟨s.lo0.1, by rw [len_put]; exact s.lo0.2⟩, ?_, by rw [List.length_set]; exact s.len, fun i hi => ?_, fun i j hi hj => s.dist i j (by simpa using hi) (by simpa using hj)⟩
  · have e1 : (T.set k ((T.getD k []).set l x)).mapIdx (fun i r => Value.slice (some ⟨bs.getD i 0, 0, none⟩) r.length 1) = T.mapIdx fun i r => .slice (some ⟨bs.getD i 0, 0, none⟩) r.length 1 := by
      refine List.ext_getElem? fun j => ?_
      rw [List.getElem?_mapIdx, List.getElem?_mapIdx, List.getElem?_set]
      split
      · rename_i e
        subst e
        simp [hk, List.getD_eq_getElem?_getD, List.getElem?_eq_getElem hk]
      · rfl
    rw [e1]
    exact s.g.put_ne hr.2
  · rw [List.length_set] at hi
    refine ⟨(s.rows i hi).1, ?_⟩
    rw [set_getD' hk]
    by_cases h : i = k
    · subst h
      rw [if_pos rfl]
      exact ⟨e, get_put_same hlt⟩
    · rw [if_neg h]
      exact (s.rows i hi).2.put_ne (s.dist k i hk hi (fun e => h e.symm))
theorem outer_get {bs : List Nat} {T : List (List Int)} {k : Nat} (hk : k < T.length) : (T.mapIdx fun i r => Value.slice (some ⟨bs.getD i 0, 0, none⟩) r.length 1).getD k undef = .slice (some ⟨bs.getD k 0, 0, none⟩) (T.getD k []).length 1 := by
  rw [List.getD_eq_getElem?_getD, List.getElem?_mapIdx, List.getElem?_eq_getElem hk]
  simp [List.getD_eq_getElem?_getD, List.getElem?_eq_getElem hk]
theorem OwnT.vals {h0 h : AH} {lo n0 : Nat} {bs : List Nat} {T : List (List Int)} (s : OwnT h0 h lo n0 bs T) : Vals h (.slice (some ⟨n0, 0, none⟩) T.length 1) (T.mapIdx fun i r => .slice (some ⟨bs.getD i 0, 0, none⟩) r.length 1) := by
  obtain ⟨e, hg⟩ := s.g
  refine .inr ⟨n0, 0, _, by rw [List.length_mapIdx], hg, by simp, fun i hi => ?_⟩
  rw [Nat.zero_add, List.getD_eq_getElem?_getD, List.getElem?_eq_getElem hi]
  rfl
theorem OwnT.row {h0 h : AH} {lo n0 : Nat} {bs : List Nat} {T : List (List Int)} (s : OwnT h0 h lo n0 bs T) {k : Nat} (hk : k < T.length) : Ints h (.slice (some ⟨bs.getD k 0, 0, none⟩) (T.getD k []).length 1) (T.getD k []) := by
  obtain ⟨e, hg⟩ := (s.rows k hk).2
  exact Ints.own hg rfl
theorem OwnT.pre {h0 h h' : AH} {lo n0 : Nat} {bs : List Nat} {T : List (List Int)} (s : OwnT h0 h lo n0 bs T) (p : h <+: h') : OwnT h0 h' lo n0 bs T :=
  ⟨s.hp.trans p, ⟨s.lo0.1, by have := pre_len p; have := s.lo0.2; omega⟩, s.g.pre p, s.len, fun i hi => ⟨(s.rows i hi).1, (s.rows i hi).2.pre p⟩, s.dist⟩
theorem getD_ext' {α : Type} {d : α} {T T' : List α} (hl : T.length = T'.length) (h : ∀ j, j < T.length → T.getD j d = T'.getD j d) : T = T' := by
  refine List.ext_getElem? fun j => ?_
  by_cases h1 : j < T.length
  · have := h j h1
    rw [List.getElem?_eq_getElem h1, List.getElem?_eq_getElem (by omega)]
    simpa [List.getD_eq_getElem?_getD, List.getElem?_eq_getElem h1, List.getElem?_eq_getElem (show j < T'.length by omega)] using this
  · rw [List.getElem?_eq_none (by omega), List.getElem?_eq_none (by omega)]
def swapB (bs : List Nat) (r b : Nat) : List Nat := (bs.set b (bs.getD r 0)).set r (bs.getD b 0)
theorem swapB_get {bs : List Nat} {r b j : Nat} (hr : r < bs.length) (hb : b < bs.length) : (swapB bs r b).getD j 0 = if j = r then bs.getD b 0 else if j = b then bs.getD r 0 else bs.getD j 0 := by
  unfold swapB
  rw [set_getD' (by simpa using hr)]
  split
  · rfl
  · rw [set_getD' hb]
/-- Two rows swapped. -/
theorem OwnT.swap {h0 h : AH} {lo n0 : Nat} {bs : List Nat} {T : List (List Int)} (s : OwnT h0 h lo n0 bs T) {r b : Nat} (hr : r < T.length) (hb : b < T.length) {e : TypeId} {c : List Value}
    (hc : c = (((T.mapIdx fun i r => Value.slice (some ⟨bs.getD i 0, 0, none⟩) r.length 1).set r (.slice (some ⟨bs.getD b 0, 0, none⟩) (T.getD b []).length 1)).set b (.slice (some ⟨bs.getD r 0, 0, none⟩) (T.getD r []).length 1))) :
    OwnT h0 (h.put n0 ⟨c, e, false, false⟩) lo n0 (swapB bs r b) (swapped T r b) := by
  have hl := s.len
  have sg := fun j => swapB_get (bs := bs) (r := r) (b := b) (j := j) (by omega) (by omega)
  have tg := fun j => swapped_get (T := T) (r := r) (i := b) (j := j) hr hb
  refine ⟨pre_put s.hp s.lo0.1, ⟨s.lo0.1, by rw [len_put]; exact s.lo0.2⟩, ⟨e, ?_⟩, by simp [swapB, swapped_len, hl], fun i hi => ?_, fun i j hi hj hij => ?_⟩
  · rw [get_put_same s.lo0.2, hc]
    congr 2
    refine getD_ext' (d := undef) (by simp [swapped_len]) fun j hj => ?_
    have hj' : j < T.length := by simpa using hj
    rw [outer_get (by rw [swapped_len]; exact hj'), sg, tg, set_getD' (by simpa using hb), set_getD' (by simpa using hr), outer_get hj']
    by_cases h1 : j = b
    · by_cases h2 : j = r
      · subst h1; subst h2; simp
      · rw [if_pos h1, if_neg h2, if_pos h1, if_neg h2, if_pos h1]
    · rw [if_neg h1]
      by_cases h2 : j = r
      · rw [if_pos h2, if_pos h2, if_pos h2]
      · rw [if_neg h2, if_neg h2, if_neg h1, if_neg h2, if_neg h1]
  · rw [swapped_len] at hi
    rw [sg, tg]
    split
    · exact ⟨(s.rows b hb).1, (s.rows b hb).2.put_ne (fun e => (s.rows b hb).1.2 e.symm)⟩
    · split
      · exact ⟨(s.rows r hr).1, (s.rows r hr).2.put_ne (fun e => (s.rows r hr).1.2 e.symm)⟩
      · exact ⟨(s.rows i hi).1, (s.rows i hi).2.put_ne (fun e => (s.rows i hi).1.2 e.symm)⟩
  · rw [swapped_len] at hi hj
    rw [sg, sg]
    by_cases h1 : i = r
    · rw [if_pos h1]
      by_cases h2 : j = r
      · omega
      · rw [if_neg h2]
        by_cases h3 : j = b
        · rw [if_pos h3]; exact s.dist b r hb hr (by omega)
        · rw [if_neg h3]; exact s.dist b j hb hj (by omega)
    · rw [if_neg h1]
      by_cases h4 : i = b
      · rw [if_pos h4]
        by_cases h2 : j = r
        · rw [if_pos h2]; exact s.dist r b hr hb (by omega)
        · rw [if_neg h2, if_neg (by omega)]; exact s.dist r j hr hj (by omega)
      · rw [if_neg h4]
        by_cases h2 : j = r
        · rw [if_pos h2]; exact s.dist i b hi hb (by omega)
        · rw [if_neg h2]
          by_cases h3 : j = b
          · rw [if_pos h3]; exact s.dist i r hi hr (by omega)
          · rw [if_neg h3]; exact s.dist i j hi hj hij
end Go.Proofs.Ytapafdpnmakekaa.X

/- Slices of slices; a copy of a row in a block of its own; the row under way in an elimination in place. -/
set_option linter.unusedVariables false
set_option linter.unusedSimpArgs false
set_option maxRecDepth 20000
set_option maxHeartbeats 4000000
namespace Go.Proofs.Ytapafdpnmakekaa.X
open Go Go.RowKit

def boundV (d : Int) : Option Value → Option Int
  | none => some d
  | some (.int _ i) => some i
  | some _ => none
def slcV (sz : Nat) (v : Value) (lo hi : Option Value) : Option Value := match v with
  | .slice (some ⟨n, off, _⟩) len sz' => match boundV 0 lo, boundV len hi with
    | some l, some u =>
      if sz' = sz ∧ 0 ≤ l ∧ l < u ∧ u ≤ len then some (.slice (some ⟨n, off + l.toNat * sz, none⟩) (u - l).toNat sz)
      else if sz' = sz ∧ lo = none ∧ l = 0 ∧ u = 0 then some (.slice (some ⟨n, off, none⟩) 0 sz)
      else if sz' = sz ∧ 0 ≤ l ∧ l = u ∧ u ≤ len then some (.slice none 0 1) else none
    | _, _ => none
  | .slice none 0 t => match boundV 0 lo, boundV 0 hi with
    | some l, some u => if l = 0 ∧ u = 0 then some (.slice none 0 t) else none
    | _, _ => none
  | _ => none
def omapF (f : Fr) : Option Operand → Option Value
  | none => none
  | some x => some (ev f x)
theorem omapF_none {f : Fr} : omapF f none = none := rfl
theorem omapF_some {f : Fr} {x : Operand} : omapF f (some x) = some (ev f x) := rfl
theorem bound_eq {f : Fr} {d : Int} {o : Option Operand} : bound f d o = boundV d (omapF f o) := by
  cases o with
  | none => rfl
  | some x => simp only [bound, omapF, boundV]; split <;> simp_all
theorem omapF_isn {f : Fr} {o : Option Operand} : (omapF f o = none) = (o = none) := by cases o <;> simp [omapF]
theorem WX_slc {S : XS} {f : Fr} {h : AH} {Q : Value → AH → Prop} {sz : Nat} {x : Operand} {lo hi : Option Operand} : WX S (.slc sz x lo hi) f h Q = WV (slcV sz (ev f x) (omapF f lo) (omapF f hi)) fun v => Q v h := by
  rw [WX_op (fun _ => rfl)]
  have : xop (.slc sz x lo hi) f h = (slcV sz (ev f x) (omapF f lo) (omapF f hi)).map (·, h) := by
    simp only [xop, slcV, bound_eq]
    generalize ev f x = v
    rcases hA : boundV 0 (omapF f lo) with _ | l
    · split <;> simp
    · split
      · rcases hB : boundV _ (omapF f hi) with _ | u
        · simp [hB]
        · simp only [hB, omapF_isn]
          split
          · rfl
          · split
            · rfl
            · split <;> rfl
      · rcases hB : boundV 0 (omapF f hi) with _ | u
        · simp [hB]
        · simp only [hB]
          split <;> rfl
      · rename_i q1 q2
        split
        · exact absurd rfl (q1 _ _ _ _ _)
        · exact absurd rfl (q2 _)
        · rfl
  rw [this]
  cases slcV sz (ev f x) (omapF f lo) (omapF f hi) <;> simp [OQ_some, WV_some, OQ_none, WV_none]
theorem Vals.slcV {h : AH} {v : Value} {cs : List Value} (hv : Vals h v cs) {k1 k2 : IntKind} {l u : Int} (h0 : 0 ≤ l ∧ l ≤ u ∧ u ≤ cs.length) :
    ∃ v', X.slcV 1 v (some (.int k1 l)) (some (.int k2 u)) = some v' ∧ Vals h v' ((cs.drop l.toNat).take (u - l).toNat) := by
  have hlen : ((cs.drop l.toNat).take (u - l).toNat).length = (u - l).toNat := by simp; omega
  rcases hv with ⟨rfl, t, ht, rfl⟩ | ⟨b, off, blk, rfl, h2, h3, h4⟩
  · simp at h0
    have : l = 0 ∧ u = 0 := by omega
    exact ⟨_, by simp [X.slcV, boundV, this], .inl ⟨by simp, t, ht, rfl⟩⟩
  · by_cases hlu : l < u
    · refine ⟨.slice (some ⟨b, off + l.toNat * 1, none⟩) (u - l).toNat 1, by simp [X.slcV, boundV, hlu, h0.1, h0.2.2], .inr ⟨b, off + l.toNat, blk, by rw [hlen]; simp, h2, by omega, fun i hi => ?_⟩⟩
      rw [hlen] at hi
      rw [show off + l.toNat + i = off + (l.toNat + i) by omega, h4 _ (by omega)]
      simp [List.getD_eq_getElem?_getD, List.getElem?_take, List.getElem?_drop, hi]
    · have e : l = u := by omega
      subst e
      exact ⟨.slice none 0 1, by simp [X.slcV, boundV, h0.1, h0.2.2], .inl ⟨by simp, 1, by omega, rfl⟩⟩
theorem Vals.slcV_lo {h : AH} {v : Value} {cs : List Value} (hv : Vals h v cs) {k1 : IntKind} {l : Int} (h0 : 0 ≤ l ∧ l ≤ cs.length) :
    ∃ v', X.slcV 1 v (some (.int k1 l)) none = some v' ∧ Vals h v' (cs.drop l.toNat) := by
  obtain ⟨v', h1, h2⟩ := hv.slcV (k1 := k1) (k2 := .i64) (l := l) (u := cs.length) (by omega)
  refine ⟨v', ?_, ?_⟩
  · rw [← h1]
    rcases hv with ⟨rfl, t, ht, rfl⟩ | ⟨b, off, blk, rfl, h2, h3, h4⟩ <;> simp [X.slcV, boundV]
  · rw [List.take_of_length_le (by simp; omega)] at h2
    exact h2
theorem Vals.ints {h : AH} {v : Value} {ns : List Int} (hv : Vals h v (ns.map (Value.int .i64))) : Ints h v ns := by
  rcases hv with ⟨e, t, ht, rfl⟩ | ⟨b, off, blk, rfl, h2, h3, h4⟩
  · exact .inl ⟨by simpa using e, t, ht, rfl⟩
  · refine .inr ⟨b, off, blk, by simp, h2, by simpa using h3, fun i hi => ?_⟩
    rw [h4 i (by simpa using hi)]
    simp [List.getD_eq_getElem?_getD, List.getElem?_eq_getElem hi]
theorem Ints.slcV {h : AH} {v : Value} {ns : List Int} (hv : Ints h v ns) {k1 k2 : IntKind} {l u : Int} (h0 : 0 ≤ l ∧ l ≤ u ∧ u ≤ ns.length) :
    ∃ v', X.slcV 1 v (some (.int k1 l)) (some (.int k2 u)) = some v' ∧ Ints h v' ((ns.drop l.toNat).take (u - l).toNat) := by
  obtain ⟨v', h1, h2⟩ := hv.vals.slcV (k1 := k1) (k2 := k2) (l := l) (u := u) (by simpa using h0)
  exact ⟨v', h1, Vals.ints (by simpa [List.map_drop, List.map_take] using h2)⟩

/-- A copy: a block of its own, not made longer yet. -/
theorem i_CloneB {v : Value} {ns : List Int} {h : AH} {Q : Value → AH → Prop} (hv : Ints h v ns) (h0 : 0 < ns.length) (hl : (ns.length : Int) ≤ 1048576)
    (hQ : ∀ n h', h.length ≤ n → h <+: h' → OwnB h' n (ns.map (Value.int .i64)) false → Q (.slice (some ⟨n, 0, none⟩) ns.length 1) h') : WF S 285 [v] h Q := by
  refine WF_fn (fn := c285) rfl rfl ?_
  unfold c285
  obtain ⟨n, off, rfl, hr⟩ := hv.vals.rdn (by simpa using h0)
  try simp (maxSteps := 3000000) (disch := first | omega | (simp only [len_new, len_put, len_kill]; omega)) only [↓xpre, xpost, ↓reduceIte, Nat.reduceEqDiff, Nat.reduceAdd, Nat.reduceSub, Nat.reduceLeDiff, Nat.zero_add, Nat.sub_zero, ↓WX_isnil, isnilV_some, fillL, zrep]
  rw [List.length_map] at hr ⊢
  rw [app_zero get_new_same (show AH.rdn (AH.new h _) n off ns.length = _ by rw [rdn_eq] at hr ⊢; obtain ⟨b, hb, hc⟩ := Option.bind_eq_some_iff.1 hr; rw [get_new_any hb]; exact hc) h0 (by omega)]
  try simp (maxSteps := 3000000) (disch := first | omega | (simp only [len_new, len_put, len_kill]; omega)) only [↓xpre, xpost, ↓reduceIte, Nat.reduceEqDiff, Nat.reduceAdd, Nat.reduceSub, Nat.reduceLeDiff, Nat.zero_add, Nat.sub_zero]
  exact hQ _ _ (by rw [len_new]; omega) (pre_new (pre_kill (pre_new (List.prefix_refl _)) (Nat.le_refl _))) ⟨_, get_new_eq (by rw [len_kill])⟩

theorem firstAt_pivot {T : List (List Int)} {c r : Nat} : ∀ {m i : Nat}, firstAt (fun i => decide (tb T (r + i) c ≠ 0)) m i = if pivot T c m (r + i) = r + i + m then -1 else ((pivot T c m (r + i) - r : Nat) : Int)
  | 0, i => by simp [firstAt, pivot]
  | m + 1, i => by
    unfold firstAt pivot
    by_cases h : tb T (r + i) c = 0
    · have e : (decide (tb T (r + i) c ≠ 0)) = false := by simp [h]
      rw [e, if_neg (by simp), if_pos h, firstAt_pivot (m := m) (i := i + 1), show r + (i + 1) = r + i + 1 by omega, show r + i + 1 + m = r + i + (m + 1) by omega]
    · have e : (decide (tb T (r + i) c ≠ 0)) = true := by simp [h]
      rw [e, if_pos rfl, if_neg h, if_neg (by omega), show r + i - r = i by omega]

/-- A row changed as far as l. -/
def mixed (g : Nat → Int) (row : List Int) (l : Nat) : List Int := gen row.length fun x => if x < l then g x else row.getD x 0
theorem mixed_len {g : Nat → Int} {row : List Int} {l : Nat} : (mixed g row l).length = row.length := gen_len
theorem mixed_zero {g : Nat → Int} {row : List Int} : mixed g row 0 = row := by
  symm
  exact gen_ext rfl fun l hl => by simp
theorem mixed_next {g : Nat → Int} {row : List Int} {l : Nat} (hl : l < row.length) : (mixed g row l).set l (g l) = mixed g row (l + 1) := by
  refine gen_ext (by rw [List.length_set, mixed_len]) fun x hx => ?_
  rw [set_getD (by rw [mixed_len]; exact hl)]
  by_cases h : x = l
  · subst h; rw [if_pos rfl, if_pos (by omega)]
  · rw [if_neg h]
    unfold mixed
    rw [gen_get hx]
    by_cases h2 : x < l
    · rw [if_pos h2, if_pos (by omega)]
    · rw [if_neg h2, if_neg (by omega)]
theorem mixed_full {g : Nat → Int} {row : List Int} : mixed g row row.length = gen row.length g := gen_congr fun i hi => if_pos hi
theorem mixed_get {g : Nat → Int} {row : List Int} {l x : Nat} (hx : x < row.length) (hl : l ≤ x) : (mixed g row l).getD x 0 = row.getD x 0 := by
  unfold mixed
  rw [gen_get hx, if_neg (by omega)]
theorem OwnT.rdk {h0 h : AH} {lo n0 : Nat} {bs : List Nat} {T : List (List Int)} (s : OwnT h0 h lo n0 bs T) {k N : Nat} (hN : T.length = N) (hk : k < N) :
    ixsV 1 (.slice (some ⟨n0, 0, none⟩) N 1) (I64 k) = some (.pointer (some ⟨n0, k, none⟩)) ∧ h.rd1 n0 k = some (.slice (some ⟨bs.getD k 0, 0, none⟩) (T.getD k []).length 1) := by
  obtain ⟨e, hg⟩ := s.g
  subst hN
  refine ⟨?_, ?_⟩
  · rw [ixsV_some, if_pos (by omega)]
    simp
  · rw [rd1_of hg]
    simp only [List.getElem?_mapIdx, List.getElem?_eq_getElem hk, Option.map_some, List.getD_eq_getElem?_getD, Option.getD_some]
theorem OwnT.rdc {h0 h : AH} {lo n0 : Nat} {bs : List Nat} {T : List (List Int)} (s : OwnT h0 h lo n0 bs T) {k l W : Nat} (hk : k < T.length) (hW : (T.getD k []).length = W) (hl : l < W) :
    ixsV 1 (.slice (some ⟨bs.getD k 0, 0, none⟩) W 1) (I64 l) = some (.pointer (some ⟨bs.getD k 0, l, none⟩)) ∧ h.rd1 (bs.getD k 0) l = some (I64 ((T.getD k []).getD l 0)) := by
  obtain ⟨e, hg⟩ := (s.rows k hk).2
  subst hW
  refine ⟨?_, ?_⟩
  · rw [ixsV_some, if_pos (by omega)]
    simp
  · rw [rd1_of hg]
    generalize T.getD k [] = row at hl
    rw [List.getElem?_map, List.getElem?_eq_getElem hl, List.getD_eq_getElem?_getD, List.getElem?_eq_getElem hl]
    rfl
end Go.Proofs.Ytapafdpnmakekaa.X

/- The program's rank. -/
set_option linter.unusedVariables false
set_option linter.unusedSimpArgs false
set_option maxRecDepth 20000
set_option maxHeartbeats 4000000
namespace Go.Proofs.Ytapafdpnmakekaa.X
open Go Go.RowKit

def rowV (p : Nat × List Int) : Value := .slice (some ⟨p.1, 0, none⟩) p.2.length 1
/-- The state while the rows are copied. -/
structure CloneS (h0 h : AH) (nb : Nat) (full : Bool) (L : List (Nat × List Int)) : Prop where
  hp : h0 <+: h
  lo : h0.length ≤ nb
  g : h.get nb = some ⟨L.map rowV, 27, false, full⟩
  rows : ∀ p, p ∈ L → (h0.length ≤ p.1 ∧ p.1 ≠ nb) ∧ OwnB h p.1 (p.2.map (Value.int .i64)) false
  dist : L.Pairwise (fun p q => p.1 ≠ q.1)
theorem OwnB.kill_ne {h : AH} {c : List Value} {full : Bool} {n m : Nat} (o : OwnB h n c full) (e : m ≠ n) : OwnB (h.kill m) n c full := by
  obtain ⟨t, hg⟩ := o
  exact ⟨t, by rw [get_kill_ne e]; exact hg⟩
theorem OwnB.new {h : AH} {c : List Value} {full : Bool} {n : Nat} {b : Blk} (o : OwnB h n c full) : OwnB (h.new b) n c full := by
  obtain ⟨t, hg⟩ := o
  exact ⟨t, get_new_any hg⟩
theorem CloneS.app {h0 h1 h2 : AH} {nb n : Nat} {full fu : Bool} {L : List (Nat × List Int)} {r : List Int} {e : TypeId} (s : CloneS h0 h1 nb full L) (hn : h1.length ≤ n) (p : h1 <+: h2) (ob : OwnB h2 n (r.map (Value.int .i64)) false)
    (hl : (L.length : Int) ≤ 1048576) {Q : Value → AH → Prop}
    (hQ : ∀ nb' H', CloneS h0 H' nb' false (L ++ [(n, r)]) → Q (.slice (some ⟨nb', 0, none⟩) (L ++ [(n, r)]).length 1) H') :
    OQ (appV 27 1 24 (.slice (some ⟨nb, 0, none⟩) L.length 1) (.slice (some ⟨h2.length, 0, none⟩) 1 1) (h2.new ⟨[.slice (some ⟨n, 0, none⟩) r.length 1], e, false, fu⟩)) Q := by
  have hrd : (h2.new ⟨[.slice (some ⟨n, 0, none⟩) r.length 1], e, false, fu⟩).rdn h2.length 0 1 = some [.slice (some ⟨n, 0, none⟩) r.length 1] := by rw [rdn_new_same]; rfl
  have hk : (h2.new ⟨[.slice (some ⟨n, 0, none⟩) r.length 1], e, false, fu⟩).get nb = some ⟨L.map rowV, 27, false, full⟩ := get_new_any (pre_get p s.g)
  have l1 := get_lt s.g
  have l2 := pre_len p
  have l3 := ob.lt
  have l0 := pre_len s.hp
  rw [app_own hk (by simp) hrd (by omega), OQ_some]
  have key : CloneS h0 (((h2.new ⟨[.slice (some ⟨n, 0, none⟩) r.length 1], e, false, fu⟩).kill nb).new ⟨L.map rowV ++ [.slice (some ⟨n, 0, none⟩) r.length 1], 27, false, false⟩) (h2.new ⟨[.slice (some ⟨n, 0, none⟩) r.length 1], e, false, fu⟩).length false (L ++ [(n, r)]) := by
    refine ⟨pre_new (pre_kill (pre_new (s.hp.trans p)) s.lo), by rw [len_new]; omega, ?_, fun q hq => ?_, ?_⟩
    · rw [get_new_eq (by rw [len_kill])]
      simp [rowV]
    · rw [len_new]
      rcases List.mem_append.1 hq with hq | hq
      · have a := s.rows q hq
        have := a.2.lt
        exact ⟨⟨a.1.1, by omega⟩, (((a.2.pre p).new).kill_ne (fun e => a.1.2 e.symm)).new⟩
      · rw [List.mem_singleton] at hq
        subst hq
        exact ⟨⟨show h0.length ≤ n by omega, show n ≠ h2.length + 1 by omega⟩, (ob.new.kill_ne (show nb ≠ n by omega)).new⟩
    · rw [List.pairwise_append]
      refine ⟨s.dist, by simp, fun a ha b hb => ?_⟩
      rw [List.mem_singleton] at hb
      subst hb
      have := (s.rows a ha).2.lt
      show a.1 ≠ n
      omega
  have := hQ _ _ key
  rw [List.length_append, List.length_singleton] at this
  exact this
theorem CloneS.own {h0 h : AH} {nb : Nat} {L : List (Nat × List Int)} (s : CloneS h0 h nb false L) : OwnT h0 h 0 nb (L.map Prod.fst) (L.map Prod.snd) := by
  have e0 : ((L.map Prod.snd).mapIdx fun i r => Value.slice (some ⟨(L.map Prod.fst).getD i 0, 0, none⟩) r.length 1) = L.map rowV := by
    refine List.ext_getElem? fun j => ?_
    rw [List.getElem?_mapIdx, List.getElem?_map, List.getElem?_map, List.getD_eq_getElem?_getD, List.getElem?_map]
    cases L[j]? <;> rfl
  have ei : ∀ i, i < L.length → ∃ hi : i < L.length, (L.map Prod.fst).getD i 0 = (L[i]).1 ∧ (L.map Prod.snd).getD i [] = (L[i]).2 := fun i hi => ⟨hi, by simp [List.getD_eq_getElem?_getD, hi], by simp [List.getD_eq_getElem?_getD, hi]⟩
  refine ⟨s.hp, ⟨s.lo, get_lt s.g⟩, ⟨27, by rw [e0]; exact s.g⟩, by simp, fun i hi => ?_, fun i j hi hj hij => ?_⟩
  · obtain ⟨hi', e1, e2⟩ := ei i (by simpa using hi)
    rw [e1, e2]
    exact s.rows _ (List.getElem_mem hi')
  · obtain ⟨hi', e1, -⟩ := ei i (by simpa using hi)
    obtain ⟨hj', e2, -⟩ := ei j (by simpa using hj)
    rw [e1, e2]
    have := List.pairwise_iff_getElem.1 s.dist
    rcases Nat.lt_or_gt_of_ne hij with h | h
    · exact this i j hi' hj' h
    · exact fun e => this j i hj' hi' h e.symm
theorem set_self {α : Type} {d : α} {l : List α} {k : Nat} (hk : k < l.length) : l.set k (l.getD k d) = l := by
  rw [List.getD_eq_getElem?_getD, List.getElem?_eq_getElem hk]
  simp
theorem i_rank : RankDoes 246 := by
  intro v rows p W h Q hv hp hN gd hW hQ
  refine WF_fn (fn := c246) rfl rfl ?_
  unfold c246
  have hp5 := isP_in hp
  obtain ⟨cs, hvv, hcl, hr⟩ := hv
  try simp (maxSteps := 3000000) (disch := first | omega | (simp only [len_new, len_put, len_kill]; omega)) only [↓xpre, xpost, ↓reduceIte, Nat.reduceEqDiff, Nat.reduceAdd, Nat.reduceSub, Nat.reduceLeDiff, Nat.zero_add, Nat.sub_zero, fillL, zrep, hvv.len, hcl]
  generalize hH : AH.new h _ = H0
  obtain ⟨hb0, p0, n0⟩ := new_facts hH
  have st0 : CloneS h H0 h.length true [] := ⟨p0, Nat.le_refl _, hb0, by simp, by simp⟩
  refine WC_loop_inv (fun m f K1 => ∃ (i : Nat) (nb : Nat) (full : Bool) (L : List (Nat × List Int)), m = rows.length - i ∧ i ≤ rows.length ∧ f 0 = I64 p ∧ f 5 = .slice (some ⟨nb, 0, none⟩) L.length 1 ∧ f 16 = v ∧ f 17 = I64 rows.length ∧ f 18 = I64 i ∧ (CloneS h K1 nb full L) ∧ (L.map Prod.snd = rows.take i) ∧ (0 < i → full = false)) ?_ (rows.length - 0) _ _ ⟨0, h.length, true, [], rfl, by omega, (by first | rfl | (simp [upd_apply]; done)), (by first | rfl | (simp [upd_apply]; done)), (by first | rfl | (simp [upd_apply]; done)), (by first | rfl | (simp [upd_apply]; done)), (by first | rfl | (simp [upd_apply]; done)), st0, (by simp), (by omega)⟩
  rintro m f K1 ⟨i, nb, full, L, rfl, hi, f0, f5, f16, f17, f18, st, hL, hfu⟩
  have hLl : L.length = i := by
    have := congrArg List.length hL
    rw [List.length_map, List.length_take] at this
    omega
  try simp (maxSteps := 3000000) (disch := first | omega | (simp only [len_new, len_put, len_kill]; omega)) only [↓xpre, xpost, ↓reduceIte, Nat.reduceEqDiff, Nat.reduceAdd, Nat.reduceSub, Nat.reduceLeDiff, Nat.zero_add, Nat.sub_zero, f0, f5, f16, f17, f18, IfW_dec]
  refine ⟨fun hlt => ?_, fun hge => ?_⟩
  · have hi' : i < rows.length := by omega
    have hvK := hvv.pre st.hp
    have hix := hvK.ix (k := .i64) (j := i) (by omega) (by omega)
    have hrd := hvK.rd (j := i) (by omega) (by omega)
    try simp (maxSteps := 3000000) (disch := first | omega | (simp only [len_new, len_put, len_kill]; omega)) only [↓xpre, xpost, ↓reduceIte, Nat.reduceEqDiff, Nat.reduceAdd, Nat.reduceSub, Nat.reduceLeDiff, Nat.zero_add, Nat.sub_zero, f0, f5, f16, f17, f18, hix, hrd, Int.toNat_natCast]
    refine i_CloneB ((hr i hi').pre st.hp) (by rw [(gd i hi').1]; omega) (by rw [(gd i hi').1]; omega) fun n h2 hn p2 ob => ?_
    try simp (maxSteps := 3000000) (disch := first | omega | (simp only [len_new, len_put, len_kill]; omega)) only [↓xpre, xpost, ↓reduceIte, Nat.reduceEqDiff, Nat.reduceAdd, Nat.reduceSub, Nat.reduceLeDiff, Nat.zero_add, Nat.sub_zero, f0, f5, f16, f17, f18, fillL, zrep]
    refine st.app hn p2 ob (by omega) fun nb' H' st' => ?_
    try simp (maxSteps := 3000000) (disch := first | omega | (simp only [len_new, len_put, len_kill]; omega)) only [↓xpre, xpost, ↓reduceIte, Nat.reduceEqDiff, Nat.reduceAdd, Nat.reduceSub, Nat.reduceLeDiff, Nat.zero_add, Nat.sub_zero, f0, f5, f16, f17, f18, wrap64_in]
    refine InvQ_go (rows.length - (i + 1)) (by omega) ⟨(i + 1), nb', false, (L ++ [(n, rows.getD i [])]), rfl, by omega, (by first | rfl | exact f0 | (simp only [upd_apply]; rfl) | (show I64 _ = _; congr 1; omega)), (by first | rfl | exact f5 | (simp only [upd_apply]; rfl) | (show I64 _ = _; congr 1; omega)), (by first | rfl | exact f16 | (simp only [upd_apply]; rfl) | (show I64 _ = _; congr 1; omega)), (by first | rfl | exact f17 | (simp only [upd_apply]; rfl) | (show I64 _ = _; congr 1; omega)), (by first | rfl | exact f18 | (simp only [upd_apply]; rfl) | (show I64 _ = _; congr 1; omega)), st', ?_, (fun _ => rfl)⟩
    rw [List.map_append, hL, List.take_succ_eq_append_getElem hi']
    simp [List.getD_eq_getElem?_getD, hi']
  · have e : i = rows.length := by omega
    subst e
    rw [List.take_length] at hL
    have hf' := hfu (by omega)
    subst hf'
    have stT := st.own
    rw [hL] at stT
    rw [hLl] at f5
    have blt : ∀ i, i < rows.length → (L.map Prod.fst).getD i 0 < K1.length := fun i hi => (stT.rows i hi).2.lt
    have nlt := stT.lo0.2
    try simp (maxSteps := 3000000) (disch := first | omega | (simp only [len_new, len_put, len_kill]; omega)) only [↓xpre, xpost, ↓reduceIte, Nat.reduceEqDiff, Nat.reduceAdd, Nat.reduceSub, Nat.reduceLeDiff, Nat.zero_add, Nat.sub_zero, f0, f5, f16, f17, f18]
    generalize hH2 : AH.new K1 _ = H2
    obtain ⟨hb2, p2, n2⟩ := new_facts hH2
    have hrk : elim p rows 0 0 (W - 0) = rankN p rows := by
      unfold rankN
      rw [(gd 0 (by omega)).1]
      rfl
    refine WC_loop_inv (fun m f K2 => ∃ (c : Nat) (r : Nat) (bs : List Nat) (T : List (List Int)) (bx : Nat), m = W - c ∧ c ≤ W ∧ f 0 = I64 p ∧ f 5 = .slice (some ⟨nb, 0, none⟩) rows.length 1 ∧ f 8 = I64 r ∧ f 9 = .pointer (some ⟨bx, 0, none⟩) ∧ (OwnT h K2 0 nb bs T) ∧ (OwnB K2 bx [I64 c] true) ∧ (nb < bx) ∧ (∀ i, i < T.length → bs.getD i 0 < bx) ∧ (r ≤ rows.length) ∧ (T.length = rows.length) ∧ (Good p T W) ∧ (elim p T r c (W - c) = rankN p rows)) ?_ (W - 0) _ _ ⟨0, 0, (L.map Prod.fst), rows, K1.length, rfl, by omega, (by first | rfl | exact f0 | (simp [upd_apply]; done)), (by first | rfl | exact f5 | (simp [upd_apply]; done)), (by first | rfl | (simp [upd_apply]; done)), (by first | rfl | (simp [upd_apply]; done)), stT.pre p2, ⟨_, hb2⟩, nlt, blt, (by omega), rfl, gd, hrk⟩
    rintro m f K2 ⟨c, r, bs, T, bx, rfl, hc, f0, f5, f8, f9, so, hbx, hlo, hlb, hrN, hT, g, hel⟩
    clear stT blt nlt hb2 hH2 p2 n2 hrk st hr hvv hcl
    obtain ⟨eb, hgb⟩ := hbx
    by_cases hrn : r < rows.length
    case neg =>
      try simp (maxSteps := 3000000) (disch := first | omega | (simp only [len_new, len_put, len_kill]; omega)) only [↓xpre, xpost, ↓reduceIte, Nat.reduceEqDiff, Nat.reduceAdd, Nat.reduceSub, Nat.reduceLeDiff, Nat.zero_add, Nat.sub_zero, f0, f5, f8, f9, decide_eq_false (show ¬ ((r : Int) < (rows.length : Int)) by omega)]
      have := hQ _ so.hp
      rw [← hel, elim_full (by omega)] at this
      exact this
    have g0 := (g 0 (by omega)).1
    have rd0 := so.rdk (k := 0) hT (by omega)
    rw [g0] at rd0
    have rx0 : ixsV 1 (.slice (some ⟨nb, 0, none⟩) rows.length 1) (I64 0) = _ := rd0.1
    try simp (maxSteps := 3000000) (disch := first | omega | (simp only [len_new, len_put, len_kill]; omega)) only [↓xpre, xpost, ↓reduceIte, Nat.reduceEqDiff, Nat.reduceAdd, Nat.reduceSub, Nat.reduceLeDiff, Nat.zero_add, Nat.sub_zero, f0, f5, f8, f9, decide_eq_true (show (r : Int) < (rows.length : Int) by omega), rx0, rd0.2, rd1_of hgb, IfW_dec]
    refine ⟨fun hlt => ?_, fun hge => ?_⟩
    · have hvT := so.vals
      rw [hT] at hvT
      obtain ⟨v', hs1, hs2⟩ := hvT.slcV_lo (k1 := .i64) (l := r) ⟨by omega, by rw [List.length_mapIdx]; omega⟩
      rw [Int.toNat_natCast] at hs2
      try simp (maxSteps := 3000000) (disch := first | omega | (simp only [len_new, len_put, len_kill]; omega)) only [↓xpre, xpost, ↓reduceIte, Nat.reduceEqDiff, Nat.reduceAdd, Nat.reduceSub, Nat.reduceLeDiff, Nat.zero_add, Nat.sub_zero, f0, f5, f8, f9, ↓WX_slc, omapF_some, omapF_none, hs1]
      refine i_IndexRows (q := fun i => decide (tb T (r + i) c ≠ 0)) hs2 (by rw [List.length_drop, List.length_mapIdx]; omega) (fun i hi Q hq => ?_) ?_
      · rw [List.length_drop, List.length_mapIdx] at hi
        have e1 : ((T.mapIdx fun i r => Value.slice (some ⟨bs.getD i 0, 0, none⟩) r.length 1).drop r).getD i undef = .slice (some ⟨bs.getD (r + i) 0, 0, none⟩) (T.getD (r + i) []).length 1 := by
          rw [← outer_get (bs := bs) (show r + i < T.length by omega), List.getD_eq_getElem?_getD, List.getElem?_drop, List.getD_eq_getElem?_getD]
        rw [e1]
        simp only [WK_func]
        exact i_rank1 (so.row (k := r + i) (by omega)) (by rw [(g (r + i) (by omega)).1]; omega) hgb hq
      · have hlen : ((T.mapIdx fun i r => Value.slice (some ⟨bs.getD i 0, 0, none⟩) r.length 1).drop r).length = rows.length - r := by rw [List.length_drop, List.length_mapIdx, hT]
        have hfa := firstAt_pivot (T := T) (c := c) (r := r) (m := rows.length - r) (i := 0)
        rw [Nat.add_zero, show r + (rows.length - r) = rows.length by omega] at hfa
        rw [hlen, hfa]
        have hpl := pivot_le (T := T) (c := c) (m := rows.length - r) (r := r)
        by_cases hpv : pivot T c (rows.length - r) r = rows.length
        · rw [if_pos hpv]
          try simp (maxSteps := 3000000) (disch := first | omega | (simp only [len_new, len_put, len_kill]; omega)) only [↓xpre, xpost, ↓reduceIte, Nat.reduceEqDiff, Nat.reduceAdd, Nat.reduceSub, Nat.reduceLeDiff, Nat.zero_add, Nat.sub_zero, f0, f5, f8, f9, decide_eq_true (show (-1 : Int) < 0 by decide), rd1_of hgb, wrap64_in]
          have hcs : colStep p T r c = (T, r) := by
            unfold colStep
            rw [hT, if_pos hpv]
          have lbx := get_lt hgb
          refine InvQ_go (W - (c + 1)) (by omega) ⟨(c + 1), r, bs, T, K2.length, rfl, by omega, (by first | rfl | exact f0 | (simp only [upd_apply]; rfl) | (show I64 _ = _; congr 1; omega)), (by first | rfl | exact f5 | (simp only [upd_apply]; rfl) | (show I64 _ = _; congr 1; omega)), (by first | rfl | exact f8 | (simp only [upd_apply]; rfl) | (show I64 _ = _; congr 1; omega)), (by first | rfl | exact f9 | (simp only [upd_apply]; rfl) | (show I64 _ = _; congr 1; omega)), (so.pre (pre_new (List.prefix_refl _))), ⟨_, get_new_same⟩, so.lo0.2, (fun i hi => (so.rows i hi).2.lt), hrN, hT, g, ?_⟩
          rw [← hel, show W - c = (W - (c + 1)) + 1 by omega]
          conv => rhs; unfold elim
          rw [hcs]
        · rw [if_neg hpv]
          have hpne := pivot_ne (T := T) (c := c) (m := rows.length - r) (r := r) (by omega)
          have hcs : colStep p T r c = (swept p (swapped T r (pivot T c (rows.length - r) r)) r c rows.length, r + 1) := by
            unfold colStep
            rw [hT, if_neg hpv]
          generalize hbq : pivot T c (rows.length - r) r = b at hpl hpv hpne hcs ⊢
          have hbN : b < rows.length := by omega
          have rr := so.rdk (k := r) hT hrn
          have rb := so.rdk (k := b) hT hbN
          obtain ⟨e, hg⟩ := so.g
          have sw := so.swap (r := r) (b := b) (e := e) (by omega) (by omega) rfl
          have hbx2 : OwnB (K2.put nb ⟨((T.mapIdx fun i r => Value.slice (some ⟨bs.getD i 0, 0, none⟩) r.length 1).set r (.slice (some ⟨bs.getD b 0, 0, none⟩) (T.getD b []).length 1)).set b (.slice (some ⟨bs.getD r 0, 0, none⟩) (T.getD r []).length 1), e, false, false⟩) bx [I64 c] true := OwnB.put_ne ⟨eb, hgb⟩ (by omega)
          have nlt := so.lo0.2
          have sp1 : splice (T.mapIdx fun i r => Value.slice (some ⟨bs.getD i 0, 0, none⟩) r.length 1) r [.slice (some ⟨bs.getD b 0, 0, none⟩) (T.getD b []).length 1] = (T.mapIdx fun i r => Value.slice (some ⟨bs.getD i 0, 0, none⟩) r.length 1).set r (.slice (some ⟨bs.getD b 0, 0, none⟩) (T.getD b []).length 1) := splice_set (by rw [List.length_mapIdx]; omega)
          have sp2 : splice ((T.mapIdx fun i r => Value.slice (some ⟨bs.getD i 0, 0, none⟩) r.length 1).set r (.slice (some ⟨bs.getD b 0, 0, none⟩) (T.getD b []).length 1)) b [.slice (some ⟨bs.getD r 0, 0, none⟩) (T.getD r []).length 1] = _ := splice_set (by rw [List.length_set, List.length_mapIdx]; omega)
          have t1l : (swapped T r b).length = rows.length := by rw [swapped_len, hT]
          have t1r : (swapped T r b).getD r [] = T.getD b [] := by rw [swapped_get (by omega) (by omega), if_pos rfl]
          have g1 := g.swapped (r := r) (i := b) (by omega) (by omega)
          have lb1 : ∀ i, i < rows.length → (swapB bs r b).getD i 0 < bx := fun i hi => by
            rw [swapB_get (by rw [so.len]; omega) (by rw [so.len]; omega)]
            split
            · exact hlb b (by omega)
            · split
              · exact hlb r (by omega)
              · exact hlb i (by omega)
          generalize hT1 : swapped T r b = T1 at *
          generalize hB1 : swapB bs r b = bs1 at *
          have gr := g1 r (by omega)
          have rr1 := sw.rdk (k := r) t1l hrn
          rw [gr.1, rd1_put_same nlt] at rr1
          have rc1 := sw.rdc (k := r) (l := c) (W := W) (by omega) gr.1 (by omega)
          have gb := (g b (by omega)).2 c (by omega)
          have nz : 1 ≤ (T1.getD r []).getD c 0 ∧ (T1.getD r []).getD c 0 < p := by
            rw [t1r]; unfold tb at gb hpne; omega
          try simp (maxSteps := 3000000) (disch := first | omega | (simp only [len_new, len_put, len_kill]; omega)) only [↓xpre, xpost, ↓reduceIte, Nat.reduceEqDiff, Nat.reduceAdd, Nat.reduceSub, Nat.reduceLeDiff, Nat.zero_add, Nat.sub_zero, f0, f5, f8, f9, decide_eq_false (show ¬ (((b - r : Nat) : Int) < 0) by omega), wrap64_in, show ((r : Int) + ((b - r : Nat) : Int)) = (b : Int) by omega, rr.1, rr.2, rb.1, rb.2, wr_of hg, sp1, sp2, List.length_mapIdx, List.length_set, rr1.2, rd1_of hgb, rc1.1, rc1.2]
          refine ⟨by omega, by omega, ?_⟩
          generalize hG : AH.put _ _ _ = G2 at sw hbx2 ⊢
          obtain ⟨eb2, hgb2⟩ := hbx2
          refine i_inverse hp5 nz (invN_is hp nz) ?_
          generalize hiv : invN p ((T1.getD r []).getD c 0) = iv
          have ivb : 1 ≤ iv ∧ iv < p := by have := invN_is hp nz; rw [hiv] at this; exact ⟨this.1, this.2.1⟩
          try simp (maxSteps := 3000000) (disch := first | omega | (simp only [len_new, len_put, len_kill]; omega)) only [↓xpre, xpost, ↓reduceIte, Nat.reduceEqDiff, Nat.reduceAdd, Nat.reduceSub, Nat.reduceLeDiff, Nat.zero_add, Nat.sub_zero, f0, f5, f8, f9, wrap64_in]
          refine WC_loop_inv (fun m f K3 => ∃ (k : Nat), m = rows.length - k ∧ k ≤ rows.length ∧ f 0 = I64 p ∧ f 5 = .slice (some ⟨nb, 0, none⟩) rows.length 1 ∧ f 8 = I64 r ∧ f 9 = .pointer (some ⟨bx, 0, none⟩) ∧ f 11 = I64 iv ∧ f 12 = I64 k ∧ (OwnT h K3 0 nb bs1 (swept p T1 r c k)) ∧ (OwnB K3 bx [I64 c] true) ∧ (r + 1 ≤ k)) ?_ (rows.length - (r+1)) _ _ ⟨(r+1), rfl, by omega, (by first | rfl | exact f0 | (simp [upd_apply]; done)), (by first | rfl | exact f5 | (simp [upd_apply]; done)), (by first | rfl | exact f8 | (simp [upd_apply]; done)), (by first | rfl | exact f9 | (simp [upd_apply]; done)), (by first | rfl | (simp [upd_apply]; done)), (by first | rfl | (simp [upd_apply]; done)), (by rw [swept_start]; exact sw), ⟨_, hgb2⟩, Nat.le_refl _⟩
          rintro m f K3 ⟨k, rfl, hk, f0, f5, f8, f9, f11, f12, sk, hb3, hrk⟩
          clear sw rr1 rc1 hG hgb2
          obtain ⟨eb3, hgb3⟩ := hb3
          try simp (maxSteps := 3000000) (disch := first | omega | (simp only [len_new, len_put, len_kill]; omega)) only [↓xpre, xpost, ↓reduceIte, Nat.reduceEqDiff, Nat.reduceAdd, Nat.reduceSub, Nat.reduceLeDiff, Nat.zero_add, Nat.sub_zero, f0, f5, f8, f9, f11, f12, IfW_dec]
          refine ⟨fun hltk => ?_, fun hgek => ?_⟩
          · have hk' : k < rows.length := by omega
            have ek : (swept p T1 r c k).getD k [] = T1.getD k [] := by rw [swept_get (by omega), if_neg (by omega)]
            have er : (swept p T1 r c k).getD r [] = T1.getD r [] := by rw [swept_get (by omega), if_neg (by omega)]
            have sl0 : (swept p T1 r c k).length = rows.length := by rw [swept_len, t1l]
            have enx : swept p T1 r c (k + 1) = (swept p T1 r c k).set k (rowOp p (T1.getD r []) (T1.getD k []) c) := swept_next (by omega) (by omega)
            have gk := g1 k (by omega)
            have rk := sk.rdk (k := k) sl0 hk'
            have rc := sk.rdc (k := k) (l := c) (W := W) (by omega) (by rw [ek]; exact gk.1) (by omega)
            rw [ek, gk.1] at rk
            rw [ek] at rc
            have gkc := gk.2 c (by omega)
            have bm := mul_in (a := (T1.getD k []).getD c 0) (b := iv) (A := 5) (B := 5) (by unfold tb at gkc; omega) (by omega)
            generalize hsd : ((T1.getD k []).getD c 0 * iv).tmod p = sN
            have sb : 0 ≤ sN ∧ sN < p := by rw [← hsd]; exact tmod_nn bm.1 (by omega)
            try simp (maxSteps := 3000000) (disch := first | omega | (simp only [len_new, len_put, len_kill]; omega)) only [↓xpre, xpost, ↓reduceIte, Nat.reduceEqDiff, Nat.reduceAdd, Nat.reduceSub, Nat.reduceLeDiff, Nat.zero_add, Nat.sub_zero, f0, f5, f8, f9, f11, f12, rk.1, rk.2, rd1_of hgb3, rc.1, rc.2, wrap64_in, bin_rem, hsd]
            obtain ⟨G, hGx⟩ : ∃ G : Nat → Int, ∀ x, G x = md p ((T1.getD k []).getD x 0 - sN * (T1.getD r []).getD x 0) := ⟨_, fun _ => rfl⟩
            refine WC_loop_inv (fun m f K4 => ∃ (l : Nat), m = W - l ∧ l ≤ W ∧ f 0 = I64 p ∧ f 5 = .slice (some ⟨nb, 0, none⟩) rows.length 1 ∧ f 8 = I64 r ∧ f 9 = .pointer (some ⟨bx, 0, none⟩) ∧ f 11 = I64 iv ∧ f 12 = I64 k ∧ f 13 = I64 sN ∧ f 99 = I64 W ∧ f 100 = I64 l ∧ (OwnT h K4 0 nb bs1 ((swept p T1 r c k).set k (mixed G (T1.getD k []) l))) ∧ (OwnB K4 bx [I64 c] true)) ?_ (W - 0) _ _ ⟨0, rfl, by omega, (by first | rfl | exact f0 | (simp [upd_apply]; done)), (by first | rfl | exact f5 | (simp [upd_apply]; done)), (by first | rfl | exact f8 | (simp [upd_apply]; done)), (by first | rfl | exact f9 | (simp [upd_apply]; done)), (by first | rfl | exact f11 | (simp [upd_apply]; done)), (by first | rfl | exact f12 | (simp [upd_apply]; done)), (by first | rfl | (simp [upd_apply]; done)), (by first | rfl | (simp [upd_apply]; done)), (by first | rfl | (simp [upd_apply]; done)), (by rw [mixed_zero, ← ek, set_self (by omega)]; exact sk), ⟨_, hgb3⟩⟩
            rintro m f K4 ⟨l, rfl, hl, f0, f5, f8, f9, f11, f12, f13, f99, f100, sl, hb4⟩
            try simp (maxSteps := 3000000) (disch := first | omega | (simp only [len_new, len_put, len_kill]; omega)) only [↓xpre, xpost, ↓reduceIte, Nat.reduceEqDiff, Nat.reduceAdd, Nat.reduceSub, Nat.reduceLeDiff, Nat.zero_add, Nat.sub_zero, f0, f5, f8, f9, f11, f12, f13, f99, f100, IfW_dec]
            refine ⟨fun hltl => ?_, fun hgel => ?_⟩
            · have hl' : l < W := by omega
              have ek4 : ((swept p T1 r c k).set k (mixed G (T1.getD k []) l)).getD k [] = mixed G (T1.getD k []) l := by rw [set_getD' (by omega), if_pos rfl]
              have er4 : ((swept p T1 r c k).set k (mixed G (T1.getD k []) l)).getD r [] = T1.getD r [] := by rw [set_getD' (by omega), if_neg (by omega), er]
              have ml : (mixed G (T1.getD k []) l).length = W := by rw [mixed_len, gk.1]
              have sll : ((swept p T1 r c k).set k (mixed G (T1.getD k []) l)).length = rows.length := by rw [List.length_set, sl0]
              have rk4 := sl.rdk (k := k) sll hk'
              have rr4 := sl.rdk (k := r) sll hrn
              have rkc := sl.rdc (k := k) (l := l) (W := W) (by omega) (by rw [ek4, ml]) hl'
              have rrc := sl.rdc (k := r) (l := l) (W := W) (by omega) (by rw [er4]; exact gr.1) hl'
              rw [ek4, ml] at rk4
              rw [er4, gr.1] at rr4
              rw [ek4, mixed_get (by rw [gk.1]; exact hl') (Nat.le_refl _)] at rkc
              rw [er4] at rrc
              have b1 := gk.2 l hl'
              have b2 := gr.2 l hl'
              unfold tb at b1 b2
              have b3 := mul_in (a := sN) (b := (T1.getD r []).getD l 0) (A := 5) (B := 5) (by omega) (by omega)
              have b4 := tmod_bound (x := (T1.getD k []).getD l 0 - sN * (T1.getD r []).getD l 0) hp5.1
              have b5 := hGx l
              unfold md at b5
              obtain ⟨e4, hg4⟩ := (sl.rows k (by omega)).2
              have sc := sl.cell (k := k) (l := l) (x := G l) (by omega) (by rw [ek4, ml]; exact hl') (e := e4) hg4
              rw [ek4] at hg4 sc
              rw [List.set_set, mixed_next (by rw [gk.1]; exact hl')] at sc
              have hm : splice ((mixed G (T1.getD k []) l).map (Value.int .i64)) l [I64 (G l)] = (mixed G (T1.getD k []) (l + 1)).map (Value.int .i64) := by rw [splice_set (by rw [List.length_map, ml]; exact hl'), ← mixed_next (by rw [gk.1]; exact hl'), List.map_set]
              have ne4 := lb1 k hk'
              try simp (maxSteps := 3000000) (disch := first | omega | (simp only [len_new, len_put, len_kill]; omega)) only [↓xpre, xpost, ↓reduceIte, Nat.reduceEqDiff, Nat.reduceAdd, Nat.reduceSub, Nat.reduceLeDiff, Nat.zero_add, Nat.sub_zero, f0, f5, f8, f9, f11, f12, f13, f99, f100, rk4.1, rk4.2, rr4.1, rr4.2, rkc.1, rkc.2, rrc.1, rrc.2, wrap64_in, bin_rem, ← b5, wr_of hg4, splice_set, List.length_map, ml, hm]
              refine ⟨by omega, ?_⟩
              refine InvQ_go (W - (l + 1)) (by omega) ⟨(l + 1), rfl, by omega, (by first | rfl | exact f0 | (simp only [upd_apply]; rfl) | (show I64 _ = _; congr 1; omega)), (by first | rfl | exact f5 | (simp only [upd_apply]; rfl) | (show I64 _ = _; congr 1; omega)), (by first | rfl | exact f8 | (simp only [upd_apply]; rfl) | (show I64 _ = _; congr 1; omega)), (by first | rfl | exact f9 | (simp only [upd_apply]; rfl) | (show I64 _ = _; congr 1; omega)), (by first | rfl | exact f11 | (simp only [upd_apply]; rfl) | (show I64 _ = _; congr 1; omega)), (by first | rfl | exact f12 | (simp only [upd_apply]; rfl) | (show I64 _ = _; congr 1; omega)), (by first | rfl | exact f13 | (simp only [upd_apply]; rfl) | (show I64 _ = _; congr 1; omega)), (by first | rfl | exact f99 | (simp only [upd_apply]; rfl) | (show I64 _ = _; congr 1; omega)), (by first | rfl | exact f100 | (simp only [upd_apply]; rfl) | (show I64 _ = _; congr 1; omega)), sc, (hb4.put_ne (by omega))⟩
            · have e : l = W := by omega
              subst e
              have em : mixed G (T1.getD k []) l = rowOp p (T1.getD r []) (T1.getD k []) c := by
                have q := mixed_full (g := G) (row := T1.getD k [])
                rw [gk.1] at q
                rw [q]
                unfold rowOp
                rw [gk.1]
                exact gen_congr fun x _ => by rw [hGx, hiv, hsd]
              rw [em, ← enx] at sl
              try simp (maxSteps := 3000000) (disch := first | omega | (simp only [len_new, len_put, len_kill]; omega)) only [↓xpre, xpost, ↓reduceIte, Nat.reduceEqDiff, Nat.reduceAdd, Nat.reduceSub, Nat.reduceLeDiff, Nat.zero_add, Nat.sub_zero, f0, f5, f8, f9, f11, f12, f13, f99, f100, wrap64_in]
              refine InvQ_go (rows.length - (k + 1)) (by omega) ⟨(k + 1), rfl, by omega, (by first | rfl | exact f0 | (simp only [upd_apply]; rfl) | (show I64 _ = _; congr 1; omega)), (by first | rfl | exact f5 | (simp only [upd_apply]; rfl) | (show I64 _ = _; congr 1; omega)), (by first | rfl | exact f8 | (simp only [upd_apply]; rfl) | (show I64 _ = _; congr 1; omega)), (by first | rfl | exact f9 | (simp only [upd_apply]; rfl) | (show I64 _ = _; congr 1; omega)), (by first | rfl | exact f11 | (simp only [upd_apply]; rfl) | (show I64 _ = _; congr 1; omega)), (by first | rfl | exact f12 | (simp only [upd_apply]; rfl) | (show I64 _ = _; congr 1; omega)), sl, hb4, (by omega)⟩
          · have e : k = rows.length := by omega
            subst e
            try simp (maxSteps := 3000000) (disch := first | omega | (simp only [len_new, len_put, len_kill]; omega)) only [↓xpre, xpost, ↓reduceIte, Nat.reduceEqDiff, Nat.reduceAdd, Nat.reduceSub, Nat.reduceLeDiff, Nat.zero_add, Nat.sub_zero, f0, f5, f8, f9, f11, f12, rd1_of hgb3, wrap64_in]
            refine InvQ_go (W - (c + 1)) (by omega) ⟨(c + 1), (r + 1), bs1, (swept p T1 r c rows.length), K3.length, rfl, by omega, (by first | rfl | exact f0 | (simp only [upd_apply]; rfl) | (show I64 _ = _; congr 1; omega)), (by first | rfl | exact f5 | (simp only [upd_apply]; rfl) | (show I64 _ = _; congr 1; omega)), (by first | rfl | exact f8 | (simp only [upd_apply]; rfl) | (show I64 _ = _; congr 1; omega)), (by first | rfl | exact f9 | (simp only [upd_apply]; rfl) | (show I64 _ = _; congr 1; omega)), (sk.pre (pre_new (List.prefix_refl _))), ⟨_, get_new_same⟩, sk.lo0.2, (fun i hi => (sk.rows i hi).2.lt), (by omega), (by rw [swept_len, t1l]), (g1.swept hp5.1), ?_⟩
            rw [← hel, show W - c = (W - (c + 1)) + 1 by omega]
            conv => rhs; unfold elim
            rw [hcs]
    · have : c = W := by omega
      subst this
      try simp (maxSteps := 3000000) (disch := first | omega | (simp only [len_new, len_put, len_kill]; omega)) only [↓xpre, xpost, ↓reduceIte, Nat.reduceEqDiff, Nat.reduceAdd, Nat.reduceSub, Nat.reduceLeDiff, Nat.zero_add, Nat.sub_zero, f0, f5, f8, f9]
      have := hQ _ so.hp
      rw [← hel] at this
      simpa [elim] using this
end Go.Proofs.Ytapafdpnmakekaa.X
