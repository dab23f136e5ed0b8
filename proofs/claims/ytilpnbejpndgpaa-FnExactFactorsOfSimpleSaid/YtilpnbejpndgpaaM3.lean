/- Texts of one claim, put together by merge.py: XF1, XF2, XF3, XF4, XF5, XF6, XF7, XF8, XF9, XF16, XF17, XF18, XF19, XF20, XF21. -/
import Derived.Test.YtilpnbejpndgpaaM2
import Derived.Test.YtilpnbejpndgpaaMC3
/- The functions on whole numbers and their lists. -/
set_option linter.unusedVariables false
set_option linter.unusedSimpArgs false
namespace Go.Proofs.Ytilpnbejpndgpaa.X
open Go Go.RowKit
def S : XS := ⟨fun _ => none, T⟩
theorem esound : ESound Try.prog S.E := fun g p hp => by cases hp

theorem s_l01In {a b c : Int} {h : AH} {Q : Value → AH → Prop} (hQ : Q (.bool (decide (b ≤ a ∧ a ≤ c))) h) : WF S 115 [I64 a, I64 b, I64 c] h Q := by
  refine WF_fn (fn := c115) rfl rfl ?_
  unfold c115
  try simp (maxSteps := 3000000) (disch := first | omega | (simp only [len_new, len_put, len_kill]; omega)) only [↓xpre, xpost, ↓reduceIte, Nat.reduceEqDiff, Nat.reduceAdd, Nat.reduceSub, Nat.reduceLeDiff, Nat.zero_add, Nat.sub_zero]
  by_cases h1 : b ≤ a
  · try simp (maxSteps := 3000000) (disch := first | omega | (simp only [len_new, len_put, len_kill]; omega)) only [↓xpre, xpost, ↓reduceIte, Nat.reduceEqDiff, Nat.reduceAdd, Nat.reduceSub, Nat.reduceLeDiff, Nat.zero_add, Nat.sub_zero, h1]
    simpa [h1] using hQ
  · try simp (maxSteps := 3000000) (disch := first | omega | (simp only [len_new, len_put, len_kill]; omega)) only [↓xpre, xpost, ↓reduceIte, Nat.reduceEqDiff, Nat.reduceAdd, Nat.reduceSub, Nat.reduceLeDiff, Nat.zero_add, Nat.sub_zero, h1]
    simpa [h1] using hQ

def isP (p : Int) : Bool := decide (p = 2 ∨ p = 3 ∨ p = 5)
theorem s_l01Prime {p : Int} {h : AH} {Q : Value → AH → Prop} (hQ : Q (.bool (isP p)) h) : WF S 114 [I64 p] h Q := by
  refine WF_fn (fn := c114) rfl rfl ?_
  unfold c114
  try simp (maxSteps := 3000000) (disch := first | omega | (simp only [len_new, len_put, len_kill]; omega)) only [↓xpre, xpost, ↓reduceIte, Nat.reduceEqDiff, Nat.reduceAdd, Nat.reduceSub, Nat.reduceLeDiff, Nat.zero_add, Nat.sub_zero]
  by_cases h1 : p = 2
  · try simp (maxSteps := 3000000) (disch := first | omega | (simp only [len_new, len_put, len_kill]; omega)) only [↓xpre, xpost, ↓reduceIte, Nat.reduceEqDiff, Nat.reduceAdd, Nat.reduceSub, Nat.reduceLeDiff, Nat.zero_add, Nat.sub_zero, h1]
    simpa [h1, isP] using hQ
  · try simp (maxSteps := 3000000) (disch := first | omega | (simp only [len_new, len_put, len_kill]; omega)) only [↓xpre, xpost, ↓reduceIte, Nat.reduceEqDiff, Nat.reduceAdd, Nat.reduceSub, Nat.reduceLeDiff, Nat.zero_add, Nat.sub_zero, h1]
    by_cases h2 : p = 3
    · try simp (maxSteps := 3000000) (disch := first | omega | (simp only [len_new, len_put, len_kill]; omega)) only [↓xpre, xpost, ↓reduceIte, Nat.reduceEqDiff, Nat.reduceAdd, Nat.reduceSub, Nat.reduceLeDiff, Nat.zero_add, Nat.sub_zero, h2]
      simpa [h2, isP] using hQ
    · try simp (maxSteps := 3000000) (disch := first | omega | (simp only [len_new, len_put, len_kill]; omega)) only [↓xpre, xpost, ↓reduceIte, Nat.reduceEqDiff, Nat.reduceAdd, Nat.reduceSub, Nat.reduceLeDiff, Nat.zero_add, Nat.sub_zero, h2]
      simpa [h1, h2, isP] using hQ
theorem i_isPrime {p : Int} {h : AH} {Q : Value → AH → Prop} (hQ : Q (.bool (isP p)) h) : WF S 118 [I64 p] h Q := by
  refine WF_fn (fn := c118) rfl rfl ?_
  unfold c118
  try simp (maxSteps := 3000000) (disch := first | omega | (simp only [len_new, len_put, len_kill]; omega)) only [↓xpre, xpost, ↓reduceIte, Nat.reduceEqDiff, Nat.reduceAdd, Nat.reduceSub, Nat.reduceLeDiff, Nat.zero_add, Nat.sub_zero]
  by_cases h1 : p = 2
  · try simp (maxSteps := 3000000) (disch := first | omega | (simp only [len_new, len_put, len_kill]; omega)) only [↓xpre, xpost, ↓reduceIte, Nat.reduceEqDiff, Nat.reduceAdd, Nat.reduceSub, Nat.reduceLeDiff, Nat.zero_add, Nat.sub_zero, h1]
    simpa [h1, isP] using hQ
  · try simp (maxSteps := 3000000) (disch := first | omega | (simp only [len_new, len_put, len_kill]; omega)) only [↓xpre, xpost, ↓reduceIte, Nat.reduceEqDiff, Nat.reduceAdd, Nat.reduceSub, Nat.reduceLeDiff, Nat.zero_add, Nat.sub_zero, h1]
    by_cases h2 : p = 3
    · try simp (maxSteps := 3000000) (disch := first | omega | (simp only [len_new, len_put, len_kill]; omega)) only [↓xpre, xpost, ↓reduceIte, Nat.reduceEqDiff, Nat.reduceAdd, Nat.reduceSub, Nat.reduceLeDiff, Nat.zero_add, Nat.sub_zero, h2]
      simpa [h2, isP] using hQ
    · try simp (maxSteps := 3000000) (disch := first | omega | (simp only [len_new, len_put, len_kill]; omega)) only [↓xpre, xpost, ↓reduceIte, Nat.reduceEqDiff, Nat.reduceAdd, Nat.reduceSub, Nat.reduceLeDiff, Nat.zero_add, Nat.sub_zero, h2]
      simpa [h1, h2, isP] using hQ

theorem l_szInt64S {v : Value} {ns : List Int} {n : Int} {h : AH} {Q : Value → AH → Prop} (hv : Ints h v ns) (h0 : 0 ≤ n ∧ n ≤ 1048576) (hl : (ns.length : Int) ≤ 9223372036854775807)
    (hQ : ∀ m : Int, m ≤ n → (0 ≤ m → (ns.length : Int) ≤ n ∧ m = n - ns.length) → Q (I64 m) h) : WF S 64 [v, I64 n] h Q := by
  refine WF_fn (fn := c64) rfl rfl ?_
  unfold c64
  try simp (maxSteps := 3000000) (disch := first | omega | (simp only [len_new, len_put, len_kill]; omega)) only [↓xpre, xpost, ↓reduceIte, Nat.reduceEqDiff, Nat.reduceAdd, Nat.reduceSub, Nat.reduceLeDiff, Nat.zero_add, Nat.sub_zero, hv.len, wrap64_in]
  by_cases h1 : n - ↑ns.length < 0
  · try simp (maxSteps := 3000000) (disch := first | omega | (simp only [len_new, len_put, len_kill]; omega)) only [↓xpre, xpost, ↓reduceIte, Nat.reduceEqDiff, Nat.reduceAdd, Nat.reduceSub, Nat.reduceLeDiff, Nat.zero_add, Nat.sub_zero, h1]
    exact hQ _ (by omega) (by omega)
  · try simp (maxSteps := 3000000) (disch := first | omega | (simp only [len_new, len_put, len_kill]; omega)) only [↓xpre, xpost, ↓reduceIte, Nat.reduceEqDiff, Nat.reduceAdd, Nat.reduceSub, Nat.reduceLeDiff, Nat.zero_add, Nat.sub_zero, h1]
    exact hQ _ (by omega) (by omega)
end Go.Proofs.Ytilpnbejpndgpaa.X

/- Lists of whole numbers: copies, comparisons, bounds. -/
set_option linter.unusedVariables false
set_option linter.unusedSimpArgs false
namespace Go.Proofs.Ytilpnbejpndgpaa.X
open Go Go.RowKit

def fillN (ns : List Int) (i : Nat) : List Int := ns.take i ++ List.replicate (ns.length - i) 0
theorem fillN_len {ns : List Int} {i : Nat} (hi : i ≤ ns.length) : (fillN ns i).length = ns.length := by simp [fillN]; omega
theorem fillN_zero {ns : List Int} : fillN ns 0 = List.replicate ns.length 0 := by simp [fillN]
theorem fillN_all {ns : List Int} : fillN ns ns.length = ns := by simp [fillN]
theorem fillN_set {ns : List Int} {i : Nat} (hi : i < ns.length) : (fillN ns i).set i (ns.getD i 0) = fillN ns (i + 1) := by
  unfold fillN
  rw [List.set_append_right _ _ (by rw [List.length_take]; omega)]
  have e1 : ns.length - i = (ns.length - (i + 1)) + 1 := by omega
  have e2 : i - (ns.take i).length = 0 := by rw [List.length_take]; exact Nat.sub_eq_zero_of_le (by omega)
  rw [e1, e2, List.replicate_succ, List.set_cons_zero, List.take_succ_eq_append_getElem hi]
  simp only [List.getD_eq_getElem?_getD, List.getElem?_eq_getElem hi, Option.getD_some, List.append_assoc, List.singleton_append]
theorem splice_map {l : List Int} {j : Nat} {x : Int} (hj : j < l.length) : splice (l.map (Value.int .i64)) j [I64 x] = (l.set j x).map (Value.int .i64) := by
  unfold splice
  rw [List.set_eq_take_append_cons_drop, if_pos hj]
  simp [List.map_take, List.map_drop]

def OwnB (h : AH) (n : Nat) (c : List Value) (full : Bool) : Prop := ∃ e, h.get n = some ⟨c, e, false, full⟩
theorem ownB_new {h : AH} {c : List Value} {e : TypeId} {full : Bool} : OwnB (h.new ⟨c, e, false, full⟩) h.length c full := ⟨e, get_new_same⟩
/-- A list of one's own: a block made behind a heap. -/
def OwnI (h0 h : AH) (v : Value) (ns : List Int) : Prop := ∃ n e, h0.length ≤ n ∧ v = .slice (some ⟨n, 0, none⟩) ns.length 1 ∧ h.get n = some ⟨ns.map (Value.int .i64), e, false, true⟩
theorem OwnI.ints {h0 h : AH} {v : Value} {ns : List Int} (o : OwnI h0 h v ns) : Ints h v ns := by
  obtain ⟨n, e, h1, rfl, h2⟩ := o
  exact Ints.own h2 rfl
theorem OwnI.pre {h0 h h' : AH} {v : Value} {ns : List Int} (o : OwnI h0 h v ns) (p : h <+: h') : OwnI h0 h' v ns := by
  obtain ⟨n, e, h1, rfl, h2⟩ := o
  exact ⟨n, e, h1, rfl, pre_get p h2⟩

theorem l_toInt64S {v : Value} {ns : List Int} {h : AH} {Q : Value → AH → Prop} (hv : Ints h v ns) (hl : (ns.length : Int) ≤ 1048576)
    (hQ : ∀ v' h', h <+: h' → OwnI h h' v' ns → Q v' h') : WF S 36 [v] h Q := by
  refine WF_fn (fn := c36) rfl rfl ?_
  unfold c36
  try simp (maxSteps := 3000000) (disch := first | omega | (simp only [len_new, len_put, len_kill]; omega)) only [↓xpre, xpost, ↓reduceIte, Nat.reduceEqDiff, Nat.reduceAdd, Nat.reduceSub, Nat.reduceLeDiff, Nat.zero_add, Nat.sub_zero, hv.len]
  refine ⟨by omega, ?_⟩
  refine WC_loop_inv (fun n f h1 => ∃ i : Nat, n = ns.length - i ∧ i ≤ ns.length ∧ f 0 = v ∧ f 3 = .slice (some ⟨h.length, 0, none⟩) ns.length 1 ∧ f 4 = I64 i ∧
    OwnB h1 h.length ((fillN ns i).map (Value.int .i64)) true ∧ h <+: h1) ?_ ns.length _ _ ⟨0, rfl, Nat.zero_le _, rfl, ?_, rfl, ?_, pre_new (List.prefix_refl _)⟩
  · rintro n f h1 ⟨i, rfl, hi, f0, f3, f4, ⟨e, hb⟩, hp⟩
    have hv1 := hv.pre hp
    try simp (maxSteps := 3000000) (disch := first | omega | (simp only [len_new, len_put, len_kill]; omega)) only [↓xpre, xpost, ↓reduceIte, Nat.reduceEqDiff, Nat.reduceAdd, Nat.reduceSub, Nat.reduceLeDiff, Nat.zero_add, Nat.sub_zero, f0, f3, f4, hv1.len, IfW_dec]
    refine ⟨fun hlt => ?_, fun hge => ?_⟩
    · try simp (maxSteps := 3000000) (disch := first | omega | (simp only [len_new, len_put, len_kill]; omega)) only [↓xpre, xpost, ↓reduceIte, Nat.reduceEqDiff, Nat.reduceAdd, Nat.reduceSub, Nat.reduceLeDiff, Nat.zero_add, Nat.sub_zero, f0, f3, f4, hv1.ix, hv1.rd, ixsV_some]
      refine ⟨⟨by omega, hlt⟩, ?_⟩
      rw [wr_eq hb rfl (by simp [fillN_len hi]; omega)]
      try simp (maxSteps := 3000000) (disch := first | omega | (simp only [len_new, len_put, len_kill]; omega)) only [↓xpre, xpost, ↓reduceIte, Nat.reduceEqDiff, Nat.reduceAdd, Nat.reduceSub, Nat.reduceLeDiff, Nat.zero_add, Nat.sub_zero, f0, f3, f4, wrap64_in]
      refine InvQ_go (ns.length - (i + 1)) (by omega) ⟨i + 1, rfl, by omega, f0, f3, rfl, ⟨e, ?_⟩, pre_put hp (Nat.le_refl _)⟩
      rw [get_put_same (get_lt hb)]
      have e1 : ((i : Int).toNat * 1) = i := by omega
      simp only [e1, Nat.zero_add]
      rw [splice_map (by rw [fillN_len hi]; omega)]
      have := fillN_set (ns := ns) (i := i) (by omega)
      simp only [nth, Int.toNat_natCast]
      rw [this]
    · try simp (maxSteps := 3000000) (disch := first | omega | (simp only [len_new, len_put, len_kill]; omega)) only [↓xpre, xpost, ↓reduceIte, Nat.reduceEqDiff, Nat.reduceAdd, Nat.reduceSub, Nat.reduceLeDiff, Nat.zero_add, Nat.sub_zero, f0, f3, f4]
      refine hQ _ _ hp ⟨h.length, e, Nat.le_refl _, rfl, ?_⟩
      have : i = ns.length := by omega
      subst this
      rw [hb, fillN_all]
  · simp [upd_apply]
  · rw [fillN_zero, Int.toNat_natCast, zrep_ints]
    exact ownB_new

theorem l_eqInt64S {v v' : Value} {ns ms : List Int} {h : AH} {Q : Value → AH → Prop} (hv : Ints h v ns) (hv' : Ints h v' ms) (hl : (ns.length : Int) ≤ 1048576)
    (hQ : Q (.bool (decide (ns = ms))) h) : WF S 30 [v, v'] h Q := by
  refine WF_fn (fn := c30) rfl rfl ?_
  unfold c30
  try simp (maxSteps := 3000000) (disch := first | omega | (simp only [len_new, len_put, len_kill]; omega)) only [↓xpre, xpost, ↓reduceIte, Nat.reduceEqDiff, Nat.reduceAdd, Nat.reduceSub, Nat.reduceLeDiff, Nat.zero_add, Nat.sub_zero, hv.len, hv'.len, IfW_dec]
  refine ⟨fun hne => ?_, fun heq => ?_⟩
  · try simp (maxSteps := 3000000) (disch := first | omega | (simp only [len_new, len_put, len_kill]; omega)) only [↓xpre, xpost, ↓reduceIte, Nat.reduceEqDiff, Nat.reduceAdd, Nat.reduceSub, Nat.reduceLeDiff, Nat.zero_add, Nat.sub_zero]
    have : ns ≠ ms := fun e => hne (by rw [e])
    simpa [this] using hQ
  · try simp (maxSteps := 3000000) (disch := first | omega | (simp only [len_new, len_put, len_kill]; omega)) only [↓xpre, xpost, ↓reduceIte, Nat.reduceEqDiff, Nat.reduceAdd, Nat.reduceSub, Nat.reduceLeDiff, Nat.zero_add, Nat.sub_zero]
    have hlen : ns.length = ms.length := by omega
    refine WC_loop_inv (fun n f h1 => ∃ i : Nat, n = ns.length - i ∧ i ≤ ns.length ∧ f 0 = v ∧ f 1 = v' ∧ f 5 = I64 i ∧ h1 = h ∧ ∀ j, j < i → ns.getD j 0 = ms.getD j 0) ?_ ns.length _ _ ⟨0, rfl, Nat.zero_le _, rfl, rfl, rfl, rfl, by omega⟩
    rintro n f h1 ⟨i, rfl, hi, f0, f1, f5, rfl, hj⟩
    try simp (maxSteps := 3000000) (disch := first | omega | (simp only [len_new, len_put, len_kill]; omega)) only [↓xpre, xpost, ↓reduceIte, Nat.reduceEqDiff, Nat.reduceAdd, Nat.reduceSub, Nat.reduceLeDiff, Nat.zero_add, Nat.sub_zero, f0, f1, f5, hv.len, IfW_dec]
    refine ⟨fun hlt => ?_, fun hge => ?_⟩
    · try simp (maxSteps := 3000000) (disch := first | omega | (simp only [len_new, len_put, len_kill]; omega)) only [↓xpre, xpost, ↓reduceIte, Nat.reduceEqDiff, Nat.reduceAdd, Nat.reduceSub, Nat.reduceLeDiff, Nat.zero_add, Nat.sub_zero, f0, f1, f5, hv.ix, hv.rd, hv'.ix, hv'.rd, IfW_dec]
      simp only [nth, Int.toNat_natCast]
      refine ⟨fun hne => ?_, fun he => ?_⟩
      · try simp (maxSteps := 3000000) (disch := first | omega | (simp only [len_new, len_put, len_kill]; omega)) only [↓xpre, xpost, ↓reduceIte, Nat.reduceEqDiff, Nat.reduceAdd, Nat.reduceSub, Nat.reduceLeDiff, Nat.zero_add, Nat.sub_zero]
        have : ns ≠ ms := fun e => hne (by rw [e])
        simpa [this] using hQ
      · try simp (maxSteps := 3000000) (disch := first | omega | (simp only [len_new, len_put, len_kill]; omega)) only [↓xpre, xpost, ↓reduceIte, Nat.reduceEqDiff, Nat.reduceAdd, Nat.reduceSub, Nat.reduceLeDiff, Nat.zero_add, Nat.sub_zero, f0, f1, f5, wrap64_in]
        refine InvQ_go (ns.length - (i + 1)) (by omega) ⟨i + 1, rfl, by omega, f0, f1, rfl, rfl, fun j hj' => ?_⟩
        rcases Nat.lt_succ_iff_lt_or_eq.1 hj' with hj' | rfl
        · exact hj j hj'
        · exact Decidable.not_not.1 he
    · try simp (maxSteps := 3000000) (disch := first | omega | (simp only [len_new, len_put, len_kill]; omega)) only [↓xpre, xpost, ↓reduceIte, Nat.reduceEqDiff, Nat.reduceAdd, Nat.reduceSub, Nat.reduceLeDiff, Nat.zero_add, Nat.sub_zero, f0, f1, f5]
      have : ns = ms := by
        refine List.ext_getElem? fun j => ?_
        by_cases h1 : j < ns.length
        · have := hj j (by omega)
          rw [List.getElem?_eq_getElem h1, List.getElem?_eq_getElem (by omega)]
          simpa [List.getD_eq_getElem?_getD, List.getElem?_eq_getElem h1, List.getElem?_eq_getElem (show j < ms.length by omega)] using this
        · rw [List.getElem?_eq_none (by omega), List.getElem?_eq_none (by omega)]
      simpa [this] using hQ

def allIn (p : Int) (ns : List Int) : Bool := ns.all fun n => decide (0 ≤ n ∧ n < p)
theorem allIn_iff {p : Int} {ns : List Int} : allIn p ns = true ↔ ∀ j, j < ns.length → 0 ≤ ns.getD j 0 ∧ ns.getD j 0 < p := by
  simp only [allIn, List.all_eq_true, decide_eq_true_eq]
  constructor
  · intro h j hj
    have := h (ns.getD j 0) (by simp [List.getD_eq_getElem?_getD, List.getElem?_eq_getElem hj])
    exact this
  · intro h x hx
    obtain ⟨j, hj, rfl⟩ := List.mem_iff_getElem.1 hx
    have := h j hj
    simpa [List.getD_eq_getElem?_getD, List.getElem?_eq_getElem hj] using this
theorem i_areNumbers {v : Value} {ns : List Int} {p : Int} {h : AH} {Q : Value → AH → Prop} (hv : Ints h v ns) (hl : (ns.length : Int) ≤ 1048576)
    (hQ : Q (.bool (allIn p ns)) h) : WF S 85 [I64 p, v] h Q := by
  refine WF_fn (fn := c85) rfl rfl ?_
  unfold c85
  try simp (maxSteps := 3000000) (disch := first | omega | (simp only [len_new, len_put, len_kill]; omega)) only [↓xpre, xpost, ↓reduceIte, Nat.reduceEqDiff, Nat.reduceAdd, Nat.reduceSub, Nat.reduceLeDiff, Nat.zero_add, Nat.sub_zero, hv.len]
  refine WC_loop_inv (fun n f h1 => ∃ i : Nat, n = ns.length - i ∧ i ≤ ns.length ∧ f 0 = I64 p ∧ f 7 = v ∧ f 8 = I64 ns.length ∧ f 9 = I64 i ∧ h1 = h ∧ ∀ j, j < i → 0 ≤ ns.getD j 0 ∧ ns.getD j 0 < p) ?_ ns.length _ _ ⟨0, rfl, Nat.zero_le _, rfl, rfl, rfl, rfl, rfl, by omega⟩
  rintro n f h1 ⟨i, rfl, hi, f0, f7, f8, f9, rfl, hj⟩
  try simp (maxSteps := 3000000) (disch := first | omega | (simp only [len_new, len_put, len_kill]; omega)) only [↓xpre, xpost, ↓reduceIte, Nat.reduceEqDiff, Nat.reduceAdd, Nat.reduceSub, Nat.reduceLeDiff, Nat.zero_add, Nat.sub_zero, f0, f7, f8, f9, IfW_dec]
  refine ⟨fun hlt => ?_, fun hge => ?_⟩
  · try simp (maxSteps := 3000000) (disch := first | omega | (simp only [len_new, len_put, len_kill]; omega)) only [↓xpre, xpost, ↓reduceIte, Nat.reduceEqDiff, Nat.reduceAdd, Nat.reduceSub, Nat.reduceLeDiff, Nat.zero_add, Nat.sub_zero, f0, f7, f8, f9, hv.ix, hv.rd]
    simp only [nth, Int.toNat_natCast]
    have bad : ¬ (0 ≤ ns.getD i 0 ∧ ns.getD i 0 < p) → allIn p ns = false := fun hb => by
      cases ha : allIn p ns with
      | false => rfl
      | true => exact (hb (allIn_iff.1 ha i (by omega))).elim
    by_cases h1 : ns.getD i 0 < 0
    · try simp (maxSteps := 3000000) (disch := first | omega | (simp only [len_new, len_put, len_kill]; omega)) only [↓xpre, xpost, ↓reduceIte, Nat.reduceEqDiff, Nat.reduceAdd, Nat.reduceSub, Nat.reduceLeDiff, Nat.zero_add, Nat.sub_zero, h1, f0, f7, f8, f9]
      rw [bad (by omega)] at hQ
      exact hQ
    · try simp (maxSteps := 3000000) (disch := first | omega | (simp only [len_new, len_put, len_kill]; omega)) only [↓xpre, xpost, ↓reduceIte, Nat.reduceEqDiff, Nat.reduceAdd, Nat.reduceSub, Nat.reduceLeDiff, Nat.zero_add, Nat.sub_zero, h1, f0, f7, f8, f9, IfW_dec]
      refine ⟨fun h2 => ?_, fun h2 => ?_⟩
      · try simp (maxSteps := 3000000) (disch := first | omega | (simp only [len_new, len_put, len_kill]; omega)) only [↓xpre, xpost, ↓reduceIte, Nat.reduceEqDiff, Nat.reduceAdd, Nat.reduceSub, Nat.reduceLeDiff, Nat.zero_add, Nat.sub_zero]
        rw [bad (by omega)] at hQ
        exact hQ
      · try simp (maxSteps := 3000000) (disch := first | omega | (simp only [len_new, len_put, len_kill]; omega)) only [↓xpre, xpost, ↓reduceIte, Nat.reduceEqDiff, Nat.reduceAdd, Nat.reduceSub, Nat.reduceLeDiff, Nat.zero_add, Nat.sub_zero, f0, f7, f8, f9, wrap64_in]
        refine InvQ_go (ns.length - (i + 1)) (by omega) ⟨i + 1, rfl, by omega, f0, f7, f8, rfl, rfl, fun j hj' => ?_⟩
        rcases Nat.lt_succ_iff_lt_or_eq.1 hj' with hj' | rfl
        · exact hj j hj'
        · omega
  · try simp (maxSteps := 3000000) (disch := first | omega | (simp only [len_new, len_put, len_kill]; omega)) only [↓xpre, xpost, ↓reduceIte, Nat.reduceEqDiff, Nat.reduceAdd, Nat.reduceSub, Nat.reduceLeDiff, Nat.zero_add, Nat.sub_zero, f0, f7, f8, f9]
    have : allIn p ns = true := allIn_iff.2 fun j hj' => hj j (by omega)
    rw [this] at hQ
    exact hQ
end Go.Proofs.Ytilpnbejpndgpaa.X

/- Tensors: what they are, copies, comparisons. -/
set_option linter.unusedVariables false
set_option linter.unusedSimpArgs false
namespace Go.Proofs.Ytilpnbejpndgpaa.X
open Go Go.RowKit

theorem new_facts {h H : AH} {b : Blk} (e : h.new b = H) : H.get h.length = some b ∧ h <+: H ∧ H.length = h.length + 1 := by
  subst e
  exact ⟨get_new_same, pre_new (List.prefix_refl _), len_new⟩

structure Ten where
  p : Int
  i : Int
  j : Int
  k : Int
  ns : List Int
  deriving DecidableEq
def tenV (t : Ten) (v : Value) : Value := .agg #[I64 t.p, I64 t.i, I64 t.j, I64 t.k, v]
def side (n : Int) : Bool := decide (1 ≤ n ∧ n ≤ 9)
def isT (t : Ten) : Bool := isP t.p && side t.i && side t.j && side t.k && decide ((t.ns.length : Int) = t.i * t.j * t.k) && allIn t.p t.ns
theorem side_iff {n : Int} : side n = true ↔ 1 ≤ n ∧ n ≤ 9 := by simp [side]
theorem isP_in {p : Int} (h : isP p = true) : 2 ≤ p ∧ p ≤ 5 := by
  simp [isP] at h
  omega
theorem mul_in {a b A B : Int} (ha : 0 ≤ a ∧ a ≤ A) (hb : 0 ≤ b ∧ b ≤ B) : 0 ≤ a * b ∧ a * b ≤ A * B :=
  ⟨Int.mul_nonneg ha.1 hb.1, Int.mul_le_mul ha.2 hb.2 hb.1 (by omega)⟩

theorem l_szTensor {v : Value} {t : Ten} {n : Int} {h : AH} {Q : Value → AH → Prop} (hv : Ints h v t.ns) (h0 : 0 ≤ n ∧ n ≤ 1048576) (hl : (t.ns.length : Int) ≤ 9223372036854775807)
    (hQ : ∀ (m : Int) h', h <+: h' → m ≤ n → (0 ≤ m → (t.ns.length : Int) ≤ n ∧ m = n - t.ns.length) → Q (I64 m) h') : WF S 15 [tenV t v, I64 n] h Q := by
  refine WF_fn (fn := c15) rfl rfl ?_
  unfold c15
  try simp (maxSteps := 3000000) (disch := first | omega | (simp only [len_new, len_put, len_kill]; omega)) only [↓xpre, xpost, ↓reduceIte, Nat.reduceEqDiff, Nat.reduceAdd, Nat.reduceSub, Nat.reduceLeDiff, Nat.zero_add, Nat.sub_zero, tenV, hv.one]
  refine l_szInt64S (hv.pre (pre_new (List.prefix_refl _))) h0 hl fun m h1 h2 => ?_
  try simp (maxSteps := 3000000) (disch := first | omega | (simp only [len_new, len_put, len_kill]; omega)) only [↓xpre, xpost, ↓reduceIte, Nat.reduceEqDiff, Nat.reduceAdd, Nat.reduceSub, Nat.reduceLeDiff, Nat.zero_add, Nat.sub_zero, IfW_dec]
  exact ⟨fun hm => hQ _ _ (pre_new (List.prefix_refl _)) (by omega) (by omega), fun hm => hQ _ _ (pre_new (List.prefix_refl _)) h1 h2⟩

theorem s_l05Is {v : Value} {t : Ten} {h : AH} {Q : Value → AH → Prop} (hv : Ints h v t.ns) (hl : (t.ns.length : Int) ≤ 1048576)
    (hQ : ∀ h', h <+: h' → Q (.bool (isT t)) h') : WF S 65 [tenV t v] h Q := by
  refine WF_fn (fn := c65) rfl rfl ?_
  unfold c65
  try simp (maxSteps := 3000000) (disch := first | omega | (simp only [len_new, len_put, len_kill]; omega)) only [↓xpre, xpost, ↓reduceIte, Nat.reduceEqDiff, Nat.reduceAdd, Nat.reduceSub, Nat.reduceLeDiff, Nat.zero_add, Nat.sub_zero, tenV, hv.one]
  generalize hH : AH.new h _ = H
  obtain ⟨hb, hp, hlen⟩ := new_facts hH
  have hv1 := hv.pre hp
  have hQ' := hQ _ hp
  refine s_l01Prime ?_
  cases h1 : isP t.p with
  | false =>
    try simp (maxSteps := 3000000) (disch := first | omega | (simp only [len_new, len_put, len_kill]; omega)) only [↓xpre, xpost, ↓reduceIte, Nat.reduceEqDiff, Nat.reduceAdd, Nat.reduceSub, Nat.reduceLeDiff, Nat.zero_add, Nat.sub_zero, h1]
    simpa [isT, h1] using hQ'
  | true =>
    try simp (maxSteps := 3000000) (disch := first | omega | (simp only [len_new, len_put, len_kill]; omega)) only [↓xpre, xpost, ↓reduceIte, Nat.reduceEqDiff, Nat.reduceAdd, Nat.reduceSub, Nat.reduceLeDiff, Nat.zero_add, Nat.sub_zero, h1, rd1_of hb]
    refine s_l01In ?_
    by_cases h2 : 1 ≤ t.i ∧ t.i ≤ 9
    case neg =>
      try simp (maxSteps := 3000000) (disch := first | omega | (simp only [len_new, len_put, len_kill]; omega)) only [↓xpre, xpost, ↓reduceIte, Nat.reduceEqDiff, Nat.reduceAdd, Nat.reduceSub, Nat.reduceLeDiff, Nat.zero_add, Nat.sub_zero, h2]
      simpa [isT, side, h2] using hQ'
    try simp (maxSteps := 3000000) (disch := first | omega | (simp only [len_new, len_put, len_kill]; omega)) only [↓xpre, xpost, ↓reduceIte, Nat.reduceEqDiff, Nat.reduceAdd, Nat.reduceSub, Nat.reduceLeDiff, Nat.zero_add, Nat.sub_zero, h2, rd1_of hb]
    refine s_l01In ?_
    by_cases h3 : 1 ≤ t.j ∧ t.j ≤ 9
    case neg =>
      try simp (maxSteps := 3000000) (disch := first | omega | (simp only [len_new, len_put, len_kill]; omega)) only [↓xpre, xpost, ↓reduceIte, Nat.reduceEqDiff, Nat.reduceAdd, Nat.reduceSub, Nat.reduceLeDiff, Nat.zero_add, Nat.sub_zero, h3]
      simpa [isT, side, h3] using hQ'
    try simp (maxSteps := 3000000) (disch := first | omega | (simp only [len_new, len_put, len_kill]; omega)) only [↓xpre, xpost, ↓reduceIte, Nat.reduceEqDiff, Nat.reduceAdd, Nat.reduceSub, Nat.reduceLeDiff, Nat.zero_add, Nat.sub_zero, h3, rd1_of hb]
    refine s_l01In ?_
    by_cases h4 : 1 ≤ t.k ∧ t.k ≤ 9
    case neg =>
      try simp (maxSteps := 3000000) (disch := first | omega | (simp only [len_new, len_put, len_kill]; omega)) only [↓xpre, xpost, ↓reduceIte, Nat.reduceEqDiff, Nat.reduceAdd, Nat.reduceSub, Nat.reduceLeDiff, Nat.zero_add, Nat.sub_zero, h4]
      simpa [isT, side, h4] using hQ'
    have b1 := isP_in h1
    have b2 := mul_in (a := t.i) (b := t.j) (A := 9) (B := 9) (by omega) (by omega)
    have b3 := mul_in (a := t.i * t.j) (b := t.k) (A := 81) (B := 9) (by omega) (by omega)
    try simp (maxSteps := 3000000) (disch := first | omega | (simp only [len_new, len_put, len_kill]; omega)) only [↓xpre, xpost, ↓reduceIte, Nat.reduceEqDiff, Nat.reduceAdd, Nat.reduceSub, Nat.reduceLeDiff, Nat.zero_add, Nat.sub_zero, h4, rd1_of hb, hv1.len, wrap64_in, IfW_dec]
    refine ⟨fun hne => ?_, fun he => ?_⟩
    · simpa [isT, hne] using hQ'
    refine WC_loop_inv (fun n f h1 => ∃ i : Nat, n = t.ns.length - i ∧ i ≤ t.ns.length ∧ f 1 = .pointer (some ⟨h.length, 0, none⟩) ∧ f 3 = I64 i ∧ h1 = H ∧
      ∀ j, j < i → 0 ≤ t.ns.getD j 0 ∧ t.ns.getD j 0 < t.p) ?_ t.ns.length _ _ ⟨0, rfl, Nat.zero_le _, rfl, rfl, rfl, by omega⟩
    rintro n f h1' ⟨i, rfl, hi, f1, f3, rfl, hj⟩
    try simp (maxSteps := 3000000) (disch := first | omega | (simp only [len_new, len_put, len_kill]; omega)) only [↓xpre, xpost, ↓reduceIte, Nat.reduceEqDiff, Nat.reduceAdd, Nat.reduceSub, Nat.reduceLeDiff, Nat.zero_add, Nat.sub_zero, f1, f3, rd1_of hb, hv1.len, IfW_dec]
    refine ⟨fun hlt => ?_, fun hge => ?_⟩
    · try simp (maxSteps := 3000000) (disch := first | omega | (simp only [len_new, len_put, len_kill]; omega)) only [↓xpre, xpost, ↓reduceIte, Nat.reduceEqDiff, Nat.reduceAdd, Nat.reduceSub, Nat.reduceLeDiff, Nat.zero_add, Nat.sub_zero, f1, f3, rd1_of hb, hv1.ix, hv1.rd, wrap64_in]
      refine s_l01In ?_
      simp only [nth, Int.toNat_natCast]
      by_cases h5 : 0 ≤ t.ns.getD i 0 ∧ t.ns.getD i 0 ≤ t.p - 1
      · try simp (maxSteps := 3000000) (disch := first | omega | (simp only [len_new, len_put, len_kill]; omega)) only [↓xpre, xpost, ↓reduceIte, Nat.reduceEqDiff, Nat.reduceAdd, Nat.reduceSub, Nat.reduceLeDiff, Nat.zero_add, Nat.sub_zero, h5, f1, f3, wrap64_in]
        refine InvQ_go (t.ns.length - (i + 1)) (by omega) ⟨i + 1, rfl, by omega, f1, rfl, rfl, fun j hj' => ?_⟩
        rcases Nat.lt_succ_iff_lt_or_eq.1 hj' with hj' | rfl
        · exact hj j hj'
        · omega
      · try simp (maxSteps := 3000000) (disch := first | omega | (simp only [len_new, len_put, len_kill]; omega)) only [↓xpre, xpost, ↓reduceIte, Nat.reduceEqDiff, Nat.reduceAdd, Nat.reduceSub, Nat.reduceLeDiff, Nat.zero_add, Nat.sub_zero, h5, f1, f3]
        have : allIn t.p t.ns = false := by
          cases ha : allIn t.p t.ns with
          | false => rfl
          | true =>
            have := allIn_iff.1 ha i (by omega)
            omega
        simpa [isT, this] using hQ'
    · try simp (maxSteps := 3000000) (disch := first | omega | (simp only [len_new, len_put, len_kill]; omega)) only [↓xpre, xpost, ↓reduceIte, Nat.reduceEqDiff, Nat.reduceAdd, Nat.reduceSub, Nat.reduceLeDiff, Nat.zero_add, Nat.sub_zero, f1, f3]
      have : allIn t.p t.ns = true := allIn_iff.2 fun j hj' => hj j (by omega)
      have e' := Decidable.not_not.1 he
      simpa [isT, this, h1, h2, h3, h4, e', side] using hQ'

end Go.Proofs.Ytilpnbejpndgpaa.X

/- Tensors: the program's own test, copies, comparisons. -/
set_option linter.unusedVariables false
set_option linter.unusedSimpArgs false
namespace Go.Proofs.Ytilpnbejpndgpaa.X
open Go Go.RowKit

theorem side_no {n : Int} (h : ¬ (1 ≤ n ∧ n ≤ 9)) : side n = false := by simp [side]; omega
theorem all_iff {q : Int → Bool} {ns : List Int} : ns.all q = true ↔ ∀ j, j < ns.length → q (ns.getD j 0) = true := by
  simp only [List.all_eq_true]
  constructor
  · intro h j hj
    exact h _ (by simp [List.getD_eq_getElem?_getD, List.getElem?_eq_getElem hj])
  · intro h x hx
    obtain ⟨j, hj, rfl⟩ := List.mem_iff_getElem.1 hx
    have := h j hj
    simpa [List.getD_eq_getElem?_getD, List.getElem?_eq_getElem hj] using this
theorem all_not {q : Int → Bool} {ns : List Int} {j : Nat} (hj : j < ns.length) (h : q (ns.getD j 0) = false) : ns.all q = false := by
  cases ha : ns.all q with
  | false => rfl
  | true => rw [all_iff.1 ha j hj] at h; cases h

theorem i_isSide {v : Value} {ns : List Int} {h : AH} {Q : Value → AH → Prop} (hv : Ints h v ns) (hl : (ns.length : Int) ≤ 1048576)
    (hQ : Q (.bool (ns.all side)) h) : WF S 119 [v] h Q := by
  refine WF_fn (fn := c119) rfl rfl ?_
  unfold c119
  try simp (maxSteps := 3000000) (disch := first | omega | (simp only [len_new, len_put, len_kill]; omega)) only [↓xpre, xpost, ↓reduceIte, Nat.reduceEqDiff, Nat.reduceAdd, Nat.reduceSub, Nat.reduceLeDiff, Nat.zero_add, Nat.sub_zero, hv.len]
  refine WC_loop_inv (fun n f h1 => ∃ i : Nat, n = ns.length - i ∧ i ≤ ns.length ∧ f 5 = v ∧ f 6 = I64 ns.length ∧ f 7 = I64 i ∧ h1 = h ∧ ∀ j, j < i → side (ns.getD j 0) = true) ?_ ns.length _ _ ⟨0, rfl, Nat.zero_le _, rfl, rfl, rfl, rfl, by omega⟩
  rintro n f h1 ⟨i, rfl, hi, f5, f6, f7, rfl, hj⟩
  try simp (maxSteps := 3000000) (disch := first | omega | (simp only [len_new, len_put, len_kill]; omega)) only [↓xpre, xpost, ↓reduceIte, Nat.reduceEqDiff, Nat.reduceAdd, Nat.reduceSub, Nat.reduceLeDiff, Nat.zero_add, Nat.sub_zero, f5, f6, f7, IfW_dec]
  refine ⟨fun hlt => ?_, fun hge => ?_⟩
  · try simp (maxSteps := 3000000) (disch := first | omega | (simp only [len_new, len_put, len_kill]; omega)) only [↓xpre, xpost, ↓reduceIte, Nat.reduceEqDiff, Nat.reduceAdd, Nat.reduceSub, Nat.reduceLeDiff, Nat.zero_add, Nat.sub_zero, f5, f6, f7, hv.ix, hv.rd]
    simp only [nth, Int.toNat_natCast]
    by_cases h1 : ns.getD i 0 < 1
    · try simp (maxSteps := 3000000) (disch := first | omega | (simp only [len_new, len_put, len_kill]; omega)) only [↓xpre, xpost, ↓reduceIte, Nat.reduceEqDiff, Nat.reduceAdd, Nat.reduceSub, Nat.reduceLeDiff, Nat.zero_add, Nat.sub_zero, h1, f5, f6, f7]
      rw [all_not (j := i) (by omega) (side_no (by omega))] at hQ
      exact hQ
    · try simp (maxSteps := 3000000) (disch := first | omega | (simp only [len_new, len_put, len_kill]; omega)) only [↓xpre, xpost, ↓reduceIte, Nat.reduceEqDiff, Nat.reduceAdd, Nat.reduceSub, Nat.reduceLeDiff, Nat.zero_add, Nat.sub_zero, h1, f5, f6, f7, IfW_dec]
      refine ⟨fun h2 => ?_, fun h2 => ?_⟩
      · rw [all_not (j := i) (by omega) (side_no (by omega))] at hQ
        exact hQ
      · try simp (maxSteps := 3000000) (disch := first | omega | (simp only [len_new, len_put, len_kill]; omega)) only [↓xpre, xpost, ↓reduceIte, Nat.reduceEqDiff, Nat.reduceAdd, Nat.reduceSub, Nat.reduceLeDiff, Nat.zero_add, Nat.sub_zero, f5, f6, f7, wrap64_in]
        refine InvQ_go (ns.length - (i + 1)) (by omega) ⟨i + 1, rfl, by omega, f5, f6, rfl, rfl, fun j hj' => ?_⟩
        rcases Nat.lt_succ_iff_lt_or_eq.1 hj' with hj' | rfl
        · exact hj j hj'
        · rw [side_iff]; omega
  · rw [all_iff.2 fun j hj' => hj j (by omega)] at hQ
    exact hQ

theorem ints_lit {h : AH} {n : Nat} {a b c : Int} {e : TypeId} {ro full : Bool} (hb : h.get n = some ⟨[I64 a, I64 b, I64 c], e, ro, full⟩) : Ints h (.slice (some ⟨n, 0, none⟩) 3 1) [a, b, c] := Ints.own (ns := [a, b, c]) hb rfl

theorem i_IsTensor {v : Value} {t : Ten} {h : AH} {Q : Value → AH → Prop} (hv : Ints h v t.ns) (hl : (t.ns.length : Int) ≤ 1048576)
    (hQ : ∀ h', h <+: h' → Q (.bool (isT t)) h') : WF S 67 [tenV t v] h Q := by
  refine WF_fn (fn := c67) rfl rfl ?_
  unfold c67
  try simp (maxSteps := 3000000) (disch := first | omega | (simp only [len_new, len_put, len_kill]; omega)) only [↓xpre, xpost, ↓reduceIte, Nat.reduceEqDiff, Nat.reduceAdd, Nat.reduceSub, Nat.reduceLeDiff, Nat.zero_add, Nat.sub_zero, tenV, hv.one]
  generalize hH : AH.new h _ = H
  obtain ⟨hb, hp, hlen⟩ := new_facts hH
  have hv1 := hv.pre hp
  have hQ' := hQ _ hp
  refine i_isPrime ?_
  cases h1 : isP t.p with
  | false =>
    try simp (maxSteps := 3000000) (disch := first | omega | (simp only [len_new, len_put, len_kill]; omega)) only [↓xpre, xpost, ↓reduceIte, Nat.reduceEqDiff, Nat.reduceAdd, Nat.reduceSub, Nat.reduceLeDiff, Nat.zero_add, Nat.sub_zero, h1]
    simpa [isT, h1] using hQ'
  | true =>
    try simp (maxSteps := 3000000) (disch := first | omega | (simp only [len_new, len_put, len_kill]; omega)) only [↓xpre, xpost, ↓reduceIte, Nat.reduceEqDiff, Nat.reduceAdd, Nat.reduceSub, Nat.reduceLeDiff, Nat.zero_add, Nat.sub_zero, h1, rd1_of hb, fillL, zrep]
    generalize hH2 : AH.new H _ = H2
    obtain ⟨hb2, hp2, hlen2⟩ := new_facts hH2
    have hb := pre_get hp2 hb
    have hv2 := hv1.pre hp2
    have hQ2 := hQ _ (hp.trans hp2)
    have b1 := isP_in h1
    refine i_isSide (ints_lit hb2) (by simp) ?_
    cases h2 : [t.i, t.j, t.k].all side with
    | false =>
      try simp (maxSteps := 3000000) (disch := first | omega | (simp only [len_new, len_put, len_kill]; omega)) only [↓xpre, xpost, ↓reduceIte, Nat.reduceEqDiff, Nat.reduceAdd, Nat.reduceSub, Nat.reduceLeDiff, Nat.zero_add, Nat.sub_zero, h2]
      have : isT t = false := by
        simp only [List.all_cons, List.all_nil, Bool.and_true] at h2
        simp only [isT, Bool.and_assoc] at h2 ⊢
        cases h3 : side t.i <;> cases h4 : side t.j <;> cases h5 : side t.k <;> simp [h3, h4, h5] at h2 ⊢
      rw [this] at hQ2
      exact hQ2
    | true =>
      simp only [List.all_cons, List.all_nil, Bool.and_true, Bool.and_eq_true] at h2
      have h3 := side_iff.1 h2.1
      have h4 := side_iff.1 h2.2.1
      have h5 := side_iff.1 h2.2.2
      have b2 := mul_in (a := t.i) (b := t.j) (A := 9) (B := 9) (by omega) (by omega)
      have b3 := mul_in (a := t.i * t.j) (b := t.k) (A := 81) (B := 9) (by omega) (by omega)
      try simp (maxSteps := 3000000) (disch := first | omega | (simp only [len_new, len_put, len_kill]; omega)) only [↓xpre, xpost, ↓reduceIte, Nat.reduceEqDiff, Nat.reduceAdd, Nat.reduceSub, Nat.reduceLeDiff, Nat.zero_add, Nat.sub_zero, rd1_of hb, hv2.len, wrap64_in]
      by_cases he : (t.ns.length : Int) = t.i * t.j * t.k
      · try simp (maxSteps := 3000000) (disch := first | omega | (simp only [len_new, len_put, len_kill]; omega)) only [↓xpre, xpost, ↓reduceIte, Nat.reduceEqDiff, Nat.reduceAdd, Nat.reduceSub, Nat.reduceLeDiff, Nat.zero_add, Nat.sub_zero, rd1_of hb, ← he]
        refine i_areNumbers hv2 hl ?_
        try simp (maxSteps := 3000000) (disch := first | omega | (simp only [len_new, len_put, len_kill]; omega)) only [↓xpre, xpost, ↓reduceIte, Nat.reduceEqDiff, Nat.reduceAdd, Nat.reduceSub, Nat.reduceLeDiff, Nat.zero_add, Nat.sub_zero]
        have : isT t = allIn t.p t.ns := by simp [isT, h1, h2, ← he]
        rw [this] at hQ2
        exact hQ2
      · try simp (maxSteps := 3000000) (disch := first | omega | (simp only [len_new, len_put, len_kill]; omega)) only [↓xpre, xpost, ↓reduceIte, Nat.reduceEqDiff, Nat.reduceAdd, Nat.reduceSub, Nat.reduceLeDiff, Nat.zero_add, Nat.sub_zero, he]
        have : isT t = false := by simp [isT, he]
        rw [this] at hQ2
        exact hQ2

/-- A tensor of one's own numbers. -/
theorem l_toTensor {v : Value} {t : Ten} {h : AH} {Q : Value → AH → Prop} (hv : Ints h v t.ns) (hl : (t.ns.length : Int) ≤ 1048576)
    (hQ : ∀ v' h', h <+: h' → OwnI h h' v' t.ns → Q (tenV t v') h') : WF S 17 [tenV t v] h Q := by
  refine WF_fn (fn := c17) rfl rfl ?_
  unfold c17
  try simp (maxSteps := 3000000) (disch := first | omega | (simp only [len_new, len_put, len_kill]; omega)) only [↓xpre, xpost, ↓reduceIte, Nat.reduceEqDiff, Nat.reduceAdd, Nat.reduceSub, Nat.reduceLeDiff, Nat.zero_add, Nat.sub_zero, tenV, hv.one]
  refine l_toInt64S (hv.pre ?_) hl fun v' h' hp o => ?_
  · exact pre_new (pre_new (pre_new (List.prefix_refl _)))
  generalize hH1 : AH.new h _ = H1 at hp o ⊢
  obtain ⟨hb1, p1, n1⟩ := new_facts hH1
  generalize hH2 : AH.new H1 _ = H2 at hp o ⊢
  obtain ⟨hb2, p2, n2⟩ := new_facts hH2
  generalize hH3 : AH.new H2 _ = H3 at hp o ⊢
  obtain ⟨hb3, p3, n3⟩ := new_facts hH3
  have hb2 := pre_get hp (pre_get p3 hb2)
  have hb3 := pre_get hp hb3
  have nl := pre_len hp
  have hv' := o.ints
  try simp (maxSteps := 3000000) (disch := first | omega | (simp only [len_new, len_put, len_kill]; omega)) only [↓xpre, xpost, ↓reduceIte, Nat.reduceEqDiff, Nat.reduceAdd, Nat.reduceSub, Nat.reduceLeDiff, Nat.zero_add, Nat.sub_zero, hv'.one, hv'.cells, wr_of hb3, wr_of hb2]
  refine hQ _ _ (pre_put (pre_put (((p1.trans p2).trans p3).trans hp) ?_) ?_) ?_
  all_goals first | omega | skip
  obtain ⟨n, e, q1, q2, q3⟩ := o
  refine ⟨n, e, by omega, q2, ?_⟩
  rw [get_put_ne (by omega), get_put_ne (by omega)]
  exact q3

theorem l_eqTensor {v v' : Value} {t t' : Ten} {h : AH} {Q : Value → AH → Prop} (hv : Ints h v t.ns) (hv' : Ints h v' t'.ns) (hl : (t.ns.length : Int) ≤ 1048576)
    (hQ : ∀ h', h <+: h' → Q (.bool (decide (t = t'))) h') : WF S 19 [tenV t v, tenV t' v'] h Q := by
  refine WF_fn (fn := c19) rfl rfl ?_
  unfold c19
  try simp (maxSteps := 3000000) (disch := first | omega | (simp only [len_new, len_put, len_kill]; omega)) only [↓xpre, xpost, ↓reduceIte, Nat.reduceEqDiff, Nat.reduceAdd, Nat.reduceSub, Nat.reduceLeDiff, Nat.zero_add, Nat.sub_zero, tenV, hv.one, hv'.one, IfW_dec]
  generalize hH1 : AH.new h _ = H1
  obtain ⟨hb1, p1, n1⟩ := new_facts hH1
  generalize hH2 : AH.new H1 _ = H2
  obtain ⟨hb2, p2, n2⟩ := new_facts hH2
  have hQ' := hQ _ (p1.trans p2)
  have hv2 := hv.pre (p1.trans p2)
  have hv2' := hv'.pre (p1.trans p2)
  have hb1 := pre_get p2 hb1
  have fin : ∀ {q : Prop}, (q → t ≠ t') → q → Q (.bool false) H2 := fun hq h1 => by simpa [hq h1] using hQ'
  refine ⟨fin fun e h => e (by rw [h]), fun e1 => ?_⟩
  refine ⟨fin fun e h => e (by rw [h]), fun e2 => ?_⟩
  refine ⟨fin fun e h => e (by rw [h]), fun e3 => ?_⟩
  refine ⟨fin fun e h => e (by rw [h]), fun e4 => ?_⟩
  refine l_eqInt64S hv2 hv2' hl ?_
  try simp (maxSteps := 3000000) (disch := first | omega | (simp only [len_new, len_put, len_kill]; omega)) only [↓xpre, xpost, ↓reduceIte, Nat.reduceEqDiff, Nat.reduceAdd, Nat.reduceSub, Nat.reduceLeDiff, Nat.zero_add, Nat.sub_zero]
  by_cases he : t.ns = t'.ns
  · try simp (maxSteps := 3000000) (disch := first | omega | (simp only [len_new, len_put, len_kill]; omega)) only [↓xpre, xpost, ↓reduceIte, Nat.reduceEqDiff, Nat.reduceAdd, Nat.reduceSub, Nat.reduceLeDiff, Nat.zero_add, Nat.sub_zero, he]
    have : t = t' := by
      obtain ⟨a, b, c, d, e⟩ := t
      obtain ⟨a', b', c', d', e'⟩ := t'
      simp_all
    simpa [this] using hQ'
  · try simp (maxSteps := 3000000) (disch := first | omega | (simp only [len_new, len_put, len_kill]; omega)) only [↓xpre, xpost, ↓reduceIte, Nat.reduceEqDiff, Nat.reduceAdd, Nat.reduceSub, Nat.reduceLeDiff, Nat.zero_add, Nat.sub_zero, he]
    exact fin (q := True) (fun _ h => he (by rw [h])) trivial
end Go.Proofs.Ytilpnbejpndgpaa.X

/- The number at three places. -/
set_option linter.unusedVariables false
set_option linter.unusedSimpArgs false
namespace Go.Proofs.Ytilpnbejpndgpaa.X
open Go Go.RowKit

structure TF (t : Ten) : Prop where
  p : 2 ≤ t.p ∧ t.p ≤ 5
  i : 1 ≤ t.i ∧ t.i ≤ 9
  j : 1 ≤ t.j ∧ t.j ≤ 9
  k : 1 ≤ t.k ∧ t.k ≤ 9
  len : (t.ns.length : Int) = t.i * t.j * t.k
  num : ∀ x : Int, 0 ≤ x → x < t.ns.length → 0 ≤ nth t.ns x ∧ nth t.ns x < t.p
  ij : 1 ≤ t.i * t.j ∧ t.i * t.j ≤ 81
  ijk : 1 ≤ t.i * t.j * t.k ∧ t.i * t.j * t.k ≤ 729
theorem mul_in1 {a b A B : Int} (ha : 1 ≤ a ∧ a ≤ A) (hb : 1 ≤ b ∧ b ≤ B) : 1 ≤ a * b ∧ a * b ≤ A * B := by
  refine ⟨?_, (mul_in (by omega) (by omega)).2⟩
  have := Int.mul_le_mul ha.1 hb.1 (by omega) (by omega)
  simpa using this
theorem isT_facts {t : Ten} (h : isT t = true) : TF t := by
  simp only [isT, Bool.and_eq_true, decide_eq_true_eq] at h
  obtain ⟨⟨⟨⟨⟨h1, h2⟩, h3⟩, h4⟩, h5⟩, h6⟩ := h
  have i2 := side_iff.1 h2
  have i3 := side_iff.1 h3
  have i4 := side_iff.1 h4
  have ij := mul_in1 (A := 9) (B := 9) i2 i3
  have ijk := mul_in1 (A := 81) (B := 9) ij i4
  exact ⟨isP_in h1, i2, i3, i4, h5, fun x h0 hx => allIn_iff.1 h6 x.toNat (by omega), ij, ijk⟩
theorem lin_in {i j I J : Int} (hi : 0 ≤ i ∧ i < I) (hj : 0 ≤ j ∧ j < J) : 0 ≤ i * J ∧ 0 ≤ i * J + j ∧ i * J + j < I * J := by
  have h1 := Int.mul_nonneg hi.1 (show 0 ≤ J by omega)
  have h2 := Int.mul_le_mul_of_nonneg_right (show i + 1 ≤ I by omega) (show 0 ≤ J by omega)
  rw [Int.add_mul, Int.one_mul] at h2
  omega
def tat (t : Ten) (i j k : Int) : Int := nth t.ns ((i * t.j + j) * t.k + k)

theorem s_l05At {v : Value} {t : Ten} {i j k : Int} {h : AH} {Q : Value → AH → Prop} (hv : Ints h v t.ns) (f : TF t) (hi : 0 ≤ i ∧ i < t.i) (hj : 0 ≤ j ∧ j < t.j) (hk : 0 ≤ k ∧ k < t.k)
    (hQ : ∀ h', h <+: h' → Q (I64 (tat t i j k)) h') : WF S 117 [tenV t v, I64 i, I64 j, I64 k] h Q := by
  refine WF_fn (fn := c117) rfl rfl ?_
  unfold c117
  have b1 := lin_in hi hj
  have b2 := lin_in b1.2 hk
  have b3 := f.ij
  have b4 := f.ijk
  have b5 := f.len
  have hv1 := hv.pre (pre_new (b := ⟨[I64 t.p, I64 t.i, I64 t.j, I64 t.k, v], 28, false, true⟩) (List.prefix_refl h))
  try simp (maxSteps := 3000000) (disch := first | omega | (simp only [len_new, len_put, len_kill]; omega)) only [↓xpre, xpost, ↓reduceIte, Nat.reduceEqDiff, Nat.reduceAdd, Nat.reduceSub, Nat.reduceLeDiff, Nat.zero_add, Nat.sub_zero, tenV, hv.one, wrap64_in, hv1.ix, hv1.rd]
  exact hQ _ (pre_new (List.prefix_refl _))
theorem i_at {v : Value} {t : Ten} {i j k : Int} {h : AH} {Q : Value → AH → Prop} (hv : Ints h v t.ns) (f : TF t) (hi : 0 ≤ i ∧ i < t.i) (hj : 0 ≤ j ∧ j < t.j) (hk : 0 ≤ k ∧ k < t.k)
    (hQ : ∀ h', h <+: h' → Q (I64 (tat t i j k)) h') : WF S 72 [tenV t v, I64 i, I64 j, I64 k] h Q := by
  refine WF_fn (fn := c72) rfl rfl ?_
  unfold c72
  have b1 := lin_in hi hj
  have b2 := lin_in b1.2 hk
  have b3 := f.ij
  have b4 := f.ijk
  have b5 := f.len
  have hv1 := hv.pre (pre_new (b := ⟨[I64 t.p, I64 t.i, I64 t.j, I64 t.k, v], 28, false, true⟩) (List.prefix_refl h))
  try simp (maxSteps := 3000000) (disch := first | omega | (simp only [len_new, len_put, len_kill]; omega)) only [↓xpre, xpost, ↓reduceIte, Nat.reduceEqDiff, Nat.reduceAdd, Nat.reduceSub, Nat.reduceLeDiff, Nat.zero_add, Nat.sub_zero, tenV, hv.one, wrap64_in, hv1.ix, hv1.rd]
  exact hQ _ (pre_new (List.prefix_refl _))

def numAt (t : Ten) (i j k : Int) : Value :=
  if isT t = true then (if (0 ≤ i ∧ i < t.i) ∧ (0 ≤ j ∧ j < t.j) ∧ (0 ≤ k ∧ k < t.k) then .tuple #[I64 (tat t i j k), I64 0] else .tuple #[I64 0, I64 2]) else .tuple #[I64 0, I64 1]

theorem numAt_shape (t : Ten) (i j k : Int) : ∃ a b, numAt t i j k = .tuple #[I64 a, I64 b] := by
  unfold numAt
  split
  · split <;> exact ⟨_, _, rfl⟩
  · exact ⟨_, _, rfl⟩

end Go.Proofs.Ytilpnbejpndgpaa.X

/- Lists of one's own: marks and holds. -/
set_option linter.unusedVariables false
set_option linter.unusedSimpArgs false
namespace Go.Proofs.Ytilpnbejpndgpaa.X
open Go Go.RowKit

/-- The heap's block of a slice. -/
def blkOf (v : Value) : Option Nat := match v with
  | .slice (some a) _ _ => some a.block
  | _ => none
/-- A list of one's own, or nil. -/
def OwnR (h0 h : AH) (v : Value) (ns : List Int) : Prop :=
  (v = .slice none 0 0 ∧ ns = []) ∨ ∃ n e full, h0.length ≤ n ∧ v = .slice (some ⟨n, 0, none⟩) ns.length 1 ∧ h.get n = some ⟨ns.map (Value.int .i64), e, false, full⟩
theorem OwnI.ownR {h0 h : AH} {v : Value} {ns : List Int} (o : OwnI h0 h v ns) : OwnR h0 h v ns := by
  obtain ⟨n, e, h1, rfl, h2⟩ := o
  exact .inr ⟨n, e, true, h1, rfl, h2⟩
theorem OwnR.ints {h0 h : AH} {v : Value} {ns : List Int} (o : OwnR h0 h v ns) : Ints h v ns := by
  rcases o with ⟨rfl, rfl⟩ | ⟨n, e, full, h1, rfl, h2⟩
  · exact .inl ⟨rfl, 0, by omega, rfl⟩
  · exact Ints.own h2 rfl
theorem OwnR.pre {h0 h h' : AH} {v : Value} {ns : List Int} (o : OwnR h0 h v ns) (p : h <+: h') : OwnR h0 h' v ns := by
  rcases o with ⟨rfl, rfl⟩ | ⟨n, e, full, h1, rfl, h2⟩
  · exact .inl ⟨rfl, rfl⟩
  · exact .inr ⟨n, e, full, h1, rfl, pre_get p h2⟩
theorem OwnR.lo {h0 h1 h : AH} {v : Value} {ns : List Int} (o : OwnR h0 h v ns) (p : h1.length ≤ h0.length) : OwnR h1 h v ns := by
  rcases o with ⟨rfl, rfl⟩ | ⟨n, e, full, q1, rfl, h2⟩
  · exact .inl ⟨rfl, rfl⟩
  · exact .inr ⟨n, e, full, by omega, rfl, h2⟩
/-- One block alone changes. -/
structure Only (o : Option Nat) (h h' : AH) : Prop where
  len : h'.length = h.length
  same : ∀ n, o ≠ some n → h'[n]? = h[n]?
theorem Only.get {o : Option Nat} {h h' : AH} (w : Only o h h') (n : Nat) (hn : o ≠ some n) : h'.get n = h.get n := by
  unfold AH.get
  rw [w.same n hn]
theorem Only.refl (o : Option Nat) (h : AH) : Only o h h := ⟨rfl, fun _ _ => rfl⟩
theorem OwnR.only {h0 h h' : AH} {v : Value} {ns : List Int} {o : Option Nat} (q : OwnR h0 h v ns) (w : Only o h h') (hn : ∀ n, o = some n → n < h0.length) : OwnR h0 h' v ns := by
  rcases q with ⟨rfl, rfl⟩ | ⟨n, e, full, h1, rfl, h2⟩
  · exact .inl ⟨rfl, rfl⟩
  · exact .inr ⟨n, e, full, h1, rfl, by rw [w.get n (fun e => by have := hn n e; omega)]; exact h2⟩
theorem OwnR.blk {h0 h : AH} {v : Value} {ns : List Int} (o : OwnR h0 h v ns) : ∀ n, blkOf v = some n → h0.length ≤ n ∧ n < h.length := by
  rcases o with ⟨rfl, rfl⟩ | ⟨n, e, full, h1, rfl, h2⟩
  · intro n hn; cases hn
  · intro m hm
    cases hm
    exact ⟨h1, get_lt h2⟩
theorem OwnR.only' {h0 h h' : AH} {v : Value} {ns : List Int} {o : Option Nat} (q : OwnR h0 h v ns) (w : Only o h h') (hn : ∀ n, o = some n → h.length ≤ n ∨ blkOf v ≠ some n) : OwnR h0 h' v ns := by
  rcases q with ⟨rfl, rfl⟩ | ⟨n, e, full, h1, rfl, h2⟩
  · exact .inl ⟨rfl, rfl⟩
  · refine .inr ⟨n, e, full, h1, rfl, ?_⟩
    rw [w.get n (fun e => ?_)]
    · exact h2
    · rcases hn n e with q | q
      · have := get_lt h2; omega
      · exact q rfl
theorem Only.pre {h0 h h' : AH} {o : Option Nat} (w : Only o h h') (p : h0 <+: h) (hn : ∀ n, o = some n → h0.length ≤ n) : h0 <+: h' := by
  rw [List.prefix_iff_getElem?] at p ⊢
  intro i hi
  rw [w.same i (fun e => by have := hn i e; omega)]
  exact p i hi

def marks (k : Int) (n : Nat) : List Int := (List.range n).map fun i => k + (i : Nat)
def markN (ns : List Int) (k : Int) (i : Nat) : List Int := marks k i ++ ns.drop i
theorem marks_len {k : Int} {n : Nat} : (marks k n).length = n := by simp [marks]
theorem markN_len {ns : List Int} {k : Int} {i : Nat} (hi : i ≤ ns.length) : (markN ns k i).length = ns.length := by simp [markN, marks_len]; omega
theorem markN_all {ns : List Int} {k : Int} : markN ns k ns.length = marks k ns.length := by simp [markN]
theorem markN_zero {ns : List Int} {k : Int} : markN ns k 0 = ns := by simp [markN, marks]
theorem markN_set {ns : List Int} {k : Int} {i : Nat} (hi : i < ns.length) : (markN ns k i).set i (k + (i : Nat)) = markN ns k (i + 1) := by
  unfold markN
  rw [List.set_append_right _ _ (by rw [marks_len]; omega), marks_len, Nat.sub_self, List.drop_eq_getElem_cons hi, List.set_cons_zero]
  simp [marks, List.range_succ]
theorem marks_get {k : Int} {n i : Nat} (hi : i < n) : (marks k n).getD i 0 = k + (i : Nat) := by
  simp [marks, List.getD_eq_getElem?_getD, List.getElem?_map, List.getElem?_range hi]

theorem l_markInt64S {v : Value} {ns : List Int} {k : Int} {h0 h : AH} {Q : Value → AH → Prop} (o : OwnR h0 h v ns) (hl : (ns.length : Int) ≤ 1048576) (hk : 0 ≤ k ∧ k ≤ 1099511627776)
    (hQ : ∀ h', Only (blkOf v) h h' → OwnR h0 h' v (marks k ns.length) → Q (I64 (k + ns.length)) h') : WF S 33 [v, I64 k] h Q := by
  refine WF_fn (fn := c33) rfl rfl ?_
  unfold c33
  try simp (maxSteps := 3000000) (disch := first | omega | (simp only [len_new, len_put, len_kill]; omega)) only [↓xpre, xpost, ↓reduceIte, Nat.reduceEqDiff, Nat.reduceAdd, Nat.reduceSub, Nat.reduceLeDiff, Nat.zero_add, Nat.sub_zero]
  rcases o with ⟨rfl, rfl⟩ | ⟨b, e, full, hb0, rfl, hb⟩
  · refine WC_loop ?_
    try simp (maxSteps := 3000000) (disch := first | omega | (simp only [len_new, len_put, len_kill]; omega)) only [↓xpre, xpost, ↓reduceIte, Nat.reduceEqDiff, Nat.reduceAdd, Nat.reduceSub, Nat.reduceLeDiff, Nat.zero_add, Nat.sub_zero, IfW_dec]
    refine ⟨fun hlt => by simp at hlt, fun _ => ?_⟩
    have := hQ _ (Only.refl _ _) (.inl ⟨rfl, rfl⟩)
    simpa using this
  · refine WC_loop_inv (fun n f h1 => ∃ i : Nat, n = ns.length - i ∧ i ≤ ns.length ∧ f 0 = .slice (some ⟨b, 0, none⟩) ns.length 1 ∧ f 1 = I64 (k + (i : Nat)) ∧ f 5 = I64 i ∧
      h1.get b = some ⟨(markN ns k i).map (Value.int .i64), e, false, full⟩ ∧ Only (some b) h h1) ?_ ns.length _ _ ⟨0, rfl, Nat.zero_le _, rfl, by simp [upd_apply], rfl, by rw [markN_zero]; exact hb, Only.refl _ _⟩
    rintro n f h1 ⟨i, rfl, hi, f0, f1, f5, hg, ho⟩
    try simp (maxSteps := 3000000) (disch := first | omega | (simp only [len_new, len_put, len_kill]; omega)) only [↓xpre, xpost, ↓reduceIte, Nat.reduceEqDiff, Nat.reduceAdd, Nat.reduceSub, Nat.reduceLeDiff, Nat.zero_add, Nat.sub_zero, f0, f1, f5, IfW_dec]
    refine ⟨fun hlt => ?_, fun hge => ?_⟩
    · try simp (maxSteps := 3000000) (disch := first | omega | (simp only [len_new, len_put, len_kill]; omega)) only [↓xpre, xpost, ↓reduceIte, Nat.reduceEqDiff, Nat.reduceAdd, Nat.reduceSub, Nat.reduceLeDiff, Nat.zero_add, Nat.sub_zero, f0, f1, f5, ixsV_some]
      refine ⟨⟨by omega, hlt⟩, ?_⟩
      try simp (maxSteps := 3000000) (disch := first | omega | (simp only [len_new, len_put, len_kill]; omega)) only [↓xpre, xpost, ↓reduceIte, Nat.reduceEqDiff, Nat.reduceAdd, Nat.reduceSub, Nat.reduceLeDiff, Nat.zero_add, Nat.sub_zero, wr_of hg]
      have hlm := markN_len (k := k) hi
      refine ⟨by simp [hlm]; omega, ?_⟩
      try simp (maxSteps := 3000000) (disch := first | omega | (simp only [len_new, len_put, len_kill]; omega)) only [↓xpre, xpost, ↓reduceIte, Nat.reduceEqDiff, Nat.reduceAdd, Nat.reduceSub, Nat.reduceLeDiff, Nat.zero_add, Nat.sub_zero, f0, f1, f5, wrap64_in]
      refine InvQ_go (ns.length - (i + 1)) (by omega) ⟨i + 1, rfl, by omega, f0, ?_, rfl, ?_, ?_⟩
      · show I64 (k + (i : Int) + 1) = I64 (k + ((i + 1 : Nat) : Int))
        congr 1
        omega
      · rw [get_put_same (get_lt hg)]
        have e1 : ((i : Int).toNat * 1) = i := by omega
        simp only [e1, Nat.zero_add]
        rw [splice_map (by rw [hlm]; omega), markN_set (by omega)]
      · refine ⟨by rw [len_put]; exact ho.len, fun n hn => ?_⟩
        unfold AH.put
        rw [List.getElem?_set_ne (fun e => hn (by rw [e]))]
        exact ho.same n hn
    · have e : i = ns.length := by omega
      subst e
      try simp (maxSteps := 3000000) (disch := first | omega | (simp only [len_new, len_put, len_kill]; omega)) only [↓xpre, xpost, ↓reduceIte, Nat.reduceEqDiff, Nat.reduceAdd, Nat.reduceSub, Nat.reduceLeDiff, Nat.zero_add, Nat.sub_zero, f0, f1, f5]
      refine hQ _ ho (.inr ⟨b, e, full, hb0, by rw [marks_len], ?_⟩)
      rw [hg, markN_all]

theorem l_heldInt64S {v : Value} {k : Int} {n : Nat} {h : AH} {Q : Value → AH → Prop} (hv : Ints h v (marks k n)) (hl : (n : Int) ≤ 1048576) (hk : 0 ≤ k ∧ k ≤ 1099511627776)
    (hQ : Q (I64 (k + n)) h) : WF S 34 [v, I64 k] h Q := by
  refine WF_fn (fn := c34) rfl rfl ?_
  unfold c34
  try simp (maxSteps := 3000000) (disch := first | omega | (simp only [len_new, len_put, len_kill]; omega)) only [↓xpre, xpost, ↓reduceIte, Nat.reduceEqDiff, Nat.reduceAdd, Nat.reduceSub, Nat.reduceLeDiff, Nat.zero_add, Nat.sub_zero]
  have hn : (marks k n).length = n := marks_len
  refine WC_loop_inv (fun m f h1 => ∃ i : Nat, m = n - i ∧ i ≤ n ∧ f 0 = v ∧ f 1 = I64 (k + (i : Nat)) ∧ f 5 = I64 i ∧ h1 = h) ?_ n _ _ ⟨0, rfl, Nat.zero_le _, rfl, by simp [upd_apply], rfl, rfl⟩
  rintro m f h1 ⟨i, rfl, hi, f0, f1, f5, rfl⟩
  have hlen := hv.len
  rw [hn] at hlen
  try simp (maxSteps := 3000000) (disch := first | omega | (simp only [len_new, len_put, len_kill]; omega)) only [↓xpre, xpost, ↓reduceIte, Nat.reduceEqDiff, Nat.reduceAdd, Nat.reduceSub, Nat.reduceLeDiff, Nat.zero_add, Nat.sub_zero, f0, f1, f5, hlen, IfW_dec]
  refine ⟨fun hlt => ?_, fun hge => ?_⟩
  · have e := marks_get (k := k) (n := n) (i := i) (by omega)
    have hix := hv.ix (k := .i64) (j := i) (by omega) (by omega)
    have hrd := hv.rd (j := i) (by omega) (by omega)
    simp only [nth, Int.toNat_natCast, e] at hrd
    try simp (maxSteps := 3000000) (disch := first | omega | (simp only [len_new, len_put, len_kill]; omega)) only [↓xpre, xpost, ↓reduceIte, Nat.reduceEqDiff, Nat.reduceAdd, Nat.reduceSub, Nat.reduceLeDiff, Nat.zero_add, Nat.sub_zero, f0, f1, f5, hix, hrd, ne_eq, not_true_eq_false, wrap64_in]
    refine InvQ_go (n - (i + 1)) (by omega) ⟨i + 1, rfl, by omega, f0, ?_, rfl, rfl⟩
    show I64 (k + (i : Int) + 1) = I64 (k + ((i + 1 : Nat) : Int))
    congr 1
    omega
  · have e : i = n := by omega
    subst e
    try simp (maxSteps := 3000000) (disch := first | omega | (simp only [len_new, len_put, len_kill]; omega)) only [↓xpre, xpost, ↓reduceIte, Nat.reduceEqDiff, Nat.reduceAdd, Nat.reduceSub, Nat.reduceLeDiff, Nat.zero_add, Nat.sub_zero, f0, f1, f5]
    exact hQ
end Go.Proofs.Ytilpnbejpndgpaa.X

/- Tensors made of a rule: the empty one, the turn of the reference. -/
set_option linter.unusedVariables false
set_option linter.unusedSimpArgs false
namespace Go.Proofs.Ytilpnbejpndgpaa.X
open Go Go.RowKit

def gen (N : Nat) (g : Nat → Int) : List Int := (List.range N).map g
theorem gen_len {N : Nat} {g : Nat → Int} : (gen N g).length = N := by simp [gen]
theorem gen_get {N i : Nat} {g : Nat → Int} (hi : i < N) : (gen N g).getD i 0 = g i := by
  simp [gen, List.getD_eq_getElem?_getD, List.getElem?_map, List.getElem?_range hi]
theorem gen_ext {N : Nat} {g : Nat → Int} {l : List Int} (hl : l.length = N) (h : ∀ i, i < N → l.getD i 0 = g i) : l = gen N g := by
  refine List.ext_getElem? fun j => ?_
  by_cases hj : j < N
  · have h1 := h j hj
    rw [List.getD_eq_getElem?_getD, List.getElem?_eq_getElem (by omega)] at h1
    rw [List.getElem?_eq_getElem (by omega)]
    simp [gen, List.getElem?_map, List.getElem?_range hj] at h1 ⊢
    exact h1
  · rw [List.getElem?_eq_none (by omega), List.getElem?_eq_none (by rw [gen_len]; omega)]
theorem gen_succ {N : Nat} {g : Nat → Int} : gen (N + 1) g = gen N g ++ [g N] := by simp [gen, List.range_succ]
theorem gen_congr {N : Nat} {g g' : Nat → Int} (h : ∀ i, i < N → g i = g' i) : gen N g = gen N g' := by
  refine gen_ext gen_len fun i hi => ?_
  rw [gen_get hi, h i hi]
theorem set_getD {l : List Int} {i j : Nat} {x : Int} (hi : i < l.length) : (l.set i x).getD j 0 = if j = i then x else l.getD j 0 := by
  rw [List.getD_eq_getElem?_getD, List.getD_eq_getElem?_getD, List.getElem?_set]
  by_cases h : i = j
  · subst h
    simp [hi]
  · rw [if_neg h, if_neg (fun e => h e.symm)]
theorem dec {a i I : Int} (h : 0 ≤ i ∧ i < I) : (a * I + i) / I = a ∧ (a * I + i) % I = i := by
  have := (Int.ediv_emod_unique (a := a * I + i) (b := I) (q := a) (r := i) (by omega)).2 ⟨by rw [Int.mul_comm]; omega, h.1, h.2⟩
  exact this
theorem enc (n I : Int) : n / I * I + n % I = n := by
  have := Int.mul_ediv_add_emod n I
  rw [Int.mul_comm] at this
  exact this

theorem OwnI.of {h0 h : AH} {v : Value} {ns : List Int} {n : Nat} (h1 : h0.length ≤ n) (e : v = .slice (some ⟨n, 0, none⟩) ns.length 1) (b : OwnB h n (ns.map (Value.int .i64)) true) : OwnI h0 h v ns := by
  obtain ⟨e', hb⟩ := b
  exact ⟨n, e', h1, e, hb⟩
theorem ownB_new' {h : AH} {c : List Value} {e : TypeId} {full : Bool} {n : Nat} (hn : n = h.length) : OwnB (h.new ⟨c, e, false, full⟩) n c full := by subst hn; exact ownB_new
theorem OwnB.pre {h h' : AH} {c : List Value} {full : Bool} {n : Nat} (b : OwnB h n c full) (p : h <+: h') : OwnB h' n c full := by
  obtain ⟨e, hb⟩ := b
  exact ⟨e, pre_get p hb⟩
theorem OwnB.put_ne {h : AH} {c : List Value} {full : Bool} {n m : Nat} {b : Blk} (o : OwnB h n c full) (e : m ≠ n) : OwnB (h.put m b) n c full := by
  obtain ⟨e', hb⟩ := o
  exact ⟨e', by rw [get_put_ne e]; exact hb⟩
theorem OwnB.lt {h : AH} {c : List Value} {full : Bool} {n : Nat} (o : OwnB h n c full) : n < h.length := by
  obtain ⟨e', hb⟩ := o
  exact get_lt hb
theorem lex_step {x y z i j K : Int} (hz : 0 ≤ z ∧ z < K) (h : x < i ∨ (x = i ∧ (y < j + 1 ∨ (y = j + 1 ∧ z < 0)))) : x < i ∨ (x = i ∧ (y < j ∨ (y = j ∧ z < K))) := by omega

def turnG (t : Ten) (n : Nat) : Int := tat t ((n : Int) % t.i) ((n : Int) / t.i / t.k) ((n : Int) / t.i % t.k)
def turnT (t : Ten) : Ten := ⟨t.p, t.j, t.k, t.i, gen (t.j * t.k * t.i).toNat (turnG t)⟩
/-- What has been written ahead of i, j, k. -/
def Done (t : Ten) (l : List Int) (i j k : Int) : Prop := l.length = (t.j * t.k * t.i).toNat ∧ ∀ n : Nat, n < (t.j * t.k * t.i).toNat →
  ((n : Int) % t.i < i ∨ ((n : Int) % t.i = i ∧ ((n : Int) / t.i / t.k < j ∨ ((n : Int) / t.i / t.k = j ∧ (n : Int) / t.i % t.k < k)))) → l.getD n 0 = turnG t n

theorem Done.step {t : Ten} {l : List Int} {i j k : Int} (d : Done t l i j k) (f : TF t) (hi : 0 ≤ i ∧ i < t.i) (hj : 0 ≤ j ∧ j < t.j) (hk : 0 ≤ k ∧ k < t.k) :
    Done t (l.set ((j * t.k + k) * t.i + i).toNat (tat t i j k)) i j (k + 1) := by
  have b1 := lin_in hj hk
  have b2 := lin_in b1.2 hi
  obtain ⟨d1, d2⟩ := d
  refine ⟨by rw [List.length_set]; exact d1, fun n hn hlex => ?_⟩
  rw [set_getD (by omega)]
  have e1 := dec (a := j * t.k + k) hi
  have e2 := dec (a := j) hk
  split
  · rename_i he
    have he' : (n : Int) = (j * t.k + k) * t.i + i := by omega
    unfold turnG
    rw [he', e1.1, e1.2, e2.1, e2.2]
  · rename_i hne
    refine d2 n hn ?_
    refine Decidable.byContradiction fun hnl => hne ?_
    have q1 : (n : Int) % t.i = i := by omega
    have q2 : (n : Int) / t.i / t.k = j := by omega
    have q3 : (n : Int) / t.i % t.k = k := by omega
    have q4 := enc (n : Int) t.i
    have q5 := enc ((n : Int) / t.i) t.k
    rw [q2, q3] at q5
    rw [← q5, q1] at q4
    omega
theorem Done.next_j {t : Ten} {l : List Int} {i j : Int} (d : Done t l i j t.k) (f : TF t) : Done t l i (j + 1) 0 := by
  have fk := f.k
  refine ⟨d.1, fun n hn hlex => d.2 n hn ?_⟩
  have h1 := Int.emod_nonneg ((n : Int) / t.i) (show t.k ≠ 0 by omega)
  have h2 := Int.emod_lt_of_pos ((n : Int) / t.i) (show 0 < t.k by omega)
  omega
theorem Done.next_i {t : Ten} {l : List Int} {i : Int} (d : Done t l i t.j 0) (f : TF t) : Done t l (i + 1) 0 0 := by
  have fi := f.i
  have fk := f.k
  have fj := f.j
  refine ⟨d.1, fun n hn hlex => d.2 n hn ?_⟩
  have h0 : (n : Int) < t.j * t.k * t.i := by omega
  have h1 : (n : Int) / t.i < t.j * t.k := Int.ediv_lt_of_lt_mul (by omega) h0
  have h2 : (n : Int) / t.i / t.k < t.j := Int.ediv_lt_of_lt_mul (by omega) h1
  have h3 : 0 ≤ (n : Int) / t.i := Int.ediv_nonneg (by omega) (by omega)
  have h4 : 0 ≤ (n : Int) / t.i / t.k := Int.ediv_nonneg h3 (by omega)
  have h5 := Int.emod_nonneg ((n : Int) / t.i) (show t.k ≠ 0 by omega)
  omega
theorem Done.all {t : Ten} {l : List Int} (d : Done t l t.i 0 0) (f : TF t) : l = (turnT t).ns := by
  have fi := f.i
  refine gen_ext d.1 fun n hn => d.2 n hn (.inl ?_)
  exact Int.emod_lt_of_pos _ (by omega)
theorem Done.zero {t : Ten} (f : TF t) : Done t (List.replicate (t.j * t.k * t.i).toNat 0) 0 0 0 := by
  have fi := f.i
  have fk := f.k
  refine ⟨List.length_replicate, fun n hn hlex => ?_⟩
  have h1 := Int.emod_nonneg (n : Int) (show t.i ≠ 0 by omega)
  have h3 : 0 ≤ (n : Int) / t.i := Int.ediv_nonneg (by omega) (by omega)
  have h4 : 0 ≤ (n : Int) / t.i / t.k := Int.ediv_nonneg h3 (by omega)
  have h5 := Int.emod_nonneg ((n : Int) / t.i) (show t.k ≠ 0 by omega)
  omega

/-- The state of the reference's turn. -/
structure TurnS (t : Ten) (v : Value) (h0 h : AH) (b2 b3 nb : Nat) (l : List Int) : Prop where
  hp : h0 <+: h
  lo : h0.length < b2 ∧ b2 < nb ∧ nb < b3
  g1 : OwnB h h0.length [I64 t.p, I64 t.i, I64 t.j, I64 t.k, v] true
  g2 : ∃ c, c.length = 5 ∧ OwnB h b2 c true
  g3 : OwnB h b3 [I64 t.p, I64 t.j, I64 t.k, I64 t.i, .slice (some ⟨nb, 0, none⟩) (t.j * t.k * t.i).toNat 1] true
  gn : OwnB h nb (l.map (Value.int .i64)) true

end Go.Proofs.Ytilpnbejpndgpaa.X

/- The program's 'tensor': a list appended number by number out of a function value. -/
set_option linter.unusedVariables false
set_option linter.unusedSimpArgs false
namespace Go.Proofs.Ytilpnbejpndgpaa.X
open Go Go.RowKit

/-- A list under way: nil, or a block of one's own behind a place. -/
def Way (h : AH) (lo : Nat) (sv : Value) (l : List Int) : Prop :=
  (sv = .slice none 0 0 ∧ l = []) ∨ ∃ kb, sv = .slice (some ⟨kb, 0, none⟩) l.length 1 ∧ lo ≤ kb ∧ h.get kb = some ⟨l.map (Value.int .i64), 2, false, false⟩
theorem Way.pre {h h' : AH} {lo : Nat} {sv : Value} {l : List Int} (w : Way h lo sv l) (p : h <+: h') : Way h' lo sv l := by
  rcases w with w | ⟨kb, h1, h2, h3⟩
  · exact .inl w
  · exact .inr ⟨kb, h1, h2, pre_get p h3⟩
theorem Way.one {h : AH} {lo : Nat} {sv : Value} {l : List Int} (w : Way h lo sv l) : isOne sv = true := by
  rcases w with ⟨rfl, _⟩ | ⟨kb, rfl, h2, h3⟩ <;> rfl
theorem Way.cells {h : AH} {lo : Nat} {sv : Value} {l : List Int} (w : Way h lo sv l) : cellsL sv = [sv] := by
  rcases w with ⟨rfl, _⟩ | ⟨kb, rfl, h2, h3⟩ <;> rfl
theorem Way.put {h : AH} {lo n : Nat} {b : Blk} {sv : Value} {l : List Int} (w : Way h lo sv l) (hn : n < lo) : Way (h.put n b) lo sv l := by
  rcases w with w | ⟨kb, h1, h2, h3⟩
  · exact .inl w
  · exact .inr ⟨kb, h1, h2, by rw [get_put_ne (by omega)]; exact h3⟩
theorem Way.ownR {h0 h : AH} {lo : Nat} {sv : Value} {l : List Int} (w : Way h lo sv l) (hl : h0.length ≤ lo) : OwnR h0 h sv l := by
  rcases w with w | ⟨kb, h1, h2, h3⟩
  · exact .inl w
  · exact .inr ⟨kb, _, _, by omega, h1, h3⟩

/-- One number more: what 'append' of a slice of one number does. -/
theorem Way.app {S : XS} {H : AH} {lo : Nat} {sv : Value} {l : List Int} {x : Int} {e : TypeId} {full : Bool} (w : Way H lo sv l) (hl : (l.length : Int) ≤ 1048576) (hlo : lo ≤ H.length) {Q : Value → AH → Prop}
    (hQ : ∀ sv' H', H'.length = H.length + 2 → (∀ h0 : AH, h0.length ≤ lo → h0 <+: H → h0 <+: H') → (∀ n c f, n < lo → OwnB H n c f → OwnB H' n c f) → Way H' lo sv' (l ++ [x]) → Q sv' H') :
    OQ (appV 2 1 8 sv (.slice (some ⟨H.length, 0, none⟩) 1 1) (H.new ⟨[I64 x], e, false, full⟩)) Q := by
  have hn : (H.new ⟨[I64 x], e, false, full⟩).rdn H.length 0 1 = some [I64 x] := by rw [rdn_new_same]; rfl
  rcases w with ⟨rfl, rfl⟩ | ⟨kb, rfl, h2, h3⟩
  · rw [app_nil (.inl rfl) hn (by omega), OQ_some]
    refine hQ _ _ (by rw [len_new, len_new]) (fun h0 _ p => pre_new (pre_new p)) (fun n c f hn o => (o.pre (pre_new (List.prefix_refl _))).pre (pre_new (List.prefix_refl _))) ?_
    exact .inr ⟨(H.new ⟨[I64 x], e, false, full⟩).length, rfl, by rw [len_new]; omega, get_new_same⟩
  · have hk : (H.new ⟨[I64 x], e, false, full⟩).get kb = some ⟨l.map (Value.int .i64), 2, false, false⟩ := get_new_any h3
    have hkb := get_lt h3
    rw [app_own hk (by simp) hn (by omega), OQ_some]
    refine hQ _ _ (by rw [len_new, len_kill, len_new]) (fun h0 q p => pre_new (pre_kill (pre_new p) (by omega))) (fun n c f hn o => ?_) ?_
    · obtain ⟨e', o⟩ := o
      exact ⟨e', get_new_any (by rw [get_kill_ne (by omega)]; exact get_new_any o)⟩
    · refine .inr ⟨(H.new ⟨[I64 x], e, false, full⟩).length, by simp, by rw [len_new]; omega, ?_⟩
      rw [get_new_eq (by rw [len_kill])]
      simp

/-- What a function value tells of three places. -/
def Tells (S : XS) (h : AH) (fv : Value) (i j k : Int) (num : Int → Int → Int → Int) : Prop :=
  ∀ a b c, (0 ≤ a ∧ a < i) → (0 ≤ b ∧ b < j) → (0 ≤ c ∧ c < k) → ∀ h1, h <+: h1 → ∀ Q : Value → AH → Prop, (∀ h2, h1 <+: h2 → Q (I64 (num a b c)) h2) → WK S fv [I64 a, I64 b, I64 c] h1 Q
def tenG (p j k : Int) (num : Int → Int → Int → Int) (n : Nat) : Int := (num ((n : Int) / k / j) ((n : Int) / k % j) ((n : Int) % k)).tmod p
def tenT (p i j k : Int) (num : Int → Int → Int → Int) : Ten := ⟨p, i, j, k, gen (i * j * k).toNat (tenG p j k num)⟩

structure TensS (t : Ten) (h0 h : AH) (b11 : Nat) (l : List Int) : Prop where
  hp : h0 <+: h
  lo : h0.length < b11 ∧ b11 < h.length
  g10 : ∃ c, c.length = 5 ∧ OwnB h h0.length c true
  g11 : ∃ sv, OwnB h b11 [I64 t.p, I64 t.i, I64 t.j, I64 t.k, sv] true ∧ Way h (b11 + 1) sv l

theorem i_tensor {p i j k : Int} {fv : Value} {num : Int → Int → Int → Int} {h : AH} {Q : Value → AH → Prop} (hp1 : 1 ≤ p) (fi : 1 ≤ i ∧ i ≤ 9) (fj : 1 ≤ j ∧ j ≤ 9) (fk : 1 ≤ k ∧ k ≤ 9)
    (hf : Tells S h fv i j k num) (hQ : ∀ v' h', h <+: h' → OwnR h h' v' (tenT p i j k num).ns → Q (tenV (tenT p i j k num) v') h') : WF S 163 [I64 p, I64 i, I64 j, I64 k, fv] h Q := by
  refine WF_fn (fn := c163) rfl rfl ?_
  unfold c163
  have ij := mul_in1 (A := 9) (B := 9) fi fj
  have ijk := mul_in1 (A := 81) (B := 9) ij fk
  try simp (maxSteps := 3000000) (disch := first | omega | (simp only [len_new, len_put, len_kill]; omega)) only [↓xpre, xpost, ↓reduceIte, Nat.reduceEqDiff, Nat.reduceAdd, Nat.reduceSub, Nat.reduceLeDiff, Nat.zero_add, Nat.sub_zero, fillL]
  generalize hH1 : AH.new h _ = H1
  obtain ⟨hb1, p1, n1⟩ := new_facts hH1
  generalize hH2 : AH.new H1 _ = H2
  obtain ⟨hb2, p2, n2⟩ := new_facts hH2
  refine WC_loop_inv (fun n f h1 => ∃ (a : Int), n = (i - a).toNat ∧ (0 ≤ a ∧ a ≤ i) ∧ f 0 = I64 p ∧ f 2 = I64 j ∧ f 3 = I64 k ∧ f 4 = fv ∧ f 10 = .pointer (some ⟨h.length, 0, none⟩) ∧ f 11 = .pointer (some ⟨H1.length, 0, none⟩) ∧
    f 20 = I64 i ∧ f 21 = I64 a ∧ TensS ⟨p, i, j, k, []⟩ h h1 H1.length (gen (a * j * k).toNat (tenG p j k num))) ?_ (i - 0).toNat _ _ ⟨0, rfl, by omega, rfl, rfl, rfl, rfl, rfl, rfl, rfl, rfl,
      ⟨p1.trans p2, by omega, ⟨_, rfl, _, pre_get p2 hb1⟩, _, ⟨_, hb2⟩, .inl ⟨rfl, by simp [gen]⟩⟩⟩
  rintro n fr h1 ⟨a, rfl, ha, f0, f2, f3, f4, f10, f11, f20, f21, st⟩
  try simp (maxSteps := 3000000) (disch := first | omega | (simp only [len_new, len_put, len_kill]; omega)) only [↓xpre, xpost, ↓reduceIte, Nat.reduceEqDiff, Nat.reduceAdd, Nat.reduceSub, Nat.reduceLeDiff, Nat.zero_add, Nat.sub_zero, f0, f2, f3, f4, f10, f11, f20, f21, IfW_dec]
  refine ⟨fun hlt => ?_, fun hge => ?_⟩
  · refine WC_loop_inv (fun n f h1 => ∃ (b : Int), n = (j - b).toNat ∧ (0 ≤ b ∧ b ≤ j) ∧ f 0 = I64 p ∧ f 2 = I64 j ∧ f 3 = I64 k ∧ f 4 = fv ∧ f 10 = .pointer (some ⟨h.length, 0, none⟩) ∧ f 11 = .pointer (some ⟨H1.length, 0, none⟩) ∧
      f 20 = I64 i ∧ f 21 = I64 a ∧ f 12 = I64 a ∧ f 24 = I64 j ∧ f 25 = I64 b ∧ TensS ⟨p, i, j, k, []⟩ h h1 H1.length (gen ((a * j + b) * k).toNat (tenG p j k num))) ?_ (j - 0).toNat _ _ ⟨0, rfl, by omega, f0, f2, f3, f4, f10, f11, f20, f21, rfl, rfl, rfl,
        by rw [Int.add_zero]; exact st⟩
    clear f0 f2 f3 f4 f10 f11 f20 f21 st
    rintro n fr h1 ⟨b, rfl, hb, f0, f2, f3, f4, f10, f11, f20, f21, f12, f24, f25, st⟩
    try simp (maxSteps := 3000000) (disch := first | omega | (simp only [len_new, len_put, len_kill]; omega)) only [↓xpre, xpost, ↓reduceIte, Nat.reduceEqDiff, Nat.reduceAdd, Nat.reduceSub, Nat.reduceLeDiff, Nat.zero_add, Nat.sub_zero, f0, f2, f3, f4, f10, f11, f20, f21, f12, f24, f25, IfW_dec]
    refine ⟨fun hltb => ?_, fun hge => ?_⟩
    · refine WC_loop_inv (fun n f h1 => ∃ (c : Int), n = (k - c).toNat ∧ (0 ≤ c ∧ c ≤ k) ∧ f 0 = I64 p ∧ f 2 = I64 j ∧ f 3 = I64 k ∧ f 4 = fv ∧ f 10 = .pointer (some ⟨h.length, 0, none⟩) ∧ f 11 = .pointer (some ⟨H1.length, 0, none⟩) ∧
        f 20 = I64 i ∧ f 21 = I64 a ∧ f 12 = I64 a ∧ f 24 = I64 j ∧ f 25 = I64 b ∧ f 13 = I64 b ∧ f 28 = I64 k ∧ f 29 = I64 c ∧ TensS ⟨p, i, j, k, []⟩ h h1 H1.length (gen ((a * j + b) * k + c).toNat (tenG p j k num))) ?_ (k - 0).toNat _ _
          ⟨0, rfl, by omega, f0, f2, f3, f4, f10, f11, f20, f21, f12, f24, f25, rfl, rfl, rfl, by rw [Int.add_zero]; exact st⟩
      clear f0 f2 f3 f4 f10 f11 f20 f21 f12 f24 f25 st
      rintro n fr h1 ⟨c, rfl, hc, f0, f2, f3, f4, f10, f11, f20, f21, f12, f24, f25, f13, f28, f29, st⟩
      obtain ⟨sv, ⟨t1, g11⟩, way⟩ := st.g11
      try simp (maxSteps := 3000000) (disch := first | omega | (simp only [len_new, len_put, len_kill]; omega)) only [↓xpre, xpost, ↓reduceIte, Nat.reduceEqDiff, Nat.reduceAdd, Nat.reduceSub, Nat.reduceLeDiff, Nat.zero_add, Nat.sub_zero, f0, f2, f3, f4, f10, f11, f20, f21, f12, f24, f25, f13, f28, f29, rd1_of g11, IfW_dec]
      refine ⟨fun hltc => ?_, fun hge => ?_⟩
      · have b1 := lin_in (i := a) (I := i) (j := b) (J := j) (by omega) (by omega)
        have b2 := lin_in b1.2 (j := c) (J := k) (by omega)
        refine hf a b c (by omega) (by omega) (by omega) h1 st.hp _ fun h2 p5 => ?_
        try simp (maxSteps := 3000000) (disch := first | omega | (simp only [len_new, len_put, len_kill]; omega)) only [↓xpre, xpost, ↓reduceIte, Nat.reduceEqDiff, Nat.reduceAdd, Nat.reduceSub, Nat.reduceLeDiff, Nat.zero_add, Nat.sub_zero, f0, f2, f3, f4, f10, f11, f20, f21, f12, f24, f25, f13, f28, f29, bin_rem, fillL, zrep]
        refine ⟨p5, ?_⟩
        have lo := st.lo
        have l5 := pre_len p5
        refine (way.pre p5).app (S := S) (by rw [gen_len]; omega) (by omega) fun sv' H' hl' hpre hown hw => ?_
        obtain ⟨t2, g11'⟩ := hown _ _ _ (by omega) ⟨t1, pre_get p5 g11⟩
        obtain ⟨c10, c11, c12⟩ := st.g10
        try simp (maxSteps := 3000000) (disch := first | omega | (simp only [len_new, len_put, len_kill]; omega)) only [↓xpre, xpost, ↓reduceIte, Nat.reduceEqDiff, Nat.reduceAdd, Nat.reduceSub, Nat.reduceLeDiff, Nat.zero_add, Nat.sub_zero, f0, f2, f3, f4, f10, f11, f20, f21, f12, f24, f25, f13, f28, f29, hw.one, hw.cells, wr_of g11', wrap64_in]
        refine InvQ_go (k - (c + 1)).toNat (by omega) ⟨c + 1, rfl, by omega, f0, f2, f3, f4, f10, f11, f20, f21, f12, f24, f25, f13, f28, rfl, ?_⟩
        refine ⟨pre_put (hpre h (by omega) (st.hp.trans p5)) (by omega), by rw [len_put]; omega, ⟨c10, c11, (hown _ _ _ (by omega) (c12.pre p5)).put_ne (by omega)⟩, sv', ⟨t2, ?_⟩, ?_⟩
        · rw [get_put_same (get_lt g11')]
        · have e1 : ((a * j + b) * k + (c + 1)).toNat = ((a * j + b) * k + c).toNat + 1 := by omega
          rw [e1, gen_succ]
          have e2 : tenG p j k num ((a * j + b) * k + c).toNat = (num a b c).tmod p := by
            have d1 := dec (a := a * j + b) (i := c) (I := k) (by omega)
            have d2 := dec (a := a) (i := b) (I := j) (by omega)
            unfold tenG
            rw [Int.toNat_of_nonneg (by omega), d1.1, d1.2, d2.1, d2.2]
          rw [e2]
          exact hw.put (by omega)
      · try simp (maxSteps := 3000000) (disch := first | omega | (simp only [len_new, len_put, len_kill]; omega)) only [↓xpre, xpost, ↓reduceIte, Nat.reduceEqDiff, Nat.reduceAdd, Nat.reduceSub, Nat.reduceLeDiff, Nat.zero_add, Nat.sub_zero, f0, f2, f3, f4, f10, f11, f20, f21, f12, f24, f25, wrap64_in]
        have e : c = k := by omega
        subst e
        refine InvQ_go (j - (b + 1)).toNat (by omega) ⟨b + 1, rfl, by omega, f0, f2, f3, f4, f10, f11, f20, f21, f12, f24, rfl, ?_⟩
        have e1 : (a * j + (b + 1)) * c = (a * j + b) * c + c := by rw [← Int.add_assoc, Int.add_mul (a * j + b), Int.one_mul]
        rw [e1]
        exact st
    · try simp (maxSteps := 3000000) (disch := first | omega | (simp only [len_new, len_put, len_kill]; omega)) only [↓xpre, xpost, ↓reduceIte, Nat.reduceEqDiff, Nat.reduceAdd, Nat.reduceSub, Nat.reduceLeDiff, Nat.zero_add, Nat.sub_zero, f0, f2, f3, f4, f10, f11, f20, f21, wrap64_in]
      have e : b = j := by omega
      subst e
      refine InvQ_go (i - (a + 1)).toNat (by omega) ⟨a + 1, rfl, by omega, f0, f2, f3, f4, f10, f11, f20, rfl, ?_⟩
      have e1 : (a + 1) * b * k = (a * b + b) * k := by rw [Int.add_mul a, Int.one_mul]
      rw [e1]
      exact st
  · have e : a = i := by omega
    subst e
    obtain ⟨sv, ⟨t1, g11⟩, way⟩ := st.g11
    obtain ⟨c, c3, t2, g2⟩ := st.g10
    have lo := st.lo
    obtain ⟨c0, c1, c2, c4, c5, rfl⟩ : ∃ a b d e g, c = [a, b, d, e, g] := by
      match c, c3 with
      | [a, b, d, e, g], _ => exact ⟨_, _, _, _, _, rfl⟩
    have l2 := get_lt g2
    try simp (maxSteps := 3000000) (disch := first | omega | (simp only [len_new, len_put, len_kill]; omega)) only [↓xpre, xpost, ↓reduceIte, Nat.reduceEqDiff, Nat.reduceAdd, Nat.reduceSub, Nat.reduceLeDiff, Nat.zero_add, Nat.sub_zero, f0, f2, f3, f4, f10, f11, f20, f21, rdn_of g11, wr_of g2, way.one]
    exact hQ _ _ (pre_put st.hp (Nat.le_refl _)) ((way.put (by omega)).ownR (by omega))

end Go.Proofs.Ytilpnbejpndgpaa.X

/- The turn; marks and holds of tensors. -/
set_option linter.unusedVariables false
set_option linter.unusedSimpArgs false
namespace Go.Proofs.Ytilpnbejpndgpaa.X
open Go Go.RowKit

theorem tat_in {t : Ten} {i j k : Int} (f : TF t) (hi : 0 ≤ i ∧ i < t.i) (hj : 0 ≤ j ∧ j < t.j) (hk : 0 ≤ k ∧ k < t.k) : 0 ≤ tat t i j k ∧ tat t i j k < t.p := by
  have b1 := lin_in hi hj
  have b2 := lin_in b1.2 hk
  exact f.num _ (by omega) (by rw [f.len]; omega)
/-- Places out of a number. -/
theorem places {n i j k : Int} (hn : 0 ≤ n ∧ n < i * j * k) (hj : 1 ≤ j) (hk : 1 ≤ k) : (0 ≤ n / k / j ∧ n / k / j < i) ∧ (0 ≤ n / k % j ∧ n / k % j < j) ∧ (0 ≤ n % k ∧ n % k < k) := by
  have h1 : n / k < i * j := Int.ediv_lt_of_lt_mul (by omega) hn.2
  have h2 : n / k / j < i := Int.ediv_lt_of_lt_mul (by omega) h1
  have h3 : 0 ≤ n / k := Int.ediv_nonneg (by omega) (by omega)
  exact ⟨⟨Int.ediv_nonneg h3 (by omega), h2⟩, ⟨Int.emod_nonneg _ (by omega), Int.emod_lt_of_pos _ (by omega)⟩, ⟨Int.emod_nonneg _ (by omega), Int.emod_lt_of_pos _ (by omega)⟩⟩

theorem i_turn1 {v : Value} {t : Ten} {i j k : Int} {h : AH} {n : Nat} {e : TypeId} {ro full : Bool} {Q : Value → AH → Prop} (hb : h.get n = some ⟨[I64 t.p, I64 t.i, I64 t.j, I64 t.k, v], e, ro, full⟩) (hv : Ints h v t.ns) (f : TF t)
    (hi : 0 ≤ i ∧ i < t.i) (hj : 0 ≤ j ∧ j < t.j) (hk : 0 ≤ k ∧ k < t.k) (hQ : ∀ h', h <+: h' → Q (I64 (tat t i j k)) h') : WF S 164 [I64 j, I64 k, I64 i, .pointer (some ⟨n, 0, none⟩)] h Q := by
  refine WF_fn (fn := c164) rfl rfl ?_
  unfold c164
  try simp (maxSteps := 3000000) (disch := first | omega | (simp only [len_new, len_put, len_kill]; omega)) only [↓xpre, xpost, ↓reduceIte, Nat.reduceEqDiff, Nat.reduceAdd, Nat.reduceSub, Nat.reduceLeDiff, Nat.zero_add, Nat.sub_zero, rdn_of hb]
  refine i_at (t := t) hv f hi hj hk fun h' hp => ?_
  try simp (maxSteps := 3000000) (disch := first | omega | (simp only [len_new, len_put, len_kill]; omega)) only [↓xpre, xpost, ↓reduceIte, Nat.reduceEqDiff, Nat.reduceAdd, Nat.reduceSub, Nat.reduceLeDiff, Nat.zero_add, Nat.sub_zero]
  exact hQ _ hp

theorem turn_eq {t : Ten} (f : TF t) : tenT t.p t.j t.k t.i (fun j k i => tat t i j k) = turnT t := by
  unfold tenT turnT
  congr 1
  refine gen_congr fun n hn => ?_
  unfold tenG turnG
  have h := places (n := n) (i := t.j) (j := t.k) (k := t.i) (by omega) f.k.1 f.i.1
  have b := tat_in f h.2.2 h.1 h.2.1
  exact Int.tmod_eq_of_lt b.1 b.2

theorem OwnR.put_ne {h0 h : AH} {v : Value} {ns : List Int} {n : Nat} {b : Blk} (o : OwnR h0 h v ns) (hn : n < h0.length) : OwnR h0 (h.put n b) v ns := by
  rcases o with ⟨rfl, rfl⟩ | ⟨m, e, full, h1, rfl, h2⟩
  · exact .inl ⟨rfl, rfl⟩
  · exact .inr ⟨m, e, full, h1, rfl, by rw [get_put_ne (by omega)]; exact h2⟩
theorem i_turn {v : Value} {t : Ten} {h : AH} {Q : Value → AH → Prop} (hv : Ints h v t.ns) (f : TF t)
    (hQ : ∀ v' h', h <+: h' → OwnR h h' v' (turnT t).ns → Q (tenV (turnT t) v') h') : WF S 158 [tenV t v] h Q := by
  refine WF_fn (fn := c158) rfl rfl ?_
  unfold c158
  try simp (maxSteps := 3000000) (disch := first | omega | (simp only [len_new, len_put, len_kill]; omega)) only [↓xpre, xpost, ↓reduceIte, Nat.reduceEqDiff, Nat.reduceAdd, Nat.reduceSub, Nat.reduceLeDiff, Nat.zero_add, Nat.sub_zero, tenV, hv.one]
  generalize hH1 : AH.new h _ = H1
  obtain ⟨hb1, p1, n1⟩ := new_facts hH1
  generalize hH2 : AH.new H1 _ = H2
  obtain ⟨hb2, p2, n2⟩ := new_facts hH2
  have hb1 := pre_get p2 hb1
  have hf : Tells S H2 (.func (.func 164) #[] #[.pointer (some ⟨h.length, 0, none⟩)]) t.j t.k t.i (fun j k i => tat t i j k) := by
    intro a b c ha hb hc h1 hp Q hQ
    rw [WK_func]
    exact i_turn1 (t := t) (pre_get hp hb1) (hv.pre ((p1.trans p2).trans hp)) f hc ha hb hQ
  refine i_tensor (num := fun j k i => tat t i j k) (by have := f.p; omega) f.j f.k f.i hf fun v' H3 p3 o => ?_
  rw [turn_eq f] at o ⊢
  have hb2 := pre_get p3 hb2
  have l3 := get_lt hb2
  try simp (maxSteps := 3000000) (disch := first | omega | (simp only [len_new, len_put, len_kill]; omega)) only [↓xpre, xpost, ↓reduceIte, Nat.reduceEqDiff, Nat.reduceAdd, Nat.reduceSub, Nat.reduceLeDiff, Nat.zero_add, Nat.sub_zero, tenV, o.ints.one, wr_of hb2]
  exact hQ v' _ (pre_put ((p1.trans p2).trans p3) (by omega)) ((o.put_ne (by omega)).lo (by omega))

def noT : Ten := ⟨0, 0, 0, 0, []⟩
def turnR (t : Ten) : Ten × Int := if isT t = true then (turnT t, 0) else (noT, 1)

theorem only_get {o : Option Nat} {h h' : AH} {n : Nat} {b : Blk} (w : Only o h h') (hb : h.get n = some b) (hn : ∀ m, o = some m → m ≠ n) : h'.get n = some b := by
  rw [w.get n (fun e => hn n e rfl)]
  exact hb
theorem turnR_len (t : Ten) : (((turnR t).1.ns.length : Nat) : Int) ≤ 1048576 := by
  unfold turnR
  split
  · rename_i h
    have f := isT_facts h
    have jk := mul_in1 (A := 9) (B := 9) f.j f.k
    have jki := mul_in1 (A := 81) (B := 9) jk f.i
    simp only [turnT, gen_len]
    omega
  · simp [noT]
theorem l_markTensor {v : Value} {t : Ten} {k : Int} {h0 h : AH} {Q : Value → AH → Prop} (o : OwnR h0 h v t.ns) (hl : (t.ns.length : Int) ≤ 1048576) (hk : 0 ≤ k ∧ k ≤ 1099511627776)
    (hQ : ∀ h1 h', h <+: h1 → Only (blkOf v) h1 h' → OwnR h0 h' v (marks k t.ns.length) → Q (I64 (k + t.ns.length)) h') : WF S 23 [tenV t v, I64 k] h Q := by
  refine WF_fn (fn := c23) rfl rfl ?_
  unfold c23
  try simp (maxSteps := 3000000) (disch := first | omega | (simp only [len_new, len_put, len_kill]; omega)) only [↓xpre, xpost, ↓reduceIte, Nat.reduceEqDiff, Nat.reduceAdd, Nat.reduceSub, Nat.reduceLeDiff, Nat.zero_add, Nat.sub_zero, tenV, o.ints.one]
  have p1 := pre_new (b := ⟨[I64 t.p, I64 t.i, I64 t.j, I64 t.k, v], 28, false, true⟩) (List.prefix_refl h)
  refine l_markInt64S (o.pre p1) hl hk fun h' w o' => ?_
  try simp (maxSteps := 3000000) (disch := first | omega | (simp only [len_new, len_put, len_kill]; omega)) only [↓xpre, xpost, ↓reduceIte, Nat.reduceEqDiff, Nat.reduceAdd, Nat.reduceSub, Nat.reduceLeDiff, Nat.zero_add, Nat.sub_zero]
  exact hQ _ _ p1 w o'

end Go.Proofs.Ytilpnbejpndgpaa.X

/- Lists of lists of whole numbers. -/
set_option linter.unusedVariables false
set_option linter.unusedSimpArgs false
set_option maxRecDepth 20000
set_option maxHeartbeats 4000000
namespace Go.Proofs.Ytilpnbejpndgpaa.X
open Go Go.RowKit

/-- A slice that reads values, one cell each. -/
def Vals (h : AH) (v : Value) (cs : List Value) : Prop :=
  (cs = [] ∧ ∃ t, t ≤ 2 ∧ v = .slice none 0 t) ∨
  ∃ b off blk, v = .slice (some ⟨b, off, none⟩) cs.length 1 ∧ h.get b = some blk ∧ off + cs.length ≤ blk.c.length ∧ ∀ i, i < cs.length → blk.c[off + i]? = some (cs.getD i undef)
section
variable {h h' : AH} {v : Value} {cs : List Value}
theorem Vals.pre (p : h <+: h') (hv : Vals h v cs) : Vals h' v cs := by
  rcases hv with hv | ⟨b, off, blk, h1, h2, h3, h4⟩
  · exact .inl hv
  · exact .inr ⟨b, off, blk, h1, pre_get p h2, h3, h4⟩
theorem Vals.len (hv : Vals h v cs) : lenV v = some (.int .i64 cs.length) := by
  rcases hv with ⟨rfl, t, _, rfl⟩ | ⟨b, off, blk, rfl, h2, h3, h4⟩ <;> rfl
theorem Vals.one (hv : Vals h v cs) : isOne v = true := by
  rcases hv with ⟨rfl, t, _, rfl⟩ | ⟨b, off, blk, rfl, h2, h3, h4⟩ <;> rfl
theorem Vals.cells (hv : Vals h v cs) : cellsL v = [v] := by
  rcases hv with ⟨rfl, t, _, rfl⟩ | ⟨b, off, blk, rfl, h2, h3, h4⟩ <;> rfl
theorem Vals.ix (hv : Vals h v cs) {k : IntKind} {j : Int} (h0 : 0 ≤ j) (h1 : j < cs.length) : ixsV 1 v (.int k j) = some (.pointer (some (pAt v 1 j))) := by
  rcases hv with ⟨rfl, t, _, rfl⟩ | ⟨b, off, blk, rfl, h2, h3, h4⟩
  · simp at h1; omega
  · simp [ixsV, h0, h1, pAt]
theorem Vals.rd (hv : Vals h v cs) {j : Int} (h0 : 0 ≤ j) (h1 : j < cs.length) : h.rd1 (pAt v 1 j).block (pAt v 1 j).off = some (cs.getD j.toNat undef) := by
  rcases hv with ⟨rfl, t, _, rfl⟩ | ⟨b, off, blk, rfl, h2, h3, h4⟩
  · simp at h1; omega
  · have := h4 j.toNat (by omega)
    simp [AH.rd1, pAt, h2, this]
end
/-- A list of lists. -/
def Rows (h : AH) (v : Value) (rows : List (List Int)) : Prop := ∃ cs, Vals h v cs ∧ cs.length = rows.length ∧ ∀ i, i < rows.length → Ints h (cs.getD i undef) (rows.getD i [])
theorem Rows.pre {h h' : AH} {v : Value} {rows : List (List Int)} (p : h <+: h') (hv : Rows h v rows) : Rows h' v rows := by
  obtain ⟨cs, h1, h2, h3⟩ := hv
  exact ⟨cs, h1.pre p, h2, fun i hi => (h3 i hi).pre p⟩
theorem Rows.one {h : AH} {v : Value} {rows : List (List Int)} (hv : Rows h v rows) : isOne v = true := by
  obtain ⟨cs, h1, h2, h3⟩ := hv
  exact h1.one

/-- All numbers of the rows ahead of one. -/
def tot (rows : List (List Int)) (i : Nat) : Int := ((rows.take i).map fun r => (r.length : Int)).sum
theorem tot_succ {rows : List (List Int)} {i : Nat} (hi : i < rows.length) : tot rows (i + 1) = tot rows i + ((rows.getD i []).length : Int) := by
  unfold tot
  rw [List.take_succ_eq_append_getElem hi]
  simp only [List.map_append, List.sum_append, List.map_cons, List.map_nil, List.sum_cons, List.sum_nil, Int.add_zero, List.getD_eq_getElem?_getD, List.getElem?_eq_getElem hi, Option.getD_some]

theorem l_szInt64SS {v : Value} {rows : List (List Int)} {n : Int} {h : AH} {Q : Value → AH → Prop} (hv : Rows h v rows) (h0 : 0 ≤ n ∧ n ≤ 1048576) (hl : (rows.length : Int) ≤ 9223372036854775807)
    (hl' : ∀ i, i < rows.length → ((rows.getD i []).length : Int) ≤ 9223372036854775807)
    (hQ : ∀ m : Int, m ≤ n → (0 ≤ m → m = n - rows.length - tot rows rows.length ∧ ∀ i, i < rows.length → ((rows.getD i []).length : Int) ≤ n) → Q (I64 m) h) : WF S 41 [v, I64 n] h Q := by
  refine WF_fn (fn := c41) rfl rfl ?_
  unfold c41
  obtain ⟨cs, hv, hcl, hr⟩ := hv
  try simp (maxSteps := 3000000) (disch := first | omega | (simp only [len_new, len_put, len_kill]; omega)) only [↓xpre, xpost, ↓reduceIte, Nat.reduceEqDiff, Nat.reduceAdd, Nat.reduceSub, Nat.reduceLeDiff, Nat.zero_add, Nat.sub_zero, hv.len, wrap64_in, hcl, IfW_dec]
  refine ⟨fun hm => hQ _ (by omega) (by omega), fun hm => ?_⟩
  refine WC_loop_inv (fun m f h1 => ∃ i : Nat, m = rows.length - i ∧ i ≤ rows.length ∧ f 0 = v ∧ f 1 = I64 (n - rows.length - tot rows i) ∧ 0 ≤ n - rows.length - tot rows i ∧ 0 ≤ tot rows i ∧ f 5 = I64 i ∧ h1 = h ∧
    ∀ j, j < i → ((rows.getD j []).length : Int) ≤ n) ?_ rows.length _ _ ⟨0, rfl, Nat.zero_le _, rfl, by simp [upd_apply, tot], by simp [tot]; omega, by simp [tot], rfl, rfl, by omega⟩
  rintro m f h1 ⟨i, rfl, hi, f0, f1, hpos, htot, f5, rfl, hj⟩
  try simp (maxSteps := 3000000) (disch := first | omega | (simp only [len_new, len_put, len_kill]; omega)) only [↓xpre, xpost, ↓reduceIte, Nat.reduceEqDiff, Nat.reduceAdd, Nat.reduceSub, Nat.reduceLeDiff, Nat.zero_add, Nat.sub_zero, f0, f1, f5, hv.len, hcl, IfW_dec]
  refine ⟨fun hlt => ?_, fun hge => ?_⟩
  · have hi' : i < rows.length := by omega
    have hix := hv.ix (k := .i64) (j := i) (by omega) (by omega)
    have hrd := hv.rd (j := i) (by omega) (by omega)
    try simp (maxSteps := 3000000) (disch := first | omega | (simp only [len_new, len_put, len_kill]; omega)) only [↓xpre, xpost, ↓reduceIte, Nat.reduceEqDiff, Nat.reduceAdd, Nat.reduceSub, Nat.reduceLeDiff, Nat.zero_add, Nat.sub_zero, f0, f1, f5, hix, hrd, Int.toNat_natCast]
    refine l_szInt64S (hr i hi') (by omega) (hl' i hi') fun m h1 h2 => ?_
    try simp (maxSteps := 3000000) (disch := first | omega | (simp only [len_new, len_put, len_kill]; omega)) only [↓xpre, xpost, ↓reduceIte, Nat.reduceEqDiff, Nat.reduceAdd, Nat.reduceSub, Nat.reduceLeDiff, Nat.zero_add, Nat.sub_zero, f0, f1, f5, IfW_dec]
    refine ⟨fun hm => hQ _ (by omega) (by omega), fun hm => ?_⟩
    try simp (maxSteps := 3000000) (disch := first | omega | (simp only [len_new, len_put, len_kill]; omega)) only [↓xpre, xpost, ↓reduceIte, Nat.reduceEqDiff, Nat.reduceAdd, Nat.reduceSub, Nat.reduceLeDiff, Nat.zero_add, Nat.sub_zero, f0, f1, f5, wrap64_in]
    have h3 := h2 (by omega)
    have h4 := tot_succ hi'
    refine InvQ_go (rows.length - (i + 1)) (by omega) ⟨i + 1, rfl, by omega, f0, ?_, by omega, by omega, rfl, rfl, fun j hj' => ?_⟩
    · show I64 m = _
      congr 1
      omega
    · rcases Nat.lt_succ_iff_lt_or_eq.1 hj' with hj' | rfl
      · exact hj j hj'
      · omega
  · have e : i = rows.length := by omega
    subst e
    try simp (maxSteps := 3000000) (disch := first | omega | (simp only [len_new, len_put, len_kill]; omega)) only [↓xpre, xpost, ↓reduceIte, Nat.reduceEqDiff, Nat.reduceAdd, Nat.reduceSub, Nat.reduceLeDiff, Nat.zero_add, Nat.sub_zero, f0, f1, f5]
    exact hQ _ (by omega) (fun _ => ⟨rfl, hj⟩)

theorem l_eqInt64SS {v v' : Value} {ns ms : List (List Int)} {h : AH} {Q : Value → AH → Prop} (hv : Rows h v ns) (hv' : Rows h v' ms) (hl : (ns.length : Int) ≤ 1048576)
    (hl' : ∀ i, i < ns.length → ((ns.getD i []).length : Int) ≤ 1048576) (hQ : Q (.bool (decide (ns = ms))) h) : WF S 22 [v, v'] h Q := by
  refine WF_fn (fn := c22) rfl rfl ?_
  unfold c22
  obtain ⟨cs, hv, hcl, hr⟩ := hv
  obtain ⟨cs', hv', hcl', hr'⟩ := hv'
  try simp (maxSteps := 3000000) (disch := first | omega | (simp only [len_new, len_put, len_kill]; omega)) only [↓xpre, xpost, ↓reduceIte, Nat.reduceEqDiff, Nat.reduceAdd, Nat.reduceSub, Nat.reduceLeDiff, Nat.zero_add, Nat.sub_zero, hv.len, hv'.len, hcl, hcl', IfW_dec]
  refine ⟨fun hne => ?_, fun heq => ?_⟩
  · have : ns ≠ ms := fun e => hne (by rw [e])
    simpa [this] using hQ
  · have hlen : ns.length = ms.length := by omega
    refine WC_loop_inv (fun n f h1 => ∃ i : Nat, n = ns.length - i ∧ i ≤ ns.length ∧ f 0 = v ∧ f 1 = v' ∧ f 5 = I64 i ∧ h1 = h ∧ ∀ j, j < i → ns.getD j [] = ms.getD j []) ?_ ns.length _ _ ⟨0, rfl, Nat.zero_le _, rfl, rfl, rfl, rfl, by omega⟩
    rintro n f h1 ⟨i, rfl, hi, f0, f1, f5, rfl, hj⟩
    try simp (maxSteps := 3000000) (disch := first | omega | (simp only [len_new, len_put, len_kill]; omega)) only [↓xpre, xpost, ↓reduceIte, Nat.reduceEqDiff, Nat.reduceAdd, Nat.reduceSub, Nat.reduceLeDiff, Nat.zero_add, Nat.sub_zero, f0, f1, f5, hv.len, hcl, IfW_dec]
    refine ⟨fun hlt => ?_, fun hge => ?_⟩
    · have hi' : i < ns.length := by omega
      have hix := hv.ix (k := .i64) (j := i) (by omega) (by omega)
      have hrd := hv.rd (j := i) (by omega) (by omega)
      have hix' := hv'.ix (k := .i64) (j := i) (by omega) (by omega)
      have hrd' := hv'.rd (j := i) (by omega) (by omega)
      try simp (maxSteps := 3000000) (disch := first | omega | (simp only [len_new, len_put, len_kill]; omega)) only [↓xpre, xpost, ↓reduceIte, Nat.reduceEqDiff, Nat.reduceAdd, Nat.reduceSub, Nat.reduceLeDiff, Nat.zero_add, Nat.sub_zero, f0, f1, f5, hix, hrd, hix', hrd', Int.toNat_natCast]
      refine l_eqInt64S (hr i hi') (hr' i (by omega)) (hl' i hi') ?_
      by_cases he : ns.getD i [] = ms.getD i []
      · try simp (maxSteps := 3000000) (disch := first | omega | (simp only [len_new, len_put, len_kill]; omega)) only [↓xpre, xpost, ↓reduceIte, Nat.reduceEqDiff, Nat.reduceAdd, Nat.reduceSub, Nat.reduceLeDiff, Nat.zero_add, Nat.sub_zero, decide_eq_true he, f0, f1, f5, wrap64_in]
        refine InvQ_go (ns.length - (i + 1)) (by omega) ⟨i + 1, rfl, by omega, f0, f1, rfl, rfl, fun j hj' => ?_⟩
        rcases Nat.lt_succ_iff_lt_or_eq.1 hj' with hj' | rfl
        · exact hj j hj'
        · exact he
      · try simp (maxSteps := 3000000) (disch := first | omega | (simp only [len_new, len_put, len_kill]; omega)) only [↓xpre, xpost, ↓reduceIte, Nat.reduceEqDiff, Nat.reduceAdd, Nat.reduceSub, Nat.reduceLeDiff, Nat.zero_add, Nat.sub_zero, decide_eq_false he, f0, f1, f5]
        have : ns ≠ ms := fun e => he (by rw [e])
        simpa [this] using hQ
    · try simp (maxSteps := 3000000) (disch := first | omega | (simp only [len_new, len_put, len_kill]; omega)) only [↓xpre, xpost, ↓reduceIte, Nat.reduceEqDiff, Nat.reduceAdd, Nat.reduceSub, Nat.reduceLeDiff, Nat.zero_add, Nat.sub_zero, f0, f1, f5]
      have : ns = ms := by
        refine List.ext_getElem? fun j => ?_
        by_cases h1 : j < ns.length
        · have := hj j (by omega)
          rw [List.getElem?_eq_getElem h1, List.getElem?_eq_getElem (by omega)]
          simpa [List.getD_eq_getElem?_getD, List.getElem?_eq_getElem h1, List.getElem?_eq_getElem (show j < ms.length by omega)] using this
        · rw [List.getElem?_eq_none (by omega), List.getElem?_eq_none (by omega)]
      simpa [this] using hQ
end Go.Proofs.Ytilpnbejpndgpaa.X

/- Copies of lists of lists. -/
set_option linter.unusedVariables false
set_option linter.unusedSimpArgs false
set_option maxRecDepth 20000
set_option maxHeartbeats 4000000
namespace Go.Proofs.Ytilpnbejpndgpaa.X
open Go Go.RowKit

theorem set_getD' {α : Type} {l : List α} {i j : Nat} {x d : α} (hi : i < l.length) : (l.set i x).getD j d = if j = i then x else l.getD j d := by
  rw [List.getD_eq_getElem?_getD, List.getD_eq_getElem?_getD, List.getElem?_set]
  by_cases h : i = j
  · subst h
    simp [hi]
  · rw [if_neg h, if_neg (fun e => h e.symm)]
theorem splice_set {l : List Value} {j : Nat} {x : Value} (hj : j < l.length) : splice l j [x] = l.set j x := by
  unfold splice
  rw [List.set_eq_take_append_cons_drop, if_pos hj]
  simp
theorem zrep_len {z : Value} : ∀ n, (zrep n [z]).length = n
  | 0 => rfl
  | n + 1 => by simp [zrep, zrep_len n]

/-- A list of lists of one's own, or nil: each row has a block for itself. -/
def OwnRows (h0 h : AH) (v : Value) (rows : List (List Int)) : Prop :=
  (v = .slice none 0 0 ∧ rows = []) ∨
  ∃ n e full cs, h0.length ≤ n ∧ v = .slice (some ⟨n, 0, none⟩) cs.length 1 ∧ h.get n = some ⟨cs, e, false, full⟩ ∧ cs.length = rows.length ∧
    (∀ i, i < rows.length → OwnR h0 h (cs.getD i undef) (rows.getD i []) ∧ blkOf (cs.getD i undef) ≠ some n) ∧
    ∀ i j, i < j → j < rows.length → ∀ b, blkOf (cs.getD i undef) = some b → blkOf (cs.getD j undef) ≠ some b
theorem OwnRows.rows {h0 h : AH} {v : Value} {rows : List (List Int)} (o : OwnRows h0 h v rows) : Rows h v rows := by
  rcases o with ⟨rfl, rfl⟩ | ⟨n, e, full, cs, h1, rfl, h2, h3, h4, h5⟩
  · exact ⟨[], .inl ⟨rfl, 0, by omega, rfl⟩, rfl, fun i hi => by simp at hi⟩
  · refine ⟨cs, .inr ⟨n, 0, _, rfl, h2, by simp, fun i hi => ?_⟩, h3, fun i hi => (h4 i hi).1.ints⟩
    rw [Nat.zero_add, List.getD_eq_getElem?_getD, List.getElem?_eq_getElem hi]
    rfl
theorem OwnRows.pre {h0 h h' : AH} {v : Value} {rows : List (List Int)} (o : OwnRows h0 h v rows) (p : h <+: h') : OwnRows h0 h' v rows := by
  rcases o with ⟨rfl, rfl⟩ | ⟨n, e, full, cs, h1, rfl, h2, h3, h4, h5⟩
  · exact .inl ⟨rfl, rfl⟩
  · exact .inr ⟨n, e, full, cs, h1, rfl, pre_get p h2, h3, fun i hi => ⟨(h4 i hi).1.pre p, (h4 i hi).2⟩, h5⟩

theorem l_toInt64SS {v : Value} {rows : List (List Int)} {h : AH} {Q : Value → AH → Prop} (hv : Rows h v rows) (hl : (rows.length : Int) ≤ 1048576) (hl' : ∀ i, i < rows.length → ((rows.getD i []).length : Int) ≤ 1048576)
    (hQ : ∀ v' h', h <+: h' → OwnRows h h' v' rows → Q v' h') : WF S 43 [v] h Q := by
  refine WF_fn (fn := c43) rfl rfl ?_
  unfold c43
  obtain ⟨cs, hv, hcl, hr⟩ := hv
  try simp (maxSteps := 3000000) (disch := first | omega | (simp only [len_new, len_put, len_kill]; omega)) only [↓xpre, xpost, ↓reduceIte, Nat.reduceEqDiff, Nat.reduceAdd, Nat.reduceSub, Nat.reduceLeDiff, Nat.zero_add, Nat.sub_zero, hv.len, hcl]
  refine ⟨by omega, ?_⟩
  generalize hH : AH.new h _ = H
  obtain ⟨hb, hp, hlen⟩ := new_facts hH
  rw [Int.toNat_natCast] at hb
  have hz := zrep_len (z := .slice none 0 0) rows.length
  refine WC_loop_inv (fun m f h1 => ∃ (i : Nat) (ds : List Value), m = rows.length - i ∧ i ≤ rows.length ∧ f 0 = v ∧ f 3 = .slice (some ⟨h.length, 0, none⟩) rows.length 1 ∧ f 4 = I64 i ∧ OwnB h1 h.length ds true ∧ h <+: h1 ∧ ds.length = rows.length ∧
    (∀ j, j < i → OwnR H h1 (ds.getD j undef) (rows.getD j [])) ∧ ∀ j k, j < k → k < i → ∀ b, blkOf (ds.getD j undef) = some b → blkOf (ds.getD k undef) ≠ some b) ?_ rows.length _ _
    ⟨0, _, rfl, Nat.zero_le _, rfl, by simp [upd_apply], rfl, ⟨_, hb⟩, hp, hz, by omega, by omega⟩
  rintro m f h1 ⟨i, ds, rfl, hi, f0, f3, f4, ⟨e, hg⟩, ph, hdl, hown, hdis⟩
  have hv1 := hv.pre ph
  have lH := get_lt hg
  try simp (maxSteps := 3000000) (disch := first | omega | (simp only [len_new, len_put, len_kill]; omega)) only [↓xpre, xpost, ↓reduceIte, Nat.reduceEqDiff, Nat.reduceAdd, Nat.reduceSub, Nat.reduceLeDiff, Nat.zero_add, Nat.sub_zero, f0, f3, f4, hv1.len, hcl, IfW_dec]
  refine ⟨fun hlt => ?_, fun hge => ?_⟩
  · have hi' : i < rows.length := by omega
    have hix := hv1.ix (k := .i64) (j := i) (by omega) (by omega)
    have hrd := hv1.rd (j := i) (by omega) (by omega)
    try simp (maxSteps := 3000000) (disch := first | omega | (simp only [len_new, len_put, len_kill]; omega)) only [↓xpre, xpost, ↓reduceIte, Nat.reduceEqDiff, Nat.reduceAdd, Nat.reduceSub, Nat.reduceLeDiff, Nat.zero_add, Nat.sub_zero, f0, f3, f4, hix, hrd, Int.toNat_natCast]
    refine l_toInt64S ((hr i hi').pre ph) (hl' i hi') fun v' h2 p2 o => ?_
    have hg2 := pre_get p2 hg
    have ob := o.ownR.blk
    try simp (maxSteps := 3000000) (disch := first | omega | (simp only [len_new, len_put, len_kill]; omega)) only [↓xpre, xpost, ↓reduceIte, Nat.reduceEqDiff, Nat.reduceAdd, Nat.reduceSub, Nat.reduceLeDiff, Nat.zero_add, Nat.sub_zero, f0, f3, f4, ixsV_some, o.ints.one, o.ints.cells, wr_of hg2, wrap64_in]
    refine ⟨⟨by omega, hlt⟩, by have := Int.toNat_natCast i; omega, ?_⟩
    have en : ∀ j k : Nat, j < k → k < i + 1 → (k < i ∨ (k = i ∧ j < i)) := fun j k _ _ => by omega
    have blks : ∀ j, j < i → ∀ b, blkOf (ds.getD j undef) = some b → H.length ≤ b ∧ b < h1.length := fun j hj b hb => (hown j hj).blk b hb
    refine InvQ_go (rows.length - (i + 1)) (by omega) ⟨i + 1, ds.set i v', rfl, by omega, f0, f3, rfl, ⟨e, ?_⟩, pre_put (ph.trans p2) (Nat.le_refl _), by rw [List.length_set]; exact hdl, fun j hj => ?_, fun j k hjk hk b hb => ?_⟩
    · rw [get_put_same (get_lt hg2)]
      have e1 : ((i : Int).toNat * 1) = i := by omega
      simp only [e1, Nat.zero_add]
      rw [splice_set (by omega)]
    · rw [set_getD' (by omega)]
      split
      · rename_i ej
        subst ej
        exact (o.ownR.put_ne (by omega)).lo (by omega)
      · exact ((hown j (by omega)).pre p2).put_ne (by omega)
    · rw [set_getD' (by omega)] at hb ⊢
      rw [if_neg (by omega)] at hb
      split
      · intro e2
        have q1 := blks j (by omega) b hb
        have q2 := ob b e2
        omega
      · exact hdis j k hjk (by omega) b hb
  · have ei : i = rows.length := by omega
    subst ei
    try simp (maxSteps := 3000000) (disch := first | omega | (simp only [len_new, len_put, len_kill]; omega)) only [↓xpre, xpost, ↓reduceIte, Nat.reduceEqDiff, Nat.reduceAdd, Nat.reduceSub, Nat.reduceLeDiff, Nat.zero_add, Nat.sub_zero, f0, f3, f4]
    refine hQ _ _ ph (.inr ⟨h.length, e, true, ds, Nat.le_refl _, by rw [hdl], hg, hdl, fun j hj => ⟨(hown j hj).lo (by omega), fun eb => ?_⟩, hdis⟩)
    have := (hown j hj).blk _ eb
    omega
end Go.Proofs.Ytilpnbejpndgpaa.X

/- Numbers modulo a prime: lists, remainders, inverses; matrices. -/
set_option linter.unusedVariables false
set_option linter.unusedSimpArgs false
set_option maxRecDepth 20000
set_option maxHeartbeats 4000000
namespace Go.Proofs.Ytilpnbejpndgpaa.X
open Go Go.RowKit

theorem s_l05Numbers {v : Value} {ns : List Int} {p n : Int} {h : AH} {Q : Value → AH → Prop} (hv : Ints h v ns) (hl : (ns.length : Int) ≤ 1048576) (hp : 2 ≤ p ∧ p ≤ 5)
    (hQ : Q (.bool (allIn p ns && decide ((ns.length : Int) = n))) h) : WF S 83 [I64 p, v, I64 n] h Q := by
  refine WF_fn (fn := c83) rfl rfl ?_
  unfold c83
  try simp (maxSteps := 3000000) (disch := first | omega | (simp only [len_new, len_put, len_kill]; omega)) only [↓xpre, xpost, ↓reduceIte, Nat.reduceEqDiff, Nat.reduceAdd, Nat.reduceSub, Nat.reduceLeDiff, Nat.zero_add, Nat.sub_zero]
  refine WC_loop_inv (fun m f h1 => ∃ i : Nat, m = ns.length - i ∧ i ≤ ns.length ∧ f 0 = I64 p ∧ f 1 = v ∧ f 2 = I64 n ∧ f 7 = I64 i ∧ h1 = h ∧ ∀ j, j < i → 0 ≤ ns.getD j 0 ∧ ns.getD j 0 < p) ?_ ns.length _ _ ⟨0, rfl, Nat.zero_le _, rfl, rfl, rfl, rfl, rfl, by omega⟩
  rintro m f h1 ⟨i, rfl, hi, f0, f1, f2, f7, rfl, hj⟩
  try simp (maxSteps := 3000000) (disch := first | omega | (simp only [len_new, len_put, len_kill]; omega)) only [↓xpre, xpost, ↓reduceIte, Nat.reduceEqDiff, Nat.reduceAdd, Nat.reduceSub, Nat.reduceLeDiff, Nat.zero_add, Nat.sub_zero, f0, f1, f2, f7, hv.len, IfW_dec]
  refine ⟨fun hlt => ?_, fun hge => ?_⟩
  · try simp (maxSteps := 3000000) (disch := first | omega | (simp only [len_new, len_put, len_kill]; omega)) only [↓xpre, xpost, ↓reduceIte, Nat.reduceEqDiff, Nat.reduceAdd, Nat.reduceSub, Nat.reduceLeDiff, Nat.zero_add, Nat.sub_zero, f0, f1, f2, f7, hv.ix, hv.rd, wrap64_in]
    refine s_l01In ?_
    simp only [nth, Int.toNat_natCast]
    by_cases h5 : 0 ≤ ns.getD i 0 ∧ ns.getD i 0 ≤ p - 1
    · try simp (maxSteps := 3000000) (disch := first | omega | (simp only [len_new, len_put, len_kill]; omega)) only [↓xpre, xpost, ↓reduceIte, Nat.reduceEqDiff, Nat.reduceAdd, Nat.reduceSub, Nat.reduceLeDiff, Nat.zero_add, Nat.sub_zero, h5, f0, f1, f2, f7, wrap64_in]
      refine InvQ_go (ns.length - (i + 1)) (by omega) ⟨i + 1, rfl, by omega, f0, f1, f2, rfl, rfl, fun j hj' => ?_⟩
      rcases Nat.lt_succ_iff_lt_or_eq.1 hj' with hj' | rfl
      · exact hj j hj'
      · omega
    · try simp (maxSteps := 3000000) (disch := first | omega | (simp only [len_new, len_put, len_kill]; omega)) only [↓xpre, xpost, ↓reduceIte, Nat.reduceEqDiff, Nat.reduceAdd, Nat.reduceSub, Nat.reduceLeDiff, Nat.zero_add, Nat.sub_zero, h5, f0, f1, f2, f7]
      have : allIn p ns = false := by
        cases ha : allIn p ns with
        | false => rfl
        | true =>
          have := allIn_iff.1 ha i (by omega)
          omega
      rw [this] at hQ
      exact hQ
  · try simp (maxSteps := 3000000) (disch := first | omega | (simp only [len_new, len_put, len_kill]; omega)) only [↓xpre, xpost, ↓reduceIte, Nat.reduceEqDiff, Nat.reduceAdd, Nat.reduceSub, Nat.reduceLeDiff, Nat.zero_add, Nat.sub_zero, f0, f1, f2, f7, hv.len]
    have : allIn p ns = true := allIn_iff.2 fun j hj' => hj j (by omega)
    rw [this, Bool.true_and] at hQ
    exact hQ

def md (p x : Int) : Int := (x.tmod p + p).tmod p
theorem tmod_bound {x p : Int} (hp : 2 ≤ p) : -p < x.tmod p ∧ x.tmod p < p := by
  have h1 := Int.tmod_lt_of_pos x (show 0 < p by omega)
  have h2 := Int.tmod_lt_of_pos (-x) (show 0 < p by omega)
  rw [Int.neg_tmod] at h2
  omega
theorem tmod_nn {a J : Int} (ha : 0 ≤ a) (hJ : 1 ≤ J) : 0 ≤ a.tmod J ∧ a.tmod J < J := by
  rw [Int.tmod_eq_emod_of_nonneg ha]
  exact ⟨Int.emod_nonneg _ (by omega), Int.emod_lt_of_pos _ (by omega)⟩
theorem md_in {x p : Int} (hp : 2 ≤ p) : 0 ≤ md p x ∧ md p x < p := by
  have := tmod_bound (x := x) hp
  exact tmod_nn (by omega) (by omega)
theorem md_small {x p : Int} (hx : 0 ≤ x ∧ x < p) : md p x = x := by
  unfold md
  rw [Int.tmod_eq_of_lt hx.1 hx.2, Int.tmod_eq_emod_of_nonneg (by omega), Int.add_emod_right, Int.emod_eq_of_lt hx.1 hx.2]
theorem s_l01Mod {p x : Int} {h : AH} {Q : Value → AH → Prop} (hp : 2 ≤ p ∧ p ≤ 5) (hQ : Q (I64 (md p x)) h) : WF S 146 [I64 p, I64 x] h Q := by
  refine WF_fn (fn := c146) rfl rfl ?_
  unfold c146
  have := tmod_bound (x := x) hp.1
  try simp (maxSteps := 3000000) (disch := first | omega | (simp only [len_new, len_put, len_kill]; omega)) only [↓xpre, xpost, ↓reduceIte, Nat.reduceEqDiff, Nat.reduceAdd, Nat.reduceSub, Nat.reduceLeDiff, Nat.zero_add, Nat.sub_zero, bin_rem, wrap64_in]
  exact hQ

/-- w is the least inverse. -/
def IsInv (p n w : Int) : Prop := 1 ≤ w ∧ w < p ∧ (w * n).tmod p = 1 ∧ ∀ k, 1 ≤ k → k < w → (k * n).tmod p ≠ 1
theorem inv_is {p n : Int} (hp : isP p = true) (hn : 1 ≤ n ∧ n < p) : ∃ w, IsInv p n w := by
  have hpp : p = 2 ∨ p = 3 ∨ p = 5 := by simpa [isP] using hp
  have one : IsInv p 1 1 → n = 1 → ∃ w, IsInv p n w := fun h e => ⟨1, by rw [e]; exact h⟩
  have hcase : (n = 1) ∨ (p = 3 ∧ n = 2) ∨ (p = 5 ∧ n = 2) ∨ (p = 5 ∧ n = 3) ∨ (p = 5 ∧ n = 4) := by omega
  rcases hcase with rfl | ⟨rfl, rfl⟩ | ⟨rfl, rfl⟩ | ⟨rfl, rfl⟩ | ⟨rfl, rfl⟩
  · refine ⟨1, by omega, by omega, ?_, fun k h1 h2 => by omega⟩
    exact Int.tmod_eq_of_lt (by omega) (by omega)
  · refine ⟨2, by omega, by omega, by decide, fun k h1 h2 => ?_⟩
    have : k = 1 := by omega
    subst this
    decide
  · refine ⟨3, by omega, by omega, by decide, fun k h1 h2 => ?_⟩
    have : k = 1 ∨ k = 2 := by omega
    rcases this with rfl | rfl <;> decide
  · refine ⟨2, by omega, by omega, by decide, fun k h1 h2 => ?_⟩
    have : k = 1 := by omega
    subst this
    decide
  · refine ⟨4, by omega, by omega, by decide, fun k h1 h2 => ?_⟩
    have : k = 1 ∨ k = 2 ∨ k = 3 := by omega
    rcases this with rfl | rfl | rfl <;> decide

theorem s_l01Inverse {p n w : Int} {h : AH} {Q : Value → AH → Prop} (hp : 2 ≤ p ∧ p ≤ 5) (hn : 1 ≤ n ∧ n < p) (hw : IsInv p n w) (hQ : Q (I64 w) h) : WF S 116 [I64 p, I64 n] h Q := by
  refine WF_fn (fn := c116) rfl rfl ?_
  unfold c116
  try simp (maxSteps := 3000000) (disch := first | omega | (simp only [len_new, len_put, len_kill]; omega)) only [↓xpre, xpost, ↓reduceIte, Nat.reduceEqDiff, Nat.reduceAdd, Nat.reduceSub, Nat.reduceLeDiff, Nat.zero_add, Nat.sub_zero]
  obtain ⟨w1, w2, w3, w4⟩ := hw
  refine WC_loop_inv (fun m f h1 => ∃ k : Int, m = (w - k).toNat ∧ (1 ≤ k ∧ k ≤ w) ∧ f 0 = I64 p ∧ f 1 = I64 n ∧ f 5 = I64 k ∧ h1 = h) ?_ (w - 1).toNat _ _ ⟨1, rfl, by omega, rfl, rfl, rfl, rfl⟩
  rintro m f h1 ⟨k, rfl, hk, f0, f1, f5, rfl⟩
  try simp (maxSteps := 3000000) (disch := first | omega | (simp only [len_new, len_put, len_kill]; omega)) only [↓xpre, xpost, ↓reduceIte, Nat.reduceEqDiff, Nat.reduceAdd, Nat.reduceSub, Nat.reduceLeDiff, Nat.zero_add, Nat.sub_zero, f0, f1, f5, IfW_dec]
  refine ⟨fun hlt => ?_, fun hge => by omega⟩
  refine s_l01Mod hp ?_
  rw [md_small (by omega)]
  have b := mul_in (a := k) (b := n) (A := 5) (B := 5) (by omega) (by omega)
  try simp (maxSteps := 3000000) (disch := first | omega | (simp only [len_new, len_put, len_kill]; omega)) only [↓xpre, xpost, ↓reduceIte, Nat.reduceEqDiff, Nat.reduceAdd, Nat.reduceSub, Nat.reduceLeDiff, Nat.zero_add, Nat.sub_zero, f0, f1, f5, wrap64_in, bin_rem, IfW_dec]
  refine ⟨fun he => ?_, fun he => ?_⟩
  · have : k = w := Decidable.byContradiction fun hne => w4 k hk.1 (by omega) he
    subst this
    exact hQ
  · have : k ≠ w := fun e => he (by rw [e]; exact w3)
    try simp (maxSteps := 3000000) (disch := first | omega | (simp only [len_new, len_put, len_kill]; omega)) only [↓xpre, xpost, ↓reduceIte, Nat.reduceEqDiff, Nat.reduceAdd, Nat.reduceSub, Nat.reduceLeDiff, Nat.zero_add, Nat.sub_zero, f0, f1, f5, wrap64_in]
    exact InvQ_go (w - (k + 1)).toNat (by omega) ⟨k + 1, rfl, by omega, f0, f1, rfl, rfl⟩

theorem i_inverse {p n w : Int} {h : AH} {Q : Value → AH → Prop} (hp : 2 ≤ p ∧ p ≤ 5) (hn : 1 ≤ n ∧ n < p) (hw : IsInv p n w) (hQ : Q (I64 w) h) : WF S 71 [I64 p, I64 n] h Q := by
  refine WF_fn (fn := c71) rfl rfl ?_
  unfold c71
  try simp (maxSteps := 3000000) (disch := first | omega | (simp only [len_new, len_put, len_kill]; omega)) only [↓xpre, xpost, ↓reduceIte, Nat.reduceEqDiff, Nat.reduceAdd, Nat.reduceSub, Nat.reduceLeDiff, Nat.zero_add, Nat.sub_zero]
  obtain ⟨w1, w2, w3, w4⟩ := hw
  refine WC_loop_inv (fun m f h1 => ∃ k : Int, m = (w - k).toNat ∧ (1 ≤ k ∧ k ≤ w) ∧ f 0 = I64 p ∧ f 1 = I64 n ∧ f 5 = I64 k ∧ h1 = h) ?_ (w - 1).toNat _ _ ⟨1, rfl, by omega, rfl, rfl, rfl, rfl⟩
  rintro m f h1 ⟨k, rfl, hk, f0, f1, f5, rfl⟩
  have b := mul_in (a := k) (b := n) (A := 5) (B := 5) (by omega) (by omega)
  try simp (maxSteps := 3000000) (disch := first | omega | (simp only [len_new, len_put, len_kill]; omega)) only [↓xpre, xpost, ↓reduceIte, Nat.reduceEqDiff, Nat.reduceAdd, Nat.reduceSub, Nat.reduceLeDiff, Nat.zero_add, Nat.sub_zero, f0, f1, f5, wrap64_in, bin_rem, IfW_dec]
  refine ⟨fun he => ?_, fun he => ?_⟩
  · have : k = w := Decidable.byContradiction fun hne => w4 k hk.1 (by omega) he
    subst this
    exact hQ
  · have : k ≠ w := fun e => he (by rw [e]; exact w3)
    try simp (maxSteps := 3000000) (disch := first | omega | (simp only [len_new, len_put, len_kill]; omega)) only [↓xpre, xpost, ↓reduceIte, Nat.reduceEqDiff, Nat.reduceAdd, Nat.reduceSub, Nat.reduceLeDiff, Nat.zero_add, Nat.sub_zero, f0, f1, f5, wrap64_in]
    exact InvQ_go (w - (k + 1)).toNat (by omega) ⟨k + 1, rfl, by omega, f0, f1, rfl, rfl⟩
end Go.Proofs.Ytilpnbejpndgpaa.X

/- Matrices modulo a prime: the test; copies of one list. -/
set_option linter.unusedVariables false
set_option linter.unusedSimpArgs false
set_option maxRecDepth 20000
set_option maxHeartbeats 4000000
namespace Go.Proofs.Ytilpnbejpndgpaa.X
open Go Go.RowKit

def isMat (p cols : Int) (rows : List (List Int)) : Bool := rows.all fun r => decide ((r.length : Int) = cols) && allIn p r
theorem isMat_iff {p cols : Int} {rows : List (List Int)} : isMat p cols rows = true ↔ ∀ j, j < rows.length → ((rows.getD j []).length : Int) = cols ∧ allIn p (rows.getD j []) = true := by
  simp only [isMat, List.all_eq_true, Bool.and_eq_true, decide_eq_true_eq]
  constructor
  · intro h j hj
    exact h _ (by simp [List.getD_eq_getElem?_getD, List.getElem?_eq_getElem hj])
  · intro h x hx
    obtain ⟨j, hj, rfl⟩ := List.mem_iff_getElem.1 hx
    have := h j hj
    simpa [List.getD_eq_getElem?_getD, List.getElem?_eq_getElem hj] using this
theorem isMat_no {p cols : Int} {rows : List (List Int)} {j : Nat} (hj : j < rows.length) (h : ¬ (((rows.getD j []).length : Int) = cols ∧ allIn p (rows.getD j []) = true)) : isMat p cols rows = false := by
  cases ha : isMat p cols rows with
  | false => rfl
  | true => exact (h (isMat_iff.1 ha j hj)).elim

theorem i_isMatrix {v : Value} {rows : List (List Int)} {p n cols : Int} {h : AH} {Q : Value → AH → Prop} (hv : Rows h v rows) (hl : (rows.length : Int) ≤ 1048576) (hl' : ∀ i, i < rows.length → ((rows.getD i []).length : Int) ≤ 1048576)
    (hQ : Q (.bool (isMat p cols rows && decide ((rows.length : Int) = n))) h) : WF S 128 [I64 p, I64 n, I64 cols, v] h Q := by
  refine WF_fn (fn := c128) rfl rfl ?_
  unfold c128
  obtain ⟨cs, hv, hcl, hr⟩ := hv
  try simp (maxSteps := 3000000) (disch := first | omega | (simp only [len_new, len_put, len_kill]; omega)) only [↓xpre, xpost, ↓reduceIte, Nat.reduceEqDiff, Nat.reduceAdd, Nat.reduceSub, Nat.reduceLeDiff, Nat.zero_add, Nat.sub_zero, hv.len, hcl]
  refine WC_loop_inv (fun m f h1 => ∃ i : Nat, m = rows.length - i ∧ i ≤ rows.length ∧ f 0 = I64 p ∧ f 1 = I64 n ∧ f 2 = I64 cols ∧ f 3 = v ∧ f 11 = v ∧ f 12 = I64 rows.length ∧ f 13 = I64 i ∧ h1 = h ∧
    ∀ j, j < i → ((rows.getD j []).length : Int) = cols ∧ allIn p (rows.getD j []) = true) ?_ rows.length _ _ ⟨0, rfl, Nat.zero_le _, rfl, rfl, rfl, rfl, rfl, rfl, rfl, rfl, by omega⟩
  rintro m f h1 ⟨i, rfl, hi, f0, f1, f2, f3, f11, f12, f13, rfl, hj⟩
  try simp (maxSteps := 3000000) (disch := first | omega | (simp only [len_new, len_put, len_kill]; omega)) only [↓xpre, xpost, ↓reduceIte, Nat.reduceEqDiff, Nat.reduceAdd, Nat.reduceSub, Nat.reduceLeDiff, Nat.zero_add, Nat.sub_zero, f0, f1, f2, f3, f11, f12, f13, IfW_dec]
  refine ⟨fun hlt => ?_, fun hge => ?_⟩
  · have hi' : i < rows.length := by omega
    have hix := hv.ix (k := .i64) (j := i) (by omega) (by omega)
    have hrd := hv.rd (j := i) (by omega) (by omega)
    have hri := hr i hi'
    try simp (maxSteps := 3000000) (disch := first | omega | (simp only [len_new, len_put, len_kill]; omega)) only [↓xpre, xpost, ↓reduceIte, Nat.reduceEqDiff, Nat.reduceAdd, Nat.reduceSub, Nat.reduceLeDiff, Nat.zero_add, Nat.sub_zero, f0, f1, f2, f3, f11, f12, f13, hix, hrd, Int.toNat_natCast, hri.len]
    by_cases h1 : ((rows.getD i []).length : Int) = cols
    · try simp (maxSteps := 3000000) (disch := first | omega | (simp only [len_new, len_put, len_kill]; omega)) only [↓xpre, xpost, ↓reduceIte, Nat.reduceEqDiff, Nat.reduceAdd, Nat.reduceSub, Nat.reduceLeDiff, Nat.zero_add, Nat.sub_zero, decide_eq_false (show ¬ (((rows.getD i []).length : Int) ≠ cols) from fun h => h h1), f0, f1, f2, f3, f11, f12, f13]
      refine i_areNumbers hri (hl' i hi') ?_
      cases h2 : allIn p (rows.getD i []) with
      | true =>
        try simp (maxSteps := 3000000) (disch := first | omega | (simp only [len_new, len_put, len_kill]; omega)) only [↓xpre, xpost, ↓reduceIte, Nat.reduceEqDiff, Nat.reduceAdd, Nat.reduceSub, Nat.reduceLeDiff, Nat.zero_add, Nat.sub_zero, f0, f1, f2, f3, f11, f12, f13, wrap64_in]
        refine InvQ_go (rows.length - (i + 1)) (by omega) ⟨i + 1, rfl, by omega, f0, f1, f2, f3, f11, f12, rfl, rfl, fun j hj' => ?_⟩
        rcases Nat.lt_succ_iff_lt_or_eq.1 hj' with hj' | rfl
        · exact hj j hj'
        · exact ⟨h1, h2⟩
      | false =>
        try simp (maxSteps := 3000000) (disch := first | omega | (simp only [len_new, len_put, len_kill]; omega)) only [↓xpre, xpost, ↓reduceIte, Nat.reduceEqDiff, Nat.reduceAdd, Nat.reduceSub, Nat.reduceLeDiff, Nat.zero_add, Nat.sub_zero]
        rw [isMat_no hi' (by rw [h2]; simp)] at hQ
        exact hQ
    · try simp (maxSteps := 3000000) (disch := first | omega | (simp only [len_new, len_put, len_kill]; omega)) only [↓xpre, xpost, ↓reduceIte, Nat.reduceEqDiff, Nat.reduceAdd, Nat.reduceSub, Nat.reduceLeDiff, Nat.zero_add, Nat.sub_zero, decide_eq_true (show ((rows.getD i []).length : Int) ≠ cols from h1)]
      rw [isMat_no hi' (fun h => h1 h.1)] at hQ
      exact hQ
  · try simp (maxSteps := 3000000) (disch := first | omega | (simp only [len_new, len_put, len_kill]; omega)) only [↓xpre, xpost, ↓reduceIte, Nat.reduceEqDiff, Nat.reduceAdd, Nat.reduceSub, Nat.reduceLeDiff, Nat.zero_add, Nat.sub_zero, f0, f1, f2, f3, f11, f12, f13, hv.len, hcl]
    rw [isMat_iff.2 (fun j hj' => hj j (by omega)), Bool.true_and] at hQ
    exact hQ
end Go.Proofs.Ytilpnbejpndgpaa.X

/- Copies by append onto an empty slice: slices.Clone. -/
set_option linter.unusedVariables false
set_option linter.unusedSimpArgs false
set_option maxRecDepth 20000
set_option maxHeartbeats 4000000
namespace Go.Proofs.Ytilpnbejpndgpaa.X
open Go Go.RowKit

def isnilV (neg : Bool) (x : Value) : Option Value := match x with
  | .slice none 0 0 => some (.bool (!neg))
  | .slice (some _) _ _ => some (.bool neg)
  | _ => none
theorem isnilV_nil {neg : Bool} : isnilV neg (.slice none 0 0) = some (.bool (!neg)) := rfl
theorem isnilV_some {neg : Bool} {a : Addr} {n c : Nat} : isnilV neg (.slice (some a) n c) = some (.bool neg) := rfl
theorem WX_isnil {S : XS} {f : Fr} {h : AH} {Q : Value → AH → Prop} {neg : Bool} {x : Operand} : WX S (.isnil neg x) f h Q = WV (isnilV neg (ev f x)) fun v => Q v h := by
  rw [WX_op (fun _ => rfl)]
  have : xop (.isnil neg x) f h = (isnilV neg (ev f x)).map (·, h) := by
    simp only [xop, isnilV]
    split <;> simp_all
  rw [this]
  cases isnilV neg (ev f x) <;> simp [OQ_some, WV_some, OQ_none, WV_none]

theorem Ints.vals {h : AH} {v : Value} {ns : List Int} (hv : Ints h v ns) : Vals h v (ns.map (Value.int .i64)) := by
  rcases hv with ⟨rfl, t, ht, rfl⟩ | ⟨b, off, blk, rfl, h2, h3, h4⟩
  · exact .inl ⟨rfl, t, ht, rfl⟩
  · refine .inr ⟨b, off, blk, by simp, h2, by simpa using h3, fun i hi => ?_⟩
    have hi' : i < ns.length := by simpa using hi
    rw [h4 i hi']
    simp [List.getD_eq_getElem?_getD, List.getElem?_map, List.getElem?_eq_getElem hi']
theorem Vals.rdn {h : AH} {v : Value} {cs : List Value} (hv : Vals h v cs) (h0 : 0 < cs.length) : ∃ n off, v = .slice (some ⟨n, off, none⟩) cs.length 1 ∧ h.rdn n off cs.length = some cs := by
  rcases hv with ⟨rfl, t, _, rfl⟩ | ⟨b, off, blk, rfl, h2, h3, h4⟩
  · simp at h0
  · refine ⟨b, off, rfl, ?_⟩
    rw [rdn_of h2, if_pos h3]
    congr 1
    refine List.ext_getElem? fun j => ?_
    by_cases hj : j < cs.length
    · rw [List.getElem?_take, if_pos hj, List.getElem?_drop, h4 j hj, List.getD_eq_getElem?_getD, List.getElem?_eq_getElem hj]
      rfl
    · rw [List.getElem?_eq_none (by simp; omega), List.getElem?_eq_none (by omega)]
theorem app_zero {e : TypeId} {bytes : Nat} {h : AH} {k n' off m : Nat} {news : List Value} {full : Bool} (hk : h.get k = some ⟨[], e, false, full⟩) (hn : h.rdn n' off m = some news) (hm : 0 < m)
    (hs : (m : Int) * bytes ≤ 140737488355328 ∧ (m : Int) ≤ 9223372036854775807) :
    appV e 1 bytes (.slice (some ⟨k, 0, none⟩) 0 1) (.slice (some ⟨n', off, none⟩) m 1) h = some (.slice (some ⟨h.length, 0, none⟩) m 1, (h.kill k).new ⟨news, e, false, false⟩) := by
  simp only [appV, xop, ev, if_true, Nat.mul_one, hn, hk]
  rw [if_pos (by simpa using hs), if_neg (by omega)]
  simp

theorem OwnR.of {h0 h : AH} {v : Value} {ns : List Int} {n : Nat} {e : TypeId} {full : Bool} (h1 : h0.length ≤ n) (e1 : v = .slice (some ⟨n, 0, none⟩) ns.length 1) (hb : h.get n = some ⟨ns.map (Value.int .i64), e, false, full⟩) : OwnR h0 h v ns := .inr ⟨n, e, full, h1, e1, hb⟩
theorem i_CloneInts {v : Value} {ns : List Int} {h : AH} {Q : Value → AH → Prop} (hv : Ints h v ns) (h0 : 0 < ns.length) (hl : (ns.length : Int) ≤ 1048576)
    (hQ : ∀ v' h', h <+: h' → OwnR h h' v' ns → Q v' h') : WF S 126 [v] h Q := by
  refine WF_fn (fn := c126) rfl rfl ?_
  unfold c126
  obtain ⟨n, off, rfl, hr⟩ := hv.vals.rdn (by simpa using h0)
  try simp (maxSteps := 3000000) (disch := first | omega | (simp only [len_new, len_put, len_kill]; omega)) only [↓xpre, xpost, ↓reduceIte, Nat.reduceEqDiff, Nat.reduceAdd, Nat.reduceSub, Nat.reduceLeDiff, Nat.zero_add, Nat.sub_zero, ↓WX_isnil, isnilV_some, fillL, zrep]
  rw [List.length_map] at hr ⊢
  rw [app_zero get_new_same (show AH.rdn (AH.new h _) n off ns.length = _ by rw [rdn_eq] at hr ⊢; obtain ⟨b, hb, hc⟩ := Option.bind_eq_some_iff.1 hr; rw [get_new_any hb]; exact hc) h0 (by omega)]
  try simp (maxSteps := 3000000) (disch := first | omega | (simp only [len_new, len_put, len_kill]; omega)) only [↓xpre, xpost, ↓reduceIte, Nat.reduceEqDiff, Nat.reduceAdd, Nat.reduceSub, Nat.reduceLeDiff, Nat.zero_add, Nat.sub_zero]
  exact hQ _ _ (pre_new (pre_kill (pre_new (List.prefix_refl _)) (Nat.le_refl _))) (OwnR.of (by rw [len_new]; omega) rfl (get_new_eq (by rw [len_kill])))
end Go.Proofs.Ytilpnbejpndgpaa.X

/- Elimination, plainly. -/
set_option linter.unusedVariables false
set_option linter.unusedSimpArgs false
set_option maxRecDepth 20000
set_option maxHeartbeats 4000000
namespace Go.Proofs.Ytilpnbejpndgpaa.X
open Go Go.RowKit

theorem Ints.put_ne {h : AH} {v : Value} {ns : List Int} {n : Nat} {b : Blk} (hv : Ints h v ns) (hn : blkOf v ≠ some n) : Ints (h.put n b) v ns := by
  rcases hv with hv | ⟨m, off, blk, rfl, h2, h3, h4⟩
  · exact .inl hv
  · exact .inr ⟨m, off, blk, rfl, by rw [get_put_ne (fun e => hn (by rw [e]; rfl))]; exact h2, h3, h4⟩
theorem Ints.kill_ne {h : AH} {v : Value} {ns : List Int} {n : Nat} (hv : Ints h v ns) (hn : blkOf v ≠ some n) : Ints (h.kill n) v ns := by
  rcases hv with hv | ⟨m, off, blk, rfl, h2, h3, h4⟩
  · exact .inl hv
  · exact .inr ⟨m, off, blk, rfl, by rw [get_kill_ne (fun e => hn (by rw [e]; rfl))]; exact h2, h3, h4⟩
theorem Ints.lt {h : AH} {v : Value} {ns : List Int} (hv : Ints h v ns) : ∀ n, blkOf v = some n → n < h.length := by
  intro n hn
  rcases hv with ⟨_, t, _, rfl⟩ | ⟨m, off, blk, rfl, h2, h3, h4⟩
  · cases hn
  · cases hn
    exact get_lt h2

/-- A number of a table. -/
def tb (T : List (List Int)) (i c : Nat) : Int := (T.getD i []).getD c 0
open Classical in
noncomputable def invN (p n : Int) : Int := if h : ∃ w, IsInv p n w then Classical.choose h else 0
theorem invN_is {p n : Int} (hp : isP p = true) (hn : 1 ≤ n ∧ n < p) : IsInv p n (invN p n) := by
  have h := inv_is hp hn
  unfold invN
  rw [dif_pos h]
  exact Classical.choose_spec h
/-- The first row from r on whose number in column c is other than 0; else the number of rows. -/
def pivot (T : List (List Int)) (c : Nat) : Nat → Nat → Nat
  | 0, r => r
  | m + 1, r => if tb T r c = 0 then pivot T c m (r + 1) else r
noncomputable def rowOp (p : Int) (own row : List Int) (c : Nat) : List Int :=
  gen row.length fun l => md p (row.getD l 0 - (row.getD c 0 * invN p (own.getD c 0)).tmod p * own.getD l 0)
def swapped (T : List (List Int)) (r i : Nat) : List (List Int) := (T.set i (T.getD r [])).set r (T.getD i [])
/-- The rows behind r, changed as far as k. -/
noncomputable def swept (p : Int) (T : List (List Int)) (r c k : Nat) : List (List Int) :=
  (List.range T.length).map fun j => if r < j ∧ j < k then rowOp p (T.getD r []) (T.getD j []) c else T.getD j []
noncomputable def colStep (p : Int) (T : List (List Int)) (r c : Nat) : List (List Int) × Nat :=
  if pivot T c (T.length - r) r = T.length then (T, r) else (swept p (swapped T r (pivot T c (T.length - r) r)) r c T.length, r + 1)
noncomputable def elim : Int → List (List Int) → Nat → Nat → Nat → Nat
  | p, T, r, c, 0 => r
  | p, T, r, c, m + 1 => elim p (colStep p T r c).1 (colStep p T r c).2 (c + 1) m
noncomputable def rankN (p : Int) (T : List (List Int)) : Nat := elim p T 0 0 (T.getD 0 []).length

/-- A table of rows of one width, of numbers modulo p. -/
def Good (p : Int) (T : List (List Int)) (w : Nat) : Prop := ∀ i, i < T.length → (T.getD i []).length = w ∧ ∀ l, l < w → 0 ≤ tb T i l ∧ tb T i l < p

theorem pivot_le {T : List (List Int)} {c : Nat} : ∀ {m r : Nat}, r ≤ pivot T c m r ∧ pivot T c m r ≤ r + m
  | 0, r => by simp [pivot]
  | m + 1, r => by
    unfold pivot
    split
    · have := pivot_le (T := T) (c := c) (m := m) (r := r + 1)
      omega
    · omega
theorem pivot_ne {T : List (List Int)} {c : Nat} : ∀ {m r : Nat}, pivot T c m r < r + m → tb T (pivot T c m r) c ≠ 0
  | 0, r, h => by simp [pivot] at h
  | m + 1, r, h => by
    unfold pivot at h ⊢
    split
    · rename_i h0
      rw [if_pos h0] at h
      exact pivot_ne (by omega)
    · rename_i h0
      exact h0
theorem swept_len {p : Int} {T : List (List Int)} {r c k : Nat} : (swept p T r c k).length = T.length := by simp [swept]
theorem swept_get {p : Int} {T : List (List Int)} {r c k j : Nat} (hj : j < T.length) : (swept p T r c k).getD j [] = if r < j ∧ j < k then rowOp p (T.getD r []) (T.getD j []) c else T.getD j [] := by
  simp [swept, List.getD_eq_getElem?_getD, List.getElem?_map, List.getElem?_range hj]
theorem getD_ext {T T' : List (List Int)} (hl : T.length = T'.length) (h : ∀ j, j < T.length → T.getD j [] = T'.getD j []) : T = T' := by
  refine List.ext_getElem? fun j => ?_
  by_cases h1 : j < T.length
  · have := h j h1
    rw [List.getElem?_eq_getElem h1, List.getElem?_eq_getElem (by omega)]
    simpa [List.getD_eq_getElem?_getD, List.getElem?_eq_getElem h1, List.getElem?_eq_getElem (show j < T'.length by omega)] using this
  · rw [List.getElem?_eq_none (by omega), List.getElem?_eq_none (by omega)]
theorem swept_start {p : Int} {T : List (List Int)} {r c : Nat} : swept p T r c (r + 1) = T := by
  refine getD_ext swept_len fun j hj => ?_
  rw [swept_len] at hj
  rw [swept_get hj, if_neg (by omega)]
theorem swept_next {p : Int} {T : List (List Int)} {r c k : Nat} (hr : r < k) (hk : k < T.length) : swept p T r c (k + 1) = (swept p T r c k).set k (rowOp p (T.getD r []) (T.getD k []) c) := by
  refine getD_ext (by rw [List.length_set, swept_len, swept_len]) fun j hj => ?_
  rw [swept_len] at hj
  rw [set_getD' (by rw [swept_len]; omega), swept_get hj, swept_get hj]
  by_cases h : j = k
  · subst h
    rw [if_pos (by omega), if_pos rfl]
  · rw [if_neg h]
    by_cases h2 : r < j ∧ j < k
    · rw [if_pos h2, if_pos (by omega)]
    · rw [if_neg h2, if_neg (by omega)]
theorem rowOp_zero {p : Int} {own row : List Int} {c : Nat} (hs : (row.getD c 0 * invN p (own.getD c 0)).tmod p = 0) (hr : ∀ l, l < row.length → 0 ≤ row.getD l 0 ∧ row.getD l 0 < p) : rowOp p own row c = row := by
  unfold rowOp
  symm
  refine gen_ext rfl fun l hl => ?_
  rw [hs, Int.zero_mul, Int.sub_zero, md_small (hr l hl)]
theorem swapped_len {T : List (List Int)} {r i : Nat} : (swapped T r i).length = T.length := by simp [swapped]
theorem swapped_get {T : List (List Int)} {r i j : Nat} (hr : r < T.length) (hi : i < T.length) : (swapped T r i).getD j [] = if j = r then T.getD i [] else if j = i then T.getD r [] else T.getD j [] := by
  unfold swapped
  rw [set_getD' (by simpa using hr)]
  split
  · rfl
  · rw [set_getD' hi]
theorem Good.swapped {p : Int} {T : List (List Int)} {w r i : Nat} (g : Good p T w) (hr : r < T.length) (hi : i < T.length) : Good p (swapped T r i) w := by
  intro j hj
  rw [swapped_len] at hj
  unfold tb
  rw [swapped_get hr hi]
  split
  · exact g i hi
  · split
    · exact g r hr
    · exact g j hj
theorem Good.swept {p : Int} {T : List (List Int)} {w r c k : Nat} (g : Good p T w) (hp : 2 ≤ p) : Good p (swept p T r c k) w := by
  intro j hj
  rw [swept_len] at hj
  unfold tb
  rw [swept_get hj]
  split
  · unfold rowOp
    rw [gen_len, (g j hj).1]
    refine ⟨rfl, fun l hl => ?_⟩
    rw [gen_get hl]
    exact md_in hp
  · exact g j hj
theorem Good.colStep {p : Int} {T : List (List Int)} {w r c : Nat} (g : Good p T w) (hp : 2 ≤ p) (hr : r ≤ T.length) : Good p (colStep p T r c).1 w ∧ (colStep p T r c).1.length = T.length ∧ (colStep p T r c).2 ≤ T.length := by
  unfold X.colStep
  split
  · exact ⟨g, rfl, hr⟩
  · rename_i hne
    have h1 := pivot_le (T := T) (c := c) (m := T.length - r) (r := r)
    exact ⟨(g.swapped (by omega) (by omega)).swept hp, by rw [swept_len, swapped_len], by simp only; omega⟩
/-- No row is left: nothing changes any more. -/
theorem elim_full {p : Int} : ∀ {m : Nat} {T : List (List Int)} {r c : Nat}, r = T.length → elim p T r c m = r
  | 0, T, r, c, h => rfl
  | m + 1, T, r, c, h => by
    unfold elim
    have : colStep p T r c = (T, r) := by
      unfold colStep
      rw [if_pos (by subst h; simp [pivot])]
    rw [this]
    exact elim_full h
end Go.Proofs.Ytilpnbejpndgpaa.X
