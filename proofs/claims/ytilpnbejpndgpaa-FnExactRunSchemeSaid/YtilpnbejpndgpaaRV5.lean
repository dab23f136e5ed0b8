/- Texts of one claim, put together by merge.py: XF1, XF2, XF3, XF4, XF5, XF6, XF7, XF8, XF9, XF16, XF17, XF18, XF19, XF20, XF21, XF22, XF23, XF24, XF25, XF26, XF27, XF28, XF29, XF30, XG1, XF31, XE1. -/
import Derived.Test.YtilpnbejpndgpaaRV3
import Derived.Test.YtilpnbejpndgpaaRV4
/- The functions on whole numbers and their lists. -/
set_option linter.unusedVariables false
set_option linter.unusedSimpArgs false
namespace Go.Proofs.Ytilpnbejpndgpaa.X
open Go Go.RowKit
def S : XS := ⟨fun _ => none, T⟩
theorem esound : ESound Try.prog S.E := fun g p hp => by cases hp

theorem s_l01In {a b c : Int} {h : AH} {Q : Value → AH → Prop} (hQ : Q (.bool (decide (b ≤ a ∧ a ≤ c))) h) : WF S 115 [I64 a, I64 b, I64 c] h Q := by
  refine WF_fn (fn := c115) rfl rfl ?_
  unfold c115
  try simp (maxSteps := 3000000) (disch := first | omega | (simp only [len_new, len_put, len_kill]; omega)) only [↓xpre, xpost, ↓reduceIte, Nat.reduceEqDiff, Nat.reduceAdd, Nat.reduceSub, Nat.reduceLeDiff, Nat.zero_add, Nat.sub_zero]
  by_cases h1 : b ≤ a
  · try simp (maxSteps := 3000000) (disch := first | omega | (simp only [len_new, len_put, len_kill]; omega)) only [↓xpre, xpost, ↓reduceIte, Nat.reduceEqDiff, Nat.reduceAdd, Nat.reduceSub, Nat.reduceLeDiff, Nat.zero_add, Nat.sub_zero, h1]
    simpa [h1] using hQ
  · try simp (maxSteps := 3000000) (disch := first | omega | (simp only [len_new, len_put, len_kill]; omega)) only [↓xpre, xpost, ↓reduceIte, Nat.reduceEqDiff, Nat.reduceAdd, Nat.reduceSub, Nat.reduceLeDiff, Nat.zero_add, Nat.sub_zero, h1]
    simpa [h1] using hQ

def isP (p : Int) : Bool := decide (p = 2 ∨ p = 3 ∨ p = 5)
theorem s_l01Prime {p : Int} {h : AH} {Q : Value → AH → Prop} (hQ : Q (.bool (isP p)) h) : WF S 114 [I64 p] h Q := by
  refine WF_fn (fn := c114) rfl rfl ?_
  unfold c114
  try simp (maxSteps := 3000000) (disch := first | omega | (simp only [len_new, len_put, len_kill]; omega)) only [↓xpre, xpost, ↓reduceIte, Nat.reduceEqDiff, Nat.reduceAdd, Nat.reduceSub, Nat.reduceLeDiff, Nat.zero_add, Nat.sub_zero]
  by_cases h1 : p = 2
  · try simp (maxSteps := 3000000) (disch := first | omega | (simp only [len_new, len_put, len_kill]; omega)) only [↓xpre, xpost, ↓reduceIte, Nat.reduceEqDiff, Nat.reduceAdd, Nat.reduceSub, Nat.reduceLeDiff, Nat.zero_add, Nat.sub_zero, h1]
    simpa [h1, isP] using hQ
  · try simp (maxSteps := 3000000) (disch := first | omega | (simp only [len_new, len_put, len_kill]; omega)) only [↓xpre, xpost, ↓reduceIte, Nat.reduceEqDiff, Nat.reduceAdd, Nat.reduceSub, Nat.reduceLeDiff, Nat.zero_add, Nat.sub_zero, h1]
    by_cases h2 : p = 3
    · try simp (maxSteps := 3000000) (disch := first | omega | (simp only [len_new, len_put, len_kill]; omega)) only [↓xpre, xpost, ↓reduceIte, Nat.reduceEqDiff, Nat.reduceAdd, Nat.reduceSub, Nat.reduceLeDiff, Nat.zero_add, Nat.sub_zero, h2]
      simpa [h2, isP] using hQ
    · try simp (maxSteps := 3000000) (disch := first | omega | (simp only [len_new, len_put, len_kill]; omega)) only [↓xpre, xpost, ↓reduceIte, Nat.reduceEqDiff, Nat.reduceAdd, Nat.reduceSub, Nat.reduceLeDiff, Nat.zero_add, Nat.sub_zero, h2]
      simpa [h1, h2, isP] using hQ
theorem i_isPrime {p : Int} {h : AH} {Q : Value → AH → Prop} (hQ : Q (.bool (isP p)) h) : WF S 118 [I64 p] h Q := by
  refine WF_fn (fn := c118) rfl rfl ?_
  unfold c118
  try simp (maxSteps := 3000000) (disch := first | omega | (simp only [len_new, len_put, len_kill]; omega)) only [↓xpre, xpost, ↓reduceIte, Nat.reduceEqDiff, Nat.reduceAdd, Nat.reduceSub, Nat.reduceLeDiff, Nat.zero_add, Nat.sub_zero]
  by_cases h1 : p = 2
  · try simp (maxSteps := 3000000) (disch := first | omega | (simp only [len_new, len_put, len_kill]; omega)) only [↓xpre, xpost, ↓reduceIte, Nat.reduceEqDiff, Nat.reduceAdd, Nat.reduceSub, Nat.reduceLeDiff, Nat.zero_add, Nat.sub_zero, h1]
    simpa [h1, isP] using hQ
  · try simp (maxSteps := 3000000) (disch := first | omega | (simp only [len_new, len_put, len_kill]; omega)) only [↓xpre, xpost, ↓reduceIte, Nat.reduceEqDiff, Nat.reduceAdd, Nat.reduceSub, Nat.reduceLeDiff, Nat.zero_add, Nat.sub_zero, h1]
    by_cases h2 : p = 3
    · try simp (maxSteps := 3000000) (disch := first | omega | (simp only [len_new, len_put, len_kill]; omega)) only [↓xpre, xpost, ↓reduceIte, Nat.reduceEqDiff, Nat.reduceAdd, Nat.reduceSub, Nat.reduceLeDiff, Nat.zero_add, Nat.sub_zero, h2]
      simpa [h2, isP] using hQ
    · try simp (maxSteps := 3000000) (disch := first | omega | (simp only [len_new, len_put, len_kill]; omega)) only [↓xpre, xpost, ↓reduceIte, Nat.reduceEqDiff, Nat.reduceAdd, Nat.reduceSub, Nat.reduceLeDiff, Nat.zero_add, Nat.sub_zero, h2]
      simpa [h1, h2, isP] using hQ

theorem l_szInt64S {v : Value} {ns : List Int} {n : Int} {h : AH} {Q : Value → AH → Prop} (hv : Ints h v ns) (h0 : 0 ≤ n ∧ n ≤ 1048576) (hl : (ns.length : Int) ≤ 9223372036854775807)
    (hQ : ∀ m : Int, m ≤ n → (0 ≤ m → (ns.length : Int) ≤ n ∧ m = n - ns.length) → Q (I64 m) h) : WF S 64 [v, I64 n] h Q := by
  refine WF_fn (fn := c64) rfl rfl ?_
  unfold c64
  try simp (maxSteps := 3000000) (disch := first | omega | (simp only [len_new, len_put, len_kill]; omega)) only [↓xpre, xpost, ↓reduceIte, Nat.reduceEqDiff, Nat.reduceAdd, Nat.reduceSub, Nat.reduceLeDiff, Nat.zero_add, Nat.sub_zero, hv.len, wrap64_in]
  by_cases h1 : n - ↑ns.length < 0
  · try simp (maxSteps := 3000000) (disch := first | omega | (simp only [len_new, len_put, len_kill]; omega)) only [↓xpre, xpost, ↓reduceIte, Nat.reduceEqDiff, Nat.reduceAdd, Nat.reduceSub, Nat.reduceLeDiff, Nat.zero_add, Nat.sub_zero, h1]
    exact hQ _ (by omega) (by omega)
  · try simp (maxSteps := 3000000) (disch := first | omega | (simp only [len_new, len_put, len_kill]; omega)) only [↓xpre, xpost, ↓reduceIte, Nat.reduceEqDiff, Nat.reduceAdd, Nat.reduceSub, Nat.reduceLeDiff, Nat.zero_add, Nat.sub_zero, h1]
    exact hQ _ (by omega) (by omega)
end Go.Proofs.Ytilpnbejpndgpaa.X

/- Lists of whole numbers: copies, comparisons, bounds. -/
set_option linter.unusedVariables false
set_option linter.unusedSimpArgs false
namespace Go.Proofs.Ytilpnbejpndgpaa.X
open Go Go.RowKit

def fillN (ns : List Int) (i : Nat) : List Int := ns.take i ++ List.replicate (ns.length - i) 0
theorem fillN_len {ns : List Int} {i : Nat} (hi : i ≤ ns.length) : (fillN ns i).length = ns.length := by simp [fillN]; omega
theorem fillN_zero {ns : List Int} : fillN ns 0 = List.replicate ns.length 0 := by simp [fillN]
theorem fillN_all {ns : List Int} : fillN ns ns.length = ns := by simp [fillN]
theorem fillN_set {ns : List Int} {i : Nat} (hi : i < ns.length) : (fillN ns i).set i (ns.getD i 0) = fillN ns (i + 1) := by
  unfold fillN
  rw [List.set_append_right _ _ (by rw [List.length_take]; omega)]
  have e1 : ns.length - i = (ns.length - (i + 1)) + 1 := by omega
  have e2 : i - (ns.take i).length = 0 := by rw [List.length_take]; exact Nat.sub_eq_zero_of_le (by omega)
  rw [e1, e2, List.replicate_succ, List.set_cons_zero, List.take_succ_eq_append_getElem hi]
  simp only [List.getD_eq_getElem?_getD, List.getElem?_eq_getElem hi, Option.getD_some, List.append_assoc, List.singleton_append]
theorem splice_map {l : List Int} {j : Nat} {x : Int} (hj : j < l.length) : splice (l.map (Value.int .i64)) j [I64 x] = (l.set j x).map (Value.int .i64) := by
  unfold splice
  rw [List.set_eq_take_append_cons_drop, if_pos hj]
  simp [List.map_take, List.map_drop]

def OwnB (h : AH) (n : Nat) (c : List Value) (full : Bool) : Prop := ∃ e, h.get n = some ⟨c, e, false, full⟩
theorem ownB_new {h : AH} {c : List Value} {e : TypeId} {full : Bool} : OwnB (h.new ⟨c, e, false, full⟩) h.length c full := ⟨e, get_new_same⟩
/-- A list of one's own: a block made behind a heap. -/
def OwnI (h0 h : AH) (v : Value) (ns : List Int) : Prop := ∃ n e, h0.length ≤ n ∧ v = .slice (some ⟨n, 0, none⟩) ns.length 1 ∧ h.get n = some ⟨ns.map (Value.int .i64), e, false, true⟩
theorem OwnI.ints {h0 h : AH} {v : Value} {ns : List Int} (o : OwnI h0 h v ns) : Ints h v ns := by
  obtain ⟨n, e, h1, rfl, h2⟩ := o
  exact Ints.own h2 rfl
theorem OwnI.pre {h0 h h' : AH} {v : Value} {ns : List Int} (o : OwnI h0 h v ns) (p : h <+: h') : OwnI h0 h' v ns := by
  obtain ⟨n, e, h1, rfl, h2⟩ := o
  exact ⟨n, e, h1, rfl, pre_get p h2⟩

theorem l_toInt64S {v : Value} {ns : List Int} {h : AH} {Q : Value → AH → Prop} (hv : Ints h v ns) (hl : (ns.length : Int) ≤ 1048576)
    (hQ : ∀ v' h', h <+: h' → OwnI h h' v' ns → Q v' h') : WF S 36 [v] h Q := by
  refine WF_fn (fn := c36) rfl rfl ?_
  unfold c36
  try simp (maxSteps := 3000000) (disch := first | omega | (simp only [len_new, len_put, len_kill]; omega)) only [↓xpre, xpost, ↓reduceIte, Nat.reduceEqDiff, Nat.reduceAdd, Nat.reduceSub, Nat.reduceLeDiff, Nat.zero_add, Nat.sub_zero, hv.len]
  refine ⟨by omega, ?_⟩
  refine WC_loop_inv (fun n f h1 => ∃ i : Nat, n = ns.length - i ∧ i ≤ ns.length ∧ f 0 = v ∧ f 3 = .slice (some ⟨h.length, 0, none⟩) ns.length 1 ∧ f 4 = I64 i ∧
    OwnB h1 h.length ((fillN ns i).map (Value.int .i64)) true ∧ h <+: h1) ?_ ns.length _ _ ⟨0, rfl, Nat.zero_le _, rfl, ?_, rfl, ?_, pre_new (List.prefix_refl _)⟩
  · rintro n f h1 ⟨i, rfl, hi, f0, f3, f4, ⟨e, hb⟩, hp⟩
    have hv1 := hv.pre hp
    try simp (maxSteps := 3000000) (disch := first | omega | (simp only [len_new, len_put, len_kill]; omega)) only [↓xpre, xpost, ↓reduceIte, Nat.reduceEqDiff, Nat.reduceAdd, Nat.reduceSub, Nat.reduceLeDiff, Nat.zero_add, Nat.sub_zero, f0, f3, f4, hv1.len, IfW_dec]
    refine ⟨fun hlt => ?_, fun hge => ?_⟩
    · try simp (maxSteps := 3000000) (disch := first | omega | (simp only [len_new, len_put, len_kill]; omega)) only [↓xpre, xpost, ↓reduceIte, Nat.reduceEqDiff, Nat.reduceAdd, Nat.reduceSub, Nat.reduceLeDiff, Nat.zero_add, Nat.sub_zero, f0, f3, f4, hv1.ix, hv1.rd, ixsV_some]
      refine ⟨⟨by omega, hlt⟩, ?_⟩
      rw [wr_eq hb rfl (by simp [fillN_len hi]; omega)]
      try simp (maxSteps := 3000000) (disch := first | omega | (simp only [len_new, len_put, len_kill]; omega)) only [↓xpre, xpost, ↓reduceIte, Nat.reduceEqDiff, Nat.reduceAdd, Nat.reduceSub, Nat.reduceLeDiff, Nat.zero_add, Nat.sub_zero, f0, f3, f4, wrap64_in]
      refine InvQ_go (ns.length - (i + 1)) (by omega) ⟨i + 1, rfl, by omega, f0, f3, rfl, ⟨e, ?_⟩, pre_put hp (Nat.le_refl _)⟩
      rw [get_put_same (get_lt hb)]
      have e1 : ((i : Int).toNat * 1) = i := by omega
      simp only [e1, Nat.zero_add]
      rw [splice_map (by rw [fillN_len hi]; omega)]
      have := fillN_set (ns := ns) (i := i) (by omega)
      simp only [nth, Int.toNat_natCast]
      rw [this]
    · try simp (maxSteps := 3000000) (disch := first | omega | (simp only [len_new, len_put, len_kill]; omega)) only [↓xpre, xpost, ↓reduceIte, Nat.reduceEqDiff, Nat.reduceAdd, Nat.reduceSub, Nat.reduceLeDiff, Nat.zero_add, Nat.sub_zero, f0, f3, f4]
      refine hQ _ _ hp ⟨h.length, e, Nat.le_refl _, rfl, ?_⟩
      have : i = ns.length := by omega
      subst this
      rw [hb, fillN_all]
  · simp [upd_apply]
  · rw [fillN_zero, Int.toNat_natCast, zrep_ints]
    exact ownB_new

theorem l_eqInt64S {v v' : Value} {ns ms : List Int} {h : AH} {Q : Value → AH → Prop} (hv : Ints h v ns) (hv' : Ints h v' ms) (hl : (ns.length : Int) ≤ 1048576)
    (hQ : Q (.bool (decide (ns = ms))) h) : WF S 30 [v, v'] h Q := by
  refine WF_fn (fn := c30) rfl rfl ?_
  unfold c30
  try simp (maxSteps := 3000000) (disch := first | omega | (simp only [len_new, len_put, len_kill]; omega)) only [↓xpre, xpost, ↓reduceIte, Nat.reduceEqDiff, Nat.reduceAdd, Nat.reduceSub, Nat.reduceLeDiff, Nat.zero_add, Nat.sub_zero, hv.len, hv'.len, IfW_dec]
  refine ⟨fun hne => ?_, fun heq => ?_⟩
  · try simp (maxSteps := 3000000) (disch := first | omega | (simp only [len_new, len_put, len_kill]; omega)) only [↓xpre, xpost, ↓reduceIte, Nat.reduceEqDiff, Nat.reduceAdd, Nat.reduceSub, Nat.reduceLeDiff, Nat.zero_add, Nat.sub_zero]
    have : ns ≠ ms := fun e => hne (by rw [e])
    simpa [this] using hQ
  · try simp (maxSteps := 3000000) (disch := first | omega | (simp only [len_new, len_put, len_kill]; omega)) only [↓xpre, xpost, ↓reduceIte, Nat.reduceEqDiff, Nat.reduceAdd, Nat.reduceSub, Nat.reduceLeDiff, Nat.zero_add, Nat.sub_zero]
    have hlen : ns.length = ms.length := by omega
    refine WC_loop_inv (fun n f h1 => ∃ i : Nat, n = ns.length - i ∧ i ≤ ns.length ∧ f 0 = v ∧ f 1 = v' ∧ f 5 = I64 i ∧ h1 = h ∧ ∀ j, j < i → ns.getD j 0 = ms.getD j 0) ?_ ns.length _ _ ⟨0, rfl, Nat.zero_le _, rfl, rfl, rfl, rfl, by omega⟩
    rintro n f h1 ⟨i, rfl, hi, f0, f1, f5, rfl, hj⟩
    try simp (maxSteps := 3000000) (disch := first | omega | (simp only [len_new, len_put, len_kill]; omega)) only [↓xpre, xpost, ↓reduceIte, Nat.reduceEqDiff, Nat.reduceAdd, Nat.reduceSub, Nat.reduceLeDiff, Nat.zero_add, Nat.sub_zero, f0, f1, f5, hv.len, IfW_dec]
    refine ⟨fun hlt => ?_, fun hge => ?_⟩
    · try simp (maxSteps := 3000000) (disch := first | omega | (simp only [len_new, len_put, len_kill]; omega)) only [↓xpre, xpost, ↓reduceIte, Nat.reduceEqDiff, Nat.reduceAdd, Nat.reduceSub, Nat.reduceLeDiff, Nat.zero_add, Nat.sub_zero, f0, f1, f5, hv.ix, hv.rd, hv'.ix, hv'.rd, IfW_dec]
      simp only [nth, Int.toNat_natCast]
      refine ⟨fun hne => ?_, fun he => ?_⟩
      · try simp (maxSteps := 3000000) (disch := first | omega | (simp only [len_new, len_put, len_kill]; omega)) only [↓xpre, xpost, ↓reduceIte, Nat.reduceEqDiff, Nat.reduceAdd, Nat.reduceSub, Nat.reduceLeDiff, Nat.zero_add, Nat.sub_zero]
        have : ns ≠ ms := fun e => hne (by rw [e])
        simpa [this] using hQ
      · try simp (maxSteps := 3000000) (disch := first | omega | (simp only [len_new, len_put, len_kill]; omega)) only [↓xpre, xpost, ↓reduceIte, Nat.reduceEqDiff, Nat.reduceAdd, Nat.reduceSub, Nat.reduceLeDiff, Nat.zero_add, Nat.sub_zero, f0, f1, f5, wrap64_in]
        refine InvQ_go (ns.length - (i + 1)) (by omega) ⟨i + 1, rfl, by omega, f0, f1, rfl, rfl, fun j hj' => ?_⟩
        rcases Nat.lt_succ_iff_lt_or_eq.1 hj' with hj' | rfl
        · exact hj j hj'
        · exact Decidable.not_not.1 he
    · try simp (maxSteps := 3000000) (disch := first | omega | (simp only [len_new, len_put, len_kill]; omega)) only [↓xpre, xpost, ↓reduceIte, Nat.reduceEqDiff, Nat.reduceAdd, Nat.reduceSub, Nat.reduceLeDiff, Nat.zero_add, Nat.sub_zero, f0, f1, f5]
      have : ns = ms := by
        refine List.ext_getElem? fun j => ?_
        by_cases h1 : j < ns.length
        · have := hj j (by omega)
          rw [List.getElem?_eq_getElem h1, List.getElem?_eq_getElem (by omega)]
          simpa [List.getD_eq_getElem?_getD, List.getElem?_eq_getElem h1, List.getElem?_eq_getElem (show j < ms.length by omega)] using this
        · rw [List.getElem?_eq_none (by omega), List.getElem?_eq_none (by omega)]
      simpa [this] using hQ

def allIn (p : Int) (ns : List Int) : Bool := ns.all fun n => decide (0 ≤ n ∧ n < p)
theorem allIn_iff {p : Int} {ns : List Int} : allIn p ns = true ↔ ∀ j, j < ns.length → 0 ≤ ns.getD j 0 ∧ ns.getD j 0 < p := by
  simp only [allIn, List.all_eq_true, decide_eq_true_eq]
  constructor
  · intro h j hj
    have := h (ns.getD j 0) (by simp [List.getD_eq_getElem?_getD, List.getElem?_eq_getElem hj])
    exact this
  · intro h x hx
    obtain ⟨j, hj, rfl⟩ := List.mem_iff_getElem.1 hx
    have := h j hj
    simpa [List.getD_eq_getElem?_getD, List.getElem?_eq_getElem hj] using this
theorem i_areNumbers {v : Value} {ns : List Int} {p : Int} {h : AH} {Q : Value → AH → Prop} (hv : Ints h v ns) (hl : (ns.length : Int) ≤ 1048576)
    (hQ : Q (.bool (allIn p ns)) h) : WF S 85 [I64 p, v] h Q := by
  refine WF_fn (fn := c85) rfl rfl ?_
  unfold c85
  try simp (maxSteps := 3000000) (disch := first | omega | (simp only [len_new, len_put, len_kill]; omega)) only [↓xpre, xpost, ↓reduceIte, Nat.reduceEqDiff, Nat.reduceAdd, Nat.reduceSub, Nat.reduceLeDiff, Nat.zero_add, Nat.sub_zero, hv.len]
  refine WC_loop_inv (fun n f h1 => ∃ i : Nat, n = ns.length - i ∧ i ≤ ns.length ∧ f 0 = I64 p ∧ f 7 = v ∧ f 8 = I64 ns.length ∧ f 9 = I64 i ∧ h1 = h ∧ ∀ j, j < i → 0 ≤ ns.getD j 0 ∧ ns.getD j 0 < p) ?_ ns.length _ _ ⟨0, rfl, Nat.zero_le _, rfl, rfl, rfl, rfl, rfl, by omega⟩
  rintro n f h1 ⟨i, rfl, hi, f0, f7, f8, f9, rfl, hj⟩
  try simp (maxSteps := 3000000) (disch := first | omega | (simp only [len_new, len_put, len_kill]; omega)) only [↓xpre, xpost, ↓reduceIte, Nat.reduceEqDiff, Nat.reduceAdd, Nat.reduceSub, Nat.reduceLeDiff, Nat.zero_add, Nat.sub_zero, f0, f7, f8, f9, IfW_dec]
  refine ⟨fun hlt => ?_, fun hge => ?_⟩
  · try simp (maxSteps := 3000000) (disch := first | omega | (simp only [len_new, len_put, len_kill]; omega)) only [↓xpre, xpost, ↓reduceIte, Nat.reduceEqDiff, Nat.reduceAdd, Nat.reduceSub, Nat.reduceLeDiff, Nat.zero_add, Nat.sub_zero, f0, f7, f8, f9, hv.ix, hv.rd]
    simp only [nth, Int.toNat_natCast]
    have bad : ¬ (0 ≤ ns.getD i 0 ∧ ns.getD i 0 < p) → allIn p ns = false := fun hb => by
      cases ha : allIn p ns with
      | false => rfl
      | true => exact (hb (allIn_iff.1 ha i (by omega))).elim
    by_cases h1 : ns.getD i 0 < 0
    · try simp (maxSteps := 3000000) (disch := first | omega | (simp only [len_new, len_put, len_kill]; omega)) only [↓xpre, xpost, ↓reduceIte, Nat.reduceEqDiff, Nat.reduceAdd, Nat.reduceSub, Nat.reduceLeDiff, Nat.zero_add, Nat.sub_zero, h1, f0, f7, f8, f9]
      rw [bad (by omega)] at hQ
      exact hQ
    · try simp (maxSteps := 3000000) (disch := first | omega | (simp only [len_new, len_put, len_kill]; omega)) only [↓xpre, xpost, ↓reduceIte, Nat.reduceEqDiff, Nat.reduceAdd, Nat.reduceSub, Nat.reduceLeDiff, Nat.zero_add, Nat.sub_zero, h1, f0, f7, f8, f9, IfW_dec]
      refine ⟨fun h2 => ?_, fun h2 => ?_⟩
      · try simp (maxSteps := 3000000) (disch := first | omega | (simp only [len_new, len_put, len_kill]; omega)) only [↓xpre, xpost, ↓reduceIte, Nat.reduceEqDiff, Nat.reduceAdd, Nat.reduceSub, Nat.reduceLeDiff, Nat.zero_add, Nat.sub_zero]
        rw [bad (by omega)] at hQ
        exact hQ
      · try simp (maxSteps := 3000000) (disch := first | omega | (simp only [len_new, len_put, len_kill]; omega)) only [↓xpre, xpost, ↓reduceIte, Nat.reduceEqDiff, Nat.reduceAdd, Nat.reduceSub, Nat.reduceLeDiff, Nat.zero_add, Nat.sub_zero, f0, f7, f8, f9, wrap64_in]
        refine InvQ_go (ns.length - (i + 1)) (by omega) ⟨i + 1, rfl, by omega, f0, f7, f8, rfl, rfl, fun j hj' => ?_⟩
        rcases Nat.lt_succ_iff_lt_or_eq.1 hj' with hj' | rfl
        · exact hj j hj'
        · omega
  · try simp (maxSteps := 3000000) (disch := first | omega | (simp only [len_new, len_put, len_kill]; omega)) only [↓xpre, xpost, ↓reduceIte, Nat.reduceEqDiff, Nat.reduceAdd, Nat.reduceSub, Nat.reduceLeDiff, Nat.zero_add, Nat.sub_zero, f0, f7, f8, f9]
    have : allIn p ns = true := allIn_iff.2 fun j hj' => hj j (by omega)
    rw [this] at hQ
    exact hQ
end Go.Proofs.Ytilpnbejpndgpaa.X

/- Tensors: what they are, copies, comparisons. -/
set_option linter.unusedVariables false
set_option linter.unusedSimpArgs false
namespace Go.Proofs.Ytilpnbejpndgpaa.X
open Go Go.RowKit

theorem new_facts {h H : AH} {b : Blk} (e : h.new b = H) : H.get h.length = some b ∧ h <+: H ∧ H.length = h.length + 1 := by
  subst e
  exact ⟨get_new_same, pre_new (List.prefix_refl _), len_new⟩

structure Ten where
  p : Int
  i : Int
  j : Int
  k : Int
  ns : List Int
  deriving DecidableEq
def side (n : Int) : Bool := decide (1 ≤ n ∧ n ≤ 9)
theorem isP_in {p : Int} (h : isP p = true) : 2 ≤ p ∧ p ≤ 5 := by
  simp [isP] at h
  omega
theorem mul_in {a b A B : Int} (ha : 0 ≤ a ∧ a ≤ A) (hb : 0 ≤ b ∧ b ≤ B) : 0 ≤ a * b ∧ a * b ≤ A * B :=
  ⟨Int.mul_nonneg ha.1 hb.1, Int.mul_le_mul ha.2 hb.2 hb.1 (by omega)⟩

end Go.Proofs.Ytilpnbejpndgpaa.X

/- Tensors: the program's own test, copies, comparisons. -/
set_option linter.unusedVariables false
set_option linter.unusedSimpArgs false
namespace Go.Proofs.Ytilpnbejpndgpaa.X
open Go Go.RowKit

end Go.Proofs.Ytilpnbejpndgpaa.X

/- The number at three places. -/
set_option linter.unusedVariables false
set_option linter.unusedSimpArgs false
namespace Go.Proofs.Ytilpnbejpndgpaa.X
open Go Go.RowKit

structure TF (t : Ten) : Prop where
  p : 2 ≤ t.p ∧ t.p ≤ 5
  i : 1 ≤ t.i ∧ t.i ≤ 9
  j : 1 ≤ t.j ∧ t.j ≤ 9
  k : 1 ≤ t.k ∧ t.k ≤ 9
  len : (t.ns.length : Int) = t.i * t.j * t.k
  num : ∀ x : Int, 0 ≤ x → x < t.ns.length → 0 ≤ nth t.ns x ∧ nth t.ns x < t.p
  ij : 1 ≤ t.i * t.j ∧ t.i * t.j ≤ 81
  ijk : 1 ≤ t.i * t.j * t.k ∧ t.i * t.j * t.k ≤ 729
theorem mul_in1 {a b A B : Int} (ha : 1 ≤ a ∧ a ≤ A) (hb : 1 ≤ b ∧ b ≤ B) : 1 ≤ a * b ∧ a * b ≤ A * B := by
  refine ⟨?_, (mul_in (by omega) (by omega)).2⟩
  have := Int.mul_le_mul ha.1 hb.1 (by omega) (by omega)
  simpa using this
theorem lin_in {i j I J : Int} (hi : 0 ≤ i ∧ i < I) (hj : 0 ≤ j ∧ j < J) : 0 ≤ i * J ∧ 0 ≤ i * J + j ∧ i * J + j < I * J := by
  have h1 := Int.mul_nonneg hi.1 (show 0 ≤ J by omega)
  have h2 := Int.mul_le_mul_of_nonneg_right (show i + 1 ≤ I by omega) (show 0 ≤ J by omega)
  rw [Int.add_mul, Int.one_mul] at h2
  omega
def tat (t : Ten) (i j k : Int) : Int := nth t.ns ((i * t.j + j) * t.k + k)

end Go.Proofs.Ytilpnbejpndgpaa.X

/- Lists of one's own: marks and holds. -/
set_option linter.unusedVariables false
set_option linter.unusedSimpArgs false
namespace Go.Proofs.Ytilpnbejpndgpaa.X
open Go Go.RowKit

/-- The heap's block of a slice. -/
def blkOf (v : Value) : Option Nat := match v with
  | .slice (some a) _ _ => some a.block
  | _ => none
/-- A list of one's own, or nil. -/
def OwnR (h0 h : AH) (v : Value) (ns : List Int) : Prop :=
  (v = .slice none 0 0 ∧ ns = []) ∨ ∃ n e full, h0.length ≤ n ∧ v = .slice (some ⟨n, 0, none⟩) ns.length 1 ∧ h.get n = some ⟨ns.map (Value.int .i64), e, false, full⟩
theorem OwnI.ownR {h0 h : AH} {v : Value} {ns : List Int} (o : OwnI h0 h v ns) : OwnR h0 h v ns := by
  obtain ⟨n, e, h1, rfl, h2⟩ := o
  exact .inr ⟨n, e, true, h1, rfl, h2⟩
theorem OwnR.ints {h0 h : AH} {v : Value} {ns : List Int} (o : OwnR h0 h v ns) : Ints h v ns := by
  rcases o with ⟨rfl, rfl⟩ | ⟨n, e, full, h1, rfl, h2⟩
  · exact .inl ⟨rfl, 0, by omega, rfl⟩
  · exact Ints.own h2 rfl
theorem OwnR.pre {h0 h h' : AH} {v : Value} {ns : List Int} (o : OwnR h0 h v ns) (p : h <+: h') : OwnR h0 h' v ns := by
  rcases o with ⟨rfl, rfl⟩ | ⟨n, e, full, h1, rfl, h2⟩
  · exact .inl ⟨rfl, rfl⟩
  · exact .inr ⟨n, e, full, h1, rfl, pre_get p h2⟩
theorem OwnR.lo {h0 h1 h : AH} {v : Value} {ns : List Int} (o : OwnR h0 h v ns) (p : h1.length ≤ h0.length) : OwnR h1 h v ns := by
  rcases o with ⟨rfl, rfl⟩ | ⟨n, e, full, q1, rfl, h2⟩
  · exact .inl ⟨rfl, rfl⟩
  · exact .inr ⟨n, e, full, by omega, rfl, h2⟩
/-- One block alone changes. -/
structure Only (o : Option Nat) (h h' : AH) : Prop where
  len : h'.length = h.length
  same : ∀ n, o ≠ some n → h'[n]? = h[n]?
theorem Only.get {o : Option Nat} {h h' : AH} (w : Only o h h') (n : Nat) (hn : o ≠ some n) : h'.get n = h.get n := by
  unfold AH.get
  rw [w.same n hn]
theorem Only.refl (o : Option Nat) (h : AH) : Only o h h := ⟨rfl, fun _ _ => rfl⟩
theorem OwnR.only {h0 h h' : AH} {v : Value} {ns : List Int} {o : Option Nat} (q : OwnR h0 h v ns) (w : Only o h h') (hn : ∀ n, o = some n → n < h0.length) : OwnR h0 h' v ns := by
  rcases q with ⟨rfl, rfl⟩ | ⟨n, e, full, h1, rfl, h2⟩
  · exact .inl ⟨rfl, rfl⟩
  · exact .inr ⟨n, e, full, h1, rfl, by rw [w.get n (fun e => by have := hn n e; omega)]; exact h2⟩
theorem OwnR.blk {h0 h : AH} {v : Value} {ns : List Int} (o : OwnR h0 h v ns) : ∀ n, blkOf v = some n → h0.length ≤ n ∧ n < h.length := by
  rcases o with ⟨rfl, rfl⟩ | ⟨n, e, full, h1, rfl, h2⟩
  · intro n hn; cases hn
  · intro m hm
    cases hm
    exact ⟨h1, get_lt h2⟩
theorem OwnR.only' {h0 h h' : AH} {v : Value} {ns : List Int} {o : Option Nat} (q : OwnR h0 h v ns) (w : Only o h h') (hn : ∀ n, o = some n → h.length ≤ n ∨ blkOf v ≠ some n) : OwnR h0 h' v ns := by
  rcases q with ⟨rfl, rfl⟩ | ⟨n, e, full, h1, rfl, h2⟩
  · exact .inl ⟨rfl, rfl⟩
  · refine .inr ⟨n, e, full, h1, rfl, ?_⟩
    rw [w.get n (fun e => ?_)]
    · exact h2
    · rcases hn n e with q | q
      · have := get_lt h2; omega
      · exact q rfl
theorem Only.pre {h0 h h' : AH} {o : Option Nat} (w : Only o h h') (p : h0 <+: h) (hn : ∀ n, o = some n → h0.length ≤ n) : h0 <+: h' := by
  rw [List.prefix_iff_getElem?] at p ⊢
  intro i hi
  rw [w.same i (fun e => by have := hn i e; omega)]
  exact p i hi

def marks (k : Int) (n : Nat) : List Int := (List.range n).map fun i => k + (i : Nat)
def markN (ns : List Int) (k : Int) (i : Nat) : List Int := marks k i ++ ns.drop i
theorem marks_len {k : Int} {n : Nat} : (marks k n).length = n := by simp [marks]
theorem markN_len {ns : List Int} {k : Int} {i : Nat} (hi : i ≤ ns.length) : (markN ns k i).length = ns.length := by simp [markN, marks_len]; omega
theorem markN_all {ns : List Int} {k : Int} : markN ns k ns.length = marks k ns.length := by simp [markN]
theorem markN_zero {ns : List Int} {k : Int} : markN ns k 0 = ns := by simp [markN, marks]
theorem markN_set {ns : List Int} {k : Int} {i : Nat} (hi : i < ns.length) : (markN ns k i).set i (k + (i : Nat)) = markN ns k (i + 1) := by
  unfold markN
  rw [List.set_append_right _ _ (by rw [marks_len]; omega), marks_len, Nat.sub_self, List.drop_eq_getElem_cons hi, List.set_cons_zero]
  simp [marks, List.range_succ]
theorem marks_get {k : Int} {n i : Nat} (hi : i < n) : (marks k n).getD i 0 = k + (i : Nat) := by
  simp [marks, List.getD_eq_getElem?_getD, List.getElem?_map, List.getElem?_range hi]

theorem l_markInt64S {v : Value} {ns : List Int} {k : Int} {h0 h : AH} {Q : Value → AH → Prop} (o : OwnR h0 h v ns) (hl : (ns.length : Int) ≤ 1048576) (hk : 0 ≤ k ∧ k ≤ 1099511627776)
    (hQ : ∀ h', Only (blkOf v) h h' → OwnR h0 h' v (marks k ns.length) → Q (I64 (k + ns.length)) h') : WF S 33 [v, I64 k] h Q := by
  refine WF_fn (fn := c33) rfl rfl ?_
  unfold c33
  try simp (maxSteps := 3000000) (disch := first | omega | (simp only [len_new, len_put, len_kill]; omega)) only [↓xpre, xpost, ↓reduceIte, Nat.reduceEqDiff, Nat.reduceAdd, Nat.reduceSub, Nat.reduceLeDiff, Nat.zero_add, Nat.sub_zero]
  rcases o with ⟨rfl, rfl⟩ | ⟨b, e, full, hb0, rfl, hb⟩
  · refine WC_loop ?_
    try simp (maxSteps := 3000000) (disch := first | omega | (simp only [len_new, len_put, len_kill]; omega)) only [↓xpre, xpost, ↓reduceIte, Nat.reduceEqDiff, Nat.reduceAdd, Nat.reduceSub, Nat.reduceLeDiff, Nat.zero_add, Nat.sub_zero, IfW_dec]
    refine ⟨fun hlt => by simp at hlt, fun _ => ?_⟩
    have := hQ _ (Only.refl _ _) (.inl ⟨rfl, rfl⟩)
    simpa using this
  · refine WC_loop_inv (fun n f h1 => ∃ i : Nat, n = ns.length - i ∧ i ≤ ns.length ∧ f 0 = .slice (some ⟨b, 0, none⟩) ns.length 1 ∧ f 1 = I64 (k + (i : Nat)) ∧ f 5 = I64 i ∧
      h1.get b = some ⟨(markN ns k i).map (Value.int .i64), e, false, full⟩ ∧ Only (some b) h h1) ?_ ns.length _ _ ⟨0, rfl, Nat.zero_le _, rfl, by simp [upd_apply], rfl, by rw [markN_zero]; exact hb, Only.refl _ _⟩
    rintro n f h1 ⟨i, rfl, hi, f0, f1, f5, hg, ho⟩
    try simp (maxSteps := 3000000) (disch := first | omega | (simp only [len_new, len_put, len_kill]; omega)) only [↓xpre, xpost, ↓reduceIte, Nat.reduceEqDiff, Nat.reduceAdd, Nat.reduceSub, Nat.reduceLeDiff, Nat.zero_add, Nat.sub_zero, f0, f1, f5, IfW_dec]
    refine ⟨fun hlt => ?_, fun hge => ?_⟩
    · try simp (maxSteps := 3000000) (disch := first | omega | (simp only [len_new, len_put, len_kill]; omega)) only [↓xpre, xpost, ↓reduceIte, Nat.reduceEqDiff, Nat.reduceAdd, Nat.reduceSub, Nat.reduceLeDiff, Nat.zero_add, Nat.sub_zero, f0, f1, f5, ixsV_some]
      refine ⟨⟨by omega, hlt⟩, ?_⟩
      try simp (maxSteps := 3000000) (disch := first | omega | (simp only [len_new, len_put, len_kill]; omega)) only [↓xpre, xpost, ↓reduceIte, Nat.reduceEqDiff, Nat.reduceAdd, Nat.reduceSub, Nat.reduceLeDiff, Nat.zero_add, Nat.sub_zero, wr_of hg]
      have hlm := markN_len (k := k) hi
      refine ⟨by simp [hlm]; omega, ?_⟩
      try simp (maxSteps := 3000000) (disch := first | omega | (simp only [len_new, len_put, len_kill]; omega)) only [↓xpre, xpost, ↓reduceIte, Nat.reduceEqDiff, Nat.reduceAdd, Nat.reduceSub, Nat.reduceLeDiff, Nat.zero_add, Nat.sub_zero, f0, f1, f5, wrap64_in]
      refine InvQ_go (ns.length - (i + 1)) (by omega) ⟨i + 1, rfl, by omega, f0, ?_, rfl, ?_, ?_⟩
      · show I64 (k + (i : Int) + 1) = I64 (k + ((i + 1 : Nat) : Int))
        congr 1
        omega
      · rw [get_put_same (get_lt hg)]
        have e1 : ((i : Int).toNat * 1) = i := by omega
        simp only [e1, Nat.zero_add]
        rw [splice_map (by rw [hlm]; omega), markN_set (by omega)]
      · refine ⟨by rw [len_put]; exact ho.len, fun n hn => ?_⟩
        unfold AH.put
        rw [List.getElem?_set_ne (fun e => hn (by rw [e]))]
        exact ho.same n hn
    · have e : i = ns.length := by omega
      subst e
      try simp (maxSteps := 3000000) (disch := first | omega | (simp only [len_new, len_put, len_kill]; omega)) only [↓xpre, xpost, ↓reduceIte, Nat.reduceEqDiff, Nat.reduceAdd, Nat.reduceSub, Nat.reduceLeDiff, Nat.zero_add, Nat.sub_zero, f0, f1, f5]
      refine hQ _ ho (.inr ⟨b, e, full, hb0, by rw [marks_len], ?_⟩)
      rw [hg, markN_all]

theorem l_heldInt64S {v : Value} {k : Int} {n : Nat} {h : AH} {Q : Value → AH → Prop} (hv : Ints h v (marks k n)) (hl : (n : Int) ≤ 1048576) (hk : 0 ≤ k ∧ k ≤ 1099511627776)
    (hQ : Q (I64 (k + n)) h) : WF S 34 [v, I64 k] h Q := by
  refine WF_fn (fn := c34) rfl rfl ?_
  unfold c34
  try simp (maxSteps := 3000000) (disch := first | omega | (simp only [len_new, len_put, len_kill]; omega)) only [↓xpre, xpost, ↓reduceIte, Nat.reduceEqDiff, Nat.reduceAdd, Nat.reduceSub, Nat.reduceLeDiff, Nat.zero_add, Nat.sub_zero]
  have hn : (marks k n).length = n := marks_len
  refine WC_loop_inv (fun m f h1 => ∃ i : Nat, m = n - i ∧ i ≤ n ∧ f 0 = v ∧ f 1 = I64 (k + (i : Nat)) ∧ f 5 = I64 i ∧ h1 = h) ?_ n _ _ ⟨0, rfl, Nat.zero_le _, rfl, by simp [upd_apply], rfl, rfl⟩
  rintro m f h1 ⟨i, rfl, hi, f0, f1, f5, rfl⟩
  have hlen := hv.len
  rw [hn] at hlen
  try simp (maxSteps := 3000000) (disch := first | omega | (simp only [len_new, len_put, len_kill]; omega)) only [↓xpre, xpost, ↓reduceIte, Nat.reduceEqDiff, Nat.reduceAdd, Nat.reduceSub, Nat.reduceLeDiff, Nat.zero_add, Nat.sub_zero, f0, f1, f5, hlen, IfW_dec]
  refine ⟨fun hlt => ?_, fun hge => ?_⟩
  · have e := marks_get (k := k) (n := n) (i := i) (by omega)
    have hix := hv.ix (k := .i64) (j := i) (by omega) (by omega)
    have hrd := hv.rd (j := i) (by omega) (by omega)
    simp only [nth, Int.toNat_natCast, e] at hrd
    try simp (maxSteps := 3000000) (disch := first | omega | (simp only [len_new, len_put, len_kill]; omega)) only [↓xpre, xpost, ↓reduceIte, Nat.reduceEqDiff, Nat.reduceAdd, Nat.reduceSub, Nat.reduceLeDiff, Nat.zero_add, Nat.sub_zero, f0, f1, f5, hix, hrd, ne_eq, not_true_eq_false, wrap64_in]
    refine InvQ_go (n - (i + 1)) (by omega) ⟨i + 1, rfl, by omega, f0, ?_, rfl, rfl⟩
    show I64 (k + (i : Int) + 1) = I64 (k + ((i + 1 : Nat) : Int))
    congr 1
    omega
  · have e : i = n := by omega
    subst e
    try simp (maxSteps := 3000000) (disch := first | omega | (simp only [len_new, len_put, len_kill]; omega)) only [↓xpre, xpost, ↓reduceIte, Nat.reduceEqDiff, Nat.reduceAdd, Nat.reduceSub, Nat.reduceLeDiff, Nat.zero_add, Nat.sub_zero, f0, f1, f5]
    exact hQ
end Go.Proofs.Ytilpnbejpndgpaa.X

/- Tensors made of a rule: the empty one, the turn of the reference. -/
set_option linter.unusedVariables false
set_option linter.unusedSimpArgs false
namespace Go.Proofs.Ytilpnbejpndgpaa.X
open Go Go.RowKit

def gen (N : Nat) (g : Nat → Int) : List Int := (List.range N).map g
theorem gen_len {N : Nat} {g : Nat → Int} : (gen N g).length = N := by simp [gen]
theorem gen_get {N i : Nat} {g : Nat → Int} (hi : i < N) : (gen N g).getD i 0 = g i := by
  simp [gen, List.getD_eq_getElem?_getD, List.getElem?_map, List.getElem?_range hi]
theorem gen_ext {N : Nat} {g : Nat → Int} {l : List Int} (hl : l.length = N) (h : ∀ i, i < N → l.getD i 0 = g i) : l = gen N g := by
  refine List.ext_getElem? fun j => ?_
  by_cases hj : j < N
  · have h1 := h j hj
    rw [List.getD_eq_getElem?_getD, List.getElem?_eq_getElem (by omega)] at h1
    rw [List.getElem?_eq_getElem (by omega)]
    simp [gen, List.getElem?_map, List.getElem?_range hj] at h1 ⊢
    exact h1
  · rw [List.getElem?_eq_none (by omega), List.getElem?_eq_none (by rw [gen_len]; omega)]
theorem gen_succ {N : Nat} {g : Nat → Int} : gen (N + 1) g = gen N g ++ [g N] := by simp [gen, List.range_succ]
theorem gen_congr {N : Nat} {g g' : Nat → Int} (h : ∀ i, i < N → g i = g' i) : gen N g = gen N g' := by
  refine gen_ext gen_len fun i hi => ?_
  rw [gen_get hi, h i hi]
theorem set_getD {l : List Int} {i j : Nat} {x : Int} (hi : i < l.length) : (l.set i x).getD j 0 = if j = i then x else l.getD j 0 := by
  rw [List.getD_eq_getElem?_getD, List.getD_eq_getElem?_getD, List.getElem?_set]
  by_cases h : i = j
  · subst h
    simp [hi]
  · rw [if_neg h, if_neg (fun e => h e.symm)]
theorem dec {a i I : Int} (h : 0 ≤ i ∧ i < I) : (a * I + i) / I = a ∧ (a * I + i) % I = i := by
  have := (Int.ediv_emod_unique (a := a * I + i) (b := I) (q := a) (r := i) (by omega)).2 ⟨by rw [Int.mul_comm]; omega, h.1, h.2⟩
  exact this
theorem enc (n I : Int) : n / I * I + n % I = n := by
  have := Int.mul_ediv_add_emod n I
  rw [Int.mul_comm] at this
  exact this

theorem OwnI.of {h0 h : AH} {v : Value} {ns : List Int} {n : Nat} (h1 : h0.length ≤ n) (e : v = .slice (some ⟨n, 0, none⟩) ns.length 1) (b : OwnB h n (ns.map (Value.int .i64)) true) : OwnI h0 h v ns := by
  obtain ⟨e', hb⟩ := b
  exact ⟨n, e', h1, e, hb⟩
theorem OwnB.pre {h h' : AH} {c : List Value} {full : Bool} {n : Nat} (b : OwnB h n c full) (p : h <+: h') : OwnB h' n c full := by
  obtain ⟨e, hb⟩ := b
  exact ⟨e, pre_get p hb⟩
theorem OwnB.put_ne {h : AH} {c : List Value} {full : Bool} {n m : Nat} {b : Blk} (o : OwnB h n c full) (e : m ≠ n) : OwnB (h.put m b) n c full := by
  obtain ⟨e', hb⟩ := o
  exact ⟨e', by rw [get_put_ne e]; exact hb⟩
theorem OwnB.lt {h : AH} {c : List Value} {full : Bool} {n : Nat} (o : OwnB h n c full) : n < h.length := by
  obtain ⟨e', hb⟩ := o
  exact get_lt hb
def turnG (t : Ten) (n : Nat) : Int := tat t ((n : Int) % t.i) ((n : Int) / t.i / t.k) ((n : Int) / t.i % t.k)
def turnT (t : Ten) : Ten := ⟨t.p, t.j, t.k, t.i, gen (t.j * t.k * t.i).toNat (turnG t)⟩
/-- What has been written ahead of i, j, k. -/
def Done (t : Ten) (l : List Int) (i j k : Int) : Prop := l.length = (t.j * t.k * t.i).toNat ∧ ∀ n : Nat, n < (t.j * t.k * t.i).toNat →
  ((n : Int) % t.i < i ∨ ((n : Int) % t.i = i ∧ ((n : Int) / t.i / t.k < j ∨ ((n : Int) / t.i / t.k = j ∧ (n : Int) / t.i % t.k < k)))) → l.getD n 0 = turnG t n

theorem Done.step {t : Ten} {l : List Int} {i j k : Int} (d : Done t l i j k) (f : TF t) (hi : 0 ≤ i ∧ i < t.i) (hj : 0 ≤ j ∧ j < t.j) (hk : 0 ≤ k ∧ k < t.k) :
    Done t (l.set ((j * t.k + k) * t.i + i).toNat (tat t i j k)) i j (k + 1) := by
  have b1 := lin_in hj hk
  have b2 := lin_in b1.2 hi
  obtain ⟨d1, d2⟩ := d
  refine ⟨by rw [List.length_set]; exact d1, fun n hn hlex => ?_⟩
  rw [set_getD (by omega)]
  have e1 := dec (a := j * t.k + k) hi
  have e2 := dec (a := j) hk
  split
  · rename_i he
    have he' : (n : Int) = (j * t.k + k) * t.i + i := by omega
    unfold turnG
    rw [he', e1.1, e1.2, e2.1, e2.2]
  · rename_i hne
    refine d2 n hn ?_
    refine Decidable.byContradiction fun hnl => hne ?_
    have q1 : (n : Int) % t.i = i := by omega
    have q2 : (n : Int) / t.i / t.k = j := by omega
    have q3 : (n : Int) / t.i % t.k = k := by omega
    have q4 := enc (n : Int) t.i
    have q5 := enc ((n : Int) / t.i) t.k
    rw [q2, q3] at q5
    rw [← q5, q1] at q4
    omega
theorem Done.all {t : Ten} {l : List Int} (d : Done t l t.i 0 0) (f : TF t) : l = (turnT t).ns := by
  have fi := f.i
  refine gen_ext d.1 fun n hn => d.2 n hn (.inl ?_)
  exact Int.emod_lt_of_pos _ (by omega)
theorem Done.zero {t : Ten} (f : TF t) : Done t (List.replicate (t.j * t.k * t.i).toNat 0) 0 0 0 := by
  have fi := f.i
  have fk := f.k
  refine ⟨List.length_replicate, fun n hn hlex => ?_⟩
  have h1 := Int.emod_nonneg (n : Int) (show t.i ≠ 0 by omega)
  have h3 : 0 ≤ (n : Int) / t.i := Int.ediv_nonneg (by omega) (by omega)
  have h4 : 0 ≤ (n : Int) / t.i / t.k := Int.ediv_nonneg h3 (by omega)
  have h5 := Int.emod_nonneg ((n : Int) / t.i) (show t.k ≠ 0 by omega)
  omega

end Go.Proofs.Ytilpnbejpndgpaa.X

/- The program's 'tensor': a list appended number by number out of a function value. -/
set_option linter.unusedVariables false
set_option linter.unusedSimpArgs false
namespace Go.Proofs.Ytilpnbejpndgpaa.X
open Go Go.RowKit

/-- A list under way: nil, or a block of one's own behind a place. -/
def Way (h : AH) (lo : Nat) (sv : Value) (l : List Int) : Prop :=
  (sv = .slice none 0 0 ∧ l = []) ∨ ∃ kb, sv = .slice (some ⟨kb, 0, none⟩) l.length 1 ∧ lo ≤ kb ∧ h.get kb = some ⟨l.map (Value.int .i64), 2, false, false⟩
theorem Way.pre {h h' : AH} {lo : Nat} {sv : Value} {l : List Int} (w : Way h lo sv l) (p : h <+: h') : Way h' lo sv l := by
  rcases w with w | ⟨kb, h1, h2, h3⟩
  · exact .inl w
  · exact .inr ⟨kb, h1, h2, pre_get p h3⟩
theorem Way.one {h : AH} {lo : Nat} {sv : Value} {l : List Int} (w : Way h lo sv l) : isOne sv = true := by
  rcases w with ⟨rfl, _⟩ | ⟨kb, rfl, h2, h3⟩ <;> rfl
theorem Way.cells {h : AH} {lo : Nat} {sv : Value} {l : List Int} (w : Way h lo sv l) : cellsL sv = [sv] := by
  rcases w with ⟨rfl, _⟩ | ⟨kb, rfl, h2, h3⟩ <;> rfl
theorem Way.put {h : AH} {lo n : Nat} {b : Blk} {sv : Value} {l : List Int} (w : Way h lo sv l) (hn : n < lo) : Way (h.put n b) lo sv l := by
  rcases w with w | ⟨kb, h1, h2, h3⟩
  · exact .inl w
  · exact .inr ⟨kb, h1, h2, by rw [get_put_ne (by omega)]; exact h3⟩
theorem Way.ownR {h0 h : AH} {lo : Nat} {sv : Value} {l : List Int} (w : Way h lo sv l) (hl : h0.length ≤ lo) : OwnR h0 h sv l := by
  rcases w with w | ⟨kb, h1, h2, h3⟩
  · exact .inl w
  · exact .inr ⟨kb, _, _, by omega, h1, h3⟩

/-- One number more: what 'append' of a slice of one number does. -/
theorem Way.app {S : XS} {H : AH} {lo : Nat} {sv : Value} {l : List Int} {x : Int} {e : TypeId} {full : Bool} (w : Way H lo sv l) (hl : (l.length : Int) ≤ 1048576) (hlo : lo ≤ H.length) {Q : Value → AH → Prop}
    (hQ : ∀ sv' H', H'.length = H.length + 2 → (∀ h0 : AH, h0.length ≤ lo → h0 <+: H → h0 <+: H') → (∀ n c f, n < lo → OwnB H n c f → OwnB H' n c f) → Way H' lo sv' (l ++ [x]) → Q sv' H') :
    OQ (appV 2 1 8 sv (.slice (some ⟨H.length, 0, none⟩) 1 1) (H.new ⟨[I64 x], e, false, full⟩)) Q := by
  have hn : (H.new ⟨[I64 x], e, false, full⟩).rdn H.length 0 1 = some [I64 x] := by rw [rdn_new_same]; rfl
  rcases w with ⟨rfl, rfl⟩ | ⟨kb, rfl, h2, h3⟩
  · rw [app_nil (.inl rfl) hn (by omega), OQ_some]
    refine hQ _ _ (by rw [len_new, len_new]) (fun h0 _ p => pre_new (pre_new p)) (fun n c f hn o => (o.pre (pre_new (List.prefix_refl _))).pre (pre_new (List.prefix_refl _))) ?_
    exact .inr ⟨(H.new ⟨[I64 x], e, false, full⟩).length, rfl, by rw [len_new]; omega, get_new_same⟩
  · have hk : (H.new ⟨[I64 x], e, false, full⟩).get kb = some ⟨l.map (Value.int .i64), 2, false, false⟩ := get_new_any h3
    have hkb := get_lt h3
    rw [app_own hk (by simp) hn (by omega), OQ_some]
    refine hQ _ _ (by rw [len_new, len_kill, len_new]) (fun h0 q p => pre_new (pre_kill (pre_new p) (by omega))) (fun n c f hn o => ?_) ?_
    · obtain ⟨e', o⟩ := o
      exact ⟨e', get_new_any (by rw [get_kill_ne (by omega)]; exact get_new_any o)⟩
    · refine .inr ⟨(H.new ⟨[I64 x], e, false, full⟩).length, by simp, by rw [len_new]; omega, ?_⟩
      rw [get_new_eq (by rw [len_kill])]
      simp

end Go.Proofs.Ytilpnbejpndgpaa.X

/- The turn; marks and holds of tensors. -/
set_option linter.unusedVariables false
set_option linter.unusedSimpArgs false
namespace Go.Proofs.Ytilpnbejpndgpaa.X
open Go Go.RowKit

theorem tat_in {t : Ten} {i j k : Int} (f : TF t) (hi : 0 ≤ i ∧ i < t.i) (hj : 0 ≤ j ∧ j < t.j) (hk : 0 ≤ k ∧ k < t.k) : 0 ≤ tat t i j k ∧ tat t i j k < t.p := by
  have b1 := lin_in hi hj
  have b2 := lin_in b1.2 hk
  exact f.num _ (by omega) (by rw [f.len]; omega)
/-- Places out of a number. -/
theorem places {n i j k : Int} (hn : 0 ≤ n ∧ n < i * j * k) (hj : 1 ≤ j) (hk : 1 ≤ k) : (0 ≤ n / k / j ∧ n / k / j < i) ∧ (0 ≤ n / k % j ∧ n / k % j < j) ∧ (0 ≤ n % k ∧ n % k < k) := by
  have h1 : n / k < i * j := Int.ediv_lt_of_lt_mul (by omega) hn.2
  have h2 : n / k / j < i := Int.ediv_lt_of_lt_mul (by omega) h1
  have h3 : 0 ≤ n / k := Int.ediv_nonneg (by omega) (by omega)
  exact ⟨⟨Int.ediv_nonneg h3 (by omega), h2⟩, ⟨Int.emod_nonneg _ (by omega), Int.emod_lt_of_pos _ (by omega)⟩, ⟨Int.emod_nonneg _ (by omega), Int.emod_lt_of_pos _ (by omega)⟩⟩

theorem OwnR.put_ne {h0 h : AH} {v : Value} {ns : List Int} {n : Nat} {b : Blk} (o : OwnR h0 h v ns) (hn : n < h0.length) : OwnR h0 (h.put n b) v ns := by
  rcases o with ⟨rfl, rfl⟩ | ⟨m, e, full, h1, rfl, h2⟩
  · exact .inl ⟨rfl, rfl⟩
  · exact .inr ⟨m, e, full, h1, rfl, by rw [get_put_ne (by omega)]; exact h2⟩
end Go.Proofs.Ytilpnbejpndgpaa.X

/- Lists of lists of whole numbers. -/
set_option linter.unusedVariables false
set_option linter.unusedSimpArgs false
set_option maxRecDepth 20000
set_option maxHeartbeats 4000000
namespace Go.Proofs.Ytilpnbejpndgpaa.X
open Go Go.RowKit

/-- A slice that reads values, one cell each. -/
def Vals (h : AH) (v : Value) (cs : List Value) : Prop :=
  (cs = [] ∧ ∃ t, t ≤ 2 ∧ v = .slice none 0 t) ∨
  ∃ b off blk, v = .slice (some ⟨b, off, none⟩) cs.length 1 ∧ h.get b = some blk ∧ off + cs.length ≤ blk.c.length ∧ ∀ i, i < cs.length → blk.c[off + i]? = some (cs.getD i undef)
section
variable {h h' : AH} {v : Value} {cs : List Value}
theorem Vals.pre (p : h <+: h') (hv : Vals h v cs) : Vals h' v cs := by
  rcases hv with hv | ⟨b, off, blk, h1, h2, h3, h4⟩
  · exact .inl hv
  · exact .inr ⟨b, off, blk, h1, pre_get p h2, h3, h4⟩
theorem Vals.len (hv : Vals h v cs) : lenV v = some (.int .i64 cs.length) := by
  rcases hv with ⟨rfl, t, _, rfl⟩ | ⟨b, off, blk, rfl, h2, h3, h4⟩ <;> rfl
theorem Vals.one (hv : Vals h v cs) : isOne v = true := by
  rcases hv with ⟨rfl, t, _, rfl⟩ | ⟨b, off, blk, rfl, h2, h3, h4⟩ <;> rfl
theorem Vals.cells (hv : Vals h v cs) : cellsL v = [v] := by
  rcases hv with ⟨rfl, t, _, rfl⟩ | ⟨b, off, blk, rfl, h2, h3, h4⟩ <;> rfl
theorem Vals.ix (hv : Vals h v cs) {k : IntKind} {j : Int} (h0 : 0 ≤ j) (h1 : j < cs.length) : ixsV 1 v (.int k j) = some (.pointer (some (pAt v 1 j))) := by
  rcases hv with ⟨rfl, t, _, rfl⟩ | ⟨b, off, blk, rfl, h2, h3, h4⟩
  · simp at h1; omega
  · simp [ixsV, h0, h1, pAt]
theorem Vals.rd (hv : Vals h v cs) {j : Int} (h0 : 0 ≤ j) (h1 : j < cs.length) : h.rd1 (pAt v 1 j).block (pAt v 1 j).off = some (cs.getD j.toNat undef) := by
  rcases hv with ⟨rfl, t, _, rfl⟩ | ⟨b, off, blk, rfl, h2, h3, h4⟩
  · simp at h1; omega
  · have := h4 j.toNat (by omega)
    simp [AH.rd1, pAt, h2, this]
end
/-- A list of lists. -/
def Rows (h : AH) (v : Value) (rows : List (List Int)) : Prop := ∃ cs, Vals h v cs ∧ cs.length = rows.length ∧ ∀ i, i < rows.length → Ints h (cs.getD i undef) (rows.getD i [])
theorem Rows.pre {h h' : AH} {v : Value} {rows : List (List Int)} (p : h <+: h') (hv : Rows h v rows) : Rows h' v rows := by
  obtain ⟨cs, h1, h2, h3⟩ := hv
  exact ⟨cs, h1.pre p, h2, fun i hi => (h3 i hi).pre p⟩
theorem Rows.one {h : AH} {v : Value} {rows : List (List Int)} (hv : Rows h v rows) : isOne v = true := by
  obtain ⟨cs, h1, h2, h3⟩ := hv
  exact h1.one

/-- All numbers of the rows ahead of one. -/
def tot (rows : List (List Int)) (i : Nat) : Int := ((rows.take i).map fun r => (r.length : Int)).sum
theorem tot_succ {rows : List (List Int)} {i : Nat} (hi : i < rows.length) : tot rows (i + 1) = tot rows i + ((rows.getD i []).length : Int) := by
  unfold tot
  rw [List.take_succ_eq_append_getElem hi]
  simp only [List.map_append, List.sum_append, List.map_cons, List.map_nil, List.sum_cons, List.sum_nil, Int.add_zero, List.getD_eq_getElem?_getD, List.getElem?_eq_getElem hi, Option.getD_some]

theorem l_szInt64SS {v : Value} {rows : List (List Int)} {n : Int} {h : AH} {Q : Value → AH → Prop} (hv : Rows h v rows) (h0 : 0 ≤ n ∧ n ≤ 1048576) (hl : (rows.length : Int) ≤ 9223372036854775807)
    (hl' : ∀ i, i < rows.length → ((rows.getD i []).length : Int) ≤ 9223372036854775807)
    (hQ : ∀ m : Int, m ≤ n → (0 ≤ m → m = n - rows.length - tot rows rows.length ∧ ∀ i, i < rows.length → ((rows.getD i []).length : Int) ≤ n) → Q (I64 m) h) : WF S 41 [v, I64 n] h Q := by
  refine WF_fn (fn := c41) rfl rfl ?_
  unfold c41
  obtain ⟨cs, hv, hcl, hr⟩ := hv
  try simp (maxSteps := 3000000) (disch := first | omega | (simp only [len_new, len_put, len_kill]; omega)) only [↓xpre, xpost, ↓reduceIte, Nat.reduceEqDiff, Nat.reduceAdd, Nat.reduceSub, Nat.reduceLeDiff, Nat.zero_add, Nat.sub_zero, hv.len, wrap64_in, hcl, IfW_dec]
  refine ⟨fun hm => hQ _ (by omega) (by omega), fun hm => ?_⟩
  refine WC_loop_inv (fun m f h1 => ∃ i : Nat, m = rows.length - i ∧ i ≤ rows.length ∧ f 0 = v ∧ f 1 = I64 (n - rows.length - tot rows i) ∧ 0 ≤ n - rows.length - tot rows i ∧ 0 ≤ tot rows i ∧ f 5 = I64 i ∧ h1 = h ∧
    ∀ j, j < i → ((rows.getD j []).length : Int) ≤ n) ?_ rows.length _ _ ⟨0, rfl, Nat.zero_le _, rfl, by simp [upd_apply, tot], by simp [tot]; omega, by simp [tot], rfl, rfl, by omega⟩
  rintro m f h1 ⟨i, rfl, hi, f0, f1, hpos, htot, f5, rfl, hj⟩
  try simp (maxSteps := 3000000) (disch := first | omega | (simp only [len_new, len_put, len_kill]; omega)) only [↓xpre, xpost, ↓reduceIte, Nat.reduceEqDiff, Nat.reduceAdd, Nat.reduceSub, Nat.reduceLeDiff, Nat.zero_add, Nat.sub_zero, f0, f1, f5, hv.len, hcl, IfW_dec]
  refine ⟨fun hlt => ?_, fun hge => ?_⟩
  · have hi' : i < rows.length := by omega
    have hix := hv.ix (k := .i64) (j := i) (by omega) (by omega)
    have hrd := hv.rd (j := i) (by omega) (by omega)
    try simp (maxSteps := 3000000) (disch := first | omega | (simp only [len_new, len_put, len_kill]; omega)) only [↓xpre, xpost, ↓reduceIte, Nat.reduceEqDiff, Nat.reduceAdd, Nat.reduceSub, Nat.reduceLeDiff, Nat.zero_add, Nat.sub_zero, f0, f1, f5, hix, hrd, Int.toNat_natCast]
    refine l_szInt64S (hr i hi') (by omega) (hl' i hi') fun m h1 h2 => ?_
    try simp (maxSteps := 3000000) (disch := first | omega | (simp only [len_new, len_put, len_kill]; omega)) only [↓xpre, xpost, ↓reduceIte, Nat.reduceEqDiff, Nat.reduceAdd, Nat.reduceSub, Nat.reduceLeDiff, Nat.zero_add, Nat.sub_zero, f0, f1, f5, IfW_dec]
    refine ⟨fun hm => hQ _ (by omega) (by omega), fun hm => ?_⟩
    try simp (maxSteps := 3000000) (disch := first | omega | (simp only [len_new, len_put, len_kill]; omega)) only [↓xpre, xpost, ↓reduceIte, Nat.reduceEqDiff, Nat.reduceAdd, Nat.reduceSub, Nat.reduceLeDiff, Nat.zero_add, Nat.sub_zero, f0, f1, f5, wrap64_in]
    have h3 := h2 (by omega)
    have h4 := tot_succ hi'
    refine InvQ_go (rows.length - (i + 1)) (by omega) ⟨i + 1, rfl, by omega, f0, ?_, by omega, by omega, rfl, rfl, fun j hj' => ?_⟩
    · show I64 m = _
      congr 1
      omega
    · rcases Nat.lt_succ_iff_lt_or_eq.1 hj' with hj' | rfl
      · exact hj j hj'
      · omega
  · have e : i = rows.length := by omega
    subst e
    try simp (maxSteps := 3000000) (disch := first | omega | (simp only [len_new, len_put, len_kill]; omega)) only [↓xpre, xpost, ↓reduceIte, Nat.reduceEqDiff, Nat.reduceAdd, Nat.reduceSub, Nat.reduceLeDiff, Nat.zero_add, Nat.sub_zero, f0, f1, f5]
    exact hQ _ (by omega) (fun _ => ⟨rfl, hj⟩)

theorem l_eqInt64SS {v v' : Value} {ns ms : List (List Int)} {h : AH} {Q : Value → AH → Prop} (hv : Rows h v ns) (hv' : Rows h v' ms) (hl : (ns.length : Int) ≤ 1048576)
    (hl' : ∀ i, i < ns.length → ((ns.getD i []).length : Int) ≤ 1048576) (hQ : Q (.bool (decide (ns = ms))) h) : WF S 22 [v, v'] h Q := by
  refine WF_fn (fn := c22) rfl rfl ?_
  unfold c22
  obtain ⟨cs, hv, hcl, hr⟩ := hv
  obtain ⟨cs', hv', hcl', hr'⟩ := hv'
  try simp (maxSteps := 3000000) (disch := first | omega | (simp only [len_new, len_put, len_kill]; omega)) only [↓xpre, xpost, ↓reduceIte, Nat.reduceEqDiff, Nat.reduceAdd, Nat.reduceSub, Nat.reduceLeDiff, Nat.zero_add, Nat.sub_zero, hv.len, hv'.len, hcl, hcl', IfW_dec]
  refine ⟨fun hne => ?_, fun heq => ?_⟩
  · have : ns ≠ ms := fun e => hne (by rw [e])
    simpa [this] using hQ
  · have hlen : ns.length = ms.length := by omega
    refine WC_loop_inv (fun n f h1 => ∃ i : Nat, n = ns.length - i ∧ i ≤ ns.length ∧ f 0 = v ∧ f 1 = v' ∧ f 5 = I64 i ∧ h1 = h ∧ ∀ j, j < i → ns.getD j [] = ms.getD j []) ?_ ns.length _ _ ⟨0, rfl, Nat.zero_le _, rfl, rfl, rfl, rfl, by omega⟩
    rintro n f h1 ⟨i, rfl, hi, f0, f1, f5, rfl, hj⟩
    try simp (maxSteps := 3000000) (disch := first | omega | (simp only [len_new, len_put, len_kill]; omega)) only [↓xpre, xpost, ↓reduceIte, Nat.reduceEqDiff, Nat.reduceAdd, Nat.reduceSub, Nat.reduceLeDiff, Nat.zero_add, Nat.sub_zero, f0, f1, f5, hv.len, hcl, IfW_dec]
    refine ⟨fun hlt => ?_, fun hge => ?_⟩
    · have hi' : i < ns.length := by omega
      have hix := hv.ix (k := .i64) (j := i) (by omega) (by omega)
      have hrd := hv.rd (j := i) (by omega) (by omega)
      have hix' := hv'.ix (k := .i64) (j := i) (by omega) (by omega)
      have hrd' := hv'.rd (j := i) (by omega) (by omega)
      try simp (maxSteps := 3000000) (disch := first | omega | (simp only [len_new, len_put, len_kill]; omega)) only [↓xpre, xpost, ↓reduceIte, Nat.reduceEqDiff, Nat.reduceAdd, Nat.reduceSub, Nat.reduceLeDiff, Nat.zero_add, Nat.sub_zero, f0, f1, f5, hix, hrd, hix', hrd', Int.toNat_natCast]
      refine l_eqInt64S (hr i hi') (hr' i (by omega)) (hl' i hi') ?_
      by_cases he : ns.getD i [] = ms.getD i []
      · try simp (maxSteps := 3000000) (disch := first | omega | (simp only [len_new, len_put, len_kill]; omega)) only [↓xpre, xpost, ↓reduceIte, Nat.reduceEqDiff, Nat.reduceAdd, Nat.reduceSub, Nat.reduceLeDiff, Nat.zero_add, Nat.sub_zero, decide_eq_true he, f0, f1, f5, wrap64_in]
        refine InvQ_go (ns.length - (i + 1)) (by omega) ⟨i + 1, rfl, by omega, f0, f1, rfl, rfl, fun j hj' => ?_⟩
        rcases Nat.lt_succ_iff_lt_or_eq.1 hj' with hj' | rfl
        · exact hj j hj'
        · exact he
      · try simp (maxSteps := 3000000) (disch := first | omega | (simp only [len_new, len_put, len_kill]; omega)) only [↓xpre, xpost, ↓reduceIte, Nat.reduceEqDiff, Nat.reduceAdd, Nat.reduceSub, Nat.reduceLeDiff, Nat.zero_add, Nat.sub_zero, decide_eq_false he, f0, f1, f5]
        have : ns ≠ ms := fun e => he (by rw [e])
        simpa [this] using hQ
    · try simp (maxSteps := 3000000) (disch := first | omega | (simp only [len_new, len_put, len_kill]; omega)) only [↓xpre, xpost, ↓reduceIte, Nat.reduceEqDiff, Nat.reduceAdd, Nat.reduceSub, Nat.reduceLeDiff, Nat.zero_add, Nat.sub_zero, f0, f1, f5]
      have : ns = ms := by
        refine List.ext_getElem? fun j => ?_
        by_cases h1 : j < ns.length
        · have := hj j (by omega)
          rw [List.getElem?_eq_getElem h1, List.getElem?_eq_getElem (by omega)]
          simpa [List.getD_eq_getElem?_getD, List.getElem?_eq_getElem h1, List.getElem?_eq_getElem (show j < ms.length by omega)] using this
        · rw [List.getElem?_eq_none (by omega), List.getElem?_eq_none (by omega)]
      simpa [this] using hQ
end Go.Proofs.Ytilpnbejpndgpaa.X

/- Copies of lists of lists. -/
set_option linter.unusedVariables false
set_option linter.unusedSimpArgs false
set_option maxRecDepth 20000
set_option maxHeartbeats 4000000
namespace Go.Proofs.Ytilpnbejpndgpaa.X
open Go Go.RowKit

theorem set_getD' {α : Type} {l : List α} {i j : Nat} {x d : α} (hi : i < l.length) : (l.set i x).getD j d = if j = i then x else l.getD j d := by
  rw [List.getD_eq_getElem?_getD, List.getD_eq_getElem?_getD, List.getElem?_set]
  by_cases h : i = j
  · subst h
    simp [hi]
  · rw [if_neg h, if_neg (fun e => h e.symm)]
theorem splice_set {l : List Value} {j : Nat} {x : Value} (hj : j < l.length) : splice l j [x] = l.set j x := by
  unfold splice
  rw [List.set_eq_take_append_cons_drop, if_pos hj]
  simp
theorem zrep_len {z : Value} : ∀ n, (zrep n [z]).length = n
  | 0 => rfl
  | n + 1 => by simp [zrep, zrep_len n]

/-- A list of lists of one's own, or nil: each row has a block for itself. -/
def OwnRows (h0 h : AH) (v : Value) (rows : List (List Int)) : Prop :=
  (v = .slice none 0 0 ∧ rows = []) ∨
  ∃ n e full cs, h0.length ≤ n ∧ v = .slice (some ⟨n, 0, none⟩) cs.length 1 ∧ h.get n = some ⟨cs, e, false, full⟩ ∧ cs.length = rows.length ∧
    (∀ i, i < rows.length → OwnR h0 h (cs.getD i undef) (rows.getD i []) ∧ blkOf (cs.getD i undef) ≠ some n) ∧
    ∀ i j, i < j → j < rows.length → ∀ b, blkOf (cs.getD i undef) = some b → blkOf (cs.getD j undef) ≠ some b
theorem OwnRows.rows {h0 h : AH} {v : Value} {rows : List (List Int)} (o : OwnRows h0 h v rows) : Rows h v rows := by
  rcases o with ⟨rfl, rfl⟩ | ⟨n, e, full, cs, h1, rfl, h2, h3, h4, h5⟩
  · exact ⟨[], .inl ⟨rfl, 0, by omega, rfl⟩, rfl, fun i hi => by simp at hi⟩
  · refine ⟨cs, .inr ⟨n, 0, _, rfl, h2, by simp, fun i hi => ?_⟩, h3, fun i hi => (h4 i hi).1.ints⟩
    rw [Nat.zero_add, List.getD_eq_getElem?_getD, List.getElem?_eq_getElem hi]
    rfl
theorem OwnRows.pre {h0 h h' : AH} {v : Value} {rows : List (List Int)} (o : OwnRows h0 h v rows) (p : h <+: h') : OwnRows h0 h' v rows := by
  rcases o with ⟨rfl, rfl⟩ | ⟨n, e, full, cs, h1, rfl, h2, h3, h4, h5⟩
  · exact .inl ⟨rfl, rfl⟩
  · exact .inr ⟨n, e, full, cs, h1, rfl, pre_get p h2, h3, fun i hi => ⟨(h4 i hi).1.pre p, (h4 i hi).2⟩, h5⟩

theorem l_toInt64SS {v : Value} {rows : List (List Int)} {h : AH} {Q : Value → AH → Prop} (hv : Rows h v rows) (hl : (rows.length : Int) ≤ 1048576) (hl' : ∀ i, i < rows.length → ((rows.getD i []).length : Int) ≤ 1048576)
    (hQ : ∀ v' h', h <+: h' → OwnRows h h' v' rows → Q v' h') : WF S 43 [v] h Q := by
  refine WF_fn (fn := c43) rfl rfl ?_
  unfold c43
  obtain ⟨cs, hv, hcl, hr⟩ := hv
  try simp (maxSteps := 3000000) (disch := first | omega | (simp only [len_new, len_put, len_kill]; omega)) only [↓xpre, xpost, ↓reduceIte, Nat.reduceEqDiff, Nat.reduceAdd, Nat.reduceSub, Nat.reduceLeDiff, Nat.zero_add, Nat.sub_zero, hv.len, hcl]
  refine ⟨by omega, ?_⟩
  generalize hH : AH.new h _ = H
  obtain ⟨hb, hp, hlen⟩ := new_facts hH
  rw [Int.toNat_natCast] at hb
  have hz := zrep_len (z := .slice none 0 0) rows.length
  refine WC_loop_inv (fun m f h1 => ∃ (i : Nat) (ds : List Value), m = rows.length - i ∧ i ≤ rows.length ∧ f 0 = v ∧ f 3 = .slice (some ⟨h.length, 0, none⟩) rows.length 1 ∧ f 4 = I64 i ∧ OwnB h1 h.length ds true ∧ h <+: h1 ∧ ds.length = rows.length ∧
    (∀ j, j < i → OwnR H h1 (ds.getD j undef) (rows.getD j [])) ∧ ∀ j k, j < k → k < i → ∀ b, blkOf (ds.getD j undef) = some b → blkOf (ds.getD k undef) ≠ some b) ?_ rows.length _ _
    ⟨0, _, rfl, Nat.zero_le _, rfl, by simp [upd_apply], rfl, ⟨_, hb⟩, hp, hz, by omega, by omega⟩
  rintro m f h1 ⟨i, ds, rfl, hi, f0, f3, f4, ⟨e, hg⟩, ph, hdl, hown, hdis⟩
  have hv1 := hv.pre ph
  have lH := get_lt hg
  try simp (maxSteps := 3000000) (disch := first | omega | (simp only [len_new, len_put, len_kill]; omega)) only [↓xpre, xpost, ↓reduceIte, Nat.reduceEqDiff, Nat.reduceAdd, Nat.reduceSub, Nat.reduceLeDiff, Nat.zero_add, Nat.sub_zero, f0, f3, f4, hv1.len, hcl, IfW_dec]
  refine ⟨fun hlt => ?_, fun hge => ?_⟩
  · have hi' : i < rows.length := by omega
    have hix := hv1.ix (k := .i64) (j := i) (by omega) (by omega)
    have hrd := hv1.rd (j := i) (by omega) (by omega)
    try simp (maxSteps := 3000000) (disch := first | omega | (simp only [len_new, len_put, len_kill]; omega)) only [↓xpre, xpost, ↓reduceIte, Nat.reduceEqDiff, Nat.reduceAdd, Nat.reduceSub, Nat.reduceLeDiff, Nat.zero_add, Nat.sub_zero, f0, f3, f4, hix, hrd, Int.toNat_natCast]
    refine l_toInt64S ((hr i hi').pre ph) (hl' i hi') fun v' h2 p2 o => ?_
    have hg2 := pre_get p2 hg
    have ob := o.ownR.blk
    try simp (maxSteps := 3000000) (disch := first | omega | (simp only [len_new, len_put, len_kill]; omega)) only [↓xpre, xpost, ↓reduceIte, Nat.reduceEqDiff, Nat.reduceAdd, Nat.reduceSub, Nat.reduceLeDiff, Nat.zero_add, Nat.sub_zero, f0, f3, f4, ixsV_some, o.ints.one, o.ints.cells, wr_of hg2, wrap64_in]
    refine ⟨⟨by omega, hlt⟩, by have := Int.toNat_natCast i; omega, ?_⟩
    have en : ∀ j k : Nat, j < k → k < i + 1 → (k < i ∨ (k = i ∧ j < i)) := fun j k _ _ => by omega
    have blks : ∀ j, j < i → ∀ b, blkOf (ds.getD j undef) = some b → H.length ≤ b ∧ b < h1.length := fun j hj b hb => (hown j hj).blk b hb
    refine InvQ_go (rows.length - (i + 1)) (by omega) ⟨i + 1, ds.set i v', rfl, by omega, f0, f3, rfl, ⟨e, ?_⟩, pre_put (ph.trans p2) (Nat.le_refl _), by rw [List.length_set]; exact hdl, fun j hj => ?_, fun j k hjk hk b hb => ?_⟩
    · rw [get_put_same (get_lt hg2)]
      have e1 : ((i : Int).toNat * 1) = i := by omega
      simp only [e1, Nat.zero_add]
      rw [splice_set (by omega)]
    · rw [set_getD' (by omega)]
      split
      · rename_i ej
        subst ej
        exact (o.ownR.put_ne (by omega)).lo (by omega)
      · exact ((hown j (by omega)).pre p2).put_ne (by omega)
    · rw [set_getD' (by omega)] at hb ⊢
      rw [if_neg (by omega)] at hb
      split
      · intro e2
        have q1 := blks j (by omega) b hb
        have q2 := ob b e2
        omega
      · exact hdis j k hjk (by omega) b hb
  · have ei : i = rows.length := by omega
    subst ei
    try simp (maxSteps := 3000000) (disch := first | omega | (simp only [len_new, len_put, len_kill]; omega)) only [↓xpre, xpost, ↓reduceIte, Nat.reduceEqDiff, Nat.reduceAdd, Nat.reduceSub, Nat.reduceLeDiff, Nat.zero_add, Nat.sub_zero, f0, f3, f4]
    refine hQ _ _ ph (.inr ⟨h.length, e, true, ds, Nat.le_refl _, by rw [hdl], hg, hdl, fun j hj => ⟨(hown j hj).lo (by omega), fun eb => ?_⟩, hdis⟩)
    have := (hown j hj).blk _ eb
    omega
end Go.Proofs.Ytilpnbejpndgpaa.X

/- Numbers modulo a prime: lists, remainders, inverses; matrices. -/
set_option linter.unusedVariables false
set_option linter.unusedSimpArgs false
set_option maxRecDepth 20000
set_option maxHeartbeats 4000000
namespace Go.Proofs.Ytilpnbejpndgpaa.X
open Go Go.RowKit

def md (p x : Int) : Int := (x.tmod p + p).tmod p
theorem tmod_bound {x p : Int} (hp : 2 ≤ p) : -p < x.tmod p ∧ x.tmod p < p := by
  have h1 := Int.tmod_lt_of_pos x (show 0 < p by omega)
  have h2 := Int.tmod_lt_of_pos (-x) (show 0 < p by omega)
  rw [Int.neg_tmod] at h2
  omega
theorem tmod_nn {a J : Int} (ha : 0 ≤ a) (hJ : 1 ≤ J) : 0 ≤ a.tmod J ∧ a.tmod J < J := by
  rw [Int.tmod_eq_emod_of_nonneg ha]
  exact ⟨Int.emod_nonneg _ (by omega), Int.emod_lt_of_pos _ (by omega)⟩
theorem md_in {x p : Int} (hp : 2 ≤ p) : 0 ≤ md p x ∧ md p x < p := by
  have := tmod_bound (x := x) hp
  exact tmod_nn (by omega) (by omega)
theorem md_small {x p : Int} (hx : 0 ≤ x ∧ x < p) : md p x = x := by
  unfold md
  rw [Int.tmod_eq_of_lt hx.1 hx.2, Int.tmod_eq_emod_of_nonneg (by omega), Int.add_emod_right, Int.emod_eq_of_lt hx.1 hx.2]
theorem s_l01Mod {p x : Int} {h : AH} {Q : Value → AH → Prop} (hp : 2 ≤ p ∧ p ≤ 5) (hQ : Q (I64 (md p x)) h) : WF S 146 [I64 p, I64 x] h Q := by
  refine WF_fn (fn := c146) rfl rfl ?_
  unfold c146
  have := tmod_bound (x := x) hp.1
  try simp (maxSteps := 3000000) (disch := first | omega | (simp only [len_new, len_put, len_kill]; omega)) only [↓xpre, xpost, ↓reduceIte, Nat.reduceEqDiff, Nat.reduceAdd, Nat.reduceSub, Nat.reduceLeDiff, Nat.zero_add, Nat.sub_zero, bin_rem, wrap64_in]
  exact hQ

/-- w is the least inverse. -/
def IsInv (p n w : Int) : Prop := 1 ≤ w ∧ w < p ∧ (w * n).tmod p = 1 ∧ ∀ k, 1 ≤ k → k < w → (k * n).tmod p ≠ 1
theorem inv_is {p n : Int} (hp : isP p = true) (hn : 1 ≤ n ∧ n < p) : ∃ w, IsInv p n w := by
  have hpp : p = 2 ∨ p = 3 ∨ p = 5 := by simpa [isP] using hp
  have one : IsInv p 1 1 → n = 1 → ∃ w, IsInv p n w := fun h e => ⟨1, by rw [e]; exact h⟩
  have hcase : (n = 1) ∨ (p = 3 ∧ n = 2) ∨ (p = 5 ∧ n = 2) ∨ (p = 5 ∧ n = 3) ∨ (p = 5 ∧ n = 4) := by omega
  rcases hcase with rfl | ⟨rfl, rfl⟩ | ⟨rfl, rfl⟩ | ⟨rfl, rfl⟩ | ⟨rfl, rfl⟩
  · refine ⟨1, by omega, by omega, ?_, fun k h1 h2 => by omega⟩
    exact Int.tmod_eq_of_lt (by omega) (by omega)
  · refine ⟨2, by omega, by omega, by decide, fun k h1 h2 => ?_⟩
    have : k = 1 := by omega
    subst this
    decide
  · refine ⟨3, by omega, by omega, by decide, fun k h1 h2 => ?_⟩
    have : k = 1 ∨ k = 2 := by omega
    rcases this with rfl | rfl <;> decide
  · refine ⟨2, by omega, by omega, by decide, fun k h1 h2 => ?_⟩
    have : k = 1 := by omega
    subst this
    decide
  · refine ⟨4, by omega, by omega, by decide, fun k h1 h2 => ?_⟩
    have : k = 1 ∨ k = 2 ∨ k = 3 := by omega
    rcases this with rfl | rfl | rfl <;> decide

theorem s_l01Inverse {p n w : Int} {h : AH} {Q : Value → AH → Prop} (hp : 2 ≤ p ∧ p ≤ 5) (hn : 1 ≤ n ∧ n < p) (hw : IsInv p n w) (hQ : Q (I64 w) h) : WF S 116 [I64 p, I64 n] h Q := by
  refine WF_fn (fn := c116) rfl rfl ?_
  unfold c116
  try simp (maxSteps := 3000000) (disch := first | omega | (simp only [len_new, len_put, len_kill]; omega)) only [↓xpre, xpost, ↓reduceIte, Nat.reduceEqDiff, Nat.reduceAdd, Nat.reduceSub, Nat.reduceLeDiff, Nat.zero_add, Nat.sub_zero]
  obtain ⟨w1, w2, w3, w4⟩ := hw
  refine WC_loop_inv (fun m f h1 => ∃ k : Int, m = (w - k).toNat ∧ (1 ≤ k ∧ k ≤ w) ∧ f 0 = I64 p ∧ f 1 = I64 n ∧ f 5 = I64 k ∧ h1 = h) ?_ (w - 1).toNat _ _ ⟨1, rfl, by omega, rfl, rfl, rfl, rfl⟩
  rintro m f h1 ⟨k, rfl, hk, f0, f1, f5, rfl⟩
  try simp (maxSteps := 3000000) (disch := first | omega | (simp only [len_new, len_put, len_kill]; omega)) only [↓xpre, xpost, ↓reduceIte, Nat.reduceEqDiff, Nat.reduceAdd, Nat.reduceSub, Nat.reduceLeDiff, Nat.zero_add, Nat.sub_zero, f0, f1, f5, IfW_dec]
  refine ⟨fun hlt => ?_, fun hge => by omega⟩
  refine s_l01Mod hp ?_
  rw [md_small (by omega)]
  have b := mul_in (a := k) (b := n) (A := 5) (B := 5) (by omega) (by omega)
  try simp (maxSteps := 3000000) (disch := first | omega | (simp only [len_new, len_put, len_kill]; omega)) only [↓xpre, xpost, ↓reduceIte, Nat.reduceEqDiff, Nat.reduceAdd, Nat.reduceSub, Nat.reduceLeDiff, Nat.zero_add, Nat.sub_zero, f0, f1, f5, wrap64_in, bin_rem, IfW_dec]
  refine ⟨fun he => ?_, fun he => ?_⟩
  · have : k = w := Decidable.byContradiction fun hne => w4 k hk.1 (by omega) he
    subst this
    exact hQ
  · have : k ≠ w := fun e => he (by rw [e]; exact w3)
    try simp (maxSteps := 3000000) (disch := first | omega | (simp only [len_new, len_put, len_kill]; omega)) only [↓xpre, xpost, ↓reduceIte, Nat.reduceEqDiff, Nat.reduceAdd, Nat.reduceSub, Nat.reduceLeDiff, Nat.zero_add, Nat.sub_zero, f0, f1, f5, wrap64_in]
    exact InvQ_go (w - (k + 1)).toNat (by omega) ⟨k + 1, rfl, by omega, f0, f1, rfl, rfl⟩

theorem i_inverse {p n w : Int} {h : AH} {Q : Value → AH → Prop} (hp : 2 ≤ p ∧ p ≤ 5) (hn : 1 ≤ n ∧ n < p) (hw : IsInv p n w) (hQ : Q (I64 w) h) : WF S 71 [I64 p, I64 n] h Q := by
  refine WF_fn (fn := c71) rfl rfl ?_
  unfold c71
  try simp (maxSteps := 3000000) (disch := first | omega | (simp only [len_new, len_put, len_kill]; omega)) only [↓xpre, xpost, ↓reduceIte, Nat.reduceEqDiff, Nat.reduceAdd, Nat.reduceSub, Nat.reduceLeDiff, Nat.zero_add, Nat.sub_zero]
  obtain ⟨w1, w2, w3, w4⟩ := hw
  refine WC_loop_inv (fun m f h1 => ∃ k : Int, m = (w - k).toNat ∧ (1 ≤ k ∧ k ≤ w) ∧ f 0 = I64 p ∧ f 1 = I64 n ∧ f 5 = I64 k ∧ h1 = h) ?_ (w - 1).toNat _ _ ⟨1, rfl, by omega, rfl, rfl, rfl, rfl⟩
  rintro m f h1 ⟨k, rfl, hk, f0, f1, f5, rfl⟩
  have b := mul_in (a := k) (b := n) (A := 5) (B := 5) (by omega) (by omega)
  try simp (maxSteps := 3000000) (disch := first | omega | (simp only [len_new, len_put, len_kill]; omega)) only [↓xpre, xpost, ↓reduceIte, Nat.reduceEqDiff, Nat.reduceAdd, Nat.reduceSub, Nat.reduceLeDiff, Nat.zero_add, Nat.sub_zero, f0, f1, f5, wrap64_in, bin_rem, IfW_dec]
  refine ⟨fun he => ?_, fun he => ?_⟩
  · have : k = w := Decidable.byContradiction fun hne => w4 k hk.1 (by omega) he
    subst this
    exact hQ
  · have : k ≠ w := fun e => he (by rw [e]; exact w3)
    try simp (maxSteps := 3000000) (disch := first | omega | (simp only [len_new, len_put, len_kill]; omega)) only [↓xpre, xpost, ↓reduceIte, Nat.reduceEqDiff, Nat.reduceAdd, Nat.reduceSub, Nat.reduceLeDiff, Nat.zero_add, Nat.sub_zero, f0, f1, f5, wrap64_in]
    exact InvQ_go (w - (k + 1)).toNat (by omega) ⟨k + 1, rfl, by omega, f0, f1, rfl, rfl⟩
end Go.Proofs.Ytilpnbejpndgpaa.X

/- Matrices modulo a prime: the test; copies of one list. -/
set_option linter.unusedVariables false
set_option linter.unusedSimpArgs false
set_option maxRecDepth 20000
set_option maxHeartbeats 4000000
namespace Go.Proofs.Ytilpnbejpndgpaa.X
open Go Go.RowKit

def isMat (p cols : Int) (rows : List (List Int)) : Bool := rows.all fun r => decide ((r.length : Int) = cols) && allIn p r
theorem isMat_iff {p cols : Int} {rows : List (List Int)} : isMat p cols rows = true ↔ ∀ j, j < rows.length → ((rows.getD j []).length : Int) = cols ∧ allIn p (rows.getD j []) = true := by
  simp only [isMat, List.all_eq_true, Bool.and_eq_true, decide_eq_true_eq]
  constructor
  · intro h j hj
    exact h _ (by simp [List.getD_eq_getElem?_getD, List.getElem?_eq_getElem hj])
  · intro h x hx
    obtain ⟨j, hj, rfl⟩ := List.mem_iff_getElem.1 hx
    have := h j hj
    simpa [List.getD_eq_getElem?_getD, List.getElem?_eq_getElem hj] using this
theorem isMat_no {p cols : Int} {rows : List (List Int)} {j : Nat} (hj : j < rows.length) (h : ¬ (((rows.getD j []).length : Int) = cols ∧ allIn p (rows.getD j []) = true)) : isMat p cols rows = false := by
  cases ha : isMat p cols rows with
  | false => rfl
  | true => exact (h (isMat_iff.1 ha j hj)).elim

theorem i_isMatrix {v : Value} {rows : List (List Int)} {p n cols : Int} {h : AH} {Q : Value → AH → Prop} (hv : Rows h v rows) (hl : (rows.length : Int) ≤ 1048576) (hl' : ∀ i, i < rows.length → ((rows.getD i []).length : Int) ≤ 1048576)
    (hQ : Q (.bool (isMat p cols rows && decide ((rows.length : Int) = n))) h) : WF S 128 [I64 p, I64 n, I64 cols, v] h Q := by
  refine WF_fn (fn := c128) rfl rfl ?_
  unfold c128
  obtain ⟨cs, hv, hcl, hr⟩ := hv
  try simp (maxSteps := 3000000) (disch := first | omega | (simp only [len_new, len_put, len_kill]; omega)) only [↓xpre, xpost, ↓reduceIte, Nat.reduceEqDiff, Nat.reduceAdd, Nat.reduceSub, Nat.reduceLeDiff, Nat.zero_add, Nat.sub_zero, hv.len, hcl]
  refine WC_loop_inv (fun m f h1 => ∃ i : Nat, m = rows.length - i ∧ i ≤ rows.length ∧ f 0 = I64 p ∧ f 1 = I64 n ∧ f 2 = I64 cols ∧ f 3 = v ∧ f 11 = v ∧ f 12 = I64 rows.length ∧ f 13 = I64 i ∧ h1 = h ∧
    ∀ j, j < i → ((rows.getD j []).length : Int) = cols ∧ allIn p (rows.getD j []) = true) ?_ rows.length _ _ ⟨0, rfl, Nat.zero_le _, rfl, rfl, rfl, rfl, rfl, rfl, rfl, rfl, by omega⟩
  rintro m f h1 ⟨i, rfl, hi, f0, f1, f2, f3, f11, f12, f13, rfl, hj⟩
  try simp (maxSteps := 3000000) (disch := first | omega | (simp only [len_new, len_put, len_kill]; omega)) only [↓xpre, xpost, ↓reduceIte, Nat.reduceEqDiff, Nat.reduceAdd, Nat.reduceSub, Nat.reduceLeDiff, Nat.zero_add, Nat.sub_zero, f0, f1, f2, f3, f11, f12, f13, IfW_dec]
  refine ⟨fun hlt => ?_, fun hge => ?_⟩
  · have hi' : i < rows.length := by omega
    have hix := hv.ix (k := .i64) (j := i) (by omega) (by omega)
    have hrd := hv.rd (j := i) (by omega) (by omega)
    have hri := hr i hi'
    try simp (maxSteps := 3000000) (disch := first | omega | (simp only [len_new, len_put, len_kill]; omega)) only [↓xpre, xpost, ↓reduceIte, Nat.reduceEqDiff, Nat.reduceAdd, Nat.reduceSub, Nat.reduceLeDiff, Nat.zero_add, Nat.sub_zero, f0, f1, f2, f3, f11, f12, f13, hix, hrd, Int.toNat_natCast, hri.len]
    by_cases h1 : ((rows.getD i []).length : Int) = cols
    · try simp (maxSteps := 3000000) (disch := first | omega | (simp only [len_new, len_put, len_kill]; omega)) only [↓xpre, xpost, ↓reduceIte, Nat.reduceEqDiff, Nat.reduceAdd, Nat.reduceSub, Nat.reduceLeDiff, Nat.zero_add, Nat.sub_zero, decide_eq_false (show ¬ (((rows.getD i []).length : Int) ≠ cols) from fun h => h h1), f0, f1, f2, f3, f11, f12, f13]
      refine i_areNumbers hri (hl' i hi') ?_
      cases h2 : allIn p (rows.getD i []) with
      | true =>
        try simp (maxSteps := 3000000) (disch := first | omega | (simp only [len_new, len_put, len_kill]; omega)) only [↓xpre, xpost, ↓reduceIte, Nat.reduceEqDiff, Nat.reduceAdd, Nat.reduceSub, Nat.reduceLeDiff, Nat.zero_add, Nat.sub_zero, f0, f1, f2, f3, f11, f12, f13, wrap64_in]
        refine InvQ_go (rows.length - (i + 1)) (by omega) ⟨i + 1, rfl, by omega, f0, f1, f2, f3, f11, f12, rfl, rfl, fun j hj' => ?_⟩
        rcases Nat.lt_succ_iff_lt_or_eq.1 hj' with hj' | rfl
        · exact hj j hj'
        · exact ⟨h1, h2⟩
      | false =>
        try simp (maxSteps := 3000000) (disch := first | omega | (simp only [len_new, len_put, len_kill]; omega)) only [↓xpre, xpost, ↓reduceIte, Nat.reduceEqDiff, Nat.reduceAdd, Nat.reduceSub, Nat.reduceLeDiff, Nat.zero_add, Nat.sub_zero]
        rw [isMat_no hi' (by rw [h2]; simp)] at hQ
        exact hQ
    · try simp (maxSteps := 3000000) (disch := first | omega | (simp only [len_new, len_put, len_kill]; omega)) only [↓xpre, xpost, ↓reduceIte, Nat.reduceEqDiff, Nat.reduceAdd, Nat.reduceSub, Nat.reduceLeDiff, Nat.zero_add, Nat.sub_zero, decide_eq_true (show ((rows.getD i []).length : Int) ≠ cols from h1)]
      rw [isMat_no hi' (fun h => h1 h.1)] at hQ
      exact hQ
  · try simp (maxSteps := 3000000) (disch := first | omega | (simp only [len_new, len_put, len_kill]; omega)) only [↓xpre, xpost, ↓reduceIte, Nat.reduceEqDiff, Nat.reduceAdd, Nat.reduceSub, Nat.reduceLeDiff, Nat.zero_add, Nat.sub_zero, f0, f1, f2, f3, f11, f12, f13, hv.len, hcl]
    rw [isMat_iff.2 (fun j hj' => hj j (by omega)), Bool.true_and] at hQ
    exact hQ
end Go.Proofs.Ytilpnbejpndgpaa.X

/- Copies by append onto an empty slice: slices.Clone. -/
set_option linter.unusedVariables false
set_option linter.unusedSimpArgs false
set_option maxRecDepth 20000
set_option maxHeartbeats 4000000
namespace Go.Proofs.Ytilpnbejpndgpaa.X
open Go Go.RowKit

def isnilV (neg : Bool) (x : Value) : Option Value := match x with
  | .slice none 0 0 => some (.bool (!neg))
  | .slice (some _) _ _ => some (.bool neg)
  | _ => none
theorem isnilV_some {neg : Bool} {a : Addr} {n c : Nat} : isnilV neg (.slice (some a) n c) = some (.bool neg) := rfl
theorem WX_isnil {S : XS} {f : Fr} {h : AH} {Q : Value → AH → Prop} {neg : Bool} {x : Operand} : WX S (.isnil neg x) f h Q = WV (isnilV neg (ev f x)) fun v => Q v h := by
  rw [WX_op (fun _ => rfl)]
  have : xop (.isnil neg x) f h = (isnilV neg (ev f x)).map (·, h) := by
    simp only [xop, isnilV]
    split <;> simp_all
  rw [this]
  cases isnilV neg (ev f x) <;> simp [OQ_some, WV_some, OQ_none, WV_none]

theorem Ints.vals {h : AH} {v : Value} {ns : List Int} (hv : Ints h v ns) : Vals h v (ns.map (Value.int .i64)) := by
  rcases hv with ⟨rfl, t, ht, rfl⟩ | ⟨b, off, blk, rfl, h2, h3, h4⟩
  · exact .inl ⟨rfl, t, ht, rfl⟩
  · refine .inr ⟨b, off, blk, by simp, h2, by simpa using h3, fun i hi => ?_⟩
    have hi' : i < ns.length := by simpa using hi
    rw [h4 i hi']
    simp [List.getD_eq_getElem?_getD, List.getElem?_map, List.getElem?_eq_getElem hi']
theorem Vals.rdn {h : AH} {v : Value} {cs : List Value} (hv : Vals h v cs) (h0 : 0 < cs.length) : ∃ n off, v = .slice (some ⟨n, off, none⟩) cs.length 1 ∧ h.rdn n off cs.length = some cs := by
  rcases hv with ⟨rfl, t, _, rfl⟩ | ⟨b, off, blk, rfl, h2, h3, h4⟩
  · simp at h0
  · refine ⟨b, off, rfl, ?_⟩
    rw [rdn_of h2, if_pos h3]
    congr 1
    refine List.ext_getElem? fun j => ?_
    by_cases hj : j < cs.length
    · rw [List.getElem?_take, if_pos hj, List.getElem?_drop, h4 j hj, List.getD_eq_getElem?_getD, List.getElem?_eq_getElem hj]
      rfl
    · rw [List.getElem?_eq_none (by simp; omega), List.getElem?_eq_none (by omega)]
theorem app_zero {e : TypeId} {bytes : Nat} {h : AH} {k n' off m : Nat} {news : List Value} {full : Bool} (hk : h.get k = some ⟨[], e, false, full⟩) (hn : h.rdn n' off m = some news) (hm : 0 < m)
    (hs : (m : Int) * bytes ≤ 140737488355328 ∧ (m : Int) ≤ 9223372036854775807) :
    appV e 1 bytes (.slice (some ⟨k, 0, none⟩) 0 1) (.slice (some ⟨n', off, none⟩) m 1) h = some (.slice (some ⟨h.length, 0, none⟩) m 1, (h.kill k).new ⟨news, e, false, false⟩) := by
  simp only [appV, xop, ev, if_true, Nat.mul_one, hn, hk]
  rw [if_pos (by simpa using hs), if_neg (by omega)]
  simp

theorem OwnR.of {h0 h : AH} {v : Value} {ns : List Int} {n : Nat} {e : TypeId} {full : Bool} (h1 : h0.length ≤ n) (e1 : v = .slice (some ⟨n, 0, none⟩) ns.length 1) (hb : h.get n = some ⟨ns.map (Value.int .i64), e, false, full⟩) : OwnR h0 h v ns := .inr ⟨n, e, full, h1, e1, hb⟩
end Go.Proofs.Ytilpnbejpndgpaa.X

/- Elimination, plainly. -/
set_option linter.unusedVariables false
set_option linter.unusedSimpArgs false
set_option maxRecDepth 20000
set_option maxHeartbeats 4000000
namespace Go.Proofs.Ytilpnbejpndgpaa.X
open Go Go.RowKit

theorem Ints.put_ne {h : AH} {v : Value} {ns : List Int} {n : Nat} {b : Blk} (hv : Ints h v ns) (hn : blkOf v ≠ some n) : Ints (h.put n b) v ns := by
  rcases hv with hv | ⟨m, off, blk, rfl, h2, h3, h4⟩
  · exact .inl hv
  · exact .inr ⟨m, off, blk, rfl, by rw [get_put_ne (fun e => hn (by rw [e]; rfl))]; exact h2, h3, h4⟩
theorem Ints.kill_ne {h : AH} {v : Value} {ns : List Int} {n : Nat} (hv : Ints h v ns) (hn : blkOf v ≠ some n) : Ints (h.kill n) v ns := by
  rcases hv with hv | ⟨m, off, blk, rfl, h2, h3, h4⟩
  · exact .inl hv
  · exact .inr ⟨m, off, blk, rfl, by rw [get_kill_ne (fun e => hn (by rw [e]; rfl))]; exact h2, h3, h4⟩
theorem Ints.lt {h : AH} {v : Value} {ns : List Int} (hv : Ints h v ns) : ∀ n, blkOf v = some n → n < h.length := by
  intro n hn
  rcases hv with ⟨_, t, _, rfl⟩ | ⟨m, off, blk, rfl, h2, h3, h4⟩
  · cases hn
  · cases hn
    exact get_lt h2

/-- A number of a table. -/
def tb (T : List (List Int)) (i c : Nat) : Int := (T.getD i []).getD c 0
open Classical in
noncomputable def invN (p n : Int) : Int := if h : ∃ w, IsInv p n w then Classical.choose h else 0
/-- The first row from r on whose number in column c is other than 0; else the number of rows. -/
def pivot (T : List (List Int)) (c : Nat) : Nat → Nat → Nat
  | 0, r => r
  | m + 1, r => if tb T r c = 0 then pivot T c m (r + 1) else r
noncomputable def rowOp (p : Int) (own row : List Int) (c : Nat) : List Int :=
  gen row.length fun l => md p (row.getD l 0 - (row.getD c 0 * invN p (own.getD c 0)).tmod p * own.getD l 0)
def swapped (T : List (List Int)) (r i : Nat) : List (List Int) := (T.set i (T.getD r [])).set r (T.getD i [])
/-- The rows behind r, changed as far as k. -/
noncomputable def swept (p : Int) (T : List (List Int)) (r c k : Nat) : List (List Int) :=
  (List.range T.length).map fun j => if r < j ∧ j < k then rowOp p (T.getD r []) (T.getD j []) c else T.getD j []
noncomputable def colStep (p : Int) (T : List (List Int)) (r c : Nat) : List (List Int) × Nat :=
  if pivot T c (T.length - r) r = T.length then (T, r) else (swept p (swapped T r (pivot T c (T.length - r) r)) r c T.length, r + 1)
noncomputable def elim : Int → List (List Int) → Nat → Nat → Nat → Nat
  | p, T, r, c, 0 => r
  | p, T, r, c, m + 1 => elim p (colStep p T r c).1 (colStep p T r c).2 (c + 1) m
/-- A table of rows of one width, of numbers modulo p. -/
def Good (p : Int) (T : List (List Int)) (w : Nat) : Prop := ∀ i, i < T.length → (T.getD i []).length = w ∧ ∀ l, l < w → 0 ≤ tb T i l ∧ tb T i l < p

theorem pivot_le {T : List (List Int)} {c : Nat} : ∀ {m r : Nat}, r ≤ pivot T c m r ∧ pivot T c m r ≤ r + m
  | 0, r => by simp [pivot]
  | m + 1, r => by
    unfold pivot
    split
    · have := pivot_le (T := T) (c := c) (m := m) (r := r + 1)
      omega
    · omega
theorem swept_len {p : Int} {T : List (List Int)} {r c k : Nat} : (swept p T r c k).length = T.length := by simp [swept]
theorem swept_get {p : Int} {T : List (List Int)} {r c k j : Nat} (hj : j < T.length) : (swept p T r c k).getD j [] = if r < j ∧ j < k then rowOp p (T.getD r []) (T.getD j []) c else T.getD j [] := by
  simp [swept, List.getD_eq_getElem?_getD, List.getElem?_map, List.getElem?_range hj]
theorem getD_ext {T T' : List (List Int)} (hl : T.length = T'.length) (h : ∀ j, j < T.length → T.getD j [] = T'.getD j []) : T = T' := by
  refine List.ext_getElem? fun j => ?_
  by_cases h1 : j < T.length
  · have := h j h1
    rw [List.getElem?_eq_getElem h1, List.getElem?_eq_getElem (by omega)]
    simpa [List.getD_eq_getElem?_getD, List.getElem?_eq_getElem h1, List.getElem?_eq_getElem (show j < T'.length by omega)] using this
  · rw [List.getElem?_eq_none (by omega), List.getElem?_eq_none (by omega)]
theorem swapped_len {T : List (List Int)} {r i : Nat} : (swapped T r i).length = T.length := by simp [swapped]
theorem swapped_get {T : List (List Int)} {r i j : Nat} (hr : r < T.length) (hi : i < T.length) : (swapped T r i).getD j [] = if j = r then T.getD i [] else if j = i then T.getD r [] else T.getD j [] := by
  unfold swapped
  rw [set_getD' (by simpa using hr)]
  split
  · rfl
  · rw [set_getD' hi]
theorem Good.swapped {p : Int} {T : List (List Int)} {w r i : Nat} (g : Good p T w) (hr : r < T.length) (hi : i < T.length) : Good p (swapped T r i) w := by
  intro j hj
  rw [swapped_len] at hj
  unfold tb
  rw [swapped_get hr hi]
  split
  · exact g i hi
  · split
    · exact g r hr
    · exact g j hj
theorem Good.swept {p : Int} {T : List (List Int)} {w r c k : Nat} (g : Good p T w) (hp : 2 ≤ p) : Good p (swept p T r c k) w := by
  intro j hj
  rw [swept_len] at hj
  unfold tb
  rw [swept_get hj]
  split
  · unfold rowOp
    rw [gen_len, (g j hj).1]
    refine ⟨rfl, fun l hl => ?_⟩
    rw [gen_get hl]
    exact md_in hp
  · exact g j hj
theorem Good.colStep {p : Int} {T : List (List Int)} {w r c : Nat} (g : Good p T w) (hp : 2 ≤ p) (hr : r ≤ T.length) : Good p (colStep p T r c).1 w ∧ (colStep p T r c).1.length = T.length ∧ (colStep p T r c).2 ≤ T.length := by
  unfold X.colStep
  split
  · exact ⟨g, rfl, hr⟩
  · rename_i hne
    have h1 := pivot_le (T := T) (c := c) (m := T.length - r) (r := r)
    exact ⟨(g.swapped (by omega) (by omega)).swept hp, by rw [swept_len, swapped_len], by simp only; omega⟩
end Go.Proofs.Ytilpnbejpndgpaa.X

/- The rank of the reference. -/
set_option linter.unusedVariables false
set_option linter.unusedSimpArgs false
set_option maxRecDepth 20000
set_option maxHeartbeats 4000000
namespace Go.Proofs.Ytilpnbejpndgpaa.X
open Go Go.RowKit

/-- A list under way in a block of its own. -/
def WayF (h : AH) (lo : Nat) (sv : Value) (l : List Int) : Prop :=
  ∃ kb full, sv = .slice (some ⟨kb, 0, none⟩) l.length 1 ∧ lo ≤ kb ∧ h.get kb = some ⟨l.map (Value.int .i64), 2, false, full⟩
/-- What lies below a place stays. -/
def Keeps (lo : Nat) (h h' : AH) : Prop := h.length ≤ h'.length ∧ ∀ n b, n < lo → h.get n = some b → h'.get n = some b
theorem Ints.keeps {lo : Nat} {h h' : AH} {v : Value} {ns : List Int} (hv : Ints h v ns) (k : Keeps lo h h') (hb : ∀ n, blkOf v = some n → n < lo) : Ints h' v ns := by
  rcases hv with hv | ⟨m, off, blk, rfl, h2, h3, h4⟩
  · exact .inl hv
  · exact .inr ⟨m, off, blk, rfl, k.2 m blk (hb m rfl) h2, h3, h4⟩
theorem WayF.app {H : AH} {lo : Nat} {sv : Value} {l : List Int} {x : Int} {e : TypeId} {full : Bool} (w : WayF H lo sv l) (hl : (l.length : Int) ≤ 1048576) {Q : Value → AH → Prop}
    (hQ : ∀ sv' H', Keeps lo H H' → (∀ h0 : AH, h0.length ≤ lo → h0 <+: H → h0 <+: H') → WayF H' lo sv' (l ++ [x]) → Q sv' H') :
    OQ (appV 2 1 8 sv (.slice (some ⟨H.length, 0, none⟩) 1 1) (H.new ⟨[I64 x], e, false, full⟩)) Q := by
  have hn : (H.new ⟨[I64 x], e, false, full⟩).rdn H.length 0 1 = some [I64 x] := by rw [rdn_new_same]; rfl
  obtain ⟨kb, fu, rfl, h2, h3⟩ := w
  have hk : (H.new ⟨[I64 x], e, false, full⟩).get kb = some ⟨l.map (Value.int .i64), 2, false, fu⟩ := get_new_any h3
  have hkb := get_lt h3
  rw [app_own hk (by simp) hn (by omega), OQ_some]
  refine hQ _ _ ⟨by rw [len_new, len_kill, len_new]; omega, fun n b hn hb => get_new_any (by rw [get_kill_ne (by omega)]; exact get_new_any hb)⟩ (fun h0 q p => pre_new (pre_kill (pre_new p) (by omega))) ?_
  refine ⟨(H.new ⟨[I64 x], e, false, full⟩).length, false, by simp, by rw [len_new]; omega, ?_⟩
  rw [get_new_eq (by rw [len_kill])]
  simp

/-- The state of an elimination by new rows. -/
structure RankS (h0 h : AH) (n0 : Nat) (cs : List Value) (T : List (List Int)) : Prop where
  hp : h0 <+: h
  lo : h0.length ≤ n0
  g : OwnB h n0 cs false
  len : cs.length = T.length
  rows : ∀ i, i < T.length → Ints h (cs.getD i undef) (T.getD i []) ∧ blkOf (cs.getD i undef) ≠ some n0
theorem RankS.vals {h0 h : AH} {n0 : Nat} {cs : List Value} {T : List (List Int)} (s : RankS h0 h n0 cs T) : Vals h (.slice (some ⟨n0, 0, none⟩) T.length 1) cs := by
  obtain ⟨e, hg⟩ := s.g
  refine .inr ⟨n0, 0, _, by rw [s.len], hg, by simp, fun i hi => ?_⟩
  rw [Nat.zero_add, List.getD_eq_getElem?_getD, List.getElem?_eq_getElem hi]
  rfl
theorem RankS.lt {h0 h : AH} {n0 : Nat} {cs : List Value} {T : List (List Int)} (s : RankS h0 h n0 cs T) : n0 < h.length := s.g.choose_spec |> get_lt
theorem RankS.pre {h0 h h' : AH} {n0 : Nat} {cs : List Value} {T : List (List Int)} (s : RankS h0 h n0 cs T) (p : h <+: h') : RankS h0 h' n0 cs T := by
  obtain ⟨e, hg⟩ := s.g
  exact ⟨s.hp.trans p, s.lo, ⟨e, pre_get p hg⟩, s.len, fun i hi => ⟨(s.rows i hi).1.pre p, (s.rows i hi).2⟩⟩
theorem RankS.keeps {h0 h h' : AH} {n0 lo : Nat} {cs : List Value} {T : List (List Int)} (s : RankS h0 h n0 cs T) (k : Keeps lo h h') (hh : h0 <+: h') (h1 : n0 < lo) (h2 : ∀ i, i < T.length → ∀ n, blkOf (cs.getD i undef) = some n → n < lo) : RankS h0 h' n0 cs T := by
  obtain ⟨e, hg⟩ := s.g
  exact ⟨hh, s.lo, ⟨e, k.2 _ _ h1 hg⟩, s.len, fun i hi => ⟨(s.rows i hi).1.keeps k (h2 i hi), (s.rows i hi).2⟩⟩
/-- A row put in. -/
theorem RankS.put {h0 h : AH} {n0 : Nat} {cs : List Value} {T T' : List (List Int)} (s : RankS h0 h n0 cs T) {i : Nat} {x : Value} {r : List Int} {e : TypeId} (hi : i < T.length) (hT : T' = T.set i r)
    (hx : Ints h x r) (hb : blkOf x ≠ some n0) : RankS h0 (h.put n0 ⟨cs.set i x, e, false, false⟩) n0 (cs.set i x) T' := by
  subst hT
  have hlt := s.lt
  refine ⟨pre_put s.hp s.lo, s.lo, ⟨e, get_put_same hlt⟩, by simp [s.len], fun j hj => ?_⟩
  have hl := s.len
  rw [List.length_set] at hj
  rw [set_getD' (by omega), set_getD' hi]
  by_cases h : j = i
  · rw [if_pos h, if_pos h]
    exact ⟨hx.put_ne hb, hb⟩
  · rw [if_neg h, if_neg h]
    exact ⟨(s.rows j hj).1.put_ne (s.rows j hj).2, (s.rows j hj).2⟩
theorem RankS.blk {h0 h : AH} {n0 : Nat} {cs : List Value} {T : List (List Int)} (s : RankS h0 h n0 cs T) : ∀ i, i < T.length → ∀ n, blkOf (cs.getD i undef) = some n → n < h.length := fun i hi => (s.rows i hi).1.lt
end Go.Proofs.Ytilpnbejpndgpaa.X

/- The rank of the reference: the walk. -/
set_option linter.unusedVariables false
set_option linter.unusedSimpArgs false
set_option maxRecDepth 20000
set_option maxHeartbeats 4000000
namespace Go.Proofs.Ytilpnbejpndgpaa.X
open Go Go.RowKit

end Go.Proofs.Ytilpnbejpndgpaa.X

/- RowRank of the reference. -/
set_option linter.unusedVariables false
set_option linter.unusedSimpArgs false
set_option maxRecDepth 20000
set_option maxHeartbeats 4000000
namespace Go.Proofs.Ytilpnbejpndgpaa.X
open Go Go.RowKit

def width (rows : List (List Int)) : Nat := (rows.getD 0 []).length
end Go.Proofs.Ytilpnbejpndgpaa.X

/- slices.IndexFunc over rows. -/
set_option linter.unusedVariables false
set_option linter.unusedSimpArgs false
set_option maxRecDepth 20000
set_option maxHeartbeats 4000000
namespace Go.Proofs.Ytilpnbejpndgpaa.X
open Go Go.RowKit

end Go.Proofs.Ytilpnbejpndgpaa.X

/- RowRank of the program, out of its rank. -/
set_option linter.unusedVariables false
set_option linter.unusedSimpArgs false
set_option maxRecDepth 20000
set_option maxHeartbeats 4000000
namespace Go.Proofs.Ytilpnbejpndgpaa.X
open Go Go.RowKit

end Go.Proofs.Ytilpnbejpndgpaa.X

/- The program's rank: a table of rows that are blocks of their own, changed in place. -/
set_option linter.unusedVariables false
set_option linter.unusedSimpArgs false
set_option maxRecDepth 20000
set_option maxHeartbeats 4000000
namespace Go.Proofs.Ytilpnbejpndgpaa.X
open Go Go.RowKit

/-- The state: the table in block n0, each row in a block of its own behind lo. -/
structure OwnT (h0 h : AH) (lo n0 : Nat) (bs : List Nat) (T : List (List Int)) : Prop where
  hp : h0 <+: h
  lo0 : h0.length ≤ n0 ∧ n0 < h.length
  g : OwnB h n0 (T.mapIdx fun i r => .slice (some ⟨bs.getD i 0, 0, none⟩) r.length 1) false
  len : bs.length = T.length
  rows : ∀ i, i < T.length → (h0.length ≤ bs.getD i 0 ∧ bs.getD i 0 ≠ n0) ∧ OwnB h (bs.getD i 0) ((T.getD i []).map (Value.int .i64)) false
  dist : ∀ i j, i < T.length → j < T.length → i ≠ j → bs.getD i 0 ≠ bs.getD j 0
/-- A number changed in a row. -/
theorem OwnT.cell {h0 h : AH} {lo n0 : Nat} {bs : List Nat} {T : List (List Int)} (s : OwnT h0 h lo n0 bs T) {k l : Nat} {x : Int} (hk : k < T.length) (hl : l < (T.getD k []).length) {e : TypeId} (he : h.get (bs.getD k 0) = some ⟨(T.getD k []).map (Value.int .i64), e, false, false⟩) :
    OwnT h0 (h.put (bs.getD k 0) ⟨((T.getD k []).set l x).map (Value.int .i64), e, false, false⟩) lo n0 bs (T.set k ((T.getD k []).set l x)) := by
  have hlt := get_lt he
  have hr := (s.rows k hk).1
  refine ⟨pre_put s.hp hr.1, ⟨s.lo0.1, by rw [len_put]; exact s.lo0.2⟩, ?_, by rw [List.length_set]; exact s.len, fun i hi => ?_, fun i j hi hj => s.dist i j (by simpa using hi) (by simpa using hj)⟩
  · have e1 : (T.set k ((T.getD k []).set l x)).mapIdx (fun i r => Value.slice (some ⟨bs.getD i 0, 0, none⟩) r.length 1) = T.mapIdx fun i r => .slice (some ⟨bs.getD i 0, 0, none⟩) r.length 1 := by
      refine List.ext_getElem? fun j => ?_
      rw [List.getElem?_mapIdx, List.getElem?_mapIdx, List.getElem?_set]
      split
      · rename_i e
        subst e
        simp [hk, List.getD_eq_getElem?_getD, List.getElem?_eq_getElem hk]
      · rfl
    rw [e1]
    exact s.g.put_ne hr.2
  · rw [List.length_set] at hi
    refine ⟨(s.rows i hi).1, ?_⟩
    rw [set_getD' hk]
    by_cases h : i = k
    · subst h
      rw [if_pos rfl]
      exact ⟨e, get_put_same hlt⟩
    · rw [if_neg h]
      exact (s.rows i hi).2.put_ne (s.dist k i hk hi (fun e => h e.symm))
theorem OwnT.vals {h0 h : AH} {lo n0 : Nat} {bs : List Nat} {T : List (List Int)} (s : OwnT h0 h lo n0 bs T) : Vals h (.slice (some ⟨n0, 0, none⟩) T.length 1) (T.mapIdx fun i r => .slice (some ⟨bs.getD i 0, 0, none⟩) r.length 1) := by
  obtain ⟨e, hg⟩ := s.g
  refine .inr ⟨n0, 0, _, by rw [List.length_mapIdx], hg, by simp, fun i hi => ?_⟩
  rw [Nat.zero_add, List.getD_eq_getElem?_getD, List.getElem?_eq_getElem hi]
  rfl
theorem OwnT.row {h0 h : AH} {lo n0 : Nat} {bs : List Nat} {T : List (List Int)} (s : OwnT h0 h lo n0 bs T) {k : Nat} (hk : k < T.length) : Ints h (.slice (some ⟨bs.getD k 0, 0, none⟩) (T.getD k []).length 1) (T.getD k []) := by
  obtain ⟨e, hg⟩ := (s.rows k hk).2
  exact Ints.own hg rfl
theorem OwnT.pre {h0 h h' : AH} {lo n0 : Nat} {bs : List Nat} {T : List (List Int)} (s : OwnT h0 h lo n0 bs T) (p : h <+: h') : OwnT h0 h' lo n0 bs T :=
  ⟨s.hp.trans p, ⟨s.lo0.1, by have := pre_len p; have := s.lo0.2; omega⟩, s.g.pre p, s.len, fun i hi => ⟨(s.rows i hi).1, (s.rows i hi).2.pre p⟩, s.dist⟩
end Go.Proofs.Ytilpnbejpndgpaa.X

/- Slices of slices; a copy of a row in a block of its own; the row under way in an elimination in place. -/
set_option linter.unusedVariables false
set_option linter.unusedSimpArgs false
set_option maxRecDepth 20000
set_option maxHeartbeats 4000000
namespace Go.Proofs.Ytilpnbejpndgpaa.X
open Go Go.RowKit

def boundV (d : Int) : Option Value → Option Int
  | none => some d
  | some (.int _ i) => some i
  | some _ => none
def slcV (sz : Nat) (v : Value) (lo hi : Option Value) : Option Value := match v with
  | .slice (some ⟨n, off, _⟩) len sz' => match boundV 0 lo, boundV len hi with
    | some l, some u =>
      if sz' = sz ∧ 0 ≤ l ∧ l < u ∧ u ≤ len then some (.slice (some ⟨n, off + l.toNat * sz, none⟩) (u - l).toNat sz)
      else if sz' = sz ∧ lo = none ∧ l = 0 ∧ u = 0 then some (.slice (some ⟨n, off, none⟩) 0 sz)
      else if sz' = sz ∧ 0 ≤ l ∧ l = u ∧ u ≤ len then some (.slice none 0 1) else none
    | _, _ => none
  | .slice none 0 t => match boundV 0 lo, boundV 0 hi with
    | some l, some u => if l = 0 ∧ u = 0 then some (.slice none 0 t) else none
    | _, _ => none
  | _ => none
def omapF (f : Fr) : Option Operand → Option Value
  | none => none
  | some x => some (ev f x)
theorem omapF_none {f : Fr} : omapF f none = none := rfl
theorem omapF_some {f : Fr} {x : Operand} : omapF f (some x) = some (ev f x) := rfl
theorem bound_eq {f : Fr} {d : Int} {o : Option Operand} : bound f d o = boundV d (omapF f o) := by
  cases o with
  | none => rfl
  | some x => simp only [bound, omapF, boundV]; split <;> simp_all
theorem omapF_isn {f : Fr} {o : Option Operand} : (omapF f o = none) = (o = none) := by cases o <;> simp [omapF]
theorem WX_slc {S : XS} {f : Fr} {h : AH} {Q : Value → AH → Prop} {sz : Nat} {x : Operand} {lo hi : Option Operand} : WX S (.slc sz x lo hi) f h Q = WV (slcV sz (ev f x) (omapF f lo) (omapF f hi)) fun v => Q v h := by
  rw [WX_op (fun _ => rfl)]
  have : xop (.slc sz x lo hi) f h = (slcV sz (ev f x) (omapF f lo) (omapF f hi)).map (·, h) := by
    simp only [xop, slcV, bound_eq]
    generalize ev f x = v
    rcases hA : boundV 0 (omapF f lo) with _ | l
    · split <;> simp
    · split
      · rcases hB : boundV _ (omapF f hi) with _ | u
        · simp [hB]
        · simp only [hB, omapF_isn]
          split
          · rfl
          · split
            · rfl
            · split <;> rfl
      · rcases hB : boundV 0 (omapF f hi) with _ | u
        · simp [hB]
        · simp only [hB]
          split <;> rfl
      · rename_i q1 q2
        split
        · exact absurd rfl (q1 _ _ _ _ _)
        · exact absurd rfl (q2 _)
        · rfl
  rw [this]
  cases slcV sz (ev f x) (omapF f lo) (omapF f hi) <;> simp [OQ_some, WV_some, OQ_none, WV_none]
theorem Vals.slcV {h : AH} {v : Value} {cs : List Value} (hv : Vals h v cs) {k1 k2 : IntKind} {l u : Int} (h0 : 0 ≤ l ∧ l ≤ u ∧ u ≤ cs.length) :
    ∃ v', X.slcV 1 v (some (.int k1 l)) (some (.int k2 u)) = some v' ∧ Vals h v' ((cs.drop l.toNat).take (u - l).toNat) := by
  have hlen : ((cs.drop l.toNat).take (u - l).toNat).length = (u - l).toNat := by simp; omega
  rcases hv with ⟨rfl, t, ht, rfl⟩ | ⟨b, off, blk, rfl, h2, h3, h4⟩
  · simp at h0
    have : l = 0 ∧ u = 0 := by omega
    exact ⟨_, by simp [X.slcV, boundV, this], .inl ⟨by simp, t, ht, rfl⟩⟩
  · by_cases hlu : l < u
    · refine ⟨.slice (some ⟨b, off + l.toNat * 1, none⟩) (u - l).toNat 1, by simp [X.slcV, boundV, hlu, h0.1, h0.2.2], .inr ⟨b, off + l.toNat, blk, by rw [hlen]; simp, h2, by omega, fun i hi => ?_⟩⟩
      rw [hlen] at hi
      rw [show off + l.toNat + i = off + (l.toNat + i) by omega, h4 _ (by omega)]
      simp [List.getD_eq_getElem?_getD, List.getElem?_take, List.getElem?_drop, hi]
    · have e : l = u := by omega
      subst e
      exact ⟨.slice none 0 1, by simp [X.slcV, boundV, h0.1, h0.2.2], .inl ⟨by simp, 1, by omega, rfl⟩⟩
theorem Vals.ints {h : AH} {v : Value} {ns : List Int} (hv : Vals h v (ns.map (Value.int .i64))) : Ints h v ns := by
  rcases hv with ⟨e, t, ht, rfl⟩ | ⟨b, off, blk, rfl, h2, h3, h4⟩
  · exact .inl ⟨by simpa using e, t, ht, rfl⟩
  · refine .inr ⟨b, off, blk, by simp, h2, by simpa using h3, fun i hi => ?_⟩
    rw [h4 i (by simpa using hi)]
    simp [List.getD_eq_getElem?_getD, List.getElem?_eq_getElem hi]
theorem Ints.slcV {h : AH} {v : Value} {ns : List Int} (hv : Ints h v ns) {k1 k2 : IntKind} {l u : Int} (h0 : 0 ≤ l ∧ l ≤ u ∧ u ≤ ns.length) :
    ∃ v', X.slcV 1 v (some (.int k1 l)) (some (.int k2 u)) = some v' ∧ Ints h v' ((ns.drop l.toNat).take (u - l).toNat) := by
  obtain ⟨v', h1, h2⟩ := hv.vals.slcV (k1 := k1) (k2 := k2) (l := l) (u := u) (by simpa using h0)
  exact ⟨v', h1, Vals.ints (by simpa [List.map_drop, List.map_take] using h2)⟩

/-- A copy: a block of its own, not made longer yet. -/
theorem i_CloneB {v : Value} {ns : List Int} {h : AH} {Q : Value → AH → Prop} (hv : Ints h v ns) (h0 : 0 < ns.length) (hl : (ns.length : Int) ≤ 1048576)
    (hQ : ∀ n h', h.length ≤ n → h <+: h' → OwnB h' n (ns.map (Value.int .i64)) false → Q (.slice (some ⟨n, 0, none⟩) ns.length 1) h') : WF S 126 [v] h Q := by
  refine WF_fn (fn := c126) rfl rfl ?_
  unfold c126
  obtain ⟨n, off, rfl, hr⟩ := hv.vals.rdn (by simpa using h0)
  try simp (maxSteps := 3000000) (disch := first | omega | (simp only [len_new, len_put, len_kill]; omega)) only [↓xpre, xpost, ↓reduceIte, Nat.reduceEqDiff, Nat.reduceAdd, Nat.reduceSub, Nat.reduceLeDiff, Nat.zero_add, Nat.sub_zero, ↓WX_isnil, isnilV_some, fillL, zrep]
  rw [List.length_map] at hr ⊢
  rw [app_zero get_new_same (show AH.rdn (AH.new h _) n off ns.length = _ by rw [rdn_eq] at hr ⊢; obtain ⟨b, hb, hc⟩ := Option.bind_eq_some_iff.1 hr; rw [get_new_any hb]; exact hc) h0 (by omega)]
  try simp (maxSteps := 3000000) (disch := first | omega | (simp only [len_new, len_put, len_kill]; omega)) only [↓xpre, xpost, ↓reduceIte, Nat.reduceEqDiff, Nat.reduceAdd, Nat.reduceSub, Nat.reduceLeDiff, Nat.zero_add, Nat.sub_zero]
  exact hQ _ _ (by rw [len_new]; omega) (pre_new (pre_kill (pre_new (List.prefix_refl _)) (Nat.le_refl _))) ⟨_, get_new_eq (by rw [len_kill])⟩

theorem OwnT.rdk {h0 h : AH} {lo n0 : Nat} {bs : List Nat} {T : List (List Int)} (s : OwnT h0 h lo n0 bs T) {k N : Nat} (hN : T.length = N) (hk : k < N) :
    ixsV 1 (.slice (some ⟨n0, 0, none⟩) N 1) (I64 k) = some (.pointer (some ⟨n0, k, none⟩)) ∧ h.rd1 n0 k = some (.slice (some ⟨bs.getD k 0, 0, none⟩) (T.getD k []).length 1) := by
  obtain ⟨e, hg⟩ := s.g
  subst hN
  refine ⟨?_, ?_⟩
  · rw [ixsV_some, if_pos (by omega)]
    simp
  · rw [rd1_of hg]
    simp only [List.getElem?_mapIdx, List.getElem?_eq_getElem hk, Option.map_some, List.getD_eq_getElem?_getD, Option.getD_some]
theorem OwnT.rdc {h0 h : AH} {lo n0 : Nat} {bs : List Nat} {T : List (List Int)} (s : OwnT h0 h lo n0 bs T) {k l W : Nat} (hk : k < T.length) (hW : (T.getD k []).length = W) (hl : l < W) :
    ixsV 1 (.slice (some ⟨bs.getD k 0, 0, none⟩) W 1) (I64 l) = some (.pointer (some ⟨bs.getD k 0, l, none⟩)) ∧ h.rd1 (bs.getD k 0) l = some (I64 ((T.getD k []).getD l 0)) := by
  obtain ⟨e, hg⟩ := (s.rows k hk).2
  subst hW
  refine ⟨?_, ?_⟩
  · rw [ixsV_some, if_pos (by omega)]
    simp
  · rw [rd1_of hg]
    generalize T.getD k [] = row at hl
    rw [List.getElem?_map, List.getElem?_eq_getElem hl, List.getD_eq_getElem?_getD, List.getElem?_eq_getElem hl]
    rfl
end Go.Proofs.Ytilpnbejpndgpaa.X

/- The program's rank. -/
set_option linter.unusedVariables false
set_option linter.unusedSimpArgs false
set_option maxRecDepth 20000
set_option maxHeartbeats 4000000
namespace Go.Proofs.Ytilpnbejpndgpaa.X
open Go Go.RowKit

def rowV (p : Nat × List Int) : Value := .slice (some ⟨p.1, 0, none⟩) p.2.length 1
/-- The state while the rows are copied. -/
structure CloneS (h0 h : AH) (nb : Nat) (full : Bool) (L : List (Nat × List Int)) : Prop where
  hp : h0 <+: h
  lo : h0.length ≤ nb
  g : h.get nb = some ⟨L.map rowV, 22, false, full⟩
  rows : ∀ p, p ∈ L → (h0.length ≤ p.1 ∧ p.1 ≠ nb) ∧ OwnB h p.1 (p.2.map (Value.int .i64)) false
  dist : L.Pairwise (fun p q => p.1 ≠ q.1)
theorem OwnB.kill_ne {h : AH} {c : List Value} {full : Bool} {n m : Nat} (o : OwnB h n c full) (e : m ≠ n) : OwnB (h.kill m) n c full := by
  obtain ⟨t, hg⟩ := o
  exact ⟨t, by rw [get_kill_ne e]; exact hg⟩
theorem OwnB.new {h : AH} {c : List Value} {full : Bool} {n : Nat} {b : Blk} (o : OwnB h n c full) : OwnB (h.new b) n c full := by
  obtain ⟨t, hg⟩ := o
  exact ⟨t, get_new_any hg⟩
theorem CloneS.app {h0 h1 h2 : AH} {nb n : Nat} {full fu : Bool} {L : List (Nat × List Int)} {r : List Int} {e : TypeId} (s : CloneS h0 h1 nb full L) (hn : h1.length ≤ n) (p : h1 <+: h2) (ob : OwnB h2 n (r.map (Value.int .i64)) false)
    (hl : (L.length : Int) ≤ 1048576) {Q : Value → AH → Prop}
    (hQ : ∀ nb' H', CloneS h0 H' nb' false (L ++ [(n, r)]) → Q (.slice (some ⟨nb', 0, none⟩) (L ++ [(n, r)]).length 1) H') :
    OQ (appV 22 1 24 (.slice (some ⟨nb, 0, none⟩) L.length 1) (.slice (some ⟨h2.length, 0, none⟩) 1 1) (h2.new ⟨[.slice (some ⟨n, 0, none⟩) r.length 1], e, false, fu⟩)) Q := by
  have hrd : (h2.new ⟨[.slice (some ⟨n, 0, none⟩) r.length 1], e, false, fu⟩).rdn h2.length 0 1 = some [.slice (some ⟨n, 0, none⟩) r.length 1] := by rw [rdn_new_same]; rfl
  have hk : (h2.new ⟨[.slice (some ⟨n, 0, none⟩) r.length 1], e, false, fu⟩).get nb = some ⟨L.map rowV, 22, false, full⟩ := get_new_any (pre_get p s.g)
  have l1 := get_lt s.g
  have l2 := pre_len p
  have l3 := ob.lt
  have l0 := pre_len s.hp
  rw [app_own hk (by simp) hrd (by omega), OQ_some]
  have key : CloneS h0 (((h2.new ⟨[.slice (some ⟨n, 0, none⟩) r.length 1], e, false, fu⟩).kill nb).new ⟨L.map rowV ++ [.slice (some ⟨n, 0, none⟩) r.length 1], 22, false, false⟩) (h2.new ⟨[.slice (some ⟨n, 0, none⟩) r.length 1], e, false, fu⟩).length false (L ++ [(n, r)]) := by
    refine ⟨pre_new (pre_kill (pre_new (s.hp.trans p)) s.lo), by rw [len_new]; omega, ?_, fun q hq => ?_, ?_⟩
    · rw [get_new_eq (by rw [len_kill])]
      simp [rowV]
    · rw [len_new]
      rcases List.mem_append.1 hq with hq | hq
      · have a := s.rows q hq
        have := a.2.lt
        exact ⟨⟨a.1.1, by omega⟩, (((a.2.pre p).new).kill_ne (fun e => a.1.2 e.symm)).new⟩
      · rw [List.mem_singleton] at hq
        subst hq
        exact ⟨⟨show h0.length ≤ n by omega, show n ≠ h2.length + 1 by omega⟩, (ob.new.kill_ne (show nb ≠ n by omega)).new⟩
    · rw [List.pairwise_append]
      refine ⟨s.dist, by simp, fun a ha b hb => ?_⟩
      rw [List.mem_singleton] at hb
      subst hb
      have := (s.rows a ha).2.lt
      show a.1 ≠ n
      omega
  have := hQ _ _ key
  rw [List.length_append, List.length_singleton] at this
  exact this
theorem CloneS.own {h0 h : AH} {nb : Nat} {L : List (Nat × List Int)} (s : CloneS h0 h nb false L) : OwnT h0 h 0 nb (L.map Prod.fst) (L.map Prod.snd) := by
  have e0 : ((L.map Prod.snd).mapIdx fun i r => Value.slice (some ⟨(L.map Prod.fst).getD i 0, 0, none⟩) r.length 1) = L.map rowV := by
    refine List.ext_getElem? fun j => ?_
    rw [List.getElem?_mapIdx, List.getElem?_map, List.getElem?_map, List.getD_eq_getElem?_getD, List.getElem?_map]
    cases L[j]? <;> rfl
  have ei : ∀ i, i < L.length → ∃ hi : i < L.length, (L.map Prod.fst).getD i 0 = (L[i]).1 ∧ (L.map Prod.snd).getD i [] = (L[i]).2 := fun i hi => ⟨hi, by simp [List.getD_eq_getElem?_getD, hi], by simp [List.getD_eq_getElem?_getD, hi]⟩
  refine ⟨s.hp, ⟨s.lo, get_lt s.g⟩, ⟨22, by rw [e0]; exact s.g⟩, by simp, fun i hi => ?_, fun i j hi hj hij => ?_⟩
  · obtain ⟨hi', e1, e2⟩ := ei i (by simpa using hi)
    rw [e1, e2]
    exact s.rows _ (List.getElem_mem hi')
  · obtain ⟨hi', e1, -⟩ := ei i (by simpa using hi)
    obtain ⟨hj', e2, -⟩ := ei j (by simpa using hj)
    rw [e1, e2]
    have := List.pairwise_iff_getElem.1 s.dist
    rcases Nat.lt_or_gt_of_ne hij with h | h
    · exact this i j hi' hj' h
    · exact fun e => this j i hj' hi' h e.symm
end Go.Proofs.Ytilpnbejpndgpaa.X

/- Tables under way: rows in blocks of their own, appended one by one. Tensors turned some times. -/
set_option linter.unusedVariables false
set_option linter.unusedSimpArgs false
set_option maxRecDepth 20000
set_option maxHeartbeats 4000000
namespace Go.Proofs.Ytilpnbejpndgpaa.X
open Go Go.RowKit

structure TabS (h0 h : AH) (nb : Nat) (full : Bool) (L : List (Nat × List Int)) : Prop where
  hp : h0 <+: h
  lo : h0.length ≤ nb
  g : h.get nb = some ⟨L.map rowV, 22, false, full⟩
  rows : ∀ p, p ∈ L → (h0.length ≤ p.1 ∧ p.1 ≠ nb) ∧ ∃ fu, OwnB h p.1 (p.2.map (Value.int .i64)) fu
  dist : L.Pairwise (fun p q => p.1 ≠ q.1)
theorem TabS.lt {h0 h : AH} {nb : Nat} {full : Bool} {L : List (Nat × List Int)} (s : TabS h0 h nb full L) : nb < h.length ∧ ∀ p, p ∈ L → p.1 < h.length :=
  ⟨get_lt s.g, fun p hp => (s.rows p hp).2.choose_spec.lt⟩
theorem TabS.pre {h0 h h' : AH} {nb : Nat} {full : Bool} {L : List (Nat × List Int)} (s : TabS h0 h nb full L) (p : h <+: h') : TabS h0 h' nb full L :=
  ⟨s.hp.trans p, s.lo, pre_get p s.g, fun q hq => ⟨(s.rows q hq).1, by obtain ⟨fu, o⟩ := (s.rows q hq).2; exact ⟨fu, o.pre p⟩⟩, s.dist⟩
theorem TabS.keeps {h0 h h' : AH} {nb lo : Nat} {full : Bool} {L : List (Nat × List Int)} (s : TabS h0 h nb full L) (k : Keeps lo h h') (hh : h0 <+: h') (h1 : nb < lo) (h2 : ∀ p, p ∈ L → p.1 < lo) : TabS h0 h' nb full L :=
  ⟨hh, s.lo, k.2 _ _ h1 s.g, fun q hq => ⟨(s.rows q hq).1, by obtain ⟨fu, e, o⟩ := (s.rows q hq).2; exact ⟨fu, e, k.2 _ _ (h2 q hq) o⟩⟩, s.dist⟩
theorem TabS.app {h0 h2 : AH} {nb n : Nat} {full fu fw : Bool} {L : List (Nat × List Int)} {r : List Int} {e : TypeId} (s : TabS h0 h2 nb full L) (hn : h0.length ≤ n ∧ n ≠ nb ∧ ∀ p, p ∈ L → p.1 ≠ n) (ob : OwnB h2 n (r.map (Value.int .i64)) fw)
    (hl : (L.length : Int) ≤ 1048576) {Q : Value → AH → Prop}
    (hQ : ∀ nb' H', TabS h0 H' nb' false (L ++ [(n, r)]) → Q (.slice (some ⟨nb', 0, none⟩) (L ++ [(n, r)]).length 1) H') :
    OQ (appV 22 1 24 (.slice (some ⟨nb, 0, none⟩) L.length 1) (.slice (some ⟨h2.length, 0, none⟩) 1 1) (h2.new ⟨[.slice (some ⟨n, 0, none⟩) r.length 1], e, false, fu⟩)) Q := by
  have hrd : (h2.new ⟨[.slice (some ⟨n, 0, none⟩) r.length 1], e, false, fu⟩).rdn h2.length 0 1 = some [.slice (some ⟨n, 0, none⟩) r.length 1] := by rw [rdn_new_same]; rfl
  have hk : (h2.new ⟨[.slice (some ⟨n, 0, none⟩) r.length 1], e, false, fu⟩).get nb = some ⟨L.map rowV, 22, false, full⟩ := get_new_any s.g
  have l1 := get_lt s.g
  have l3 := ob.lt
  have l0 := pre_len s.hp
  rw [app_own hk (by simp) hrd (by omega), OQ_some]
  have key : TabS h0 (((h2.new ⟨[.slice (some ⟨n, 0, none⟩) r.length 1], e, false, fu⟩).kill nb).new ⟨L.map rowV ++ [.slice (some ⟨n, 0, none⟩) r.length 1], 22, false, false⟩) (h2.new ⟨[.slice (some ⟨n, 0, none⟩) r.length 1], e, false, fu⟩).length false (L ++ [(n, r)]) := by
    refine ⟨pre_new (pre_kill (pre_new s.hp) s.lo), by rw [len_new]; omega, ?_, fun q hq => ?_, ?_⟩
    · rw [get_new_eq (by rw [len_kill])]
      simp [rowV]
    · rw [len_new]
      rcases List.mem_append.1 hq with hq | hq
      · have a := s.rows q hq
        obtain ⟨fa, oa⟩ := a.2
        have := oa.lt
        exact ⟨⟨a.1.1, by omega⟩, fa, (oa.new.kill_ne (fun e => a.1.2 e.symm)).new⟩
      · rw [List.mem_singleton] at hq
        subst hq
        exact ⟨⟨hn.1, show n ≠ h2.length + 1 by omega⟩, fw, (ob.new.kill_ne (fun e => hn.2.1 e.symm)).new⟩
    · rw [List.pairwise_append]
      refine ⟨s.dist, by simp, fun a ha b hb => ?_⟩
      rw [List.mem_singleton] at hb
      subst hb
      exact hn.2.2 a ha
  have := hQ _ _ key
  rw [List.length_append, List.length_singleton] at this
  exact this
theorem TabS.own {h0 h : AH} {nb : Nat} {full : Bool} {L : List (Nat × List Int)} (s : TabS h0 h nb full L) : OwnRows h0 h (.slice (some ⟨nb, 0, none⟩) L.length 1) (L.map Prod.snd) := by
  have ei : ∀ i, (hi : i < L.length) → (L.map rowV).getD i undef = rowV (L[i]) ∧ (L.map Prod.snd).getD i [] = (L[i]).2 := fun i hi => ⟨by simp [List.getD_eq_getElem?_getD, hi], by simp [List.getD_eq_getElem?_getD, hi]⟩
  refine .inr ⟨nb, _, full, L.map rowV, s.lo, by rw [List.length_map], s.g, by simp, fun i hi => ?_, fun i j hij hj b hb => ?_⟩
  · have hi' : i < L.length := by simpa using hi
    obtain ⟨e1, e2⟩ := ei i hi'
    have a := s.rows _ (List.getElem_mem hi')
    obtain ⟨fu, e, o⟩ := a.2
    rw [e1, e2]
    refine ⟨.inr ⟨_, e, fu, a.1.1, rfl, o⟩, fun q => a.1.2 ?_⟩
    simpa [rowV, blkOf] using q
  · have hj' : j < L.length := by simpa using hj
    rw [(ei i (by omega)).1] at hb
    rw [(ei j hj').1]
    have := List.pairwise_iff_getElem.1 s.dist i j (by omega) hj' hij
    simp only [rowV, blkOf, Option.some.injEq] at hb ⊢
    exact fun e => this (hb.trans (Option.some.inj e).symm)

/-! ### Turned tensors -/
theorem TF.turned {t : Ten} (f : TF t) : TF (turnT t) := by
  have jk := mul_in1 (A := 9) (B := 9) f.j f.k
  have jki := mul_in1 (A := 81) (B := 9) jk f.i
  have hl : (((turnT t).ns.length : Nat) : Int) = t.j * t.k * t.i := by
    show ((gen _ _).length : Int) = _
    rw [gen_len]
    omega
  refine ⟨f.p, f.j, f.k, f.i, hl, fun x h0 hx => ?_, jk, jki⟩
  rw [hl] at hx
  have h1 : nth (turnT t).ns x = turnG t x.toNat := by
    show (gen _ _).getD _ 0 = _
    exact gen_get (by omega)
  have h := places (n := x) (i := t.j) (j := t.k) (k := t.i) (by omega) f.k.1 f.i.1
  rw [h1]
  unfold turnG
  rw [show ((x.toNat : Nat) : Int) = x by omega]
  exact tat_in f h.2.2 h.1 h.2.1
theorem TF.le {t : Ten} (f : TF t) : (t.ns.length : Int) ≤ 1048576 := by
  have := f.len
  have := f.ijk
  omega
end Go.Proofs.Ytilpnbejpndgpaa.X

/- Data of one's own within a range of blocks; what the laws do with them: sizes, copies, comparisons, marks and holds, one form for each kind. -/
set_option linter.unusedVariables false
set_option linter.unusedSimpArgs false
set_option maxRecDepth 20000
set_option maxHeartbeats 4000000
namespace Go.Proofs.Ytilpnbejpndgpaa.X
open Go Go.RowKit

/-- Only blocks within a range change. -/
structure OnlyR (a b : Nat) (h h' : AH) : Prop where
  len : h'.length = h.length
  same : ∀ n, ¬ (a ≤ n ∧ n < b) → h'[n]? = h[n]?
theorem OnlyR.refl (a b : Nat) (h : AH) : OnlyR a b h h := ⟨rfl, fun _ _ => rfl⟩
theorem OnlyR.trans {a b : Nat} {h h' h'' : AH} (w : OnlyR a b h h') (w' : OnlyR a b h' h'') : OnlyR a b h h'' := ⟨w'.len.trans w.len, fun n hn => (w'.same n hn).trans (w.same n hn)⟩
theorem OnlyR.get {a b n : Nat} {h h' : AH} (w : OnlyR a b h h') (hn : ¬ (a ≤ n ∧ n < b)) : h'.get n = h.get n := by
  unfold AH.get
  rw [w.same n hn]
theorem OnlyR.get' {a b n : Nat} {h h' : AH} {c : Blk} (w : OnlyR a b h h') (hb : h.get n = some c) (hn : n < a ∨ b ≤ n) : h'.get n = some c := by
  rw [w.get (by omega)]
  exact hb
theorem OnlyR.pre {a b : Nat} {h0 h h' : AH} (w : OnlyR a b h h') (p : h0 <+: h) (hn : h0.length ≤ a) : h0 <+: h' := by
  rw [List.prefix_iff_getElem?] at p ⊢
  intro i hi
  rw [w.same i (by omega)]
  exact p i hi
theorem Only.range {o : Option Nat} {a b : Nat} {h h' : AH} (w : Only o h h') (hn : ∀ n, o = some n → a ≤ n ∧ n < b) : OnlyR a b h h' := ⟨w.len, fun n q => w.same n (fun e => q (hn n e))⟩

/-! ### Lists of numbers -/
def InS (a b : Nat) (h : AH) (v : Value) (ns : List Int) : Prop :=
  (v = .slice none 0 0 ∧ ns = []) ∨ ∃ n e full, (a ≤ n ∧ n < b) ∧ v = .slice (some ⟨n, 0, none⟩) ns.length 1 ∧ h.get n = some ⟨ns.map (Value.int .i64), e, false, full⟩
section
variable {a b c d : Nat} {h h' h0 : AH} {v : Value} {ns : List Int}
theorem InS.rd (o : InS a b h v ns) : Ints h v ns := by
  rcases o with ⟨rfl, rfl⟩ | ⟨n, e, full, h1, rfl, h2⟩
  · exact .inl ⟨rfl, 0, by omega, rfl⟩
  · exact Ints.own h2 rfl
theorem InS.pre (o : InS a b h v ns) (p : h <+: h') : InS a b h' v ns := by
  rcases o with ⟨rfl, rfl⟩ | ⟨n, e, full, h1, rfl, h2⟩
  · exact .inl ⟨rfl, rfl⟩
  · exact .inr ⟨n, e, full, h1, rfl, pre_get p h2⟩
theorem InS.only (o : InS a b h v ns) (w : OnlyR c d h h') (hd : b ≤ c ∨ d ≤ a) : InS a b h' v ns := by
  rcases o with ⟨rfl, rfl⟩ | ⟨n, e, full, h1, rfl, h2⟩
  · exact .inl ⟨rfl, rfl⟩
  · exact .inr ⟨n, e, full, h1, rfl, w.get' h2 (by omega)⟩
theorem InS.wide (o : InS a b h v ns) (h1 : c ≤ a) (h2 : b ≤ d) : InS c d h v ns := by
  rcases o with ⟨rfl, rfl⟩ | ⟨n, e, full, h1, rfl, h2⟩
  · exact .inl ⟨rfl, rfl⟩
  · exact .inr ⟨n, e, full, by omega, rfl, h2⟩
theorem OwnR.inS (o : OwnR h0 h v ns) : InS h0.length h.length h v ns := by
  rcases o with ⟨rfl, rfl⟩ | ⟨n, e, full, h1, rfl, h2⟩
  · exact .inl ⟨rfl, rfl⟩
  · exact .inr ⟨n, e, full, ⟨h1, get_lt h2⟩, rfl, h2⟩
theorem InS.ownR (o : InS a b h v ns) : OwnR (List.replicate a none) h v ns := by
  rcases o with ⟨rfl, rfl⟩ | ⟨n, e, full, h1, rfl, h2⟩
  · exact .inl ⟨rfl, rfl⟩
  · exact .inr ⟨n, e, full, by simpa using h1.1, rfl, h2⟩
theorem InS.blk (o : InS a b h v ns) : ∀ n, blkOf v = some n → a ≤ n ∧ n < b := by
  rcases o with ⟨rfl, rfl⟩ | ⟨n, e, full, h1, rfl, h2⟩
  · intro n hn; cases hn
  · intro m hm
    cases hm
    exact h1
theorem OwnR.back {k : List (Option Blk)} (o : OwnR k h v ns) (hb : ∀ n, blkOf v = some n → a ≤ n ∧ n < b) : InS a b h v ns := by
  rcases o with ⟨rfl, rfl⟩ | ⟨n, e, full, h1, rfl, h2⟩
  · exact .inl ⟨rfl, rfl⟩
  · exact .inr ⟨n, e, full, hb n rfl, rfl, h2⟩
end
/-! ### Tensors -/
/-! ### Lists of lists -/
def InM (a b : Nat) (h : AH) (v : Value) (rows : List (List Int)) : Prop :=
  (v = .slice none 0 0 ∧ rows = []) ∨ ∃ n e full cs, (a ≤ n ∧ n < b) ∧ v = .slice (some ⟨n, 0, none⟩) cs.length 1 ∧ h.get n = some ⟨cs, e, false, full⟩ ∧ cs.length = rows.length ∧
    (∀ i, i < rows.length → InS a b h (cs.getD i undef) (rows.getD i []) ∧ blkOf (cs.getD i undef) ≠ some n) ∧
    ∀ i j, i < j → j < rows.length → ∀ q, blkOf (cs.getD i undef) = some q → blkOf (cs.getD j undef) ≠ some q
section
variable {a b c d : Nat} {h h' h0 : AH} {v : Value} {rows : List (List Int)}
theorem InM.rd (o : InM a b h v rows) : Rows h v rows := by
  rcases o with ⟨rfl, rfl⟩ | ⟨n, e, full, cs, h1, rfl, h2, h3, h4, h5⟩
  · exact ⟨[], .inl ⟨rfl, 0, by omega, rfl⟩, rfl, fun i hi => by simp at hi⟩
  · refine ⟨cs, .inr ⟨n, 0, _, rfl, h2, by simp, fun i hi => ?_⟩, h3, fun i hi => (h4 i hi).1.rd⟩
    rw [Nat.zero_add, List.getD_eq_getElem?_getD, List.getElem?_eq_getElem hi]
    rfl
theorem InM.pre (o : InM a b h v rows) (p : h <+: h') : InM a b h' v rows := by
  rcases o with ⟨rfl, rfl⟩ | ⟨n, e, full, cs, h1, rfl, h2, h3, h4, h5⟩
  · exact .inl ⟨rfl, rfl⟩
  · exact .inr ⟨n, e, full, cs, h1, rfl, pre_get p h2, h3, fun i hi => ⟨(h4 i hi).1.pre p, (h4 i hi).2⟩, h5⟩
theorem InM.only (o : InM a b h v rows) (w : OnlyR c d h h') (hd : b ≤ c ∨ d ≤ a) : InM a b h' v rows := by
  rcases o with ⟨rfl, rfl⟩ | ⟨n, e, full, cs, h1, rfl, h2, h3, h4, h5⟩
  · exact .inl ⟨rfl, rfl⟩
  · exact .inr ⟨n, e, full, cs, h1, rfl, w.get' h2 (by omega), h3, fun i hi => ⟨(h4 i hi).1.only w hd, (h4 i hi).2⟩, h5⟩
theorem OwnRows.inM (o : OwnRows h0 h v rows) : InM h0.length h.length h v rows := by
  rcases o with ⟨rfl, rfl⟩ | ⟨n, e, full, cs, h1, rfl, h2, h3, h4, h5⟩
  · exact .inl ⟨rfl, rfl⟩
  · exact .inr ⟨n, e, full, cs, ⟨h1, get_lt h2⟩, rfl, h2, h3, fun i hi => ⟨(h4 i hi).1.inS, (h4 i hi).2⟩, h5⟩
end
def SmallM (rows : List (List Int)) : Prop := (rows.length : Int) ≤ 1048576 ∧ (∀ i, i < rows.length → ((rows.getD i []).length : Int) ≤ 1048576) ∧ tot rows rows.length ≤ 1048576
def cntM (rows : List (List Int)) : Int := tot rows rows.length
@[simp] theorem tot_zero {rows : List (List Int)} : tot rows 0 = 0 := by simp [tot]
theorem tot_nn {rows : List (List Int)} : ∀ {i : Nat}, 0 ≤ tot rows i
  | 0 => by simp [tot]
  | i + 1 => by
    by_cases h : i < rows.length
    · rw [tot_succ h]
      have := tot_nn (rows := rows) (i := i)
      omega
    · have := tot_nn (rows := rows) (i := i)
      unfold tot at *
      rw [List.take_of_length_le (by omega)] at *
      exact this
theorem tot_le {rows : List (List Int)} {i : Nat} : ∀ {m : Nat}, tot rows i ≤ tot rows (i + m)
  | 0 => Int.le_refl _
  | m + 1 => by
    have q := tot_le (rows := rows) (i := i) (m := m)
    by_cases h : i + m < rows.length
    · have := tot_succ h
      rw [show i + (m + 1) = i + m + 1 by omega]
      omega
    · unfold tot at *
      rw [List.take_of_length_le (show rows.length ≤ i + (m + 1) by omega)]
      rw [List.take_of_length_le (show rows.length ≤ i + m by omega)] at q
      exact q
theorem gsz_M {v : Value} {rows : List (List Int)} {n : Int} {h : AH} {Q : Value → AH → Prop} (hv : Rows h v rows) (h0 : 0 ≤ n ∧ n ≤ 1048576) (hl : (rows.length : Int) ≤ 9223372036854775807)
    (hl' : ∀ i, i < rows.length → ((rows.getD i []).length : Int) ≤ 9223372036854775807)
    (hQ : ∀ (m : Int) h', h <+: h' → m ≤ n → (0 ≤ m → SmallM rows) → Q (I64 m) h') : WF S 41 [v, I64 n] h Q :=
  l_szInt64SS hv h0 hl hl' fun m h1 h2 => hQ m h (List.prefix_refl _) h1 fun h3 => by
    obtain ⟨e1, e2⟩ := h2 h3
    have := tot_nn (rows := rows) (i := rows.length)
    exact ⟨by omega, fun i hi => by have := e2 i hi; omega, by omega⟩
theorem gto_M {v : Value} {rows : List (List Int)} {h : AH} {Q : Value → AH → Prop} (hv : Rows h v rows) (hl : SmallM rows)
    (hQ : ∀ v' h', h <+: h' → InM h.length h'.length h' v' rows → Q v' h') : WF S 43 [v] h Q :=
  l_toInt64SS hv hl.1 hl.2.1 fun v' h' p o => hQ v' h' p o.inM
theorem geq_M {v v' : Value} {rows : List (List Int)} {h : AH} {Q : Value → AH → Prop} (hv : Rows h v rows) (hv' : Rows h v' rows) (hl : SmallM rows)
    (hQ : ∀ h', h <+: h' → Q (.bool true) h') : WF S 22 [v, v'] h Q :=
  l_eqInt64SS hv hv' hl.1 hl.2.1 (by rw [decide_eq_true rfl]; exact hQ h (List.prefix_refl _))
theorem cntM_le {rows : List (List Int)} (h : SmallM rows) : 0 ≤ cntM rows ∧ cntM rows ≤ 1048576 := ⟨tot_nn, h.2.2⟩
def markM (k : Int) (rows : List (List Int)) (i : Nat) : List (List Int) := (List.range rows.length).map fun j => if j < i then marks (k + tot rows j) (rows.getD j []).length else rows.getD j []
theorem markM_len {k : Int} {rows : List (List Int)} {i : Nat} : (markM k rows i).length = rows.length := by simp [markM]
theorem markM_get {k : Int} {rows : List (List Int)} {i j : Nat} (hj : j < rows.length) : (markM k rows i).getD j [] = if j < i then marks (k + tot rows j) (rows.getD j []).length else rows.getD j [] := by
  simp [markM, List.getD_eq_getElem?_getD, List.getElem?_map, List.getElem?_range hj]
theorem gmark_M {v : Value} {rows : List (List Int)} {k : Int} {a b : Nat} {h : AH} {Q : Value → AH → Prop} (o : InM a b h v rows) (hl : SmallM rows) (hk : 0 ≤ k ∧ k ≤ 549755813888)
    (hQ : ∀ J h', h <+: J → OnlyR a b J h' → InM a b h' v (markM k rows rows.length) → Q (I64 (k + cntM rows)) h') : WF S 24 [v, I64 k] h Q := by
  refine WF_fn (fn := c24) rfl rfl ?_
  unfold c24
  try simp (maxSteps := 3000000) (disch := first | omega | (simp only [len_new, len_put, len_kill]; omega)) only [↓xpre, xpost, ↓reduceIte, Nat.reduceEqDiff, Nat.reduceAdd, Nat.reduceSub, Nat.reduceLeDiff, Nat.zero_add, Nat.sub_zero]
  rcases o with ⟨rfl, rfl⟩ | ⟨n, e, full, cs, hab, rfl, hg, hcl, hr, hd⟩
  · refine WC_loop ?_
    try simp (maxSteps := 3000000) (disch := first | omega | (simp only [len_new, len_put, len_kill]; omega)) only [↓xpre, xpost, ↓reduceIte, Nat.reduceEqDiff, Nat.reduceAdd, Nat.reduceSub, Nat.reduceLeDiff, Nat.zero_add, Nat.sub_zero, IfW_dec]
    refine ⟨fun hlt => by simp at hlt, fun _ => ?_⟩
    have := hQ h _ (List.prefix_refl _) (OnlyR.refl _ _ _) (.inl ⟨rfl, by simp [markM]⟩)
    simpa [cntM, tot] using this
  · obtain ⟨l1, l2, l3⟩ := hl
    rw [hcl]
    refine WC_loop_inv (fun m f K1 => ∃ (i : Nat), m = rows.length - i ∧ i ≤ rows.length ∧ f 0 = .slice (some ⟨n, 0, none⟩) rows.length 1 ∧ f 1 = I64 (k + tot rows i) ∧ f 5 = I64 i ∧ (K1.get n = some ⟨cs, e, false, full⟩) ∧ (OnlyR a b h K1) ∧ (∀ j, j < rows.length → InS a b K1 (cs.getD j undef) ((markM k rows i).getD j []))) ?_ (rows.length - 0) _ _ ⟨0, rfl, by omega, (by first | rfl | (simp [upd_apply]; done)), (by first | rfl | (simp [upd_apply]; done)), (by first | rfl | (simp [upd_apply]; done)), hg, OnlyR.refl _ _ _, fun j hj => by rw [markM_get hj, if_neg (by omega)]; exact (hr j hj).1⟩
    rintro m f K1 ⟨i, rfl, hi, f0, f1, f5, hg1, w1, hin⟩
    have tn := tot_nn (rows := rows) (i := i)
    have tl := tot_le (rows := rows) (i := i) (m := rows.length - i)
    rw [show i + (rows.length - i) = rows.length by omega] at tl
    try simp (maxSteps := 3000000) (disch := first | omega | (simp only [len_new, len_put, len_kill]; omega)) only [↓xpre, xpost, ↓reduceIte, Nat.reduceEqDiff, Nat.reduceAdd, Nat.reduceSub, Nat.reduceLeDiff, Nat.zero_add, Nat.sub_zero, f0, f1, f5, IfW_dec, hcl]
    refine ⟨fun hlt => ?_, fun hge => ?_⟩
    · have hi' : i < rows.length := by omega
      have hix : ixsV 1 (.slice (some ⟨n, 0, none⟩) rows.length 1) (I64 i) = some (.pointer (some ⟨n, i, none⟩)) := by
        rw [ixsV_some, if_pos (by omega)]
        simp
      have hrd : K1.rd1 n i = some (cs.getD i undef) := by
        rw [rd1_of hg1, List.getD_eq_getElem?_getD]
        simp only
        rw [List.getElem?_eq_getElem (show i < cs.length by omega)]
        rfl
      have oi := hin i hi'
      rw [markM_get hi', if_neg (by omega)] at oi
      have ts := tot_succ hi'
      try simp (maxSteps := 3000000) (disch := first | omega | (simp only [len_new, len_put, len_kill]; omega)) only [↓xpre, xpost, ↓reduceIte, Nat.reduceEqDiff, Nat.reduceAdd, Nat.reduceSub, Nat.reduceLeDiff, Nat.zero_add, Nat.sub_zero, f0, f1, f5, hix, hrd, hcl]
      refine l_markInt64S oi.ownR (l2 i hi') (by omega) fun h' w o' => ?_
      try simp (maxSteps := 3000000) (disch := first | omega | (simp only [len_new, len_put, len_kill]; omega)) only [↓xpre, xpost, ↓reduceIte, Nat.reduceEqDiff, Nat.reduceAdd, Nat.reduceSub, Nat.reduceLeDiff, Nat.zero_add, Nat.sub_zero, f0, f1, f5, wrap64_in]
      have bi := oi.blk
      have ni := (hr i hi').2
      refine InvQ_go (rows.length - (i + 1)) (by omega) ⟨(i + 1), rfl, by omega, (by first | rfl | exact f0 | (simp only [upd_apply]; rfl) | (show I64 _ = _; congr 1; omega)), (by show I64 _ = I64 _; rw [ts, Int.add_assoc]), (by first | rfl | exact f5 | (simp only [upd_apply]; rfl) | (show I64 _ = _; congr 1; omega)), (by rw [w.get n ni]; exact hg1), (w1.trans (w.range bi)), (fun j hj => ?_)⟩
      rw [markM_get hj]
      by_cases hji : j = i
      · subst hji
        rw [if_pos (by omega)]
        exact o'.back bi
      · have oj := hin j hj
        rw [markM_get hj] at oj
        have e1 : (if j < i + 1 then marks (k + tot rows j) (rows.getD j []).length else rows.getD j []) = if j < i then marks (k + tot rows j) (rows.getD j []).length else rows.getD j [] := by
          by_cases h1 : j < i
          · rw [if_pos h1, if_pos (by omega)]
          · rw [if_neg h1, if_neg (by omega)]
        rw [e1]
        refine (oj.ownR.only' w fun m hm => .inr fun em => ?_).back oj.blk
        rcases Nat.lt_or_gt_of_ne hji with q | q
        · exact hd j i q hi' m em hm
        · exact hd i j q hj m hm em
    · have ei : i = rows.length := by omega
      subst ei
      try simp (maxSteps := 3000000) (disch := first | omega | (simp only [len_new, len_put, len_kill]; omega)) only [↓xpre, xpost, ↓reduceIte, Nat.reduceEqDiff, Nat.reduceAdd, Nat.reduceSub, Nat.reduceLeDiff, Nat.zero_add, Nat.sub_zero, f0, f1, f5]
      refine hQ h _ (List.prefix_refl _) w1 (.inr ⟨n, e, full, cs, hab, rfl, hg1, by rw [markM_len]; exact hcl, fun j hj => ?_, fun x y hxy hy => hd x y hxy (by rw [markM_len] at hy; exact hy)⟩)
      rw [markM_len] at hj
      exact ⟨hin j hj, (hr j hj).2⟩
theorem gheld_M {v : Value} {rows : List (List Int)} {k : Int} {h : AH} {Q : Value → AH → Prop} (hv : Rows h v (markM k rows rows.length)) (hl : SmallM rows) (hk : 0 ≤ k ∧ k ≤ 549755813888)
    (hQ : ∀ h', h <+: h' → Q (I64 (k + cntM rows)) h') : WF S 25 [v, I64 k] h Q := by
  refine WF_fn (fn := c25) rfl rfl ?_
  unfold c25
  try simp (maxSteps := 3000000) (disch := first | omega | (simp only [len_new, len_put, len_kill]; omega)) only [↓xpre, xpost, ↓reduceIte, Nat.reduceEqDiff, Nat.reduceAdd, Nat.reduceSub, Nat.reduceLeDiff, Nat.zero_add, Nat.sub_zero]
  obtain ⟨cs, hvv, hcl, hr⟩ := hv
  rw [markM_len] at hcl hr
  obtain ⟨l1, l2, l3⟩ := hl
  refine WC_loop_inv (fun m f K1 => ∃ (i : Nat), m = rows.length - i ∧ i ≤ rows.length ∧ f 0 = v ∧ f 1 = I64 (k + tot rows i) ∧ f 5 = I64 i ∧ K1 = h) ?_ (rows.length - 0) _ _ ⟨0, rfl, by omega, (by first | rfl | (simp [upd_apply]; done)), (by first | rfl | (simp [upd_apply]; done)), (by first | rfl | (simp [upd_apply]; done)), rfl⟩
  rintro m f K1 ⟨i, rfl, hi, f0, f1, f5, rfl⟩
  have tn := tot_nn (rows := rows) (i := i)
  have tl := tot_le (rows := rows) (i := i) (m := rows.length - i)
  rw [show i + (rows.length - i) = rows.length by omega] at tl
  try simp (maxSteps := 3000000) (disch := first | omega | (simp only [len_new, len_put, len_kill]; omega)) only [↓xpre, xpost, ↓reduceIte, Nat.reduceEqDiff, Nat.reduceAdd, Nat.reduceSub, Nat.reduceLeDiff, Nat.zero_add, Nat.sub_zero, f0, f1, f5, hvv.len, hcl, IfW_dec]
  refine ⟨fun hlt => ?_, fun hge => ?_⟩
  · have hi' : i < rows.length := by omega
    have hix := hvv.ix (k := .i64) (j := i) (by omega) (by omega)
    have hrd := hvv.rd (j := i) (by omega) (by omega)
    have ri := hr i hi'
    rw [markM_get hi', if_pos hi'] at ri
    have ts := tot_succ hi'
    try simp (maxSteps := 3000000) (disch := first | omega | (simp only [len_new, len_put, len_kill]; omega)) only [↓xpre, xpost, ↓reduceIte, Nat.reduceEqDiff, Nat.reduceAdd, Nat.reduceSub, Nat.reduceLeDiff, Nat.zero_add, Nat.sub_zero, f0, f1, f5, hix, hrd, Int.toNat_natCast]
    refine l_heldInt64S ri (l2 i hi') (by omega) ?_
    try simp (maxSteps := 3000000) (disch := first | omega | (simp only [len_new, len_put, len_kill]; omega)) only [↓xpre, xpost, ↓reduceIte, Nat.reduceEqDiff, Nat.reduceAdd, Nat.reduceSub, Nat.reduceLeDiff, Nat.zero_add, Nat.sub_zero, f0, f1, f5, IfW_dec]
    refine ⟨fun hlt => by omega, fun _ => ?_⟩
    try simp (maxSteps := 3000000) (disch := first | omega | (simp only [len_new, len_put, len_kill]; omega)) only [↓xpre, xpost, ↓reduceIte, Nat.reduceEqDiff, Nat.reduceAdd, Nat.reduceSub, Nat.reduceLeDiff, Nat.zero_add, Nat.sub_zero, f0, f1, f5, wrap64_in]
    refine InvQ_go (rows.length - (i + 1)) (by omega) ⟨(i + 1), rfl, by omega, (by first | rfl | exact f0 | (simp only [upd_apply]; rfl) | (show I64 _ = _; congr 1; omega)), (by show I64 _ = I64 _; rw [ts, Int.add_assoc]), (by first | rfl | exact f5 | (simp only [upd_apply]; rfl) | (show I64 _ = _; congr 1; omega)), rfl⟩
  · have ei : i = rows.length := by omega
    subst ei
    try simp (maxSteps := 3000000) (disch := first | omega | (simp only [len_new, len_put, len_kill]; omega)) only [↓xpre, xpost, ↓reduceIte, Nat.reduceEqDiff, Nat.reduceAdd, Nat.reduceSub, Nat.reduceLeDiff, Nat.zero_add, Nat.sub_zero, f0, f1, f5]
    exact hQ _ (List.prefix_refl _)
end Go.Proofs.Ytilpnbejpndgpaa.X

/- Indices of arrays; parts of lists; slices of tensors. -/
set_option linter.unusedVariables false
set_option linter.unusedSimpArgs false
set_option maxRecDepth 20000
set_option maxHeartbeats 4000000
namespace Go.Proofs.Ytilpnbejpndgpaa.X
open Go Go.RowKit

def ixaV (len sz : Nat) (x i : Value) : Option Value := match x, i with
  | .pointer (some ⟨n, off, _⟩), .int _ j => if 0 ≤ j ∧ j < len then some (.pointer (some ⟨n, off + j.toNat * sz, none⟩)) else none
  | _, _ => none
def idx1V (len : Nat) (x i : Value) : Option Value := match x, i with
  | .agg cs, .int _ j => if 0 ≤ j ∧ j < len then cs.toList[j.toNat]? else none
  | _, _ => none
def idxnV (len sz : Nat) (x i : Value) : Option Value := match x, i with
  | .agg cs, .int _ j => if 0 ≤ j ∧ j < len ∧ j.toNat * sz + sz ≤ cs.toList.length then some (.agg ((cs.toList.drop (j.toNat * sz)).take sz).toArray) else none
  | _, _ => none
theorem WX_of {S : XS} {o : XOp} {f : Fr} {h : AH} {Q : Value → AH → Prop} {r : Option Value} (ho : ∀ C, xrun C o f h = xop o f h) (e : xop o f h = r.map (·, h)) : WX S o f h Q = WV r fun v => Q v h := by
  rw [WX_op ho, e]
  cases r <;> simp [OQ_some, WV_some, OQ_none, WV_none]
theorem WX_ixa {S : XS} {f : Fr} {h : AH} {Q : Value → AH → Prop} {n sz : Nat} {x y : Operand} : WX S (.ixa n sz x y) f h Q = WV (ixaV n sz (ev f x) (ev f y)) fun v => Q v h := by
  refine WX_of (fun _ => rfl) ?_
  simp only [xop, ixaV]
  generalize ev f x = a
  generalize ev f y = b
  split
  · dsimp only
    split <;> rfl
  · rename_i q
    split
    · exact absurd rfl (q _ _ _ _ _ rfl)
    · rfl
theorem ixaV_ptr {len sz n off : Nat} {k : IntKind} {j : Int} (h : 0 ≤ j ∧ j < len) : ixaV len sz (.pointer (some ⟨n, off, none⟩)) (.int k j) = some (.pointer (some ⟨n, off + j.toNat * sz, none⟩)) := by
  simp [ixaV, h]
theorem WX_idx1 {S : XS} {f : Fr} {h : AH} {Q : Value → AH → Prop} {n : Nat} {x y : Operand} : WX S (.idx1 n x y) f h Q = WV (idx1V n (ev f x) (ev f y)) fun v => Q v h := by
  refine WX_of (fun _ => rfl) ?_
  simp only [xop, idx1V]
  generalize ev f x = a
  generalize ev f y = b
  split
  · dsimp only
    split
    · rename_i cs _ j _
      cases cs.toList[j.toNat]? <;> rfl
    · rfl
  · rename_i q
    split
    · exact absurd rfl (q _ _ _ rfl)
    · rfl
theorem WX_idxn {S : XS} {f : Fr} {h : AH} {Q : Value → AH → Prop} {n sz : Nat} {x y : Operand} : WX S (.idxn n sz x y) f h Q = WV (idxnV n sz (ev f x) (ev f y)) fun v => Q v h := by
  refine WX_of (fun _ => rfl) ?_
  simp only [xop, idxnV]
  generalize ev f x = a
  generalize ev f y = b
  split
  · dsimp only
    split <;> rfl
  · rename_i q
    split
    · exact absurd rfl (q _ _ _ rfl)
    · rfl

/-! ### Parts -/
def parts (ns : List Int) (w n : Nat) : List (List Int) := (List.range n).map fun i => (ns.drop (i * w)).take w
theorem parts_len {ns : List Int} {w n : Nat} : (parts ns w n).length = n := by simp [parts]
theorem parts_get {ns : List Int} {w n i : Nat} (hi : i < n) : (parts ns w n).getD i [] = (ns.drop (i * w)).take w := by
  simp [parts, List.getD_eq_getElem?_getD, List.getElem?_map, List.getElem?_range hi]
theorem take_next {α : Type} {d : α} {l : List α} {i : Nat} (hi : i < l.length) : l.take (i + 1) = l.take i ++ [l.getD i d] := by
  rw [List.take_succ_eq_append_getElem hi]
  simp [List.getD_eq_getElem?_getD, hi]
theorem OwnRows.lo {h0 h1 h : AH} {v : Value} {rows : List (List Int)} (o : OwnRows h0 h v rows) (p : h1.length ≤ h0.length) : OwnRows h1 h v rows := by
  rcases o with ⟨rfl, rfl⟩ | ⟨n, e, full, cs, h1, rfl, h2, h3, h4, h5⟩
  · exact .inl ⟨rfl, rfl⟩
  · exact .inr ⟨n, e, full, cs, by omega, rfl, h2, h3, fun i hi => ⟨(h4 i hi).1.lo p, (h4 i hi).2⟩, h5⟩
theorem mul_row {i n w : Nat} (hi : i < n) : i * w + w ≤ n * w := by
  have := Nat.mul_le_mul_right w (show i + 1 ≤ n by omega)
  rw [Nat.succ_mul] at this
  exact this

theorem i_parted {v : Value} {ns : List Int} {w n : Nat} {h : AH} {Q : Value → AH → Prop} (hv : Ints h v ns) (hl : (ns.length : Int) ≤ 1048576) (hw : 1 ≤ w) (hn : ns.length = n * w)
    (hQ : ∀ v' h', h <+: h' → OwnRows h h' v' (parts ns w n) → Q v' h') : WF S 103 [v, I64 w] h Q := by
  refine WF_fn (fn := c103) rfl rfl ?_
  unfold c103
  try simp (maxSteps := 3000000) (disch := first | omega | (simp only [len_new, len_put, len_kill]; omega)) only [↓xpre, xpost, ↓reduceIte, Nat.reduceEqDiff, Nat.reduceAdd, Nat.reduceSub, Nat.reduceLeDiff, Nat.zero_add, Nat.sub_zero, fillL, zrep]
  generalize hH1 : AH.new h _ = H1
  obtain ⟨hb1, p1, n1⟩ := new_facts hH1
  have st0 : TabS h H1 h.length true [] := ⟨p1, Nat.le_refl _, hb1, by simp, by simp⟩
  have hnw : n ≤ n * w := Nat.le_mul_of_pos_right _ (by omega)
  refine WC_loop_inv (fun m f K1 => ∃ (i : Nat) (nb : Nat) (full : Bool) (L : List (Nat × List Int)), m = n - i ∧ i ≤ n ∧ f 0 = v ∧ f 1 = I64 w ∧ f 5 = .slice (some ⟨nb, 0, none⟩) L.length 1 ∧ f 6 = I64 ((i * w : Nat) : Int) ∧ (TabS h K1 nb full L) ∧ (L.map Prod.snd = (parts ns w n).take i)) ?_ (n - 0) _ _ ⟨0, h.length, true, [], rfl, by omega, (by first | rfl | (simp [upd_apply]; done)), (by first | rfl | (simp [upd_apply]; done)), (by first | rfl | (simp [upd_apply]; done)), (by first | rfl | (simp [upd_apply]; done)), st0, (by simp)⟩
  rintro m f K1 ⟨i, nb, full, L, rfl, hi, f0, f1, f5, f6, st, hL⟩
  have hLl : L.length = i := by
    have := congrArg List.length hL
    rw [List.length_map, List.length_take, parts_len] at this
    omega
  have hvK := hv.pre st.hp
  try simp (maxSteps := 3000000) (disch := first | omega | (simp only [len_new, len_put, len_kill]; omega)) only [↓xpre, xpost, ↓reduceIte, Nat.reduceEqDiff, Nat.reduceAdd, Nat.reduceSub, Nat.reduceLeDiff, Nat.zero_add, Nat.sub_zero, f0, f1, f5, f6, hvK.len, IfW_dec]
  refine ⟨fun hlt => ?_, fun hge => ?_⟩
  · have hi' : i < n := by
      apply Decidable.byContradiction
      intro hc
      have : i = n := by omega
      subst this
      omega
    have hrow := mul_row (w := w) hi'
    obtain ⟨v', e1, e2⟩ := hvK.slcV (k1 := .i64) (k2 := .i64) (l := ((i * w : Nat) : Int)) (u := ((i * w : Nat) : Int) + (w : Int)) (by omega)
    rw [Int.toNat_natCast, show (((i * w : Nat) : Int) + (w : Int) - ((i * w : Nat) : Int)).toNat = w by omega] at e2
    have rl : ((ns.drop (i * w)).take w).length = w := by rw [List.length_take, List.length_drop]; omega
    try simp (maxSteps := 3000000) (disch := first | omega | (simp only [len_new, len_put, len_kill]; omega)) only [↓xpre, xpost, ↓reduceIte, Nat.reduceEqDiff, Nat.reduceAdd, Nat.reduceSub, Nat.reduceLeDiff, Nat.zero_add, Nat.sub_zero, f0, f1, f5, f6, wrap64_in, ↓WX_slc, omapF_some, omapF_none, e1]
    refine i_CloneB e2 (by omega) (by omega) fun n' h2 hn' p2 ob => ?_
    try simp (maxSteps := 3000000) (disch := first | omega | (simp only [len_new, len_put, len_kill]; omega)) only [↓xpre, xpost, ↓reduceIte, Nat.reduceEqDiff, Nat.reduceAdd, Nat.reduceSub, Nat.reduceLeDiff, Nat.zero_add, Nat.sub_zero, f0, f1, f5, f6, fillL, zrep]
    have lt := st.lt
    refine (st.pre p2).app ⟨by have := pre_len st.hp; omega, by omega, fun p hp => by have := lt.2 p hp; omega⟩ ob (by omega) fun nb' H' st' => ?_
    try simp (maxSteps := 3000000) (disch := first | omega | (simp only [len_new, len_put, len_kill]; omega)) only [↓xpre, xpost, ↓reduceIte, Nat.reduceEqDiff, Nat.reduceAdd, Nat.reduceSub, Nat.reduceLeDiff, Nat.zero_add, Nat.sub_zero, f0, f1, f5, f6, wrap64_in]
    refine InvQ_go (n - (i + 1)) (by omega) ⟨(i + 1), nb', false, (L ++ [(n', (ns.drop (i * w)).take w)]), rfl, by omega, (by first | rfl | exact f0 | (simp only [upd_apply]; rfl) | (show I64 _ = _; congr 1; omega)), (by first | rfl | exact f1 | (simp only [upd_apply]; rfl) | (show I64 _ = _; congr 1; omega)), (by first | rfl | exact f5 | (simp only [upd_apply]; rfl) | (show I64 _ = _; congr 1; omega)), (by show I64 _ = _; rw [Nat.succ_mul]; rfl), st', ?_⟩
    rw [List.map_append, hL, take_next (d := []) (by rw [parts_len]; exact hi'), parts_get hi']
    rfl
  · have e : i = n := by
      apply Decidable.byContradiction
      intro hc
      have := mul_row (w := w) (show i < n by omega)
      omega
    subst e
    rw [List.take_of_length_le (by rw [parts_len]; exact Nat.le_refl _)] at hL
    try simp (maxSteps := 3000000) (disch := first | omega | (simp only [len_new, len_put, len_kill]; omega)) only [↓xpre, xpost, ↓reduceIte, Nat.reduceEqDiff, Nat.reduceAdd, Nat.reduceSub, Nat.reduceLeDiff, Nat.zero_add, Nat.sub_zero, f0, f1, f5, f6]
    have o := st.own
    rw [hL] at o
    exact hQ _ _ st.hp o
end Go.Proofs.Ytilpnbejpndgpaa.X

/- Slices of elements of some whole numbers each (products of schemes, steps of programs). -/
set_option linter.unusedVariables false
set_option linter.unusedSimpArgs false
set_option maxRecDepth 20000
set_option maxHeartbeats 4000000
namespace Go.Proofs.Ytilpnbejpndgpaa.X
open Go Go.RowKit

/-- Cells of whole numbers. -/
def cel (k : IntKind) (q : List Int) : List Value := q.map (Value.int k)
theorem cel_len {k : IntKind} {q : List Int} : (cel k q).length = q.length := List.length_map _
theorem cel_all {k : IntKind} {q : List Int} : (cel k q).all isOne = true := by
  unfold cel
  induction q with
  | nil => rfl
  | cons a l ih => simp only [List.map_cons, List.all_cons, ih, Bool.and_true]; rfl
theorem cel_get {k : IntKind} {q : List Int} {j : Nat} (hj : j < q.length) : (cel k q)[j]? = some (.int k (q.getD j 0)) := by
  simp [cel, List.getD_eq_getElem?_getD, hj]
theorem cel_take {k : IntKind} {q : List Int} {n : Nat} : (cel k q).take n = cel k (q.take n) := by simp [cel, List.map_take]
theorem cel_drop {k : IntKind} {q : List Int} {n : Nat} : (cel k q).drop n = cel k (q.drop n) := by simp [cel, List.map_drop]
theorem cel_app {k : IntKind} {q r : List Int} : cel k q ++ cel k r = cel k (q ++ r) := by simp [cel]
theorem cel_set {k : IntKind} {q : List Int} {j : Nat} {x : Int} (hj : j < q.length) : splice (cel k q) j [.int k x] = cel k (q.set j x) := by
  rw [splice_set (by rw [cel_len]; exact hj)]
  simp [cel, List.map_set]
theorem cel_splice {k : IntKind} {q r : List Int} {j : Nat} : splice (cel k q) j (cel k r) = cel k (q.take j ++ r ++ q.drop (j + r.length)) := by
  rw [splice_eq]
  simp [cel, List.map_take, List.map_drop]
theorem cellsL_cel {k : IntKind} {q : List Int} : cellsL (.agg (cel k q).toArray) = cel k q := by rw [cellsL_agg]
/-- A slice of elements of w numbers each. -/
def Els (k : IntKind) (w : Nat) (h : AH) (v : Value) (L : List (List Int)) : Prop :=
  (L = [] ∧ ∃ t, t ≤ 2 ∧ v = .slice none 0 t) ∨
  ∃ b off blk, v = .slice (some ⟨b, off, none⟩) L.length w ∧ h.get b = some blk ∧ ∀ i, i < L.length → off + i * w + w ≤ blk.c.length ∧ (blk.c.drop (off + i * w)).take w = cel k (L.getD i [])
section
variable {k : IntKind} {w : Nat} {h h' : AH} {v : Value} {L : List (List Int)}
theorem Els.pre (e : Els k w h v L) (p : h <+: h') : Els k w h' v L := by
  rcases e with e | ⟨b, off, blk, h1, h2, h3⟩
  · exact .inl e
  · exact .inr ⟨b, off, blk, h1, pre_get p h2, h3⟩
theorem Els.len (e : Els k w h v L) : lenV v = some (.int .i64 L.length) := by
  rcases e with ⟨rfl, t, _, rfl⟩ | ⟨b, off, blk, rfl, h2, h3⟩ <;> rfl
theorem Els.one (e : Els k w h v L) : isOne v = true := by
  rcases e with ⟨rfl, t, _, rfl⟩ | ⟨b, off, blk, rfl, h2, h3⟩ <;> rfl
theorem Els.cells (e : Els k w h v L) : cellsL v = [v] := by
  rcases e with ⟨rfl, t, _, rfl⟩ | ⟨b, off, blk, rfl, h2, h3⟩ <;> rfl
theorem Els.wid (e : Els k w h v L) {i : Nat} (hi : i < L.length) : (L.getD i []).length = w := by
  rcases e with ⟨rfl, t, _, rfl⟩ | ⟨b, off, blk, rfl, h2, h3⟩
  · simp at hi
  · obtain ⟨h4, h5⟩ := h3 i hi
    have := congrArg List.length h5
    rw [cel_len, List.length_take, List.length_drop] at this
    omega
/-- The element's address, and what is read there. -/
theorem Els.at (e : Els k w h v L) {i : Nat} (hi : i < L.length) : ∃ n off, (∀ kk : IntKind, ixsV w v (.int kk i) = some (.pointer (some ⟨n, off, none⟩))) ∧
    (∀ o m, o + m ≤ w → h.rdn n (off + o) m = some (cel k (((L.getD i []).drop o).take m))) ∧ ∀ o, o < w → h.rd1 n (off + o) = some (.int k ((L.getD i []).getD o 0)) := by
  have hw := e.wid hi
  rcases e with ⟨rfl, t, _, rfl⟩ | ⟨b, off, blk, rfl, h2, h3⟩
  · simp at hi
  · obtain ⟨h4, h5⟩ := h3 i hi
    refine ⟨b, off + i * w, fun kk => ?_, fun o m hom => ?_, fun o ho => ?_⟩
    · rw [ixsV_some, if_pos (by omega), Int.toNat_natCast]
    · rw [rdn_of h2, if_pos (by omega)]
      congr 1
      rw [← cel_take, ← cel_drop, ← h5, List.drop_take, List.drop_drop, List.take_take, Nat.min_eq_left (by omega)]
    · rw [rd1_of h2]
      have := cel_get (k := k) (q := L.getD i []) (j := o) (by omega)
      rw [← h5, List.getElem?_take, if_pos ho, List.getElem?_drop] at this
      exact this
end
end Go.Proofs.Ytilpnbejpndgpaa.X
