/- Lists of whole numbers: copies, comparisons, bounds. -/
import Derived.Test.YtnjhhgfpclngcaaXF1
set_option linter.unusedVariables false
set_option linter.unusedSimpArgs false
namespace Go.Proofs.Ytnjhhgfpclngcaa.X
open Go Go.RowKit

def fillN (ns : List Int) (i : Nat) : List Int := ns.take i ++ List.replicate (ns.length - i) 0
theorem fillN_len {ns : List Int} {i : Nat} (hi : i ≤ ns.length) : (fillN ns i).length = ns.length := by simp [fillN]; omega
theorem fillN_zero {ns : List Int} : fillN ns 0 = List.replicate ns.length 0 := by simp [fillN]
theorem fillN_all {ns : List Int} : fillN ns ns.length = ns := by simp [fillN]
theorem fillN_set {ns : List Int} {i : Nat} (hi : i < ns.length) : (fillN ns i).set i (ns.getD i 0) = fillN ns (i + 1) := by
  unfold fillN
  rw [List.set_append_right _ _ (by rw [List.length_take]; omega)]
  have e1 : ns.length - i = (ns.length - (i + 1)) + 1 := by omega
  have e2 : i - (ns.take i).length = 0 := by rw [List.length_take]; exact Nat.sub_eq_zero_of_le (by omega)
  rw [e1, e2, List.replicate_succ, List.set_cons_zero, List.take_succ_eq_append_getElem hi]
  simp only [List.getD_eq_getElem?_getD, List.getElem?_eq_getElem hi, Option.getD_some, List.append_assoc, List.singleton_append]
theorem splice_map {l : List Int} {j : Nat} {x : Int} (hj : j < l.length) : splice (l.map (Value.int .i64)) j [I64 x] = (l.set j x).map (Value.int .i64) := by
  unfold splice
  rw [List.set_eq_take_append_cons_drop, if_pos hj]
  simp [List.map_take, List.map_drop]

def OwnB (h : AH) (n : Nat) (c : List Value) (full : Bool) : Prop := ∃ e, h.get n = some ⟨c, e, false, full⟩
theorem ownB_new {h : AH} {c : List Value} {e : TypeId} {full : Bool} : OwnB (h.new ⟨c, e, false, full⟩) h.length c full := ⟨e, get_new_same⟩
/-- A list of one's own: a block made behind a heap. -/
def OwnI (h0 h : AH) (v : Value) (ns : List Int) : Prop := ∃ n e, h0.length ≤ n ∧ v = .slice (some ⟨n, 0, none⟩) ns.length 1 ∧ h.get n = some ⟨ns.map (Value.int .i64), e, false, true⟩
theorem OwnI.ints {h0 h : AH} {v : Value} {ns : List Int} (o : OwnI h0 h v ns) : Ints h v ns := by
  obtain ⟨n, e, h1, rfl, h2⟩ := o
  exact Ints.own h2 rfl
theorem OwnI.pre {h0 h h' : AH} {v : Value} {ns : List Int} (o : OwnI h0 h v ns) (p : h <+: h') : OwnI h0 h' v ns := by
  obtain ⟨n, e, h1, rfl, h2⟩ := o
  exact ⟨n, e, h1, rfl, pre_get p h2⟩

theorem l_toInt64S {v : Value} {ns : List Int} {h : AH} {Q : Value → AH → Prop} (hv : Ints h v ns) (hl : (ns.length : Int) ≤ 1048576)
    (hQ : ∀ v' h', h <+: h' → OwnI h h' v' ns → Q v' h') : WF S 49 [v] h Q := by
  refine WF_fn (fn := c49) rfl rfl ?_
  unfold c49
  try simp (maxSteps := 3000000) (disch := first | omega | (simp only [len_new, len_put, len_kill]; omega)) only [↓xpre, xpost, ↓reduceIte, Nat.reduceEqDiff, Nat.reduceAdd, Nat.reduceSub, Nat.reduceLeDiff, Nat.zero_add, Nat.sub_zero, hv.len]
  refine ⟨by omega, ?_⟩
  refine WC_loop_inv (fun n f h1 => ∃ i : Nat, n = ns.length - i ∧ i ≤ ns.length ∧ f 0 = v ∧ f 3 = .slice (some ⟨h.length, 0, none⟩) ns.length 1 ∧ f 4 = I64 i ∧
    OwnB h1 h.length ((fillN ns i).map (Value.int .i64)) true ∧ h <+: h1) ?_ ns.length _ _ ⟨0, rfl, Nat.zero_le _, rfl, ?_, rfl, ?_, pre_new (List.prefix_refl _)⟩
  · rintro n f h1 ⟨i, rfl, hi, f0, f3, f4, ⟨e, hb⟩, hp⟩
    have hv1 := hv.pre hp
    try simp (maxSteps := 3000000) (disch := first | omega | (simp only [len_new, len_put, len_kill]; omega)) only [↓xpre, xpost, ↓reduceIte, Nat.reduceEqDiff, Nat.reduceAdd, Nat.reduceSub, Nat.reduceLeDiff, Nat.zero_add, Nat.sub_zero, f0, f3, f4, hv1.len, IfW_dec]
    refine ⟨fun hlt => ?_, fun hge => ?_⟩
    · try simp (maxSteps := 3000000) (disch := first | omega | (simp only [len_new, len_put, len_kill]; omega)) only [↓xpre, xpost, ↓reduceIte, Nat.reduceEqDiff, Nat.reduceAdd, Nat.reduceSub, Nat.reduceLeDiff, Nat.zero_add, Nat.sub_zero, f0, f3, f4, hv1.ix, hv1.rd, ixsV_some]
      refine ⟨⟨by omega, hlt⟩, ?_⟩
      rw [wr_eq hb rfl (by simp [fillN_len hi]; omega)]
      try simp (maxSteps := 3000000) (disch := first | omega | (simp only [len_new, len_put, len_kill]; omega)) only [↓xpre, xpost, ↓reduceIte, Nat.reduceEqDiff, Nat.reduceAdd, Nat.reduceSub, Nat.reduceLeDiff, Nat.zero_add, Nat.sub_zero, f0, f3, f4, wrap64_in]
      refine InvQ_go (ns.length - (i + 1)) (by omega) ⟨i + 1, rfl, by omega, f0, f3, rfl, ⟨e, ?_⟩, pre_put hp (Nat.le_refl _)⟩
      rw [get_put_same (get_lt hb)]
      have e1 : ((i : Int).toNat * 1) = i := by omega
      simp only [e1, Nat.zero_add]
      rw [splice_map (by rw [fillN_len hi]; omega)]
      have := fillN_set (ns := ns) (i := i) (by omega)
      simp only [nth, Int.toNat_natCast]
      rw [this]
    · try simp (maxSteps := 3000000) (disch := first | omega | (simp only [len_new, len_put, len_kill]; omega)) only [↓xpre, xpost, ↓reduceIte, Nat.reduceEqDiff, Nat.reduceAdd, Nat.reduceSub, Nat.reduceLeDiff, Nat.zero_add, Nat.sub_zero, f0, f3, f4]
      refine hQ _ _ hp ⟨h.length, e, Nat.le_refl _, rfl, ?_⟩
      have : i = ns.length := by omega
      subst this
      rw [hb, fillN_all]
  · simp [upd_apply]
  · rw [fillN_zero, Int.toNat_natCast, zrep_ints]
    exact ownB_new

theorem l_eqInt64S {v v' : Value} {ns ms : List Int} {h : AH} {Q : Value → AH → Prop} (hv : Ints h v ns) (hv' : Ints h v' ms) (hl : (ns.length : Int) ≤ 1048576)
    (hQ : Q (.bool (decide (ns = ms))) h) : WF S 51 [v, v'] h Q := by
  refine WF_fn (fn := c51) rfl rfl ?_
  unfold c51
  try simp (maxSteps := 3000000) (disch := first | omega | (simp only [len_new, len_put, len_kill]; omega)) only [↓xpre, xpost, ↓reduceIte, Nat.reduceEqDiff, Nat.reduceAdd, Nat.reduceSub, Nat.reduceLeDiff, Nat.zero_add, Nat.sub_zero, hv.len, hv'.len, IfW_dec]
  refine ⟨fun hne => ?_, fun heq => ?_⟩
  · try simp (maxSteps := 3000000) (disch := first | omega | (simp only [len_new, len_put, len_kill]; omega)) only [↓xpre, xpost, ↓reduceIte, Nat.reduceEqDiff, Nat.reduceAdd, Nat.reduceSub, Nat.reduceLeDiff, Nat.zero_add, Nat.sub_zero]
    have : ns ≠ ms := fun e => hne (by rw [e])
    simpa [this] using hQ
  · try simp (maxSteps := 3000000) (disch := first | omega | (simp only [len_new, len_put, len_kill]; omega)) only [↓xpre, xpost, ↓reduceIte, Nat.reduceEqDiff, Nat.reduceAdd, Nat.reduceSub, Nat.reduceLeDiff, Nat.zero_add, Nat.sub_zero]
    have hlen : ns.length = ms.length := by omega
    refine WC_loop_inv (fun n f h1 => ∃ i : Nat, n = ns.length - i ∧ i ≤ ns.length ∧ f 0 = v ∧ f 1 = v' ∧ f 5 = I64 i ∧ h1 = h ∧ ∀ j, j < i → ns.getD j 0 = ms.getD j 0) ?_ ns.length _ _ ⟨0, rfl, Nat.zero_le _, rfl, rfl, rfl, rfl, by omega⟩
    rintro n f h1 ⟨i, rfl, hi, f0, f1, f5, rfl, hj⟩
    try simp (maxSteps := 3000000) (disch := first | omega | (simp only [len_new, len_put, len_kill]; omega)) only [↓xpre, xpost, ↓reduceIte, Nat.reduceEqDiff, Nat.reduceAdd, Nat.reduceSub, Nat.reduceLeDiff, Nat.zero_add, Nat.sub_zero, f0, f1, f5, hv.len, IfW_dec]
    refine ⟨fun hlt => ?_, fun hge => ?_⟩
    · try simp (maxSteps := 3000000) (disch := first | omega | (simp only [len_new, len_put, len_kill]; omega)) only [↓xpre, xpost, ↓reduceIte, Nat.reduceEqDiff, Nat.reduceAdd, Nat.reduceSub, Nat.reduceLeDiff, Nat.zero_add, Nat.sub_zero, f0, f1, f5, hv.ix, hv.rd, hv'.ix, hv'.rd, IfW_dec]
      simp only [nth, Int.toNat_natCast]
      refine ⟨fun hne => ?_, fun he => ?_⟩
      · try simp (maxSteps := 3000000) (disch := first | omega | (simp only [len_new, len_put, len_kill]; omega)) only [↓xpre, xpost, ↓reduceIte, Nat.reduceEqDiff, Nat.reduceAdd, Nat.reduceSub, Nat.reduceLeDiff, Nat.zero_add, Nat.sub_zero]
        have : ns ≠ ms := fun e => hne (by rw [e])
        simpa [this] using hQ
      · try simp (maxSteps := 3000000) (disch := first | omega | (simp only [len_new, len_put, len_kill]; omega)) only [↓xpre, xpost, ↓reduceIte, Nat.reduceEqDiff, Nat.reduceAdd, Nat.reduceSub, Nat.reduceLeDiff, Nat.zero_add, Nat.sub_zero, f0, f1, f5, wrap64_in]
        refine InvQ_go (ns.length - (i + 1)) (by omega) ⟨i + 1, rfl, by omega, f0, f1, rfl, rfl, fun j hj' => ?_⟩
        rcases Nat.lt_succ_iff_lt_or_eq.1 hj' with hj' | rfl
        · exact hj j hj'
        · exact Decidable.not_not.1 he
    · try simp (maxSteps := 3000000) (disch := first | omega | (simp only [len_new, len_put, len_kill]; omega)) only [↓xpre, xpost, ↓reduceIte, Nat.reduceEqDiff, Nat.reduceAdd, Nat.reduceSub, Nat.reduceLeDiff, Nat.zero_add, Nat.sub_zero, f0, f1, f5]
      have : ns = ms := by
        refine List.ext_getElem? fun j => ?_
        by_cases h1 : j < ns.length
        · have := hj j (by omega)
          rw [List.getElem?_eq_getElem h1, List.getElem?_eq_getElem (by omega)]
          simpa [List.getD_eq_getElem?_getD, List.getElem?_eq_getElem h1, List.getElem?_eq_getElem (show j < ms.length by omega)] using this
        · rw [List.getElem?_eq_none (by omega), List.getElem?_eq_none (by omega)]
      simpa [this] using hQ

def allIn (p : Int) (ns : List Int) : Bool := ns.all fun n => decide (0 ≤ n ∧ n < p)
theorem allIn_iff {p : Int} {ns : List Int} : allIn p ns = true ↔ ∀ j, j < ns.length → 0 ≤ ns.getD j 0 ∧ ns.getD j 0 < p := by
  simp only [allIn, List.all_eq_true, decide_eq_true_eq]
  constructor
  · intro h j hj
    have := h (ns.getD j 0) (by simp [List.getD_eq_getElem?_getD, List.getElem?_eq_getElem hj])
    exact this
  · intro h x hx
    obtain ⟨j, hj, rfl⟩ := List.mem_iff_getElem.1 hx
    have := h j hj
    simpa [List.getD_eq_getElem?_getD, List.getElem?_eq_getElem hj] using this
theorem i_areNumbers {v : Value} {ns : List Int} {p : Int} {h : AH} {Q : Value → AH → Prop} (hv : Ints h v ns) (hl : (ns.length : Int) ≤ 1048576)
    (hQ : Q (.bool (allIn p ns)) h) : WF S 61 [I64 p, v] h Q := by
  refine WF_fn (fn := c61) rfl rfl ?_
  unfold c61
  try simp (maxSteps := 3000000) (disch := first | omega | (simp only [len_new, len_put, len_kill]; omega)) only [↓xpre, xpost, ↓reduceIte, Nat.reduceEqDiff, Nat.reduceAdd, Nat.reduceSub, Nat.reduceLeDiff, Nat.zero_add, Nat.sub_zero, hv.len]
  refine WC_loop_inv (fun n f h1 => ∃ i : Nat, n = ns.length - i ∧ i ≤ ns.length ∧ f 0 = I64 p ∧ f 7 = v ∧ f 8 = I64 ns.length ∧ f 9 = I64 i ∧ h1 = h ∧ ∀ j, j < i → 0 ≤ ns.getD j 0 ∧ ns.getD j 0 < p) ?_ ns.length _ _ ⟨0, rfl, Nat.zero_le _, rfl, rfl, rfl, rfl, rfl, by omega⟩
  rintro n f h1 ⟨i, rfl, hi, f0, f7, f8, f9, rfl, hj⟩
  try simp (maxSteps := 3000000) (disch := first | omega | (simp only [len_new, len_put, len_kill]; omega)) only [↓xpre, xpost, ↓reduceIte, Nat.reduceEqDiff, Nat.reduceAdd, Nat.reduceSub, Nat.reduceLeDiff, Nat.zero_add, Nat.sub_zero, f0, f7, f8, f9, IfW_dec]
  refine ⟨fun hlt => ?_, fun hge => ?_⟩
  · try simp (maxSteps := 3000000) (disch := first | omega | (simp only [len_new, len_put, len_kill]; omega)) only [↓xpre, xpost, ↓reduceIte, Nat.reduceEqDiff, Nat.reduceAdd, Nat.reduceSub, Nat.reduceLeDiff, Nat.zero_add, Nat.sub_zero, f0, f7, f8, f9, hv.ix, hv.rd]
    simp only [nth, Int.toNat_natCast]
    have bad : ¬ (0 ≤ ns.getD i 0 ∧ ns.getD i 0 < p) → allIn p ns = false := fun hb => by
      cases ha : allIn p ns with
      | false => rfl
      | true => exact (hb (allIn_iff.1 ha i (by omega))).elim
    by_cases h1 : ns.getD i 0 < 0
    · try simp (maxSteps := 3000000) (disch := first | omega | (simp only [len_new, len_put, len_kill]; omega)) only [↓xpre, xpost, ↓reduceIte, Nat.reduceEqDiff, Nat.reduceAdd, Nat.reduceSub, Nat.reduceLeDiff, Nat.zero_add, Nat.sub_zero, h1, f0, f7, f8, f9]
      rw [bad (by omega)] at hQ
      exact hQ
    · try simp (maxSteps := 3000000) (disch := first | omega | (simp only [len_new, len_put, len_kill]; omega)) only [↓xpre, xpost, ↓reduceIte, Nat.reduceEqDiff, Nat.reduceAdd, Nat.reduceSub, Nat.reduceLeDiff, Nat.zero_add, Nat.sub_zero, h1, f0, f7, f8, f9, IfW_dec]
      refine ⟨fun h2 => ?_, fun h2 => ?_⟩
      · try simp (maxSteps := 3000000) (disch := first | omega | (simp only [len_new, len_put, len_kill]; omega)) only [↓xpre, xpost, ↓reduceIte, Nat.reduceEqDiff, Nat.reduceAdd, Nat.reduceSub, Nat.reduceLeDiff, Nat.zero_add, Nat.sub_zero]
        rw [bad (by omega)] at hQ
        exact hQ
      · try simp (maxSteps := 3000000) (disch := first | omega | (simp only [len_new, len_put, len_kill]; omega)) only [↓xpre, xpost, ↓reduceIte, Nat.reduceEqDiff, Nat.reduceAdd, Nat.reduceSub, Nat.reduceLeDiff, Nat.zero_add, Nat.sub_zero, f0, f7, f8, f9, wrap64_in]
        refine InvQ_go (ns.length - (i + 1)) (by omega) ⟨i + 1, rfl, by omega, f0, f7, f8, rfl, rfl, fun j hj' => ?_⟩
        rcases Nat.lt_succ_iff_lt_or_eq.1 hj' with hj' | rfl
        · exact hj j hj'
        · omega
  · try simp (maxSteps := 3000000) (disch := first | omega | (simp only [len_new, len_put, len_kill]; omega)) only [↓xpre, xpost, ↓reduceIte, Nat.reduceEqDiff, Nat.reduceAdd, Nat.reduceSub, Nat.reduceLeDiff, Nat.zero_add, Nat.sub_zero, f0, f7, f8, f9]
    have : allIn p ns = true := allIn_iff.2 fun j hj' => hj j (by omega)
    rw [this] at hQ
    exact hQ
end Go.Proofs.Ytnjhhgfpclngcaa.X
