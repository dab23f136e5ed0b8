/- Texts of one claim, put together by merge.py: XS21, XS22. -/
import Derived.Test.YtphklalbkpohfaaM5
import Derived.Test.YtphklalbkpohfaaMY
/- Border schemes: sizes, copies, comparisons (printed by wip/tools/mkXS21.py). -/
set_option linter.unusedVariables false
set_option linter.unusedSimpArgs false
set_option maxRecDepth 20000
set_option maxHeartbeats 4000000
namespace Go.Proofs.Ytphklalbkpohfaa.X
open Go Go.RowKit

theorem zeros4 : ([.int .u8 0, .int .u8 0, .int .u8 0, .int .u8 0] : List Value) = cel .u8 (List.replicate 4 0) := rfl
theorem zeros36 : ([.int .u8 0, .int .u8 0, .int .u8 0, .int .u8 0, .int .u8 0, .int .u8 0, .int .u8 0, .int .u8 0, .int .u8 0, .int .u8 0, .int .u8 0, .int .u8 0, .int .u8 0, .int .u8 0, .int .u8 0, .int .u8 0, .int .u8 0, .int .u8 0, .int .u8 0, .int .u8 0, .int .u8 0, .int .u8 0, .int .u8 0, .int .u8 0, .int .u8 0, .int .u8 0, .int .u8 0, .int .u8 0, .int .u8 0, .int .u8 0, .int .u8 0, .int .u8 0, .int .u8 0, .int .u8 0, .int .u8 0, .int .u8 0] : List Value) = cel .u8 (List.replicate 36 0) := rfl
theorem zeros108 : ([.int .u8 0, .int .u8 0, .int .u8 0, .int .u8 0, .int .u8 0, .int .u8 0, .int .u8 0, .int .u8 0, .int .u8 0, .int .u8 0, .int .u8 0, .int .u8 0, .int .u8 0, .int .u8 0, .int .u8 0, .int .u8 0, .int .u8 0, .int .u8 0, .int .u8 0, .int .u8 0, .int .u8 0, .int .u8 0, .int .u8 0, .int .u8 0, .int .u8 0, .int .u8 0, .int .u8 0, .int .u8 0, .int .u8 0, .int .u8 0, .int .u8 0, .int .u8 0, .int .u8 0, .int .u8 0, .int .u8 0, .int .u8 0, .int .u8 0, .int .u8 0, .int .u8 0, .int .u8 0, .int .u8 0, .int .u8 0, .int .u8 0, .int .u8 0, .int .u8 0, .int .u8 0, .int .u8 0, .int .u8 0, .int .u8 0, .int .u8 0, .int .u8 0, .int .u8 0, .int .u8 0, .int .u8 0, .int .u8 0, .int .u8 0, .int .u8 0, .int .u8 0, .int .u8 0, .int .u8 0, .int .u8 0, .int .u8 0, .int .u8 0, .int .u8 0, .int .u8 0, .int .u8 0, .int .u8 0, .int .u8 0, .int .u8 0, .int .u8 0, .int .u8 0, .int .u8 0, .int .u8 0, .int .u8 0, .int .u8 0, .int .u8 0, .int .u8 0, .int .u8 0, .int .u8 0, .int .u8 0, .int .u8 0, .int .u8 0, .int .u8 0, .int .u8 0, .int .u8 0, .int .u8 0, .int .u8 0, .int .u8 0, .int .u8 0, .int .u8 0, .int .u8 0, .int .u8 0, .int .u8 0, .int .u8 0, .int .u8 0, .int .u8 0, .int .u8 0, .int .u8 0, .int .u8 0, .int .u8 0, .int .u8 0, .int .u8 0, .int .u8 0, .int .u8 0, .int .u8 0, .int .u8 0, .int .u8 0, .int .u8 0] : List Value) = cel .u8 (List.replicate 108 0) := rfl
theorem l_toA4 {q : List Int} {h : AH} {Q : Value → AH → Prop} (hq : q.length = 4) (hQ : ∀ h', h <+: h' → Q (aggV .u8 q) h') : WF S 123 [aggV .u8 q] h Q := by
  refine WF_fn (fn := c123) rfl rfl ?_
  unfold c123
  try simp (maxSteps := 3000000) (disch := first | omega | (simp only [len_new, len_put, len_kill]; omega)) only [↓xpre, xpost, ↓reduceIte, Nat.reduceEqDiff, Nat.reduceAdd, Nat.reduceSub, Nat.reduceLeDiff, Nat.zero_add, Nat.sub_zero, aggV, zeros4, cel_all]
  generalize hH1 : AH.new h _ = H1
  obtain ⟨hb1, p1, n1⟩ := new_facts hH1
  generalize hH2 : AH.new H1 _ = H2
  obtain ⟨hb2, p2, n2⟩ := new_facts hH2
  generalize hH3 : AH.new H2 _ = H3
  obtain ⟨hb3, p3, n3⟩ := new_facts hH3
  refine WC_loop_inv (fun m f K1 => ∃ (i : Nat), m = 4 - i ∧ i ≤ 4 ∧ f 1 = .pointer (some ⟨h.length, 0, none⟩) ∧ f 2 = .pointer (some ⟨H1.length, 0, none⟩) ∧ f 3 = .pointer (some ⟨H2.length, 0, none⟩) ∧ f 4 = I64 i ∧ (H2 <+: K1) ∧ (OwnB K1 H2.length (cel .u8 (fillN q i)) true)) ?_ (4 - 0) _ _ ⟨0, rfl, by omega, (by first | rfl | (simp [upd_apply]; done)), (by first | rfl | (simp [upd_apply]; done)), (by first | rfl | (simp [upd_apply]; done)), (by first | rfl | (simp [upd_apply]; done)), p3, ⟨_, by rw [fillN_zero, hq]; exact hb3⟩⟩
  rintro m f K1 ⟨i, rfl, hi, f1, f2, f3, f4, pp, hb⟩
  obtain ⟨e, hb⟩ := hb
  have hbq := pre_get (p2.trans pp) hb1
  have hbz := pre_get pp hb2
  have fl := fillN_len (ns := q) (i := i) (by omega)
  try simp (maxSteps := 3000000) (disch := first | omega | (simp only [len_new, len_put, len_kill]; omega)) only [↓xpre, xpost, ↓reduceIte, Nat.reduceEqDiff, Nat.reduceAdd, Nat.reduceSub, Nat.reduceLeDiff, Nat.zero_add, Nat.sub_zero, f1, f2, f3, f4, IfW_dec]
  refine ⟨fun hlt => ?_, fun hge => ?_⟩
  · have hi' : i < 4 := by omega
    have g1 := cel_get (k := .u8) (q := q) (j := i) (by omega)
    have s1 : splice (cel .u8 (fillN q i)) i [.int .u8 (q.getD i 0)] = cel .u8 (fillN q (i + 1)) := by rw [cel_set (by omega), fillN_set (by omega)]
    try simp (maxSteps := 3000000) (disch := first | omega | (simp only [len_new, len_put, len_kill]; omega)) only [↓xpre, xpost, ↓reduceIte, Nat.reduceEqDiff, Nat.reduceAdd, Nat.reduceSub, Nat.reduceLeDiff, Nat.zero_add, Nat.sub_zero, f1, f2, f3, f4, ↓WX_ixa, ixaV_ptr, Int.toNat_natCast, Nat.mul_one, rd1_of hbq, g1, wr_of hb, s1, cel_len]
    refine ⟨by omega, ?_⟩
    try simp (maxSteps := 3000000) (disch := first | omega | (simp only [len_new, len_put, len_kill]; omega)) only [↓xpre, xpost, ↓reduceIte, Nat.reduceEqDiff, Nat.reduceAdd, Nat.reduceSub, Nat.reduceLeDiff, Nat.zero_add, Nat.sub_zero, f1, f2, f3, f4, wrap64_in]
    refine InvQ_go (4 - (i + 1)) (by omega) ⟨(i + 1), rfl, by omega, (by first | rfl | exact f1 | (simp only [upd_apply]; rfl) | (show I64 _ = _; congr 1; omega)), (by first | rfl | exact f2 | (simp only [upd_apply]; rfl) | (show I64 _ = _; congr 1; omega)), (by first | rfl | exact f3 | (simp only [upd_apply]; rfl) | (show I64 _ = _; congr 1; omega)), (by first | rfl | exact f4 | (simp only [upd_apply]; rfl) | (show I64 _ = _; congr 1; omega)), (pre_put pp (by omega)), ⟨_, get_put_same (get_lt hb)⟩⟩
  · have e9 : i = 4 := by omega
    subst e9
    have fa := fillN_all (ns := q)
    rw [hq] at fa
    rw [fa] at hb
    have w1 := wr_full (vs := cel .u8 q) hbz (by rw [cel_len, cel_len, hq]; rfl)
    have tk : (cel .u8 q).take 4 = cel .u8 q := List.take_of_length_le (by rw [cel_len]; omega)
    have ltz := get_lt hbz
    try simp (maxSteps := 3000000) (disch := first | omega | (simp only [len_new, len_put, len_kill]; omega)) only [↓xpre, xpost, ↓reduceIte, Nat.reduceEqDiff, Nat.reduceAdd, Nat.reduceSub, Nat.reduceLeDiff, Nat.zero_add, Nat.sub_zero, f1, f2, f3, f4, rdn_of hb, cel_len, hq, tk, cel_all, w1]
    exact hQ _ (pre_put ((p1.trans p2).trans pp) (show h.length ≤ H1.length by omega))


theorem l_toSeries {q : List Int} {h : AH} {Q : Value → AH → Prop} (hq : q.length = 36) (hQ : ∀ h', h <+: h' → Q (aggV .u8 q) h') : WF S 114 [aggV .u8 q] h Q := by
  refine WF_fn (fn := c114) rfl rfl ?_
  unfold c114
  simp only [zeros36]
  try simp (maxSteps := 3000000) (disch := first | omega | (simp only [len_new, len_put, len_kill]; omega)) only [↓xpre, xpost, ↓reduceIte, Nat.reduceEqDiff, Nat.reduceAdd, Nat.reduceSub, Nat.reduceLeDiff, Nat.zero_add, Nat.sub_zero, aggV, cel_all]
  generalize hH1 : AH.new h _ = H1
  obtain ⟨hb1, p1, n1⟩ := new_facts hH1
  generalize hH2 : AH.new H1 _ = H2
  obtain ⟨hb2, p2, n2⟩ := new_facts hH2
  generalize hH3 : AH.new H2 _ = H3
  obtain ⟨hb3, p3, n3⟩ := new_facts hH3
  refine WC_loop_inv (fun m f K1 => ∃ (i : Nat), m = 9 - i ∧ i ≤ 9 ∧ f 1 = .pointer (some ⟨h.length, 0, none⟩) ∧ f 2 = .pointer (some ⟨H1.length, 0, none⟩) ∧ f 3 = .pointer (some ⟨H2.length, 0, none⟩) ∧ f 4 = I64 i ∧ (H2 <+: K1) ∧ (OwnB K1 H2.length (cel .u8 (fillN q (i * 4))) true)) ?_ (9 - 0) _ _ ⟨0, rfl, by omega, (by first | rfl | (simp [upd_apply]; done)), (by first | rfl | (simp [upd_apply]; done)), (by first | rfl | (simp [upd_apply]; done)), (by first | rfl | (simp [upd_apply]; done)), p3, ⟨_, by rw [Nat.zero_mul, fillN_zero, hq]; exact hb3⟩⟩
  rintro m f K1 ⟨i, rfl, hi, f1, f2, f3, f4, pp, hb⟩
  obtain ⟨e, hb⟩ := hb
  have hbq := pre_get (p2.trans pp) hb1
  have hbz := pre_get pp hb2
  have fl := fillN_len (ns := q) (i := i * 4) (by omega)
  try simp (maxSteps := 3000000) (disch := first | omega | (simp only [len_new, len_put, len_kill]; omega)) only [↓xpre, xpost, ↓reduceIte, Nat.reduceEqDiff, Nat.reduceAdd, Nat.reduceSub, Nat.reduceLeDiff, Nat.zero_add, Nat.sub_zero, f1, f2, f3, f4, IfW_dec]
  refine ⟨fun hlt => ?_, fun hge => ?_⟩
  · have hi' : i < 9 := by omega
    have a1 : ((q.drop (i * 4)).take 4).length = 4 := by simp; omega
    have s1 := cel_fill (k := .u8) (q := q) (i := i * 4) (n := 4) (by omega)
    rw [show i * 4 + 4 = (i + 1) * 4 by omega] at s1
    try simp (maxSteps := 3000000) (disch := first | omega | (simp only [len_new, len_put, len_kill]; omega)) only [↓xpre, xpost, ↓reduceIte, Nat.reduceEqDiff, Nat.reduceAdd, Nat.reduceSub, Nat.reduceLeDiff, Nat.zero_add, Nat.sub_zero, f1, f2, f3, f4, ↓WX_ixa, ixaV_ptr, Int.toNat_natCast, Nat.zero_add, rdn_of hbq, cel_len, hq, cel_take, cel_drop]
    refine ⟨by omega, ?_⟩
    refine l_toA4 a1 fun H4 p4 => ?_
    have hb := pre_get p4 hb
    have lt4 := get_lt hb
    have k4 := pre_len p4
    try simp (maxSteps := 3000000) (disch := first | omega | (simp only [len_new, len_put, len_kill]; omega)) only [↓xpre, xpost, ↓reduceIte, Nat.reduceEqDiff, Nat.reduceAdd, Nat.reduceSub, Nat.reduceLeDiff, Nat.zero_add, Nat.sub_zero, f1, f2, f3, f4, aggV, cel_all, ↓WX_ixa, ixaV_ptr, Int.toNat_natCast, Nat.zero_add, wr_of hb, s1, cel_len, a1, fl, hq, wrap64_in]
    refine ⟨by omega, ?_⟩
    refine InvQ_go (9 - (i + 1)) (by omega) ⟨(i + 1), rfl, by omega, (by first | rfl | exact f1 | (simp only [upd_apply]; rfl) | (show I64 _ = _; congr 1; omega)), (by first | rfl | exact f2 | (simp only [upd_apply]; rfl) | (show I64 _ = _; congr 1; omega)), (by first | rfl | exact f3 | (simp only [upd_apply]; rfl) | (show I64 _ = _; congr 1; omega)), (by first | rfl | exact f4 | (simp only [upd_apply]; rfl) | (show I64 _ = _; congr 1; omega)), (pre_put (pp.trans p4) (by omega)), ⟨_, get_put_same lt4⟩⟩
  · have e9 : i = 9 := by omega
    subst e9
    have fa := fillN_all (ns := q)
    rw [hq] at fa
    rw [show 9 * 4 = 36 from rfl, fa] at hb
    have w1 := wr_full (vs := cel .u8 q) hbz (by rw [cel_len, cel_len, hq]; rfl)
    have tk : (cel .u8 q).take 36 = cel .u8 q := List.take_of_length_le (by rw [cel_len]; omega)
    have ltz := get_lt hbz
    try simp (maxSteps := 3000000) (disch := first | omega | (simp only [len_new, len_put, len_kill]; omega)) only [↓xpre, xpost, ↓reduceIte, Nat.reduceEqDiff, Nat.reduceAdd, Nat.reduceSub, Nat.reduceLeDiff, Nat.zero_add, Nat.sub_zero, f1, f2, f3, f4, rdn_of hb, cel_len, hq, tk, cel_all, w1]
    exact hQ _ (pre_put ((p1.trans p2).trans pp) (show h.length ≤ H1.length by omega))
theorem l_toTwig {q : List Int} {h : AH} {Q : Value → AH → Prop} (hq : q.length = 108) (hQ : ∀ h', h <+: h' → Q (aggV .u8 q) h') : WF S 103 [aggV .u8 q] h Q := by
  refine WF_fn (fn := c103) rfl rfl ?_
  unfold c103
  try simp (maxSteps := 3000000) (disch := first | omega | (simp only [len_new, len_put, len_kill]; omega)) only [↓xpre, xpost, ↓reduceIte, Nat.reduceEqDiff, Nat.reduceAdd, Nat.reduceSub, Nat.reduceLeDiff, Nat.zero_add, Nat.sub_zero, aggV, zeros108, cel_all]
  generalize hH1 : AH.new h _ = H1
  obtain ⟨hb1, p1, n1⟩ := new_facts hH1
  generalize hH2 : AH.new H1 _ = H2
  obtain ⟨hb2, p2, n2⟩ := new_facts hH2
  generalize hH3 : AH.new H2 _ = H3
  obtain ⟨hb3, p3, n3⟩ := new_facts hH3
  have f0 : List.replicate 108 0 = fillN q 0 := by rw [fillN_zero, hq]
  have f3 : fillN q 108 = q := by have := fillN_all (ns := q); rw [hq] at this; exact this
  have fl : ∀ i, i ≤ 108 → (fillN q i).length = 108 := fun i hi => by rw [fillN_len (by omega), hq]
  have a1 : (q.take 36).length = 36 := by simp; omega
  have a2 : ((q.drop 36).take 36).length = 36 := by simp; omega
  have a3 : ((q.drop 72).take 36).length = 36 := by simp; omega
  have s1 := cel_fill (k := .u8) (q := q) (i := 0) (n := 36) (by omega)
  have s2 := cel_fill (k := .u8) (q := q) (i := 36) (n := 36) (by omega)
  have s3 := cel_fill (k := .u8) (q := q) (i := 72) (n := 36) (by omega)
  rw [f3] at s3
  rw [List.drop_zero] at s1
  rw [f0] at hb3
  have hb1' := pre_get (p2.trans p3) hb1
  have b0 := fl 0 (by omega)
  have b36 := fl 36 (by omega)
  have b72 := fl 72 (by omega)
  try simp (maxSteps := 3000000) (disch := first | omega | (simp only [len_new, len_put, len_kill]; omega)) only [↓xpre, xpost, ↓reduceIte, Nat.reduceEqDiff, Nat.reduceAdd, Nat.reduceSub, Nat.reduceLeDiff, Nat.zero_add, Nat.sub_zero, rdn_of hb1', cel_len, hq, cel_take, cel_drop]
  refine l_toSeries a1 fun H4 p4 => ?_
  have hb4 := pre_get p4 hb3
  have hq4 := pre_get p4 hb1'
  have l4 := pre_len p4
  have lt4 := get_lt hb4
  try simp (maxSteps := 3000000) (disch := first | omega | (simp only [len_new, len_put, len_kill]; omega)) only [↓xpre, xpost, ↓reduceIte, Nat.reduceEqDiff, Nat.reduceAdd, Nat.reduceSub, Nat.reduceLeDiff, Nat.zero_add, Nat.sub_zero, aggV, cel_all, cel_len, a1, wr_of hb4, s1, b0, rdn_of hq4, hq, cel_take, cel_drop]
  generalize hH5 : AH.put H4 _ _ = H5
  have hb5 : OwnB H5 H2.length (cel .u8 (fillN q 36)) true := by rw [← hH5]; exact ⟨_, get_put_same (get_lt hb4)⟩
  have hq5 : OwnB H5 h.length (cel .u8 q) true := by rw [← hH5]; exact OwnB.put_ne ⟨_, hq4⟩ (by omega)
  have hz5 : OwnB H5 H1.length (cel .u8 (List.replicate 108 0)) true := by rw [← hH5]; exact OwnB.put_ne ⟨_, pre_get (p3.trans p4) hb2⟩ (by omega)
  have p5 : h <+: H5 := by rw [← hH5]; exact pre_put (((p1.trans p2).trans p3).trans p4) (by omega)
  obtain ⟨e5, hb5⟩ := hb5
  obtain ⟨e5q, hq5⟩ := hq5
  obtain ⟨e5z, hz5⟩ := hz5
  have l5 : H5.length = H4.length := by rw [← hH5, len_put]
  clear hb1 hb2 hb3 hb1' hb4 hq4 s1 hH5
  refine l_toSeries a2 fun H6 p6 => ?_
  have hb6 := pre_get p6 hb5
  have hq6 := pre_get p6 hq5
  have l6 := pre_len p6
  have lt6 := get_lt hb6
  try simp (maxSteps := 3000000) (disch := first | omega | (simp only [len_new, len_put, len_kill]; omega)) only [↓xpre, xpost, ↓reduceIte, Nat.reduceEqDiff, Nat.reduceAdd, Nat.reduceSub, Nat.reduceLeDiff, Nat.zero_add, Nat.sub_zero, aggV, cel_all, cel_len, a2, wr_of hb6, s2, b36, rdn_of hq6, hq, cel_take, cel_drop]
  generalize hH7 : AH.put H6 _ _ = H7
  have hb7 : OwnB H7 H2.length (cel .u8 (fillN q 72)) true := by rw [← hH7]; exact ⟨_, get_put_same (get_lt hb6)⟩
  have hz7 : OwnB H7 H1.length (cel .u8 (List.replicate 108 0)) true := by rw [← hH7]; exact OwnB.put_ne ⟨_, pre_get p6 hz5⟩ (by omega)
  have p7 : h <+: H7 := by rw [← hH7]; exact pre_put (p5.trans p6) (by omega)
  obtain ⟨e7, hb7⟩ := hb7
  obtain ⟨e7z, hz7⟩ := hz7
  have l7 : H7.length = H6.length := by rw [← hH7, len_put]
  clear hb5 hq5 hz5 hb6 hq6 s2 hH7
  refine l_toSeries a3 fun H8 p8 => ?_
  have hb8 := pre_get p8 hb7
  have hz8 := pre_get p8 hz7
  have l8 := pre_len p8
  have tk : q.take 108 = q := List.take_of_length_le (by omega)
  have lt8 := get_lt hb8
  have lz8 := get_lt hz8
  have w1 := wr_full (vs := cel .u8 q) hz8 (by rw [cel_len, cel_len, hq]; rfl)
  try simp (maxSteps := 3000000) (disch := first | omega | (simp only [len_new, len_put, len_kill]; omega)) only [↓xpre, xpost, ↓reduceIte, Nat.reduceEqDiff, Nat.reduceAdd, Nat.reduceSub, Nat.reduceLeDiff, Nat.zero_add, Nat.sub_zero, aggV, cel_all, cel_len, a3, wr_of hb8, s3, b72, rdn_put_same, hq, cel_take, cel_drop, List.drop_zero, tk, w1]
  exact hQ _ (pre_put (pre_put (p7.trans p8) (show h.length ≤ H1.length by omega)) (show h.length ≤ H2.length by omega))

def Twgs (h : AH) (v : Value) (L : List (List Int)) : Prop := Els .u8 108 h v L ∧ Byt 108 L
def InB (a b : Nat) (h : AH) (v : Value) (L : List (List Int)) : Prop := InE .u8 108 a b h v L ∧ Byt 108 L
section
variable {a b c d : Nat} {h h' : AH} {v : Value} {L : List (List Int)}
theorem Twgs.pre (o : Twgs h v L) (p : h <+: h') : Twgs h' v L := ⟨o.1.pre p, o.2⟩
theorem Twgs.one (o : Twgs h v L) : isOne v = true := o.1.one
theorem InB.rd (o : InB a b h v L) : Twgs h v L := ⟨o.1.rd, o.2⟩
theorem InB.pre (o : InB a b h v L) (p : h <+: h') : InB a b h' v L := ⟨o.1.pre p, o.2⟩
theorem InB.only (o : InB a b h v L) (u : OnlyR c d h h') (hd : b ≤ c ∨ d ≤ a) : InB a b h' v L := ⟨o.1.only u hd, o.2⟩
end
theorem l_toTwigS {v : Value} {L : List (List Int)} {h : AH} {Q : Value → AH → Prop} (hv : Twgs h v L) (hl : SmallX L)
    (hQ : ∀ v' h', h <+: h' → InB h.length h'.length h' v' L → Q v' h') : WF S 59 [v] h Q := by
  refine WF_fn (fn := c59) rfl rfl ?_
  unfold c59
  obtain ⟨he, hby⟩ := hv
  have hw := he.widL
  unfold SmallX at hl
  try simp (maxSteps := 3000000) (disch := first | omega | (simp only [len_new, len_put, len_kill]; omega)) only [↓xpre, xpost, ↓reduceIte, Nat.reduceEqDiff, Nat.reduceAdd, Nat.reduceSub, Nat.reduceLeDiff, Nat.zero_add, Nat.sub_zero, he.len, zeros108]
  refine ⟨by omega, ?_⟩
  rw [Int.toNat_natCast, zrep_cel]
  generalize hH : AH.new h _ = H
  obtain ⟨hb0, p0, n0⟩ := new_facts hH
  refine WC_loop_inv (fun m f K1 => ∃ (i : Nat), m = L.length - i ∧ i ≤ L.length ∧ f 0 = v ∧ f 3 = .slice (some ⟨h.length, 0, none⟩) L.length 108 ∧ f 4 = I64 i ∧ (h <+: K1) ∧ (OwnB K1 h.length (cel .u8 (fillG (List.replicate 108 0) L i).flatten) true)) ?_ (L.length - 0) _ _ ⟨0, rfl, by omega, (by first | rfl | (simp [upd_apply]; done)), (by first | rfl | (simp [upd_apply]; done)), (by first | rfl | (simp [upd_apply]; done)), p0, ⟨_, by rw [fillG_zero]; exact hb0⟩⟩
  rintro m f K1 ⟨i, rfl, hi, f0, f3, f4, pp, hb⟩
  have he1 := he.pre pp
  try simp (maxSteps := 3000000) (disch := first | omega | (simp only [len_new, len_put, len_kill]; omega)) only [↓xpre, xpost, ↓reduceIte, Nat.reduceEqDiff, Nat.reduceAdd, Nat.reduceSub, Nat.reduceLeDiff, Nat.zero_add, Nat.sub_zero, f0, f3, f4, he1.len, IfW_dec]
  refine ⟨fun hlt => ?_, fun hge => ?_⟩
  · have hi' : i < L.length := by omega
    obtain ⟨n, off, hix, hrn, hr1⟩ := he1.at hi'
    have r108 := hrn 0 108 (by omega)
    rw [List.drop_zero, List.take_of_length_le (by rw [he1.wid hi']; exact Nat.le_refl _), Nat.add_zero] at r108
    try simp (maxSteps := 3000000) (disch := first | omega | (simp only [len_new, len_put, len_kill]; omega)) only [↓xpre, xpost, ↓reduceIte, Nat.reduceEqDiff, Nat.reduceAdd, Nat.reduceSub, Nat.reduceLeDiff, Nat.zero_add, Nat.sub_zero, f0, f3, f4, hix, r108]
    refine l_toTwig (he1.wid hi') fun h2 p2 => ?_
    have wf := fillG_wid (z := List.replicate 108 0) (i := i) (w := 108) (by simp) hw
    have fl := fillG_len (z := List.replicate 108 0) (L := L) (i := i) (by omega)
    have ffl := flat_len wf
    rw [fl] at ffl
    have hrow := mul_row (w := 108) hi'
    obtain ⟨e, hb⟩ := hb
    have hb2 := pre_get p2 hb
    have lt2 := get_lt hb2
    have ixd : ixsV 108 (.slice (some ⟨h.length, 0, none⟩) L.length 108) (I64 i) = some (.pointer (some ⟨h.length, i * 108, none⟩)) := by
      rw [ixsV_some, if_pos (by omega)]
      simp
    have sp : splice (cel .u8 (fillG (List.replicate 108 0) L i).flatten) (i * 108) (cel .u8 (L.getD i [])) = cel .u8 (fillG (List.replicate 108 0) L (i + 1)).flatten := by
      rw [cel_splice, he1.wid hi', flat_set wf (by omega), fillG_set hi']
    try simp (maxSteps := 3000000) (disch := first | omega | (simp only [len_new, len_put, len_kill]; omega)) only [↓xpre, xpost, ↓reduceIte, Nat.reduceEqDiff, Nat.reduceAdd, Nat.reduceSub, Nat.reduceLeDiff, Nat.zero_add, Nat.sub_zero, f0, f3, f4, aggV, cel_all, cel_len, he1.wid hi', ixd, wr_of hb2, sp, ffl]
    refine ⟨by omega, ?_⟩
    try simp (maxSteps := 3000000) (disch := first | omega | (simp only [len_new, len_put, len_kill]; omega)) only [↓xpre, xpost, ↓reduceIte, Nat.reduceEqDiff, Nat.reduceAdd, Nat.reduceSub, Nat.reduceLeDiff, Nat.zero_add, Nat.sub_zero, f0, f3, f4, wrap64_in]
    refine InvQ_go (L.length - (i + 1)) (by omega) ⟨(i + 1), rfl, by omega, (by first | rfl | exact f0 | (simp only [upd_apply]; rfl) | (show I64 _ = _; congr 1; omega)), (by first | rfl | exact f3 | (simp only [upd_apply]; rfl) | (show I64 _ = _; congr 1; omega)), (by first | rfl | exact f4 | (simp only [upd_apply]; rfl) | (show I64 _ = _; congr 1; omega)), (pre_put (pp.trans p2) (Nat.le_refl _)), ⟨_, get_put_same lt2⟩⟩
  · have ei : i = L.length := by omega
    subst ei
    obtain ⟨e, hb⟩ := hb
    rw [fillG_all] at hb
    have lt := get_lt hb
    try simp (maxSteps := 3000000) (disch := first | omega | (simp only [len_new, len_put, len_kill]; omega)) only [↓xpre, xpost, ↓reduceIte, Nat.reduceEqDiff, Nat.reduceAdd, Nat.reduceSub, Nat.reduceLeDiff, Nat.zero_add, Nat.sub_zero, f0, f3, f4]
    exact hQ _ _ pp ⟨.inr ⟨h.length, e, true, ⟨Nat.le_refl _, lt⟩, rfl, hb, hw⟩, hby⟩
theorem l_szTwigS {v : Value} {L : List (List Int)} {n : Int} {h : AH} {Q : Value → AH → Prop} (hv : Twgs h v L) (h0 : 0 ≤ n ∧ n ≤ 1048576) (hl : (L.length : Int) ≤ 9223372036854775807)
    (hQ : ∀ m : Int, m ≤ n → (0 ≤ m → SmallX L) → Q (I64 m) h) : WF S 57 [v, I64 n] h Q := by
  refine WF_fn (fn := c57) rfl rfl ?_
  unfold c57
  try simp (maxSteps := 3000000) (disch := first | omega | (simp only [len_new, len_put, len_kill]; omega)) only [↓xpre, xpost, ↓reduceIte, Nat.reduceEqDiff, Nat.reduceAdd, Nat.reduceSub, Nat.reduceLeDiff, Nat.zero_add, Nat.sub_zero, hv.1.len, wrap64_in]
  by_cases h1 : n - ↑L.length < 0
  · try simp (maxSteps := 3000000) (disch := first | omega | (simp only [len_new, len_put, len_kill]; omega)) only [↓xpre, xpost, ↓reduceIte, Nat.reduceEqDiff, Nat.reduceAdd, Nat.reduceSub, Nat.reduceLeDiff, Nat.zero_add, Nat.sub_zero, h1]
    exact hQ _ (by omega) (by omega)
  · try simp (maxSteps := 3000000) (disch := first | omega | (simp only [len_new, len_put, len_kill]; omega)) only [↓xpre, xpost, ↓reduceIte, Nat.reduceEqDiff, Nat.reduceAdd, Nat.reduceSub, Nat.reduceLeDiff, Nat.zero_add, Nat.sub_zero, h1]
    exact hQ _ (by omega) (fun _ => by unfold SmallX; omega)
theorem gsz_B {v : Value} {x : Sch} {n : Int} {h : AH} {Q : Value → AH → Prop} (hv : Twgs h v x.ps) (h0 : 0 ≤ n ∧ n ≤ 1048576) (hl : (x.ps.length : Int) ≤ 9223372036854775807)
    (hQ : ∀ (m : Int) h', h <+: h' → m ≤ n → (0 ≤ m → SmallX x.ps) → Q (I64 m) h') : WF S 20 [schV x v, I64 n] h Q := by
  refine WF_fn (fn := c20) rfl rfl ?_
  unfold c20
  try simp (maxSteps := 3000000) (disch := first | omega | (simp only [len_new, len_put, len_kill]; omega)) only [↓xpre, xpost, ↓reduceIte, Nat.reduceEqDiff, Nat.reduceAdd, Nat.reduceSub, Nat.reduceLeDiff, Nat.zero_add, Nat.sub_zero, schV, hv.one]
  refine l_szTwigS (hv.pre (pre_new (List.prefix_refl _))) h0 hl fun m h1 h2 => ?_
  try simp (maxSteps := 3000000) (disch := first | omega | (simp only [len_new, len_put, len_kill]; omega)) only [↓xpre, xpost, ↓reduceIte, Nat.reduceEqDiff, Nat.reduceAdd, Nat.reduceSub, Nat.reduceLeDiff, Nat.zero_add, Nat.sub_zero, IfW_dec]
  exact ⟨fun hm => hQ _ _ (pre_new (List.prefix_refl _)) (by omega) (by omega), fun hm => hQ _ _ (pre_new (List.prefix_refl _)) h1 h2⟩
theorem InB.put_ne {a b n : Nat} {h : AH} {v : Value} {L : List (List Int)} {c : Blk} (o : InB a b h v L) (hn : n < a) : InB a b (h.put n c) v L :=
  ⟨o.1.only (c := n) (d := n + 1) ⟨len_put, fun m hm => by unfold AH.put; rw [List.getElem?_set_ne (by omega)]⟩ (by omega), o.2⟩
theorem InB.wide {a b c d : Nat} {h : AH} {v : Value} {L : List (List Int)} (o : InB a b h v L) (h1 : c ≤ a) (h2 : b ≤ d) : InB c d h v L := by
  refine ⟨?_, o.2⟩
  rcases o.1 with q1 | ⟨n, e, full, r1, r2, r3, r4⟩
  · exact .inl q1
  · exact .inr ⟨n, e, full, by omega, r2, r3, r4⟩
theorem gto_B {v : Value} {x : Sch} {h : AH} {Q : Value → AH → Prop} (hv : Twgs h v x.ps) (hl : SmallX x.ps)
    (hQ : ∀ v' h', h <+: h' → InB h.length h'.length h' v' x.ps → Q (schV x v') h') : WF S 22 [schV x v] h Q := by
  refine WF_fn (fn := c22) rfl rfl ?_
  unfold c22
  try simp (maxSteps := 3000000) (disch := first | omega | (simp only [len_new, len_put, len_kill]; omega)) only [↓xpre, xpost, ↓reduceIte, Nat.reduceEqDiff, Nat.reduceAdd, Nat.reduceSub, Nat.reduceLeDiff, Nat.zero_add, Nat.sub_zero, schV, hv.one]
  refine l_toTwigS (hv.pre ?_) hl fun v' h' hp o => ?_
  · exact pre_new (pre_new (pre_new (List.prefix_refl _)))
  generalize hH1 : AH.new h _ = H1 at hp o ⊢
  obtain ⟨hb1, p1, n1⟩ := new_facts hH1
  generalize hH2 : AH.new H1 _ = H2 at hp o ⊢
  obtain ⟨hb2, p2, n2⟩ := new_facts hH2
  generalize hH3 : AH.new H2 _ = H3 at hp o ⊢
  obtain ⟨hb3, p3, n3⟩ := new_facts hH3
  have hb2 := pre_get hp (pre_get p3 hb2)
  have hb3 := pre_get hp hb3
  have nl := pre_len hp
  have hv' := o.rd
  try simp (maxSteps := 3000000) (disch := first | omega | (simp only [len_new, len_put, len_kill]; omega)) only [↓xpre, xpost, ↓reduceIte, Nat.reduceEqDiff, Nat.reduceAdd, Nat.reduceSub, Nat.reduceLeDiff, Nat.zero_add, Nat.sub_zero, hv'.one, hv'.1.cells, wr_of hb3, wr_of hb2]
  refine hQ _ _ (pre_put (pre_put (((p1.trans p2).trans p3).trans hp) ?_) ?_) ?_
  all_goals first | omega | skip
  · refine ((o.put_ne ?_).put_ne ?_).wide ?_ ?_
    all_goals first | omega | (simp only [len_put]; omega)

theorem l_eqA4 {q : List Int} {h : AH} {Q : Value → AH → Prop} (hq : q.length = 4) (hQ : ∀ h', h <+: h' → Q (.bool true) h') : WF S 124 [aggV .u8 q, aggV .u8 q] h Q := by
  refine WF_fn (fn := c124) rfl rfl ?_
  unfold c124
  try simp (maxSteps := 3000000) (disch := first | omega | (simp only [len_new, len_put, len_kill]; omega)) only [↓xpre, xpost, ↓reduceIte, Nat.reduceEqDiff, Nat.reduceAdd, Nat.reduceSub, Nat.reduceLeDiff, Nat.zero_add, Nat.sub_zero, aggV, cel_all]
  generalize hH1 : AH.new h _ = H1
  obtain ⟨hb1, p1, n1⟩ := new_facts hH1
  generalize hH2 : AH.new H1 _ = H2
  obtain ⟨hb2, p2, n2⟩ := new_facts hH2
  have hb1 := pre_get p2 hb1
  refine WC_loop_inv (fun m f K1 => ∃ (i : Nat), m = 4 - i ∧ i ≤ 4 ∧ f 2 = .pointer (some ⟨h.length, 0, none⟩) ∧ f 3 = .pointer (some ⟨H1.length, 0, none⟩) ∧ f 5 = I64 i ∧ (K1 = H2)) ?_ (4 - 0) _ _ ⟨0, rfl, by omega, (by first | rfl | (simp [upd_apply]; done)), (by first | rfl | (simp [upd_apply]; done)), (by first | rfl | (simp [upd_apply]; done)), rfl⟩
  rintro m f K1 ⟨i, rfl, hi, f2, f3, f5, hK⟩
  subst hK
  try simp (maxSteps := 3000000) (disch := first | omega | (simp only [len_new, len_put, len_kill]; omega)) only [↓xpre, xpost, ↓reduceIte, Nat.reduceEqDiff, Nat.reduceAdd, Nat.reduceSub, Nat.reduceLeDiff, Nat.zero_add, Nat.sub_zero, f2, f3, f5, IfW_dec]
  refine ⟨fun hlt => ?_, fun hge => ?_⟩
  · have g1 := cel_get (k := .u8) (q := q) (j := i) (by omega)
    try simp (maxSteps := 3000000) (disch := first | omega | (simp only [len_new, len_put, len_kill]; omega)) only [↓xpre, xpost, ↓reduceIte, Nat.reduceEqDiff, Nat.reduceAdd, Nat.reduceSub, Nat.reduceLeDiff, Nat.zero_add, Nat.sub_zero, f2, f3, f5, ↓WX_ixa, ixaV_ptr, Int.toNat_natCast, Nat.mul_one, rd1_of hb1, rd1_of hb2, g1, ne_eq, not_true_eq_false, wrap64_in]
    refine InvQ_go (4 - (i + 1)) (by omega) ⟨(i + 1), rfl, by omega, (by first | rfl | exact f2 | (simp only [upd_apply]; rfl) | (show I64 _ = _; congr 1; omega)), (by first | rfl | exact f3 | (simp only [upd_apply]; rfl) | (show I64 _ = _; congr 1; omega)), (by first | rfl | exact f5 | (simp only [upd_apply]; rfl) | (show I64 _ = _; congr 1; omega)), rfl⟩
  · try simp (maxSteps := 3000000) (disch := first | omega | (simp only [len_new, len_put, len_kill]; omega)) only [↓xpre, xpost, ↓reduceIte, Nat.reduceEqDiff, Nat.reduceAdd, Nat.reduceSub, Nat.reduceLeDiff, Nat.zero_add, Nat.sub_zero, f2, f3, f5]
    exact hQ _ (p1.trans p2)
theorem l_eqSeries {q : List Int} {h : AH} {Q : Value → AH → Prop} (hq : q.length = 36) (hQ : ∀ h', h <+: h' → Q (.bool true) h') : WF S 118 [aggV .u8 q, aggV .u8 q] h Q := by
  refine WF_fn (fn := c118) rfl rfl ?_
  unfold c118
  try simp (maxSteps := 3000000) (disch := first | omega | (simp only [len_new, len_put, len_kill]; omega)) only [↓xpre, xpost, ↓reduceIte, Nat.reduceEqDiff, Nat.reduceAdd, Nat.reduceSub, Nat.reduceLeDiff, Nat.zero_add, Nat.sub_zero, aggV, cel_all]
  generalize hH1 : AH.new h _ = H1
  obtain ⟨hb1, p1, n1⟩ := new_facts hH1
  generalize hH2 : AH.new H1 _ = H2
  obtain ⟨hb2, p2, n2⟩ := new_facts hH2
  have hb1 := pre_get p2 hb1
  refine WC_loop_inv (fun m f K1 => ∃ (i : Nat), m = 9 - i ∧ i ≤ 9 ∧ f 2 = .pointer (some ⟨h.length, 0, none⟩) ∧ f 3 = .pointer (some ⟨H1.length, 0, none⟩) ∧ f 5 = I64 i ∧ (H2 <+: K1)) ?_ (9 - 0) _ _ ⟨0, rfl, by omega, (by first | rfl | (simp [upd_apply]; done)), (by first | rfl | (simp [upd_apply]; done)), (by first | rfl | (simp [upd_apply]; done)), List.prefix_refl _⟩
  rintro m f K1 ⟨i, rfl, hi, f2, f3, f5, pp⟩
  have hb1 := pre_get pp hb1
  have hb2 := pre_get pp hb2
  try simp (maxSteps := 3000000) (disch := first | omega | (simp only [len_new, len_put, len_kill]; omega)) only [↓xpre, xpost, ↓reduceIte, Nat.reduceEqDiff, Nat.reduceAdd, Nat.reduceSub, Nat.reduceLeDiff, Nat.zero_add, Nat.sub_zero, f2, f3, f5, IfW_dec]
  refine ⟨fun hlt => ?_, fun hge => ?_⟩
  · have a1 : ((q.drop (i * 4)).take 4).length = 4 := by simp; omega
    try simp (maxSteps := 3000000) (disch := first | omega | (simp only [len_new, len_put, len_kill]; omega)) only [↓xpre, xpost, ↓reduceIte, Nat.reduceEqDiff, Nat.reduceAdd, Nat.reduceSub, Nat.reduceLeDiff, Nat.zero_add, Nat.sub_zero, f2, f3, f5, ↓WX_ixa, ixaV_ptr, Int.toNat_natCast, Nat.zero_add, rdn_of hb1, rdn_of hb2, cel_len, hq, cel_take, cel_drop]
    refine ⟨by omega, by omega, ?_⟩
    refine l_eqA4 a1 fun H4 p4 => ?_
    try simp (maxSteps := 3000000) (disch := first | omega | (simp only [len_new, len_put, len_kill]; omega)) only [↓xpre, xpost, ↓reduceIte, Nat.reduceEqDiff, Nat.reduceAdd, Nat.reduceSub, Nat.reduceLeDiff, Nat.zero_add, Nat.sub_zero, f2, f3, f5, wrap64_in]
    refine InvQ_go (9 - (i + 1)) (by omega) ⟨(i + 1), rfl, by omega, (by first | rfl | exact f2 | (simp only [upd_apply]; rfl) | (show I64 _ = _; congr 1; omega)), (by first | rfl | exact f3 | (simp only [upd_apply]; rfl) | (show I64 _ = _; congr 1; omega)), (by first | rfl | exact f5 | (simp only [upd_apply]; rfl) | (show I64 _ = _; congr 1; omega)), (pp.trans p4)⟩
  · try simp (maxSteps := 3000000) (disch := first | omega | (simp only [len_new, len_put, len_kill]; omega)) only [↓xpre, xpost, ↓reduceIte, Nat.reduceEqDiff, Nat.reduceAdd, Nat.reduceSub, Nat.reduceLeDiff, Nat.zero_add, Nat.sub_zero, f2, f3, f5]
    exact hQ _ ((p1.trans p2).trans pp)
theorem l_eqTwig {q : List Int} {h : AH} {Q : Value → AH → Prop} (hq : q.length = 108) (hQ : ∀ h', h <+: h' → Q (.bool true) h') : WF S 105 [aggV .u8 q, aggV .u8 q] h Q := by
  refine WF_fn (fn := c105) rfl rfl ?_
  unfold c105
  try simp (maxSteps := 3000000) (disch := first | omega | (simp only [len_new, len_put, len_kill]; omega)) only [↓xpre, xpost, ↓reduceIte, Nat.reduceEqDiff, Nat.reduceAdd, Nat.reduceSub, Nat.reduceLeDiff, Nat.zero_add, Nat.sub_zero, aggV, cel_all]
  generalize hH1 : AH.new h _ = H1
  obtain ⟨hb1, p1, n1⟩ := new_facts hH1
  generalize hH2 : AH.new H1 _ = H2
  obtain ⟨hb2, p2, n2⟩ := new_facts hH2
  have hb1 := pre_get p2 hb1
  have a1 : (q.take 36).length = 36 := by simp; omega
  have a2 : ((q.drop 36).take 36).length = 36 := by simp; omega
  have a3 : ((q.drop 72).take 36).length = 36 := by simp; omega
  try simp (maxSteps := 3000000) (disch := first | omega | (simp only [len_new, len_put, len_kill]; omega)) only [↓xpre, xpost, ↓reduceIte, Nat.reduceEqDiff, Nat.reduceAdd, Nat.reduceSub, Nat.reduceLeDiff, Nat.zero_add, Nat.sub_zero, rdn_of hb1, rdn_of hb2, cel_len, hq, cel_take, cel_drop]
  refine l_eqSeries a1 fun H4 p4 => ?_
  have hb1 := pre_get p4 hb1
  have hb2 := pre_get p4 hb2
  try simp (maxSteps := 3000000) (disch := first | omega | (simp only [len_new, len_put, len_kill]; omega)) only [↓xpre, xpost, ↓reduceIte, Nat.reduceEqDiff, Nat.reduceAdd, Nat.reduceSub, Nat.reduceLeDiff, Nat.zero_add, Nat.sub_zero, rdn_of hb1, rdn_of hb2, cel_len, hq, cel_take, cel_drop]
  refine l_eqSeries a2 fun H5 p5 => ?_
  have hb1 := pre_get p5 hb1
  have hb2 := pre_get p5 hb2
  try simp (maxSteps := 3000000) (disch := first | omega | (simp only [len_new, len_put, len_kill]; omega)) only [↓xpre, xpost, ↓reduceIte, Nat.reduceEqDiff, Nat.reduceAdd, Nat.reduceSub, Nat.reduceLeDiff, Nat.zero_add, Nat.sub_zero, rdn_of hb1, rdn_of hb2, cel_len, hq, cel_take, cel_drop]
  refine l_eqSeries a3 fun H6 p6 => ?_
  try simp (maxSteps := 3000000) (disch := first | omega | (simp only [len_new, len_put, len_kill]; omega)) only [↓xpre, xpost, ↓reduceIte, Nat.reduceEqDiff, Nat.reduceAdd, Nat.reduceSub, Nat.reduceLeDiff, Nat.zero_add, Nat.sub_zero]
  exact hQ _ ((p1.trans p2).trans (p4.trans (p5.trans p6)))
theorem l_eqTwigS {v v' : Value} {L : List (List Int)} {h : AH} {Q : Value → AH → Prop} (hv : Twgs h v L) (hv' : Twgs h v' L) (hl : SmallX L)
    (hQ : ∀ h', h <+: h' → Q (.bool true) h') : WF S 65 [v, v'] h Q := by
  refine WF_fn (fn := c65) rfl rfl ?_
  unfold c65
  unfold SmallX at hl
  try simp (maxSteps := 3000000) (disch := first | omega | (simp only [len_new, len_put, len_kill]; omega)) only [↓xpre, xpost, ↓reduceIte, Nat.reduceEqDiff, Nat.reduceAdd, Nat.reduceSub, Nat.reduceLeDiff, Nat.zero_add, Nat.sub_zero, hv.1.len, hv'.1.len, ne_eq, not_true_eq_false]
  refine WC_loop_inv (fun m f K1 => ∃ (i : Nat), m = L.length - i ∧ i ≤ L.length ∧ f 0 = v ∧ f 1 = v' ∧ f 5 = I64 i ∧ (h <+: K1)) ?_ (L.length - 0) _ _ ⟨0, rfl, by omega, (by first | rfl | (simp [upd_apply]; done)), (by first | rfl | (simp [upd_apply]; done)), (by first | rfl | (simp [upd_apply]; done)), List.prefix_refl _⟩
  rintro m f K1 ⟨i, rfl, hi, f0, f1, f5, pp⟩
  have e1 := hv.1.pre pp
  have e2 := hv'.1.pre pp
  try simp (maxSteps := 3000000) (disch := first | omega | (simp only [len_new, len_put, len_kill]; omega)) only [↓xpre, xpost, ↓reduceIte, Nat.reduceEqDiff, Nat.reduceAdd, Nat.reduceSub, Nat.reduceLeDiff, Nat.zero_add, Nat.sub_zero, f0, f1, f5, e1.len, IfW_dec]
  refine ⟨fun hlt => ?_, fun hge => ?_⟩
  · have hi' : i < L.length := by omega
    obtain ⟨n, off, hix, hrn, hr1⟩ := e1.at hi'
    obtain ⟨n', off', hix', hrn', hr1'⟩ := e2.at hi'
    have r108 := hrn 0 108 (by omega)
    rw [List.drop_zero, List.take_of_length_le (by rw [e1.wid hi']; exact Nat.le_refl _), Nat.add_zero] at r108
    have r108' := hrn' 0 108 (by omega)
    rw [List.drop_zero, List.take_of_length_le (by rw [e1.wid hi']; exact Nat.le_refl _), Nat.add_zero] at r108'
    try simp (maxSteps := 3000000) (disch := first | omega | (simp only [len_new, len_put, len_kill]; omega)) only [↓xpre, xpost, ↓reduceIte, Nat.reduceEqDiff, Nat.reduceAdd, Nat.reduceSub, Nat.reduceLeDiff, Nat.zero_add, Nat.sub_zero, f0, f1, f5, hix, r108, hix', r108']
    refine l_eqTwig (e1.wid hi') fun h2 p2 => ?_
    try simp (maxSteps := 3000000) (disch := first | omega | (simp only [len_new, len_put, len_kill]; omega)) only [↓xpre, xpost, ↓reduceIte, Nat.reduceEqDiff, Nat.reduceAdd, Nat.reduceSub, Nat.reduceLeDiff, Nat.zero_add, Nat.sub_zero, f0, f1, f5, wrap64_in]
    refine InvQ_go (L.length - (i + 1)) (by omega) ⟨(i + 1), rfl, by omega, (by first | rfl | exact f0 | (simp only [upd_apply]; rfl) | (show I64 _ = _; congr 1; omega)), (by first | rfl | exact f1 | (simp only [upd_apply]; rfl) | (show I64 _ = _; congr 1; omega)), (by first | rfl | exact f5 | (simp only [upd_apply]; rfl) | (show I64 _ = _; congr 1; omega)), (pp.trans p2)⟩
  · try simp (maxSteps := 3000000) (disch := first | omega | (simp only [len_new, len_put, len_kill]; omega)) only [↓xpre, xpost, ↓reduceIte, Nat.reduceEqDiff, Nat.reduceAdd, Nat.reduceSub, Nat.reduceLeDiff, Nat.zero_add, Nat.sub_zero, f0, f1, f5]
    exact hQ _ pp
theorem geq_B {v v' : Value} {x : Sch} {h : AH} {Q : Value → AH → Prop} (hv : Twgs h v x.ps) (hv' : Twgs h v' x.ps) (hl : SmallX x.ps)
    (hQ : ∀ h', h <+: h' → Q (.bool true) h') : WF S 24 [schV x v, schV x v'] h Q := by
  refine WF_fn (fn := c24) rfl rfl ?_
  unfold c24
  try simp (maxSteps := 3000000) (disch := first | omega | (simp only [len_new, len_put, len_kill]; omega)) only [↓xpre, xpost, ↓reduceIte, Nat.reduceEqDiff, Nat.reduceAdd, Nat.reduceSub, Nat.reduceLeDiff, Nat.zero_add, Nat.sub_zero, schV, hv.one, hv'.one]
  generalize hH1 : AH.new h _ = H1
  obtain ⟨hb1, p1, n1⟩ := new_facts hH1
  generalize hH2 : AH.new H1 _ = H2
  obtain ⟨hb2, p2, n2⟩ := new_facts hH2
  have hb1 := pre_get p2 hb1
  try simp (maxSteps := 3000000) (disch := first | omega | (simp only [len_new, len_put, len_kill]; omega)) only [↓xpre, xpost, ↓reduceIte, Nat.reduceEqDiff, Nat.reduceAdd, Nat.reduceSub, Nat.reduceLeDiff, Nat.zero_add, Nat.sub_zero, rd1_of hb1, rd1_of hb2, ne_eq, not_true_eq_false]
  refine l_eqTwigS (hv.pre (p1.trans p2)) (hv'.pre (p1.trans p2)) hl fun H3 p3 => ?_
  try simp (maxSteps := 3000000) (disch := first | omega | (simp only [len_new, len_put, len_kill]; omega)) only [↓xpre, xpost, ↓reduceIte, Nat.reduceEqDiff, Nat.reduceAdd, Nat.reduceSub, Nat.reduceLeDiff, Nat.zero_add, Nat.sub_zero]
  exact hQ _ ((p1.trans p2).trans p3)

end Go.Proofs.Ytphklalbkpohfaa.X

/- Border schemes: what they are, on both sides. -/
set_option linter.unusedVariables false
set_option linter.unusedSimpArgs false
set_option maxRecDepth 20000
set_option maxHeartbeats 4000000
namespace Go.Proofs.Ytphklalbkpohfaa.X
open Go Go.RowKit

def okS (p n : Int) (q : List Int) (j : Nat) : Bool := decide (q.getD j 0 < p ∧ (n ≤ ((j / 4 : Nat) : Int) → q.getD j 0 = 0))
def z36 : List Int := List.replicate 36 0
def okSer (p n : Int) (q : List Int) : Bool := (List.range 36).all (okS p n q) && !(q == z36)
theorem okSer_f {p n : Int} {q : List Int} {j : Nat} (hj : j < 36) (h : okS p n q j = false) : okSer p n q = false := by
  have : (List.range 36).all (okS p n q) = false := by
    rw [List.all_eq_false]
    exact ⟨j, List.mem_range.2 hj, by rw [h]; simp⟩
  unfold okSer
  rw [this]
  rfl
theorem okSer_t {p n : Int} {q : List Int} (h : ∀ j, j < 36 → okS p n q j = true) : okSer p n q = !(q == z36) := by
  have : (List.range 36).all (okS p n q) = true := by
    rw [List.all_eq_true]
    exact fun j hj => h j (List.mem_range.1 hj)
  unfold okSer
  rw [this, Bool.true_and]
/-- Some number ahead of a place is other than 0. -/
def smN (q : List Int) : Nat → Bool
  | 0 => false
  | m + 1 => smN q m || decide (q.getD m 0 ≠ 0)
theorem smN_f {q : List Int} : ∀ {m : Nat}, smN q m = false ↔ ∀ j, j < m → q.getD j 0 = 0
  | 0 => ⟨fun _ j hj => by omega, fun _ => rfl⟩
  | m + 1 => by
    unfold smN
    rw [Bool.or_eq_false_iff, smN_f (m := m), decide_eq_false_iff_not]
    constructor
    · rintro ⟨h1, h2⟩ j hj
      by_cases e : j = m
      · subst e
        exact Decidable.byContradiction h2
      · exact h1 j (by omega)
    · exact fun h => ⟨fun j hj => h j (by omega), fun h2 => h2 (h m (by omega))⟩
theorem smN_all {q : List Int} (hq : q.length = 36) : smN q 36 = !(q == z36) := by
  cases h : smN q 36 with
  | false =>
    have h := smN_f.1 h
    have e : q = z36 := by
      refine List.ext_getElem? fun j => ?_
      by_cases hj : j < 36
      · have := h j hj
        rw [List.getElem?_eq_getElem (by omega)]
        unfold z36
        rw [List.getElem?_replicate, if_pos hj]
        simpa [List.getD_eq_getElem?_getD, List.getElem?_eq_getElem (show j < q.length by omega)] using this
      · rw [List.getElem?_eq_none (by omega), List.getElem?_eq_none (by simp [z36]; omega)]
    rw [e]
    simp
  | true =>
    have : q ≠ z36 := fun e => by
      have : smN q 36 = false := smN_f.2 fun j hj => by
        rw [e, List.getD_eq_getElem?_getD]
        unfold z36
        rw [List.getElem?_replicate, if_pos hj]
        rfl
      rw [this] at h
      cases h
    symm
    simpa using this

theorem s_l08Series {p n : Int} {q : List Int} {h : AH} {Q : Value → AH → Prop} (hq : By 36 q) (hQ : ∀ h', h <+: h' → Q (.bool (okSer p n q)) h') : WF S 102 [I64 p, aggV .u8 q, I64 n] h Q := by
  refine WF_fn (fn := c102) rfl rfl ?_
  unfold c102
  try simp (maxSteps := 3000000) (disch := first | omega | (simp only [len_new, len_put, len_kill]; omega)) only [↓xpre, xpost, ↓reduceIte, Nat.reduceEqDiff, Nat.reduceAdd, Nat.reduceSub, Nat.reduceLeDiff, Nat.zero_add, Nat.sub_zero, aggV, cel_all]
  generalize hH1 : AH.new h _ = H1
  obtain ⟨hb1, p1, n1⟩ := new_facts hH1
  refine WC_loop_inv (fun m f K1 => ∃ (c : Nat), m = 9 - c ∧ c ≤ 9 ∧ f 0 = I64 p ∧ f 2 = I64 n ∧ f 4 = .pointer (some ⟨h.length, 0, none⟩) ∧ f 7 = .bool (smN q (c * 4)) ∧ f 8 = I64 c ∧ K1 = H1 ∧ (∀ j, j < c * 4 → okS p n q j = true)) ?_ (9 - 0) _ _ ⟨0, rfl, by omega, (by first | rfl | (simp [upd_apply]; done)), (by first | rfl | (simp [upd_apply]; done)), (by first | rfl | (simp [upd_apply]; done)), (by first | rfl | (simp [upd_apply]; done)), (by first | rfl | (simp [upd_apply]; done)), rfl, (by omega)⟩
  rintro m f K1 ⟨c, rfl, hc, f0, f2, f4, f7, f8, rfl, hj⟩
  by_cases hlt : (c : Int) < 9
  · have hc9 : c < 9 := by omega
    try simp (maxSteps := 3000000) (disch := first | omega | (simp only [len_new, len_put, len_kill]; omega)) only [↓xpre, xpost, ↓reduceIte, Nat.reduceEqDiff, Nat.reduceAdd, Nat.reduceSub, Nat.reduceLeDiff, Nat.zero_add, Nat.sub_zero, f0, f2, f4, f7, f8, decide_eq_true hlt]
    refine WC_loop_inv (fun m f K2 => ∃ (i : Nat), m = 4 - i ∧ i ≤ 4 ∧ f 0 = I64 p ∧ f 2 = I64 n ∧ f 4 = .pointer (some ⟨h.length, 0, none⟩) ∧ f 7 = .bool (smN q (c * 4 + i)) ∧ f 8 = I64 c ∧ f 9 = I64 i ∧ K2 = K1 ∧ (∀ j, j < c * 4 + i → okS p n q j = true)) ?_ (4 - 0) _ _ ⟨0, rfl, by omega, (by first | rfl | exact f0 | (simp [upd_apply]; done)), (by first | rfl | exact f2 | (simp [upd_apply]; done)), (by first | rfl | exact f4 | (simp [upd_apply]; done)), (by first | rfl | exact f7 | (simp [upd_apply]; done)), (by first | rfl | exact f8 | (simp [upd_apply]; done)), (by first | rfl | (simp [upd_apply]; done)), rfl, hj⟩
    rintro m f K2 ⟨i, rfl, hi, f0, f2, f4, f7, f8, f9, rfl, hji⟩
    by_cases hlti : (i : Int) < 4
    · have hi4 : i < 4 := by omega
      have hcd : (c * 4 + i) / 4 = c := by omega
      have g1 := cel_get (k := .u8) (q := q) (j := c * 4 + i) (by rw [hq.1]; omega)
      have b1 := hq.2 (c * 4 + i) (by omega)
      have no : okS p n q (c * 4 + i) = false → Q (.bool false) K2 := fun e => by have := hQ _ p1; rw [okSer_f (by omega) e] at this; exact this
      have okd : okS p n q (c * 4 + i) = decide (q.getD (c * 4 + i) 0 < p ∧ (n ≤ (c : Int) → q.getD (c * 4 + i) 0 = 0)) := by unfold okS; rw [hcd]
      have yes : okS p n q (c * 4 + i) = true → ∀ j, j < c * 4 + (i + 1) → okS p n q j = true := fun e j hj => by
        by_cases ej : j = c * 4 + i
        · subst ej
          exact e
        · exact hji j (by omega)
      have sm : smN q (c * 4 + (i + 1)) = (smN q (c * 4 + i) || decide (q.getD (c * 4 + i) 0 ≠ 0)) := rfl
      generalize hX : q.getD (c * 4 + i) 0 = X at *
      by_cases d1 : p ≤ X
      · try simp (maxSteps := 3000000) (disch := first | omega | (simp only [len_new, len_put, len_kill]; omega)) only [↓xpre, xpost, ↓reduceIte, Nat.reduceEqDiff, Nat.reduceAdd, Nat.reduceSub, Nat.reduceLeDiff, Nat.zero_add, Nat.sub_zero, f0, f2, f4, f7, f8, f9, decide_eq_true hlti, ↓WX_ixa, ixaV_ptr, Int.toNat_natCast, Nat.mul_one, Nat.zero_add, rd1_of hb1, g1, wrap64_in, decide_eq_true d1, WG_un]
        exact no (by rw [okd]; exact decide_eq_false (by omega))
      have fin : okS p n q (c * 4 + i) = true → ∀ b, b = smN q (c * 4 + i) → True := fun _ _ _ => trivial
      by_cases d3 : X = 0
      · have ok1 : okS p n q (c * 4 + i) = true := by rw [okd]; exact decide_eq_true ⟨by omega, fun _ => d3⟩
        rw [decide_eq_false (show ¬ X ≠ 0 from fun e => e d3), Bool.or_false] at sm
        by_cases d2 : n ≤ (c : Int)
        · cases hs : smN q (c * 4 + i) with
          | true =>
            rw [hs] at f7 sm
            try simp (maxSteps := 3000000) (disch := first | omega | (simp only [len_new, len_put, len_kill]; omega)) only [↓xpre, xpost, ↓reduceIte, Nat.reduceEqDiff, Nat.reduceAdd, Nat.reduceSub, Nat.reduceLeDiff, Nat.zero_add, Nat.sub_zero, f0, f2, f4, f7, f8, f9, decide_eq_true hlti, ↓WX_ixa, ixaV_ptr, Int.toNat_natCast, Nat.mul_one, Nat.zero_add, rd1_of hb1, g1, wrap64_in, decide_eq_false d1, decide_eq_true d2, decide_eq_false (show ¬ X ≠ 0 from fun e => e d3), WG_un]
            refine InvQ_go (4 - (i + 1)) (by omega) ⟨(i + 1), rfl, by omega, (by first | rfl | exact f0 | (simp only [upd_apply]; rfl) | (show I64 _ = _; congr 1; omega)), (by first | rfl | exact f2 | (simp only [upd_apply]; rfl) | (show I64 _ = _; congr 1; omega)), (by first | rfl | exact f4 | (simp only [upd_apply]; rfl) | (show I64 _ = _; congr 1; omega)), (by rw [sm]; rfl), (by first | rfl | exact f8 | (simp only [upd_apply]; rfl) | (show I64 _ = _; congr 1; omega)), (by first | rfl | exact f9 | (simp only [upd_apply]; rfl) | (show I64 _ = _; congr 1; omega)), rfl, (yes ok1)⟩
          | false =>
            rw [hs] at f7 sm
            try simp (maxSteps := 3000000) (disch := first | omega | (simp only [len_new, len_put, len_kill]; omega)) only [↓xpre, xpost, ↓reduceIte, Nat.reduceEqDiff, Nat.reduceAdd, Nat.reduceSub, Nat.reduceLeDiff, Nat.zero_add, Nat.sub_zero, f0, f2, f4, f7, f8, f9, decide_eq_true hlti, ↓WX_ixa, ixaV_ptr, Int.toNat_natCast, Nat.mul_one, Nat.zero_add, rd1_of hb1, g1, wrap64_in, decide_eq_false d1, decide_eq_true d2, decide_eq_false (show ¬ X ≠ 0 from fun e => e d3), WG_un]
            refine InvQ_go (4 - (i + 1)) (by omega) ⟨(i + 1), rfl, by omega, (by first | rfl | exact f0 | (simp only [upd_apply]; rfl) | (show I64 _ = _; congr 1; omega)), (by first | rfl | exact f2 | (simp only [upd_apply]; rfl) | (show I64 _ = _; congr 1; omega)), (by first | rfl | exact f4 | (simp only [upd_apply]; rfl) | (show I64 _ = _; congr 1; omega)), (by rw [sm]; rfl), (by first | rfl | exact f8 | (simp only [upd_apply]; rfl) | (show I64 _ = _; congr 1; omega)), (by first | rfl | exact f9 | (simp only [upd_apply]; rfl) | (show I64 _ = _; congr 1; omega)), rfl, (yes ok1)⟩
        · cases hs : smN q (c * 4 + i) with
          | true =>
            rw [hs] at f7 sm
            try simp (maxSteps := 3000000) (disch := first | omega | (simp only [len_new, len_put, len_kill]; omega)) only [↓xpre, xpost, ↓reduceIte, Nat.reduceEqDiff, Nat.reduceAdd, Nat.reduceSub, Nat.reduceLeDiff, Nat.zero_add, Nat.sub_zero, f0, f2, f4, f7, f8, f9, decide_eq_true hlti, ↓WX_ixa, ixaV_ptr, Int.toNat_natCast, Nat.mul_one, Nat.zero_add, rd1_of hb1, g1, wrap64_in, decide_eq_false d1, decide_eq_false d2, decide_eq_false (show ¬ X ≠ 0 from fun e => e d3), WG_un]
            refine InvQ_go (4 - (i + 1)) (by omega) ⟨(i + 1), rfl, by omega, (by first | rfl | exact f0 | (simp only [upd_apply]; rfl) | (show I64 _ = _; congr 1; omega)), (by first | rfl | exact f2 | (simp only [upd_apply]; rfl) | (show I64 _ = _; congr 1; omega)), (by first | rfl | exact f4 | (simp only [upd_apply]; rfl) | (show I64 _ = _; congr 1; omega)), (by rw [sm]; rfl), (by first | rfl | exact f8 | (simp only [upd_apply]; rfl) | (show I64 _ = _; congr 1; omega)), (by first | rfl | exact f9 | (simp only [upd_apply]; rfl) | (show I64 _ = _; congr 1; omega)), rfl, (yes ok1)⟩
          | false =>
            rw [hs] at f7 sm
            try simp (maxSteps := 3000000) (disch := first | omega | (simp only [len_new, len_put, len_kill]; omega)) only [↓xpre, xpost, ↓reduceIte, Nat.reduceEqDiff, Nat.reduceAdd, Nat.reduceSub, Nat.reduceLeDiff, Nat.zero_add, Nat.sub_zero, f0, f2, f4, f7, f8, f9, decide_eq_true hlti, ↓WX_ixa, ixaV_ptr, Int.toNat_natCast, Nat.mul_one, Nat.zero_add, rd1_of hb1, g1, wrap64_in, decide_eq_false d1, decide_eq_false d2, decide_eq_false (show ¬ X ≠ 0 from fun e => e d3), WG_un]
            refine InvQ_go (4 - (i + 1)) (by omega) ⟨(i + 1), rfl, by omega, (by first | rfl | exact f0 | (simp only [upd_apply]; rfl) | (show I64 _ = _; congr 1; omega)), (by first | rfl | exact f2 | (simp only [upd_apply]; rfl) | (show I64 _ = _; congr 1; omega)), (by first | rfl | exact f4 | (simp only [upd_apply]; rfl) | (show I64 _ = _; congr 1; omega)), (by rw [sm]; rfl), (by first | rfl | exact f8 | (simp only [upd_apply]; rfl) | (show I64 _ = _; congr 1; omega)), (by first | rfl | exact f9 | (simp only [upd_apply]; rfl) | (show I64 _ = _; congr 1; omega)), rfl, (yes ok1)⟩
      · rw [decide_eq_true (show X ≠ 0 from d3), Bool.or_true] at sm
        by_cases d2 : n ≤ (c : Int)
        · try simp (maxSteps := 3000000) (disch := first | omega | (simp only [len_new, len_put, len_kill]; omega)) only [↓xpre, xpost, ↓reduceIte, Nat.reduceEqDiff, Nat.reduceAdd, Nat.reduceSub, Nat.reduceLeDiff, Nat.zero_add, Nat.sub_zero, f0, f2, f4, f7, f8, f9, decide_eq_true hlti, ↓WX_ixa, ixaV_ptr, Int.toNat_natCast, Nat.mul_one, Nat.zero_add, rd1_of hb1, g1, wrap64_in, decide_eq_false d1, decide_eq_true d2, decide_eq_true (show X ≠ 0 from d3), WG_un]
          exact no (by rw [okd]; exact decide_eq_false (fun e => d3 (e.2 d2)))
        · have ok1 : okS p n q (c * 4 + i) = true := by rw [okd]; exact decide_eq_true ⟨by omega, fun e => absurd e d2⟩
          cases hs : smN q (c * 4 + i) with
          | true =>
            rw [hs] at f7
            try simp (maxSteps := 3000000) (disch := first | omega | (simp only [len_new, len_put, len_kill]; omega)) only [↓xpre, xpost, ↓reduceIte, Nat.reduceEqDiff, Nat.reduceAdd, Nat.reduceSub, Nat.reduceLeDiff, Nat.zero_add, Nat.sub_zero, f0, f2, f4, f7, f8, f9, decide_eq_true hlti, ↓WX_ixa, ixaV_ptr, Int.toNat_natCast, Nat.mul_one, Nat.zero_add, rd1_of hb1, g1, wrap64_in, decide_eq_false d1, decide_eq_false d2, decide_eq_true (show X ≠ 0 from d3), WG_un]
            refine InvQ_go (4 - (i + 1)) (by omega) ⟨(i + 1), rfl, by omega, (by first | rfl | exact f0 | (simp only [upd_apply]; rfl) | (show I64 _ = _; congr 1; omega)), (by first | rfl | exact f2 | (simp only [upd_apply]; rfl) | (show I64 _ = _; congr 1; omega)), (by first | rfl | exact f4 | (simp only [upd_apply]; rfl) | (show I64 _ = _; congr 1; omega)), (by rw [sm]; rfl), (by first | rfl | exact f8 | (simp only [upd_apply]; rfl) | (show I64 _ = _; congr 1; omega)), (by first | rfl | exact f9 | (simp only [upd_apply]; rfl) | (show I64 _ = _; congr 1; omega)), rfl, (yes ok1)⟩
          | false =>
            rw [hs] at f7
            try simp (maxSteps := 3000000) (disch := first | omega | (simp only [len_new, len_put, len_kill]; omega)) only [↓xpre, xpost, ↓reduceIte, Nat.reduceEqDiff, Nat.reduceAdd, Nat.reduceSub, Nat.reduceLeDiff, Nat.zero_add, Nat.sub_zero, f0, f2, f4, f7, f8, f9, decide_eq_true hlti, ↓WX_ixa, ixaV_ptr, Int.toNat_natCast, Nat.mul_one, Nat.zero_add, rd1_of hb1, g1, wrap64_in, decide_eq_false d1, decide_eq_false d2, decide_eq_true (show X ≠ 0 from d3), WG_un]
            refine InvQ_go (4 - (i + 1)) (by omega) ⟨(i + 1), rfl, by omega, (by first | rfl | exact f0 | (simp only [upd_apply]; rfl) | (show I64 _ = _; congr 1; omega)), (by first | rfl | exact f2 | (simp only [upd_apply]; rfl) | (show I64 _ = _; congr 1; omega)), (by first | rfl | exact f4 | (simp only [upd_apply]; rfl) | (show I64 _ = _; congr 1; omega)), (by rw [sm]; rfl), (by first | rfl | exact f8 | (simp only [upd_apply]; rfl) | (show I64 _ = _; congr 1; omega)), (by first | rfl | exact f9 | (simp only [upd_apply]; rfl) | (show I64 _ = _; congr 1; omega)), rfl, (yes ok1)⟩
    have ei : i = 4 := by omega
    subst ei
    try simp (maxSteps := 3000000) (disch := first | omega | (simp only [len_new, len_put, len_kill]; omega)) only [↓xpre, xpost, ↓reduceIte, Nat.reduceEqDiff, Nat.reduceAdd, Nat.reduceSub, Nat.reduceLeDiff, Nat.zero_add, Nat.sub_zero, f0, f2, f4, f7, f8, f9, decide_eq_false hlti, wrap64_in]
    refine InvQ_go (9 - (c + 1)) (by omega) ⟨(c + 1), rfl, by omega, (by first | rfl | exact f0 | (simp only [upd_apply]; rfl) | (show I64 _ = _; congr 1; omega)), (by first | rfl | exact f2 | (simp only [upd_apply]; rfl) | (show I64 _ = _; congr 1; omega)), (by first | rfl | exact f4 | (simp only [upd_apply]; rfl) | (show I64 _ = _; congr 1; omega)), (by show _ = Value.bool (smN q ((c + 1) * 4)); rw [show (c + 1) * 4 = c * 4 + 4 by omega]; exact f7), (by first | rfl | exact f8 | (simp only [upd_apply]; rfl) | (show I64 _ = _; congr 1; omega)), rfl, (fun j hj => hji j (by omega))⟩
  have ec : c = 9 := by omega
  subst ec
  try simp (maxSteps := 3000000) (disch := first | omega | (simp only [len_new, len_put, len_kill]; omega)) only [↓xpre, xpost, ↓reduceIte, Nat.reduceEqDiff, Nat.reduceAdd, Nat.reduceSub, Nat.reduceLeDiff, Nat.zero_add, Nat.sub_zero, f0, f2, f4, f7, f8, decide_eq_false hlt]
  have := hQ _ p1
  rw [okSer_t hj, ← smN_all hq.1] at this
  exact this
theorem eqaV_celt {n : Nat} {k : IntKind} {q r : List Int} (hq : q.length = n) (hr : r.length = n) (h0 : 0 < n) : eqaV true n (.agg (cel k q).toArray) (.agg (cel k r).toArray) = some (.bool (!(q == r))) := by
  have e1 := intsOf_cel (k := k) (q := q) (by intro e; rw [e] at hq; simp at hq; omega)
  have e2 := intsOf_cel (k := k) (q := r) (by intro e; rw [e] at hr; simp at hr; omega)
  simp only [eqaV, e1, e2]
  rw [if_pos ⟨trivial, hq, hr⟩]
  simp
theorem i_isSeries {p n : Int} {q : List Int} {h : AH} {Q : Value → AH → Prop} (hq : By 36 q) (hQ : ∀ h', h <+: h' → Q (.bool (okSer p n q)) h') : WF S 64 [I64 p, I64 n, aggV .u8 q] h Q := by
  refine WF_fn (fn := c64) rfl rfl ?_
  unfold c64
  simp only [zeros36]
  simp only [zeros4]
  have tk : q.take 36 = q := List.take_of_length_le (by rw [hq.1]; exact Nat.le_refl _)
  try simp (maxSteps := 3000000) (disch := first | omega | (simp only [len_new, len_put, len_kill]; omega)) only [↓xpre, xpost, ↓reduceIte, Nat.reduceEqDiff, Nat.reduceAdd, Nat.reduceSub, Nat.reduceLeDiff, Nat.zero_add, Nat.sub_zero, aggV, cel_all]
  generalize hH1 : AH.new h _ = H1
  obtain ⟨hb1, p1, n1⟩ := new_facts hH1
  try simp (maxSteps := 3000000) (disch := first | omega | (simp only [len_new, len_put, len_kill]; omega)) only [↓xpre, xpost, ↓reduceIte, Nat.reduceEqDiff, Nat.reduceAdd, Nat.reduceSub, Nat.reduceLeDiff, Nat.zero_add, Nat.sub_zero, rdn_of hb1, cel_len, hq.1, cel_take, tk]
  refine WC_loop_inv (fun m f K1 => ∃ (c : Nat), m = 9 - c ∧ c ≤ 9 ∧ f 0 = I64 p ∧ f 1 = I64 n ∧ f 5 = .pointer (some ⟨h.length, 0, none⟩) ∧ f 11 = .agg (cel .u8 q).toArray ∧ f 12 = I64 c ∧ (H1 <+: K1) ∧ (∀ j, j < c * 4 → okS p n q j = true)) ?_ (9 - 0) _ _ ⟨0, rfl, by omega, (by first | rfl | (simp [upd_apply]; done)), (by first | rfl | (simp [upd_apply]; done)), (by first | rfl | (simp [upd_apply]; done)), (by first | rfl | (simp [upd_apply]; done)), (by first | rfl | (simp [upd_apply]; done)), List.prefix_refl _, (by omega)⟩
  rintro m f K1 ⟨c, rfl, hc, f0, f1, f5, f11, f12, pp, hj⟩
  by_cases hlt : (c : Int) < 9
  · have hc9 : c < 9 := by omega
    have a1 : ((q.drop (c * 4)).take 4).length = 4 := by simp [hq.1]; omega
    have e1 : idxnV 9 4 (.agg (cel .u8 q).toArray) (I64 c) = some (.agg (cel .u8 ((q.drop (c * 4)).take 4)).toArray) := by
      simp only [idxnV, toL, Int.toNat_natCast, cel_len, hq.1]
      rw [if_pos ⟨by omega, by omega, by omega⟩]
      simp only [cel_drop, cel_take]
    have w1 : ∀ (h1 : AH) (e : TypeId), (h1.new ⟨cel .u8 (List.replicate 4 0), e, false, true⟩).wr h1.length 0 (cel .u8 ((q.drop (c * 4)).take 4)) = some (h1.new ⟨cel .u8 ((q.drop (c * 4)).take 4), e, false, true⟩) := fun h1 e => wr_all (by rw [cel_len, cel_len, a1]; rfl)
    have tk4 : ((q.drop (c * 4)).take 4).take 4 = (q.drop (c * 4)).take 4 := by rw [List.take_take, Nat.min_self]
    try simp (maxSteps := 3000000) (disch := first | omega | (simp only [len_new, len_put, len_kill]; omega)) only [↓xpre, xpost, ↓reduceIte, Nat.reduceEqDiff, Nat.reduceAdd, Nat.reduceSub, Nat.reduceLeDiff, Nat.zero_add, Nat.sub_zero, f0, f1, f5, f11, f12, decide_eq_true hlt, ↓WX_idxn, e1, cel_all, cel_len, a1, ↓w1, cel_take, tk4]
    generalize hH2 : AH.new K1 _ = H2
    obtain ⟨hb2, p2, n2⟩ := new_facts hH2
    refine WC_loop_inv (fun m f K2 => ∃ (i : Nat), m = 4 - i ∧ i ≤ 4 ∧ f 0 = I64 p ∧ f 1 = I64 n ∧ f 5 = .pointer (some ⟨h.length, 0, none⟩) ∧ f 7 = I64 c ∧ f 11 = .agg (cel .u8 q).toArray ∧ f 12 = I64 c ∧ f 16 = .agg (cel .u8 ((q.drop (c * 4)).take 4)).toArray ∧ f 17 = I64 i ∧ K2 = H2 ∧ (∀ j, j < c * 4 + i → okS p n q j = true)) ?_ (4 - 0) _ _ ⟨0, rfl, by omega, (by first | rfl | exact f0 | (simp [upd_apply]; done)), (by first | rfl | exact f1 | (simp [upd_apply]; done)), (by first | rfl | exact f5 | (simp [upd_apply]; done)), (by first | rfl | (simp [upd_apply]; done)), (by first | rfl | exact f11 | (simp [upd_apply]; done)), (by first | rfl | exact f12 | (simp [upd_apply]; done)), (by first | rfl | (simp [upd_apply]; done)), (by first | rfl | (simp [upd_apply]; done)), rfl, hj⟩
    rintro m f K2 ⟨i, rfl, hi, f0, f1, f5, f7, f11, f12, f16, f17, rfl, hji⟩
    have ph := (p1.trans pp).trans p2
    by_cases hlti : (i : Int) < 4
    · have hi4 : i < 4 := by omega
      have hcd : (c * 4 + i) / 4 = c := by omega
      have g1 := idx1V_cel (k := .u8) (q := (q.drop (c * 4)).take 4) (n := 4) (j := i) (kk := .i64) hi4 (by rw [a1]; exact hi4)
      rw [cut_get hi4] at g1
      have b1 := hq.2 (c * 4 + i) (by omega)
      have no : okS p n q (c * 4 + i) = false → Q (.bool false) K2 := fun e => by have := hQ _ ph; rw [okSer_f (by omega) e] at this; exact this
      have okd : okS p n q (c * 4 + i) = decide (q.getD (c * 4 + i) 0 < p ∧ (n ≤ (c : Int) → q.getD (c * 4 + i) 0 = 0)) := by unfold okS; rw [hcd]
      have yes : okS p n q (c * 4 + i) = true → ∀ j, j < c * 4 + (i + 1) → okS p n q j = true := fun e j hj => by
        by_cases ej : j = c * 4 + i
        · subst ej
          exact e
        · exact hji j (by omega)
      generalize hX : q.getD (c * 4 + i) 0 = X at *
      by_cases d1 : p ≤ X
      · try simp (maxSteps := 3000000) (disch := first | omega | (simp only [len_new, len_put, len_kill]; omega)) only [↓xpre, xpost, ↓reduceIte, Nat.reduceEqDiff, Nat.reduceAdd, Nat.reduceSub, Nat.reduceLeDiff, Nat.zero_add, Nat.sub_zero, f0, f1, f5, f7, f11, f12, f16, f17, decide_eq_true hlti, ↓WX_idx1, g1, wrap64_in, decide_eq_true d1, WG_un]
        exact no (by rw [okd]; exact decide_eq_false (by omega))
      by_cases d3 : X = 0
      · try simp (maxSteps := 3000000) (disch := first | omega | (simp only [len_new, len_put, len_kill]; omega)) only [↓xpre, xpost, ↓reduceIte, Nat.reduceEqDiff, Nat.reduceAdd, Nat.reduceSub, Nat.reduceLeDiff, Nat.zero_add, Nat.sub_zero, f0, f1, f5, f7, f11, f12, f16, f17, decide_eq_true hlti, ↓WX_idx1, g1, wrap64_in, decide_eq_false d1, decide_eq_false (show ¬ (X ≠ 0) from fun e => e d3), WG_un]
        refine InvQ_go (4 - (i + 1)) (by omega) ⟨(i + 1), rfl, by omega, (by first | rfl | exact f0 | (simp only [upd_apply]; rfl) | (show I64 _ = _; congr 1; omega)), (by first | rfl | exact f1 | (simp only [upd_apply]; rfl) | (show I64 _ = _; congr 1; omega)), (by first | rfl | exact f5 | (simp only [upd_apply]; rfl) | (show I64 _ = _; congr 1; omega)), (by first | rfl | exact f7 | (simp only [upd_apply]; rfl) | (show I64 _ = _; congr 1; omega)), (by first | rfl | exact f11 | (simp only [upd_apply]; rfl) | (show I64 _ = _; congr 1; omega)), (by first | rfl | exact f12 | (simp only [upd_apply]; rfl) | (show I64 _ = _; congr 1; omega)), (by first | rfl | exact f16 | (simp only [upd_apply]; rfl) | (show I64 _ = _; congr 1; omega)), (by first | rfl | exact f17 | (simp only [upd_apply]; rfl) | (show I64 _ = _; congr 1; omega)), rfl, (yes (by rw [okd]; exact decide_eq_true ⟨by omega, fun _ => d3⟩))⟩
      · by_cases d2 : n ≤ (c : Int)
        · try simp (maxSteps := 3000000) (disch := first | omega | (simp only [len_new, len_put, len_kill]; omega)) only [↓xpre, xpost, ↓reduceIte, Nat.reduceEqDiff, Nat.reduceAdd, Nat.reduceSub, Nat.reduceLeDiff, Nat.zero_add, Nat.sub_zero, f0, f1, f5, f7, f11, f12, f16, f17, decide_eq_true hlti, ↓WX_idx1, g1, wrap64_in, decide_eq_false d1, decide_eq_true d2, decide_eq_true (show X ≠ 0 from d3), WG_un]
          exact no (by rw [okd]; exact decide_eq_false (fun e => d3 (e.2 d2)))
        · try simp (maxSteps := 3000000) (disch := first | omega | (simp only [len_new, len_put, len_kill]; omega)) only [↓xpre, xpost, ↓reduceIte, Nat.reduceEqDiff, Nat.reduceAdd, Nat.reduceSub, Nat.reduceLeDiff, Nat.zero_add, Nat.sub_zero, f0, f1, f5, f7, f11, f12, f16, f17, decide_eq_true hlti, ↓WX_idx1, g1, wrap64_in, decide_eq_false d1, decide_eq_false d2, decide_eq_true (show X ≠ 0 from d3), WG_un]
          refine InvQ_go (4 - (i + 1)) (by omega) ⟨(i + 1), rfl, by omega, (by first | rfl | exact f0 | (simp only [upd_apply]; rfl) | (show I64 _ = _; congr 1; omega)), (by first | rfl | exact f1 | (simp only [upd_apply]; rfl) | (show I64 _ = _; congr 1; omega)), (by first | rfl | exact f5 | (simp only [upd_apply]; rfl) | (show I64 _ = _; congr 1; omega)), (by first | rfl | exact f7 | (simp only [upd_apply]; rfl) | (show I64 _ = _; congr 1; omega)), (by first | rfl | exact f11 | (simp only [upd_apply]; rfl) | (show I64 _ = _; congr 1; omega)), (by first | rfl | exact f12 | (simp only [upd_apply]; rfl) | (show I64 _ = _; congr 1; omega)), (by first | rfl | exact f16 | (simp only [upd_apply]; rfl) | (show I64 _ = _; congr 1; omega)), (by first | rfl | exact f17 | (simp only [upd_apply]; rfl) | (show I64 _ = _; congr 1; omega)), rfl, (yes (by rw [okd]; exact decide_eq_true ⟨by omega, fun e => absurd e d2⟩))⟩
    have ei : i = 4 := by omega
    subst ei
    try simp (maxSteps := 3000000) (disch := first | omega | (simp only [len_new, len_put, len_kill]; omega)) only [↓xpre, xpost, ↓reduceIte, Nat.reduceEqDiff, Nat.reduceAdd, Nat.reduceSub, Nat.reduceLeDiff, Nat.zero_add, Nat.sub_zero, f0, f1, f5, f7, f11, f12, f16, f17, decide_eq_false hlti, wrap64_in]
    refine InvQ_go (9 - (c + 1)) (by omega) ⟨(c + 1), rfl, by omega, (by first | rfl | exact f0 | (simp only [upd_apply]; rfl) | (show I64 _ = _; congr 1; omega)), (by first | rfl | exact f1 | (simp only [upd_apply]; rfl) | (show I64 _ = _; congr 1; omega)), (by first | rfl | exact f5 | (simp only [upd_apply]; rfl) | (show I64 _ = _; congr 1; omega)), (by first | rfl | exact f11 | (simp only [upd_apply]; rfl) | (show I64 _ = _; congr 1; omega)), (by first | rfl | exact f12 | (simp only [upd_apply]; rfl) | (show I64 _ = _; congr 1; omega)), (pp.trans p2), (fun j hj => hji j (by omega))⟩
  have ec : c = 9 := by omega
  subst ec
  have hb1 := pre_get pp hb1
  have e := eqaV_celt (k := .u8) hq.1 (show (List.replicate 36 (0 : Int)).length = 36 from rfl) (by omega)
  try simp (maxSteps := 3000000) (disch := first | omega | (simp only [len_new, len_put, len_kill]; omega)) only [↓xpre, xpost, ↓reduceIte, Nat.reduceEqDiff, Nat.reduceAdd, Nat.reduceSub, Nat.reduceLeDiff, Nat.zero_add, Nat.sub_zero, f0, f1, f5, f11, f12, decide_eq_false hlt, rdn_of hb1, cel_len, hq.1, cel_take, tk, fillL, cel_all, e]
  have := hQ _ (p1.trans pp)
  rw [okSer_t hj] at this
  exact this
/-! ### The whole -/
def sg (q : List Int) (i : Nat) : List Int := (q.drop (i * 36)).take 36
theorem By.sg {q : List Int} (hq : By 108 q) {i : Nat} (hi : i < 3) : By 36 (sg q i) := by
  have h1 := hq.1
  refine ⟨by unfold X.sg; simp; omega, fun j hj => ?_⟩
  unfold X.sg
  rw [cut_get hj]
  exact hq.2 _ (by omega)
def okTw (x : Sch) (q : List Int) : Bool := okSer x.p (pl x 0) (sg q 0) && okSer x.p (pl x 1) (sg q 1) && okSer x.p (pl x 2) (sg q 2)
def isB (x : Sch) : Bool := szX x && decide (x.ps.length ≤ 30) && x.ps.all (okTw x)
theorem Twgs.by {h : AH} {v : Value} {L : List (List Int)} (hv : Twgs h v L) {i : Nat} (hi : i < L.length) : By 108 (L.getD i []) := ⟨hv.1.wid hi, hv.2 i hi⟩
theorem s_l08Like {x : Sch} {v : Value} {h : AH} {Q : Value → AH → Prop} (hv : isOne v = true) (hQ : ∀ v' h', h <+: h' → isOne v' = true → Q (schV ⟨x.p, x.n, x.m, x.k, []⟩ v') h') : WF S 101 [schV x v] h Q := by
  refine WF_fn (fn := c101) rfl rfl ?_
  unfold c101
  try simp (maxSteps := 3000000) (disch := first | omega | (simp only [len_new, len_put, len_kill]; omega)) only [↓xpre, xpost, ↓reduceIte, Nat.reduceEqDiff, Nat.reduceAdd, Nat.reduceSub, Nat.reduceLeDiff, Nat.zero_add, Nat.sub_zero, schV, hv, fillL, zrep]
  refine hQ _ _ (pre_new (pre_new (pre_new (List.prefix_refl _)))) ?_
  rfl
theorem s_l08Is {v : Value} {x : Sch} {h : AH} {Q : Value → AH → Prop} (hv : Twgs h v x.ps) (hl : SmallX x.ps) (hQ : ∀ h', h <+: h' → Q (.bool (isB x)) h') : WF S 58 [schV x v] h Q := by
  refine WF_fn (fn := c58) rfl rfl ?_
  unfold c58
  unfold SmallX at hl
  try simp (maxSteps := 3000000) (disch := first | omega | (simp only [len_new, len_put, len_kill]; omega)) only [↓xpre, xpost, ↓reduceIte, Nat.reduceEqDiff, Nat.reduceAdd, Nat.reduceSub, Nat.reduceLeDiff, Nat.zero_add, Nat.sub_zero, schV, hv.one]
  generalize hH1 : AH.new h _ = H1
  obtain ⟨hb1, p1, n1⟩ := new_facts hH1
  try simp (maxSteps := 3000000) (disch := first | omega | (simp only [len_new, len_put, len_kill]; omega)) only [↓xpre, xpost, ↓reduceIte, Nat.reduceEqDiff, Nat.reduceAdd, Nat.reduceSub, Nat.reduceLeDiff, Nat.zero_add, Nat.sub_zero, rd1_of hb1]
  refine s_l01Sizes ?_
  have hQ1 := hQ _ p1
  unfold isB at hQ hQ1
  have e0 : (isP x.p && sz x.n && sz x.m && sz x.k) = szX x := rfl
  rw [e0]
  cases c0 : szX x with
  | false =>
    try simp (maxSteps := 3000000) (disch := first | omega | (simp only [len_new, len_put, len_kill]; omega)) only [↓xpre, xpost, ↓reduceIte, Nat.reduceEqDiff, Nat.reduceAdd, Nat.reduceSub, Nat.reduceLeDiff, Nat.zero_add, Nat.sub_zero, WG_un]
    rw [c0] at hQ1
    exact hQ1
  | true =>
    rw [c0] at hQ hQ1
    have z := szX_facts c0
    by_cases c1 : (30 : Int) < x.ps.length
    · try simp (maxSteps := 3000000) (disch := first | omega | (simp only [len_new, len_put, len_kill]; omega)) only [↓xpre, xpost, ↓reduceIte, Nat.reduceEqDiff, Nat.reduceAdd, Nat.reduceSub, Nat.reduceLeDiff, Nat.zero_add, Nat.sub_zero, rd1_of hb1, (hv.pre p1).1.len, decide_eq_true c1]
      rw [decide_eq_false (show ¬ x.ps.length ≤ 30 by omega)] at hQ1
      exact hQ1
    rw [decide_eq_true (show x.ps.length ≤ 30 by omega)] at hQ
    try simp (maxSteps := 3000000) (disch := first | omega | (simp only [len_new, len_put, len_kill]; omega)) only [↓xpre, xpost, ↓reduceIte, Nat.reduceEqDiff, Nat.reduceAdd, Nat.reduceSub, Nat.reduceLeDiff, Nat.zero_add, Nat.sub_zero, rd1_of hb1, (hv.pre p1).1.len, decide_eq_false c1, rdn_of hb1]
    refine s_l08Like (x := x) hv.one fun v2 H2 p2 o2 => ?_
    try simp (maxSteps := 3000000) (disch := first | omega | (simp only [len_new, len_put, len_kill]; omega)) only [↓xpre, xpost, ↓reduceIte, Nat.reduceEqDiff, Nat.reduceAdd, Nat.reduceSub, Nat.reduceLeDiff, Nat.zero_add, Nat.sub_zero, schV, o2]
    refine s_l01Lengths (x := ⟨x.p, x.n, x.m, x.k, []⟩) o2 ⟨z.p, z.n, z.m, z.k, z.nm, z.mk2, z.nk⟩ fun H3 p3 => ?_
    try simp (maxSteps := 3000000) (disch := first | omega | (simp only [len_new, len_put, len_kill]; omega)) only [↓xpre, xpost, ↓reduceIte, Nat.reduceEqDiff, Nat.reduceAdd, Nat.reduceSub, Nat.reduceLeDiff, Nat.zero_add, Nat.sub_zero]
    refine WC_loop_inv (fun m f K1 => ∃ (i : Nat), m = x.ps.length - i ∧ i ≤ x.ps.length ∧ f 1 = .pointer (some ⟨h.length, 0, none⟩) ∧ f 3 = I64 (x.n * x.m) ∧ f 4 = I64 (x.m * x.k) ∧ f 5 = I64 (x.n * x.k) ∧ f 6 = I64 i ∧ (H1 <+: K1) ∧ (∀ j, j < i → okTw x (x.ps.getD j []) = true)) ?_ (x.ps.length - 0) _ _ ⟨0, rfl, by omega, (by first | rfl | (simp [upd_apply]; done)), (by first | rfl | (simp [upd_apply]; done)), (by first | rfl | (simp [upd_apply]; done)), (by first | rfl | (simp [upd_apply]; done)), (by first | rfl | (simp [upd_apply]; done)), p2.trans p3, (by omega)⟩
    rintro m f K1 ⟨i, rfl, hi, f1, f3, f4, f5, f6, pp, hj⟩
    have hb1 := pre_get pp hb1
    have hvK := hv.pre (p1.trans pp)
    try simp (maxSteps := 3000000) (disch := first | omega | (simp only [len_new, len_put, len_kill]; omega)) only [↓xpre, xpost, ↓reduceIte, Nat.reduceEqDiff, Nat.reduceAdd, Nat.reduceSub, Nat.reduceLeDiff, Nat.zero_add, Nat.sub_zero, f1, f3, f4, f5, f6, rd1_of hb1, hvK.1.len, IfW_dec]
    refine ⟨fun hlt => ?_, fun hge => ?_⟩
    · have hi' : i < x.ps.length := by omega
      obtain ⟨n, off, hix, hrn, hr1⟩ := hvK.1.at hi'
      have ra := hrn 0 36 (by omega)
      have rb := hrn 36 36 (by omega)
      have rc := hrn 72 36 (by omega)
      have hby := hvK.by hi'
      generalize hq : x.ps.getD i [] = q at *
      have okd : okTw x q = (okSer x.p (x.n * x.m) (sg q 0) && okSer x.p (x.m * x.k) (sg q 1) && okSer x.p (x.n * x.k) (sg q 2)) := rfl
      have s0 : List.take 36 (List.drop 0 q) = sg q 0 := rfl
      have s1 : List.take 36 (List.drop 36 q) = sg q 1 := rfl
      have s2 : List.take 36 (List.drop 72 q) = sg q 2 := rfl
      rw [s0] at ra
      rw [s1] at rb
      rw [s2] at rc
      have no : ∀ h', h <+: h' → okTw x q = false → Q (.bool false) h' := fun h' p e => by
        have := hQ _ p
        rw [← hq] at e
        rw [all_getD_f hi' e] at this
        exact this
      try simp (maxSteps := 3000000) (disch := first | omega | (simp only [len_new, len_put, len_kill]; omega)) only [↓xpre, xpost, ↓reduceIte, Nat.reduceEqDiff, Nat.reduceAdd, Nat.reduceSub, Nat.reduceLeDiff, Nat.zero_add, Nat.sub_zero, f1, f3, f4, f5, f6, rd1_of hb1, hix, ra]
      refine s_l08Series (hby.sg (i := 0) (by omega)) fun H4 p4 => ?_
      cases c2 : okSer x.p (x.n * x.m) (sg q 0) with
      | false =>
        try simp (maxSteps := 3000000) (disch := first | omega | (simp only [len_new, len_put, len_kill]; omega)) only [↓xpre, xpost, ↓reduceIte, Nat.reduceEqDiff, Nat.reduceAdd, Nat.reduceSub, Nat.reduceLeDiff, Nat.zero_add, Nat.sub_zero, f1, f3, f4, f5, f6, WG_un]
        exact no _ ((p1.trans pp).trans p4) (by rw [okd, c2]; rfl)
      | true =>
        have hb4 := pre_get p4 hb1
        have hv4 := hv.pre ((p1.trans pp).trans p4)
        obtain ⟨n', off', hix', hrn', hr1'⟩ := hv4.1.at hi'
        rw [hq] at hrn'
        have rb := hrn' 36 36 (by omega)
        rw [s1] at rb
        try simp (maxSteps := 3000000) (disch := first | omega | (simp only [len_new, len_put, len_kill]; omega)) only [↓xpre, xpost, ↓reduceIte, Nat.reduceEqDiff, Nat.reduceAdd, Nat.reduceSub, Nat.reduceLeDiff, Nat.zero_add, Nat.sub_zero, f1, f3, f4, f5, f6, rd1_of hb4, hix', rb]
        refine s_l08Series (hby.sg (i := 1) (by omega)) fun H5 p5 => ?_
        cases c3 : okSer x.p (x.m * x.k) (sg q 1) with
        | false =>
          try simp (maxSteps := 3000000) (disch := first | omega | (simp only [len_new, len_put, len_kill]; omega)) only [↓xpre, xpost, ↓reduceIte, Nat.reduceEqDiff, Nat.reduceAdd, Nat.reduceSub, Nat.reduceLeDiff, Nat.zero_add, Nat.sub_zero, f1, f3, f4, f5, f6, WG_un]
          exact no _ (((p1.trans pp).trans p4).trans p5) (by rw [okd, c2, c3]; rfl)
        | true =>
          have hb5 := pre_get p5 hb4
          have hv5 := hv4.pre p5
          obtain ⟨n'', off'', hix'', hrn'', hr1''⟩ := hv5.1.at hi'
          rw [hq] at hrn''
          have rc := hrn'' 72 36 (by omega)
          rw [s2] at rc
          try simp (maxSteps := 3000000) (disch := first | omega | (simp only [len_new, len_put, len_kill]; omega)) only [↓xpre, xpost, ↓reduceIte, Nat.reduceEqDiff, Nat.reduceAdd, Nat.reduceSub, Nat.reduceLeDiff, Nat.zero_add, Nat.sub_zero, f1, f3, f4, f5, f6, rd1_of hb5, hix'', rc]
          refine s_l08Series (hby.sg (i := 2) (by omega)) fun H6 p6 => ?_
          cases c4 : okSer x.p (x.n * x.k) (sg q 2) with
          | false =>
            try simp (maxSteps := 3000000) (disch := first | omega | (simp only [len_new, len_put, len_kill]; omega)) only [↓xpre, xpost, ↓reduceIte, Nat.reduceEqDiff, Nat.reduceAdd, Nat.reduceSub, Nat.reduceLeDiff, Nat.zero_add, Nat.sub_zero, f1, f3, f4, f5, f6, WG_un]
            exact no _ ((((p1.trans pp).trans p4).trans p5).trans p6) (by rw [okd, c2, c3, c4]; rfl)
          | true =>
            try simp (maxSteps := 3000000) (disch := first | omega | (simp only [len_new, len_put, len_kill]; omega)) only [↓xpre, xpost, ↓reduceIte, Nat.reduceEqDiff, Nat.reduceAdd, Nat.reduceSub, Nat.reduceLeDiff, Nat.zero_add, Nat.sub_zero, f1, f3, f4, f5, f6, wrap64_in]
            refine InvQ_go (x.ps.length - (i + 1)) (by omega) ⟨(i + 1), rfl, by omega, (by first | rfl | exact f1 | (simp only [upd_apply]; rfl) | (show I64 _ = _; congr 1; omega)), (by first | rfl | exact f3 | (simp only [upd_apply]; rfl) | (show I64 _ = _; congr 1; omega)), (by first | rfl | exact f4 | (simp only [upd_apply]; rfl) | (show I64 _ = _; congr 1; omega)), (by first | rfl | exact f5 | (simp only [upd_apply]; rfl) | (show I64 _ = _; congr 1; omega)), (by first | rfl | exact f6 | (simp only [upd_apply]; rfl) | (show I64 _ = _; congr 1; omega)), (pp.trans (p4.trans (p5.trans p6))), (step_all hj (by rw [hq, okd, c2, c3, c4]; rfl))⟩
    · try simp (maxSteps := 3000000) (disch := first | omega | (simp only [len_new, len_put, len_kill]; omega)) only [↓xpre, xpost, ↓reduceIte, Nat.reduceEqDiff, Nat.reduceAdd, Nat.reduceSub, Nat.reduceLeDiff, Nat.zero_add, Nat.sub_zero, f1, f3, f4, f5, f6]
      have := hQ _ (p1.trans pp)
      rw [all_getD (d := []) fun j hj' => hj j (by omega)] at this
      exact this
theorem s_IsBorder {v : Value} {x : Sch} {h : AH} {Q : Value → AH → Prop} (hv : Twgs h v x.ps) (hl : SmallX x.ps) (hQ : ∀ h', h <+: h' → Q (.bool (isB x)) h') : WF S 21 [schV x v] h Q := by
  refine WF_fn (fn := c21) rfl rfl ?_
  unfold c21
  try simp (maxSteps := 3000000) (disch := first | omega | (simp only [len_new, len_put, len_kill]; omega)) only [↓xpre, xpost, ↓reduceIte, Nat.reduceEqDiff, Nat.reduceAdd, Nat.reduceSub, Nat.reduceLeDiff, Nat.zero_add, Nat.sub_zero, schV, hv.one]
  generalize hH1 : AH.new h _ = H1
  obtain ⟨hb1, p1, n1⟩ := new_facts hH1
  try simp (maxSteps := 3000000) (disch := first | omega | (simp only [len_new, len_put, len_kill]; omega)) only [↓xpre, xpost, ↓reduceIte, Nat.reduceEqDiff, Nat.reduceAdd, Nat.reduceSub, Nat.reduceLeDiff, Nat.zero_add, Nat.sub_zero, rdn_of hb1]
  refine s_l08Is (hv.pre p1) hl fun H2 p2 => ?_
  try simp (maxSteps := 3000000) (disch := first | omega | (simp only [len_new, len_put, len_kill]; omega)) only [↓xpre, xpost, ↓reduceIte, Nat.reduceEqDiff, Nat.reduceAdd, Nat.reduceSub, Nat.reduceLeDiff, Nat.zero_add, Nat.sub_zero]
  exact hQ _ (p1.trans p2)
theorem i_schemeOf {x : Sch} {v : Value} {h : AH} {Q : Value → AH → Prop} (hv : isOne v = true) (hQ : ∀ h', h <+: h' → Q (schV ⟨x.p, x.n, x.m, x.k, []⟩ (.slice none 0 0)) h') : WF S 61 [schV x v] h Q := by
  refine WF_fn (fn := c61) rfl rfl ?_
  unfold c61
  try simp (maxSteps := 3000000) (disch := first | omega | (simp only [len_new, len_put, len_kill]; omega)) only [↓xpre, xpost, ↓reduceIte, Nat.reduceEqDiff, Nat.reduceAdd, Nat.reduceSub, Nat.reduceLeDiff, Nat.zero_add, Nat.sub_zero, schV, hv, fillL]
  exact hQ _ (pre_new (pre_new (List.prefix_refl _)))
theorem i_series {q : List Int} {h : AH} {Q : Value → AH → Prop} (hq : q.length = 108) (hQ : ∀ h', h <+: h' → Q (aggV .u8 q) h') : WF S 63 [aggV .u8 q] h Q := by
  refine WF_fn (fn := c63) rfl rfl ?_
  unfold c63
  simp only [zeros108]
  have z108 : (List.replicate 108 (0 : Int)).length = 108 := by simp
  have a1 : (q.take 36).length = 36 := by simp; omega
  have a2 : ((q.drop 36).take 36).length = 36 := by simp; omega
  have a3 : ((q.drop 72).take 36).length = 36 := by simp; omega
  have fl : fillL (cel .u8 (List.replicate 108 0)) [(0, 36, .agg (cel .u8 (q.take 36)).toArray), (36, 36, .agg (cel .u8 ((q.drop 36).take 36)).toArray), (72, 36, .agg (cel .u8 ((q.drop 72).take 36)).toArray)] = some (cel .u8 q) := by
    have f0 : List.replicate 108 0 = fillN q 0 := by rw [fillN_zero, hq]
    have f3 : fillN q 108 = q := by have := fillN_all (ns := q); rw [hq] at this; exact this
    have s1 := cel_fill (k := .u8) (q := q) (i := 0) (n := 36) (by omega)
    have s2 := cel_fill (k := .u8) (q := q) (i := 36) (n := 36) (by omega)
    have s3 := cel_fill (k := .u8) (q := q) (i := 72) (n := 36) (by omega)
    rw [List.drop_zero, ← f0] at s1
    rw [f3] at s3
    have fl : ∀ i, i ≤ 108 → (fillN q i).length = 108 := fun i hi => by rw [fillN_len (by omega), hq]
    simp only [fillL, cellsL_cel, cel_len, a1, a2, a3, z108, fl 36 (by omega), fl 72 (by omega), s1, s2, s3, cel_all, and_self, if_true, Nat.reduceAdd, Nat.reduceLeDiff, Nat.zero_add]
  have tk : q.take 108 = q := List.take_of_length_le (by omega)
  have w1 : ∀ (h1 : AH) (e : TypeId), (h1.new ⟨cel .u8 (List.replicate 108 0), e, false, true⟩).wr h1.length 0 (cel .u8 q) = some (h1.new ⟨cel .u8 q, e, false, true⟩) := fun h1 e => wr_all (by rw [cel_len, cel_len, hq]; rfl)
  try simp (maxSteps := 3000000) (disch := first | omega | (simp only [len_new, len_put, len_kill]; omega)) only [↓xpre, xpost, ↓reduceIte, Nat.reduceEqDiff, Nat.reduceAdd, Nat.reduceSub, Nat.reduceLeDiff, Nat.zero_add, Nat.sub_zero, aggV, cel_all, cel_len, hq, cel_take, cel_drop, List.drop_zero, fl, ↓w1, tk]
  exact hQ _ (pre_new (pre_new (List.prefix_refl _)))
theorem i_IsBorder {v : Value} {x : Sch} {h : AH} {Q : Value → AH → Prop} (hv : Twgs h v x.ps) (hl : SmallX x.ps) (hQ : ∀ h', h <+: h' → Q (.bool (isB x)) h') : WF S 23 [schV x v] h Q := by
  refine WF_fn (fn := c23) rfl rfl ?_
  unfold c23
  simp only [zeros108]
  simp only [zeros36]
  unfold SmallX at hl
  try simp (maxSteps := 3000000) (disch := first | omega | (simp only [len_new, len_put, len_kill]; omega)) only [↓xpre, xpost, ↓reduceIte, Nat.reduceEqDiff, Nat.reduceAdd, Nat.reduceSub, Nat.reduceLeDiff, Nat.zero_add, Nat.sub_zero, schV, hv.one]
  generalize hH1 : AH.new h _ = H1
  obtain ⟨hb1, p1, n1⟩ := new_facts hH1
  try simp (maxSteps := 3000000) (disch := first | omega | (simp only [len_new, len_put, len_kill]; omega)) only [↓xpre, xpost, ↓reduceIte, Nat.reduceEqDiff, Nat.reduceAdd, Nat.reduceSub, Nat.reduceLeDiff, Nat.zero_add, Nat.sub_zero, rdn_of hb1]
  refine i_schemeOf (x := x) hv.one fun H2 p2 => ?_
  have hb2 := pre_get p2 hb1
  try simp (maxSteps := 3000000) (disch := first | omega | (simp only [len_new, len_put, len_kill]; omega)) only [↓xpre, xpost, ↓reduceIte, Nat.reduceEqDiff, Nat.reduceAdd, Nat.reduceSub, Nat.reduceLeDiff, Nat.zero_add, Nat.sub_zero]
  have pz : Prods H2 (.slice none 0 0) (⟨x.p, x.n, x.m, x.k, []⟩ : Sch).ps := ⟨.inl ⟨rfl, 0, by omega, rfl⟩, fun i hi => by simp at hi⟩
  refine i_IsScheme (x := ⟨x.p, x.n, x.m, x.k, []⟩) pz (by unfold SmallX; simp) fun H3 p3 => ?_
  have hb3 := pre_get p3 hb2
  have p13 := (p1.trans p2).trans p3
  have e0 : isX ⟨x.p, x.n, x.m, x.k, []⟩ = szX x := by
    unfold isX
    simp
    rfl
  rw [e0]
  have hQ1 := hQ _ p13
  unfold isB at hQ hQ1
  cases c0 : szX x with
  | false =>
    try simp (maxSteps := 3000000) (disch := first | omega | (simp only [len_new, len_put, len_kill]; omega)) only [↓xpre, xpost, ↓reduceIte, Nat.reduceEqDiff, Nat.reduceAdd, Nat.reduceSub, Nat.reduceLeDiff, Nat.zero_add, Nat.sub_zero, WG_un]
    rw [c0] at hQ1
    exact hQ1
  | true =>
    rw [c0] at hQ hQ1
    have z := szX_facts c0
    by_cases c1 : (30 : Int) < x.ps.length
    · try simp (maxSteps := 3000000) (disch := first | omega | (simp only [len_new, len_put, len_kill]; omega)) only [↓xpre, xpost, ↓reduceIte, Nat.reduceEqDiff, Nat.reduceAdd, Nat.reduceSub, Nat.reduceLeDiff, Nat.zero_add, Nat.sub_zero, rd1_of hb3, (hv.pre p13).1.len, decide_eq_true c1]
      rw [decide_eq_false (show ¬ x.ps.length ≤ 30 by omega)] at hQ1
      exact hQ1
    rw [decide_eq_true (show x.ps.length ≤ 30 by omega)] at hQ
    try simp (maxSteps := 3000000) (disch := first | omega | (simp only [len_new, len_put, len_kill]; omega)) only [↓xpre, xpost, ↓reduceIte, Nat.reduceEqDiff, Nat.reduceAdd, Nat.reduceSub, Nat.reduceLeDiff, Nat.zero_add, Nat.sub_zero, rd1_of hb3, (hv.pre p13).1.len, decide_eq_false c1, rdn_of hb3]
    refine i_schemeOf (x := x) hv.one fun H4 p4 => ?_
    try simp (maxSteps := 3000000) (disch := first | omega | (simp only [len_new, len_put, len_kill]; omega)) only [↓xpre, xpost, ↓reduceIte, Nat.reduceEqDiff, Nat.reduceAdd, Nat.reduceSub, Nat.reduceLeDiff, Nat.zero_add, Nat.sub_zero]
    refine i_placesOf (x := ⟨x.p, x.n, x.m, x.k, []⟩) rfl ⟨z.p, z.n, z.m, z.k, z.nm, z.mk2, z.nk⟩ fun H5 p5 => ?_
    have p15 := (p13.trans p4).trans p5
    have hb5 := pre_get (p4.trans p5) hb3
    try simp (maxSteps := 3000000) (disch := first | omega | (simp only [len_new, len_put, len_kill]; omega)) only [↓xpre, xpost, ↓reduceIte, Nat.reduceEqDiff, Nat.reduceAdd, Nat.reduceSub, Nat.reduceLeDiff, Nat.zero_add, Nat.sub_zero]
    generalize hH6 : AH.new H5 _ = H6
    obtain ⟨hb6, p6, n6⟩ := new_facts hH6
    have hb1 := pre_get p6 hb5
    try simp (maxSteps := 3000000) (disch := first | omega | (simp only [len_new, len_put, len_kill]; omega)) only [↓xpre, xpost, ↓reduceIte, Nat.reduceEqDiff, Nat.reduceAdd, Nat.reduceSub, Nat.reduceLeDiff, Nat.zero_add, Nat.sub_zero, rd1_of hb1, (hv.pre (p15.trans p6)).1.len]
    refine WC_loop_inv (fun m f K1 => ∃ (i : Nat), m = x.ps.length - i ∧ i ≤ x.ps.length ∧ f 1 = .pointer (some ⟨h.length, 0, none⟩) ∧ f 3 = .pointer (some ⟨H5.length, 0, none⟩) ∧ f 22 = v ∧ f 23 = I64 x.ps.length ∧ f 24 = I64 i ∧ (H6 <+: K1) ∧ (∀ j, j < i → okTw x (x.ps.getD j []) = true)) ?_ (x.ps.length - 0) _ _ ⟨0, rfl, by omega, (by first | rfl | (simp [upd_apply]; done)), (by first | rfl | (simp [upd_apply]; done)), (by first | rfl | (simp [upd_apply]; done)), (by first | rfl | (simp [upd_apply]; done)), (by first | rfl | (simp [upd_apply]; done)), List.prefix_refl _, (by omega)⟩
    rintro m f K1 ⟨i, rfl, hi, f1, f3, f22, f23, f24, pp, hj⟩
    have hb1 := pre_get pp hb1
    have hb6 := pre_get pp hb6
    have ph := (p15.trans p6).trans pp
    have hvK := hv.pre ph
    by_cases hlt : (i : Int) < x.ps.length
    · have hi' : i < x.ps.length := by omega
      obtain ⟨n, off, hix, hrn, hr1⟩ := hvK.1.at hi'
      have r108 := hrn 0 108 (by omega)
      have wi := hvK.1.wid hi'
      have hby := hvK.by hi'
      have tk : (x.ps.getD i []).take 108 = x.ps.getD i [] := List.take_of_length_le (by omega)
      rw [List.drop_zero, tk, Nat.add_zero] at r108
      generalize hq : x.ps.getD i [] = q at *
      have w1 : ∀ (h1 : AH) (e : TypeId), (h1.new ⟨cel .u8 (List.replicate 108 0), e, false, true⟩).wr h1.length 0 (cel .u8 q) = some (h1.new ⟨cel .u8 q, e, false, true⟩) := fun h1 e => wr_all (by rw [cel_len, cel_len, wi]; rfl)
      try simp (maxSteps := 3000000) (disch := first | omega | (simp only [len_new, len_put, len_kill]; omega)) only [↓xpre, xpost, ↓reduceIte, Nat.reduceEqDiff, Nat.reduceAdd, Nat.reduceSub, Nat.reduceLeDiff, Nat.zero_add, Nat.sub_zero, f1, f3, f22, f23, f24, decide_eq_true hlt, hix, r108, cel_all, cel_len, wi, ↓w1, cel_take, tk]
      generalize hH7 : AH.new K1 _ = H7
      obtain ⟨hb7, p7, n7⟩ := new_facts hH7
      refine i_series wi fun H8 p8 => ?_
      have hb1 := pre_get (p7.trans p8) hb1
      have hb6 := pre_get (p7.trans p8) hb6
      have ph := ph.trans (p7.trans p8)
      try simp (maxSteps := 3000000) (disch := first | omega | (simp only [len_new, len_put, len_kill]; omega)) only [↓xpre, xpost, ↓reduceIte, Nat.reduceEqDiff, Nat.reduceAdd, Nat.reduceSub, Nat.reduceLeDiff, Nat.zero_add, Nat.sub_zero, f1, f3, f22, f23, f24]
      refine WC_loop_inv (fun m f K2 => ∃ (j : Nat), m = 3 - j ∧ j ≤ 3 ∧ f 1 = .pointer (some ⟨h.length, 0, none⟩) ∧ f 3 = .pointer (some ⟨H5.length, 0, none⟩) ∧ f 22 = v ∧ f 23 = I64 x.ps.length ∧ f 24 = I64 i ∧ f 29 = aggV .u8 q ∧ f 30 = I64 j ∧ (K1 <+: K2) ∧ (∀ j', j' < j → okSer x.p (pl x j') (sg q j') = true)) ?_ (3 - 0) _ _ ⟨0, rfl, by omega, (by first | rfl | exact f1 | (simp [upd_apply]; done)), (by first | rfl | exact f3 | (simp [upd_apply]; done)), (by first | rfl | exact f22 | (simp [upd_apply]; done)), (by first | rfl | exact f23 | (simp [upd_apply]; done)), (by first | rfl | exact f24 | (simp [upd_apply]; done)), (by first | rfl | (simp [upd_apply]; done)), (by first | rfl | (simp [upd_apply]; done)), p7.trans p8, (by omega)⟩
      rintro m f K2 ⟨j, rfl, hj, f1, f3, f22, f23, f24, f29, f30, pp, hjj⟩
      have hb1 := pre_get pp (show K1.get h.length = _ from by assumption)
      have hb6 := pre_get pp (show K1.get H5.length = _ from by assumption)
      have ph := (show h <+: K1 from by assumption).trans pp
      by_cases hltj : (j : Int) < 3
      · have hj3 : j < 3 := by omega
        have e1 : idxnV 3 36 (aggV .u8 q) (I64 j) = some (.agg (cel .u8 (sg q j)).toArray) := by
          simp only [idxnV, aggV, toL, Int.toNat_natCast, cel_len, wi]
          rw [if_pos ⟨by omega, by omega, by omega⟩]
          simp only [cel_drop, cel_take]
          rfl
        have sl := (hby.sg hj3).1
        have w2 : ∀ (h1 : AH) (e : TypeId), (h1.new ⟨cel .u8 (List.replicate 36 0), e, false, true⟩).wr h1.length 0 (cel .u8 (sg q j)) = some (h1.new ⟨cel .u8 (sg q j), e, false, true⟩) := fun h1 e => wr_all (by rw [cel_len, cel_len, sl]; rfl)
        have ts : (sg q j).take 36 = sg q j := List.take_of_length_le (by omega)
        have lt1 := get_lt hb1
        have lt6 := get_lt hb6
        try simp (maxSteps := 3000000) (disch := first | omega | (simp only [len_new, len_put, len_kill]; omega)) only [↓xpre, xpost, ↓reduceIte, Nat.reduceEqDiff, Nat.reduceAdd, Nat.reduceSub, Nat.reduceLeDiff, Nat.zero_add, Nat.sub_zero, f1, f3, f22, f23, f24, f29, f30, decide_eq_true hltj, ↓WX_idxn, e1, cel_all, cel_len, sl, ↓w2, ↓WX_ixa, ixaV_ptr, Int.toNat_natCast, Nat.mul_one, Nat.zero_add, rd1_of hb1, rd1_of hb6, pl_get hj3, cel_take, ts]
        refine i_isSeries (hby.sg hj3) fun H9 p9 => ?_
        have p89 : K2 <+: H9 := (pre_new (List.prefix_refl _)).trans p9
        cases c2 : okSer x.p (pl x j) (sg q j) with
        | false =>
          try simp (maxSteps := 3000000) (disch := first | omega | (simp only [len_new, len_put, len_kill]; omega)) only [↓xpre, xpost, ↓reduceIte, Nat.reduceEqDiff, Nat.reduceAdd, Nat.reduceSub, Nat.reduceLeDiff, Nat.zero_add, Nat.sub_zero, f1, f3, f22, f23, f24, f29, f30]
          have := hQ _ (ph.trans p89)
          have e2 : okTw x q = false := by
            unfold okTw
            have : j = 0 ∨ j = 1 ∨ j = 2 := by omega
            rcases this with rfl | rfl | rfl <;> simp [c2]
          rw [← hq] at e2
          rw [all_getD_f hi' e2] at this
          exact this
        | true =>
          try simp (maxSteps := 3000000) (disch := first | omega | (simp only [len_new, len_put, len_kill]; omega)) only [↓xpre, xpost, ↓reduceIte, Nat.reduceEqDiff, Nat.reduceAdd, Nat.reduceSub, Nat.reduceLeDiff, Nat.zero_add, Nat.sub_zero, f1, f3, f22, f23, f24, f29, f30, wrap64_in]
          refine InvQ_go (3 - (j + 1)) (by omega) ⟨(j + 1), rfl, by omega, (by first | rfl | exact f1 | (simp only [upd_apply]; rfl) | (show I64 _ = _; congr 1; omega)), (by first | rfl | exact f3 | (simp only [upd_apply]; rfl) | (show I64 _ = _; congr 1; omega)), (by first | rfl | exact f22 | (simp only [upd_apply]; rfl) | (show I64 _ = _; congr 1; omega)), (by first | rfl | exact f23 | (simp only [upd_apply]; rfl) | (show I64 _ = _; congr 1; omega)), (by first | rfl | exact f24 | (simp only [upd_apply]; rfl) | (show I64 _ = _; congr 1; omega)), (by first | rfl | exact f29 | (simp only [upd_apply]; rfl) | (show I64 _ = _; congr 1; omega)), (by first | rfl | exact f30 | (simp only [upd_apply]; rfl) | (show I64 _ = _; congr 1; omega)), (pp.trans p89), (step_all hjj c2)⟩
      have ej : j = 3 := by omega
      subst ej
      try simp (maxSteps := 3000000) (disch := first | omega | (simp only [len_new, len_put, len_kill]; omega)) only [↓xpre, xpost, ↓reduceIte, Nat.reduceEqDiff, Nat.reduceAdd, Nat.reduceSub, Nat.reduceLeDiff, Nat.zero_add, Nat.sub_zero, f1, f3, f22, f23, f24, f29, f30, decide_eq_false hltj, wrap64_in]
      have okq : okTw x q = true := by
        unfold okTw
        rw [hjj 0 (by omega), hjj 1 (by omega), hjj 2 (by omega)]
        rfl
      refine InvQ_go (x.ps.length - (i + 1)) (by omega) ⟨(i + 1), rfl, by omega, (by first | rfl | exact f1 | (simp only [upd_apply]; rfl) | (show I64 _ = _; congr 1; omega)), (by first | rfl | exact f3 | (simp only [upd_apply]; rfl) | (show I64 _ = _; congr 1; omega)), (by first | rfl | exact f22 | (simp only [upd_apply]; rfl) | (show I64 _ = _; congr 1; omega)), (by first | rfl | exact f23 | (simp only [upd_apply]; rfl) | (show I64 _ = _; congr 1; omega)), (by first | rfl | exact f24 | (simp only [upd_apply]; rfl) | (show I64 _ = _; congr 1; omega)), ((show H6 <+: K1 from by assumption).trans pp), (step_all (show ∀ j, j < i → okTw x (x.ps.getD j []) = true from by assumption) (by rw [hq]; exact okq))⟩
    have ei : i = x.ps.length := by omega
    subst ei
    try simp (maxSteps := 3000000) (disch := first | omega | (simp only [len_new, len_put, len_kill]; omega)) only [↓xpre, xpost, ↓reduceIte, Nat.reduceEqDiff, Nat.reduceAdd, Nat.reduceSub, Nat.reduceLeDiff, Nat.zero_add, Nat.sub_zero, f1, f3, f22, f23, f24, decide_eq_false hlt]
    have := hQ _ ph
    rw [all_getD (d := []) hj] at this
    exact this
end Go.Proofs.Ytphklalbkpohfaa.X
