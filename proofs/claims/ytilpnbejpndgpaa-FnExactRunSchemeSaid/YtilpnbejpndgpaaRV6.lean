/- Texts of one claim, put together by merge.py: XS1, XS2, XS3, XF32, XF10, XF33, XS4, XS5, XY, XT1. -/
import Derived.Test.YtilpnbejpndgpaaRV5
/- Forms and products: copies and comparisons. -/
set_option linter.unusedVariables false
set_option linter.unusedSimpArgs false
set_option maxRecDepth 20000
set_option maxHeartbeats 4000000
namespace Go.Proofs.Ytilpnbejpndgpaa.X
open Go Go.RowKit

/-- The value of so many whole numbers side by side. -/
def aggV (k : IntKind) (q : List Int) : Value := .agg (cel k q).toArray
theorem wr_all {h : AH} {z vs : List Value} {e : TypeId} {full : Bool} (hl : vs.length = z.length) : (h.new ⟨z, e, false, full⟩).wr h.length 0 vs = some (h.new ⟨vs, e, false, full⟩) := by
  rw [wr_new_same, if_pos ⟨rfl, by simp only; omega⟩, splice_eq, hl]
  simp
theorem wr_full {h : AH} {z vs : List Value} {e : TypeId} {full : Bool} {n : Nat} (hg : h.get n = some ⟨z, e, false, full⟩) (hl : vs.length = z.length) : h.wr n 0 vs = some (h.put n ⟨vs, e, false, full⟩) := by
  rw [wr_of hg, if_pos ⟨rfl, by simp only; omega⟩, splice_eq]
  simp [hl]
theorem zeros9 : ([.int .u8 0, .int .u8 0, .int .u8 0, .int .u8 0, .int .u8 0, .int .u8 0, .int .u8 0, .int .u8 0, .int .u8 0] : List Value) = cel .u8 (List.replicate 9 0) := rfl
theorem zeros27 : ([.int .u8 0, .int .u8 0, .int .u8 0, .int .u8 0, .int .u8 0, .int .u8 0, .int .u8 0, .int .u8 0, .int .u8 0, .int .u8 0, .int .u8 0, .int .u8 0, .int .u8 0, .int .u8 0, .int .u8 0, .int .u8 0, .int .u8 0, .int .u8 0, .int .u8 0, .int .u8 0, .int .u8 0, .int .u8 0, .int .u8 0, .int .u8 0, .int .u8 0, .int .u8 0, .int .u8 0] : List Value) = cel .u8 (List.replicate 27 0) := rfl

theorem l_toForm {q : List Int} {h : AH} {Q : Value → AH → Prop} (hq : q.length = 9) (hQ : ∀ h', h <+: h' → Q (aggV .u8 q) h') : WF S 152 [aggV .u8 q] h Q := by
  refine WF_fn (fn := c152) rfl rfl ?_
  unfold c152
  try simp (maxSteps := 3000000) (disch := first | omega | (simp only [len_new, len_put, len_kill]; omega)) only [↓xpre, xpost, ↓reduceIte, Nat.reduceEqDiff, Nat.reduceAdd, Nat.reduceSub, Nat.reduceLeDiff, Nat.zero_add, Nat.sub_zero, aggV, zeros9, cel_all]
  generalize hH1 : AH.new h _ = H1
  obtain ⟨hb1, p1, n1⟩ := new_facts hH1
  generalize hH2 : AH.new H1 _ = H2
  obtain ⟨hb2, p2, n2⟩ := new_facts hH2
  generalize hH3 : AH.new H2 _ = H3
  obtain ⟨hb3, p3, n3⟩ := new_facts hH3
  refine WC_loop_inv (fun m f K1 => ∃ (i : Nat), m = 9 - i ∧ i ≤ 9 ∧ f 1 = .pointer (some ⟨h.length, 0, none⟩) ∧ f 2 = .pointer (some ⟨H1.length, 0, none⟩) ∧ f 3 = .pointer (some ⟨H2.length, 0, none⟩) ∧ f 4 = I64 i ∧ (H2 <+: K1) ∧ (OwnB K1 H2.length (cel .u8 (fillN q i)) true)) ?_ (9 - 0) _ _ ⟨0, rfl, by omega, (by first | rfl | (simp [upd_apply]; done)), (by first | rfl | (simp [upd_apply]; done)), (by first | rfl | (simp [upd_apply]; done)), (by first | rfl | (simp [upd_apply]; done)), p3, ⟨_, by rw [fillN_zero, hq]; exact hb3⟩⟩
  rintro m f K1 ⟨i, rfl, hi, f1, f2, f3, f4, pp, hb⟩
  obtain ⟨e, hb⟩ := hb
  have hbq := pre_get (p2.trans pp) hb1
  have hbz := pre_get pp hb2
  have fl := fillN_len (ns := q) (i := i) (by omega)
  try simp (maxSteps := 3000000) (disch := first | omega | (simp only [len_new, len_put, len_kill]; omega)) only [↓xpre, xpost, ↓reduceIte, Nat.reduceEqDiff, Nat.reduceAdd, Nat.reduceSub, Nat.reduceLeDiff, Nat.zero_add, Nat.sub_zero, f1, f2, f3, f4, IfW_dec]
  refine ⟨fun hlt => ?_, fun hge => ?_⟩
  · have hi' : i < 9 := by omega
    have g1 := cel_get (k := .u8) (q := q) (j := i) (by omega)
    have s1 : splice (cel .u8 (fillN q i)) i [.int .u8 (q.getD i 0)] = cel .u8 (fillN q (i + 1)) := by rw [cel_set (by omega), fillN_set (by omega)]
    try simp (maxSteps := 3000000) (disch := first | omega | (simp only [len_new, len_put, len_kill]; omega)) only [↓xpre, xpost, ↓reduceIte, Nat.reduceEqDiff, Nat.reduceAdd, Nat.reduceSub, Nat.reduceLeDiff, Nat.zero_add, Nat.sub_zero, f1, f2, f3, f4, ↓WX_ixa, ixaV_ptr, Int.toNat_natCast, Nat.mul_one, rd1_of hbq, g1, wr_of hb, s1, cel_len]
    refine ⟨by omega, ?_⟩
    try simp (maxSteps := 3000000) (disch := first | omega | (simp only [len_new, len_put, len_kill]; omega)) only [↓xpre, xpost, ↓reduceIte, Nat.reduceEqDiff, Nat.reduceAdd, Nat.reduceSub, Nat.reduceLeDiff, Nat.zero_add, Nat.sub_zero, f1, f2, f3, f4, wrap64_in]
    refine InvQ_go (9 - (i + 1)) (by omega) ⟨(i + 1), rfl, by omega, (by first | rfl | exact f1 | (simp only [upd_apply]; rfl) | (show I64 _ = _; congr 1; omega)), (by first | rfl | exact f2 | (simp only [upd_apply]; rfl) | (show I64 _ = _; congr 1; omega)), (by first | rfl | exact f3 | (simp only [upd_apply]; rfl) | (show I64 _ = _; congr 1; omega)), (by first | rfl | exact f4 | (simp only [upd_apply]; rfl) | (show I64 _ = _; congr 1; omega)), (pre_put pp (by omega)), ⟨_, get_put_same (get_lt hb)⟩⟩
  · have e9 : i = 9 := by omega
    subst e9
    have fa := fillN_all (ns := q)
    rw [hq] at fa
    rw [fa] at hb
    have w1 := wr_full (vs := cel .u8 q) hbz (by rw [cel_len, cel_len, hq]; rfl)
    have tk : (cel .u8 q).take 9 = cel .u8 q := List.take_of_length_le (by rw [cel_len]; omega)
    have ltz := get_lt hbz
    try simp (maxSteps := 3000000) (disch := first | omega | (simp only [len_new, len_put, len_kill]; omega)) only [↓xpre, xpost, ↓reduceIte, Nat.reduceEqDiff, Nat.reduceAdd, Nat.reduceSub, Nat.reduceLeDiff, Nat.zero_add, Nat.sub_zero, f1, f2, f3, f4, rdn_of hb, cel_len, hq, tk, cel_all, w1]
    exact hQ _ (pre_put ((p1.trans p2).trans pp) (show h.length ≤ H1.length by omega))

theorem cel_fill {k : IntKind} {q : List Int} {i n : Nat} (h : i + n ≤ q.length) : splice (cel k (fillN q i)) i (cel k ((q.drop i).take n)) = cel k (fillN q (i + n)) := by
  have hl : ((q.drop i).take n).length = n := by simp; omega
  have ht : (q.take i).length = i := by simp; omega
  rw [cel_splice, hl]
  congr 1
  unfold fillN
  have e1 : (q.take i ++ List.replicate (q.length - i) 0).take i = q.take i := by
    rw [List.take_append_of_le_length (by omega), List.take_take, Nat.min_self]
  have e2 : (q.take i ++ List.replicate (q.length - i) 0).drop (i + n) = List.replicate (q.length - (i + n)) 0 := by
    rw [List.drop_append, List.drop_of_length_le (by omega), ht, List.nil_append, List.drop_replicate]
    congr 1
    omega
  rw [e1, e2, List.take_add]
theorem l_toProduct {q : List Int} {h : AH} {Q : Value → AH → Prop} (hq : q.length = 27) (hQ : ∀ h', h <+: h' → Q (aggV .u8 q) h') : WF S 135 [aggV .u8 q] h Q := by
  refine WF_fn (fn := c135) rfl rfl ?_
  unfold c135
  try simp (maxSteps := 3000000) (disch := first | omega | (simp only [len_new, len_put, len_kill]; omega)) only [↓xpre, xpost, ↓reduceIte, Nat.reduceEqDiff, Nat.reduceAdd, Nat.reduceSub, Nat.reduceLeDiff, Nat.zero_add, Nat.sub_zero, aggV, zeros27, cel_all]
  generalize hH1 : AH.new h _ = H1
  obtain ⟨hb1, p1, n1⟩ := new_facts hH1
  generalize hH2 : AH.new H1 _ = H2
  obtain ⟨hb2, p2, n2⟩ := new_facts hH2
  generalize hH3 : AH.new H2 _ = H3
  obtain ⟨hb3, p3, n3⟩ := new_facts hH3
  have f0 : List.replicate 27 0 = fillN q 0 := by rw [fillN_zero, hq]
  have f3 : fillN q 27 = q := by have := fillN_all (ns := q); rw [hq] at this; exact this
  have fl : ∀ i, i ≤ 27 → (fillN q i).length = 27 := fun i hi => by rw [fillN_len (by omega), hq]
  have a1 : (q.take 9).length = 9 := by simp; omega
  have a2 : ((q.drop 9).take 9).length = 9 := by simp; omega
  have a3 : ((q.drop 18).take 9).length = 9 := by simp; omega
  have s1 := cel_fill (k := .u8) (q := q) (i := 0) (n := 9) (by omega)
  have s2 := cel_fill (k := .u8) (q := q) (i := 9) (n := 9) (by omega)
  have s3 := cel_fill (k := .u8) (q := q) (i := 18) (n := 9) (by omega)
  rw [f3] at s3
  rw [List.drop_zero] at s1
  rw [f0] at hb3
  have hb1' := pre_get (p2.trans p3) hb1
  have b0 := fl 0 (by omega)
  have b9 := fl 9 (by omega)
  have b18 := fl 18 (by omega)
  try simp (maxSteps := 3000000) (disch := first | omega | (simp only [len_new, len_put, len_kill]; omega)) only [↓xpre, xpost, ↓reduceIte, Nat.reduceEqDiff, Nat.reduceAdd, Nat.reduceSub, Nat.reduceLeDiff, Nat.zero_add, Nat.sub_zero, rdn_of hb1', cel_len, hq, cel_take, cel_drop]
  refine l_toForm a1 fun H4 p4 => ?_
  have hb4 := pre_get p4 hb3
  have hq4 := pre_get p4 hb1'
  have l4 := pre_len p4
  have lt4 := get_lt hb4
  try simp (maxSteps := 3000000) (disch := first | omega | (simp only [len_new, len_put, len_kill]; omega)) only [↓xpre, xpost, ↓reduceIte, Nat.reduceEqDiff, Nat.reduceAdd, Nat.reduceSub, Nat.reduceLeDiff, Nat.zero_add, Nat.sub_zero, aggV, cel_all, cel_len, a1, wr_of hb4, s1, b0, rdn_of hq4, hq, cel_take, cel_drop]
  generalize hH5 : AH.put H4 _ _ = H5
  have hb5 : OwnB H5 H2.length (cel .u8 (fillN q 9)) true := by rw [← hH5]; exact ⟨_, get_put_same (get_lt hb4)⟩
  have hq5 : OwnB H5 h.length (cel .u8 q) true := by rw [← hH5]; exact OwnB.put_ne ⟨_, hq4⟩ (by omega)
  have hz5 : OwnB H5 H1.length (cel .u8 (List.replicate 27 0)) true := by rw [← hH5]; exact OwnB.put_ne ⟨_, pre_get (p3.trans p4) hb2⟩ (by omega)
  have p5 : h <+: H5 := by rw [← hH5]; exact pre_put (((p1.trans p2).trans p3).trans p4) (by omega)
  obtain ⟨e5, hb5⟩ := hb5
  obtain ⟨e5q, hq5⟩ := hq5
  obtain ⟨e5z, hz5⟩ := hz5
  have l5 : H5.length = H4.length := by rw [← hH5, len_put]
  clear hb1 hb2 hb3 hb1' hb4 hq4 s1 hH5
  refine l_toForm a2 fun H6 p6 => ?_
  have hb6 := pre_get p6 hb5
  have hq6 := pre_get p6 hq5
  have l6 := pre_len p6
  have lt6 := get_lt hb6
  try simp (maxSteps := 3000000) (disch := first | omega | (simp only [len_new, len_put, len_kill]; omega)) only [↓xpre, xpost, ↓reduceIte, Nat.reduceEqDiff, Nat.reduceAdd, Nat.reduceSub, Nat.reduceLeDiff, Nat.zero_add, Nat.sub_zero, aggV, cel_all, cel_len, a2, wr_of hb6, s2, b9, rdn_of hq6, hq, cel_take, cel_drop]
  generalize hH7 : AH.put H6 _ _ = H7
  have hb7 : OwnB H7 H2.length (cel .u8 (fillN q 18)) true := by rw [← hH7]; exact ⟨_, get_put_same (get_lt hb6)⟩
  have hz7 : OwnB H7 H1.length (cel .u8 (List.replicate 27 0)) true := by rw [← hH7]; exact OwnB.put_ne ⟨_, pre_get p6 hz5⟩ (by omega)
  have p7 : h <+: H7 := by rw [← hH7]; exact pre_put (p5.trans p6) (by omega)
  obtain ⟨e7, hb7⟩ := hb7
  obtain ⟨e7z, hz7⟩ := hz7
  have l7 : H7.length = H6.length := by rw [← hH7, len_put]
  clear hb5 hq5 hz5 hb6 hq6 s2 hH7
  refine l_toForm a3 fun H8 p8 => ?_
  have hb8 := pre_get p8 hb7
  have hz8 := pre_get p8 hz7
  have l8 := pre_len p8
  have tk : q.take 27 = q := List.take_of_length_le (by omega)
  have lt8 := get_lt hb8
  have lz8 := get_lt hz8
  have w1 := wr_full (vs := cel .u8 q) hz8 (by rw [cel_len, cel_len, hq]; rfl)
  try simp (maxSteps := 3000000) (disch := first | omega | (simp only [len_new, len_put, len_kill]; omega)) only [↓xpre, xpost, ↓reduceIte, Nat.reduceEqDiff, Nat.reduceAdd, Nat.reduceSub, Nat.reduceLeDiff, Nat.zero_add, Nat.sub_zero, aggV, cel_all, cel_len, a3, wr_of hb8, s3, b18, rdn_put_same, hq, cel_take, cel_drop, List.drop_zero, tk, w1]
  exact hQ _ (pre_put (pre_put (p7.trans p8) (show h.length ≤ H1.length by omega)) (show h.length ≤ H2.length by omega))
end Go.Proofs.Ytilpnbejpndgpaa.X

/- Slices of products, schemes: sizes, copies, comparisons, marks. -/
set_option linter.unusedVariables false
set_option linter.unusedSimpArgs false
set_option maxRecDepth 20000
set_option maxHeartbeats 4000000
namespace Go.Proofs.Ytilpnbejpndgpaa.X
open Go Go.RowKit

def Wid (w : Nat) (L : List (List Int)) : Prop := ∀ q, q ∈ L → q.length = w
theorem flat_len {w : Nat} : ∀ {L : List (List Int)}, Wid w L → L.flatten.length = L.length * w
  | [], _ => by simp
  | q :: L, h => by
    rw [List.flatten_cons, List.length_append, flat_len (fun r hr => h r (List.mem_cons_of_mem _ hr)), h q List.mem_cons_self, List.length_cons, Nat.succ_mul]
    omega
theorem flat_get {w : Nat} : ∀ {L : List (List Int)} {i : Nat}, Wid w L → i < L.length → (L.flatten.drop (i * w)).take w = L.getD i []
  | [], i, _, hi => by simp at hi
  | q :: L, 0, h, _ => by
    have hq := h q List.mem_cons_self
    rw [Nat.zero_mul, List.drop_zero, List.flatten_cons, List.take_append_of_le_length (by omega), List.take_of_length_le (by omega)]
    rfl
  | q :: L, i + 1, h, hi => by
    have hq := h q List.mem_cons_self
    have e : (q ++ L.flatten).drop w = L.flatten := by rw [← hq]; exact List.drop_left
    rw [List.flatten_cons, Nat.succ_mul, Nat.add_comm, ← List.drop_drop, e, flat_get (fun r hr => h r (List.mem_cons_of_mem _ hr)) (by simpa using hi)]
    rfl
theorem flat_set {w : Nat} {r : List Int} : ∀ {L : List (List Int)} {i : Nat}, Wid w L → i < L.length → L.flatten.take (i * w) ++ r ++ L.flatten.drop (i * w + w) = (L.set i r).flatten
  | [], i, _, hi => by simp at hi
  | q :: L, 0, h, _ => by
    have hq := h q List.mem_cons_self
    rw [Nat.zero_mul, List.take_zero, List.nil_append, Nat.zero_add, List.flatten_cons, List.drop_append_of_le_length (by omega), List.drop_of_length_le (by omega), List.nil_append]
    rfl
  | q :: L, i + 1, h, hi => by
    have hq := h q List.mem_cons_self
    have ih := flat_set (r := r) (fun r hr => h r (List.mem_cons_of_mem _ hr)) (show i < L.length by simpa using hi)
    rw [List.set_cons_succ, List.flatten_cons, List.flatten_cons, ← ih, show (i + 1) * w = q.length + i * w by rw [Nat.succ_mul, hq]; omega, List.take_append, List.drop_append]
    rw [List.take_of_length_le (l := q) (by omega), List.drop_of_length_le (l := q) (by omega), show q.length + i * w - q.length = i * w by omega, show q.length + i * w + w - q.length = i * w + w by omega]
    simp
def fillG (z : List Int) (L : List (List Int)) (i : Nat) : List (List Int) := L.take i ++ List.replicate (L.length - i) z
section
variable {z : List Int} {L : List (List Int)} {i w : Nat}
theorem fillG_len (hi : i ≤ L.length) : (fillG z L i).length = L.length := by simp [fillG]; omega
theorem fillG_zero : fillG z L 0 = List.replicate L.length z := by simp [fillG]
theorem fillG_all : fillG z L L.length = L := by simp [fillG]
theorem fillG_set (hi : i < L.length) : (fillG z L i).set i (L.getD i []) = fillG z L (i + 1) := by
  unfold fillG
  rw [List.set_append_right _ _ (by rw [List.length_take]; omega)]
  have e1 : L.length - i = (L.length - (i + 1)) + 1 := by omega
  have e2 : i - (L.take i).length = 0 := by rw [List.length_take]; exact Nat.sub_eq_zero_of_le (by omega)
  rw [e1, e2, List.replicate_succ, List.set_cons_zero, List.take_succ_eq_append_getElem hi]
  simp only [List.getD_eq_getElem?_getD, List.getElem?_eq_getElem hi, Option.getD_some, List.append_assoc, List.singleton_append]
theorem fillG_wid (hz : z.length = w) (hL : Wid w L) : Wid w (fillG z L i) := by
  intro q hq
  rcases List.mem_append.1 hq with hq | hq
  · exact hL q (List.mem_of_mem_take hq)
  · rw [(List.mem_replicate.1 hq).2, hz]
end
theorem zrep_cel {k : IntKind} {z : List Int} : ∀ n, zrep n (cel k z) = cel k (List.replicate n z).flatten
  | 0 => rfl
  | n + 1 => by rw [zrep, zrep_cel n, List.replicate_succ, List.flatten_cons, ← cel_app]
theorem wid_of {w : Nat} {L : List (List Int)} (h : ∀ i, i < L.length → (L.getD i []).length = w) : Wid w L := by
  intro q hq
  obtain ⟨i, hi, rfl⟩ := List.mem_iff_getElem.1 hq
  have := h i hi
  rw [List.getD_eq_getElem?_getD, List.getElem?_eq_getElem hi] at this
  exact this
theorem Els.widL {k : IntKind} {w : Nat} {h : AH} {v : Value} {L : List (List Int)} (e : Els k w h v L) : Wid w L := wid_of fun _ hi => e.wid hi

/-- Elements of one's own, in one block within a range. -/
def InE (k : IntKind) (w a b : Nat) (h : AH) (v : Value) (L : List (List Int)) : Prop :=
  (v = .slice none 0 0 ∧ L = []) ∨ ∃ n e full, (a ≤ n ∧ n < b) ∧ v = .slice (some ⟨n, 0, none⟩) L.length w ∧ h.get n = some ⟨cel k L.flatten, e, false, full⟩ ∧ Wid w L
section
variable {k : IntKind} {w a b c d : Nat} {h h' : AH} {v : Value} {L : List (List Int)}
theorem InE.rd (o : InE k w a b h v L) : Els k w h v L := by
  rcases o with ⟨rfl, rfl⟩ | ⟨n, e, full, h1, rfl, h2, h3⟩
  · exact .inl ⟨rfl, 0, by omega, rfl⟩
  · refine .inr ⟨n, 0, _, rfl, h2, fun i hi => ?_⟩
    have := mul_row (w := w) hi
    simp only [cel_len, flat_len h3, Nat.zero_add, cel_drop, cel_take, flat_get h3 hi]
    exact ⟨by omega, trivial⟩
theorem InE.pre (o : InE k w a b h v L) (p : h <+: h') : InE k w a b h' v L := by
  rcases o with ⟨rfl, rfl⟩ | ⟨n, e, full, h1, rfl, h2, h3⟩
  · exact .inl ⟨rfl, rfl⟩
  · exact .inr ⟨n, e, full, h1, rfl, pre_get p h2, h3⟩
theorem InE.only (o : InE k w a b h v L) (u : OnlyR c d h h') (hd : b ≤ c ∨ d ≤ a) : InE k w a b h' v L := by
  rcases o with ⟨rfl, rfl⟩ | ⟨n, e, full, h1, rfl, h2, h3⟩
  · exact .inl ⟨rfl, rfl⟩
  · exact .inr ⟨n, e, full, h1, rfl, u.get' h2 (by omega), h3⟩
end
/-- Bytes. -/
def Byt (w : Nat) (L : List (List Int)) : Prop := ∀ i, i < L.length → ∀ j, j < w → 0 ≤ (L.getD i []).getD j 0 ∧ (L.getD i []).getD j 0 ≤ 255
structure Sch where
  p : Int
  n : Int
  m : Int
  k : Int
  ps : List (List Int)
def schV (x : Sch) (v : Value) : Value := .agg #[I64 x.p, I64 x.n, I64 x.m, I64 x.k, v]
def Prods (h : AH) (v : Value) (L : List (List Int)) : Prop := Els .u8 27 h v L ∧ Byt 27 L
def InX (a b : Nat) (h : AH) (v : Value) (L : List (List Int)) : Prop := InE .u8 27 a b h v L ∧ Byt 27 L
section
variable {a b c d : Nat} {h h' : AH} {v : Value} {L : List (List Int)}
theorem Prods.pre (o : Prods h v L) (p : h <+: h') : Prods h' v L := ⟨o.1.pre p, o.2⟩
theorem Prods.one (o : Prods h v L) : isOne v = true := o.1.one
theorem InX.rd (o : InX a b h v L) : Prods h v L := ⟨o.1.rd, o.2⟩
theorem InX.pre (o : InX a b h v L) (p : h <+: h') : InX a b h' v L := ⟨o.1.pre p, o.2⟩
theorem InX.only (o : InX a b h v L) (u : OnlyR c d h h') (hd : b ≤ c ∨ d ≤ a) : InX a b h' v L := ⟨o.1.only u hd, o.2⟩
end
def SmallX (L : List (List Int)) : Prop := (L.length : Int) ≤ 1048576
def cntX (L : List (List Int)) : Int := (L.length : Int) * 27
theorem cntX_le {L : List (List Int)} (h : SmallX L) : 0 ≤ cntX L ∧ cntX L ≤ 28311552 := by unfold SmallX at h; unfold cntX; omega

theorem l_toProductS {v : Value} {L : List (List Int)} {h : AH} {Q : Value → AH → Prop} (hv : Prods h v L) (hl : SmallX L)
    (hQ : ∀ v' h', h <+: h' → InX h.length h'.length h' v' L → Q v' h') : WF S 101 [v] h Q := by
  refine WF_fn (fn := c101) rfl rfl ?_
  unfold c101
  obtain ⟨he, hby⟩ := hv
  have hw := he.widL
  unfold SmallX at hl
  try simp (maxSteps := 3000000) (disch := first | omega | (simp only [len_new, len_put, len_kill]; omega)) only [↓xpre, xpost, ↓reduceIte, Nat.reduceEqDiff, Nat.reduceAdd, Nat.reduceSub, Nat.reduceLeDiff, Nat.zero_add, Nat.sub_zero, he.len, zeros27]
  refine ⟨by omega, ?_⟩
  rw [Int.toNat_natCast, zrep_cel]
  generalize hH : AH.new h _ = H
  obtain ⟨hb0, p0, n0⟩ := new_facts hH
  refine WC_loop_inv (fun m f K1 => ∃ (i : Nat), m = L.length - i ∧ i ≤ L.length ∧ f 0 = v ∧ f 3 = .slice (some ⟨h.length, 0, none⟩) L.length 27 ∧ f 4 = I64 i ∧ (h <+: K1) ∧ (OwnB K1 h.length (cel .u8 (fillG (List.replicate 27 0) L i).flatten) true)) ?_ (L.length - 0) _ _ ⟨0, rfl, by omega, (by first | rfl | (simp [upd_apply]; done)), (by first | rfl | (simp [upd_apply]; done)), (by first | rfl | (simp [upd_apply]; done)), p0, ⟨_, by rw [fillG_zero]; exact hb0⟩⟩
  rintro m f K1 ⟨i, rfl, hi, f0, f3, f4, pp, hb⟩
  have he1 := he.pre pp
  try simp (maxSteps := 3000000) (disch := first | omega | (simp only [len_new, len_put, len_kill]; omega)) only [↓xpre, xpost, ↓reduceIte, Nat.reduceEqDiff, Nat.reduceAdd, Nat.reduceSub, Nat.reduceLeDiff, Nat.zero_add, Nat.sub_zero, f0, f3, f4, he1.len, IfW_dec]
  refine ⟨fun hlt => ?_, fun hge => ?_⟩
  · have hi' : i < L.length := by omega
    obtain ⟨n, off, hix, hrn, hr1⟩ := he1.at hi'
    have r27 := hrn 0 27 (by omega)
    rw [List.drop_zero, List.take_of_length_le (by rw [he1.wid hi']; exact Nat.le_refl _), Nat.add_zero] at r27
    try simp (maxSteps := 3000000) (disch := first | omega | (simp only [len_new, len_put, len_kill]; omega)) only [↓xpre, xpost, ↓reduceIte, Nat.reduceEqDiff, Nat.reduceAdd, Nat.reduceSub, Nat.reduceLeDiff, Nat.zero_add, Nat.sub_zero, f0, f3, f4, hix, r27]
    refine l_toProduct (he1.wid hi') fun h2 p2 => ?_
    have wf := fillG_wid (z := List.replicate 27 0) (i := i) (w := 27) (by simp) hw
    have fl := fillG_len (z := List.replicate 27 0) (L := L) (i := i) (by omega)
    have ffl := flat_len wf
    rw [fl] at ffl
    have hrow := mul_row (w := 27) hi'
    obtain ⟨e, hb⟩ := hb
    have hb2 := pre_get p2 hb
    have lt2 := get_lt hb2
    have ixd : ixsV 27 (.slice (some ⟨h.length, 0, none⟩) L.length 27) (I64 i) = some (.pointer (some ⟨h.length, i * 27, none⟩)) := by
      rw [ixsV_some, if_pos (by omega)]
      simp
    have sp : splice (cel .u8 (fillG (List.replicate 27 0) L i).flatten) (i * 27) (cel .u8 (L.getD i [])) = cel .u8 (fillG (List.replicate 27 0) L (i + 1)).flatten := by
      rw [cel_splice, he1.wid hi', flat_set wf (by omega), fillG_set hi']
    try simp (maxSteps := 3000000) (disch := first | omega | (simp only [len_new, len_put, len_kill]; omega)) only [↓xpre, xpost, ↓reduceIte, Nat.reduceEqDiff, Nat.reduceAdd, Nat.reduceSub, Nat.reduceLeDiff, Nat.zero_add, Nat.sub_zero, f0, f3, f4, aggV, cel_all, cel_len, he1.wid hi', ixd, wr_of hb2, sp, ffl]
    refine ⟨by omega, ?_⟩
    try simp (maxSteps := 3000000) (disch := first | omega | (simp only [len_new, len_put, len_kill]; omega)) only [↓xpre, xpost, ↓reduceIte, Nat.reduceEqDiff, Nat.reduceAdd, Nat.reduceSub, Nat.reduceLeDiff, Nat.zero_add, Nat.sub_zero, f0, f3, f4, wrap64_in]
    refine InvQ_go (L.length - (i + 1)) (by omega) ⟨(i + 1), rfl, by omega, (by first | rfl | exact f0 | (simp only [upd_apply]; rfl) | (show I64 _ = _; congr 1; omega)), (by first | rfl | exact f3 | (simp only [upd_apply]; rfl) | (show I64 _ = _; congr 1; omega)), (by first | rfl | exact f4 | (simp only [upd_apply]; rfl) | (show I64 _ = _; congr 1; omega)), (pre_put (pp.trans p2) (Nat.le_refl _)), ⟨_, get_put_same lt2⟩⟩
  · have ei : i = L.length := by omega
    subst ei
    obtain ⟨e, hb⟩ := hb
    rw [fillG_all] at hb
    have lt := get_lt hb
    try simp (maxSteps := 3000000) (disch := first | omega | (simp only [len_new, len_put, len_kill]; omega)) only [↓xpre, xpost, ↓reduceIte, Nat.reduceEqDiff, Nat.reduceAdd, Nat.reduceSub, Nat.reduceLeDiff, Nat.zero_add, Nat.sub_zero, f0, f3, f4]
    exact hQ _ _ pp ⟨.inr ⟨h.length, e, true, ⟨Nat.le_refl _, lt⟩, rfl, hb, hw⟩, hby⟩
end Go.Proofs.Ytilpnbejpndgpaa.X

/- Schemes: sizes, copies, comparisons, marks. -/
set_option linter.unusedVariables false
set_option linter.unusedSimpArgs false
set_option maxRecDepth 20000
set_option maxHeartbeats 4000000
namespace Go.Proofs.Ytilpnbejpndgpaa.X
open Go Go.RowKit

theorem l_szProductS {v : Value} {L : List (List Int)} {n : Int} {h : AH} {Q : Value → AH → Prop} (hv : Prods h v L) (h0 : 0 ≤ n ∧ n ≤ 1048576) (hl : (L.length : Int) ≤ 9223372036854775807)
    (hQ : ∀ m : Int, m ≤ n → (0 ≤ m → SmallX L) → Q (I64 m) h) : WF S 97 [v, I64 n] h Q := by
  refine WF_fn (fn := c97) rfl rfl ?_
  unfold c97
  try simp (maxSteps := 3000000) (disch := first | omega | (simp only [len_new, len_put, len_kill]; omega)) only [↓xpre, xpost, ↓reduceIte, Nat.reduceEqDiff, Nat.reduceAdd, Nat.reduceSub, Nat.reduceLeDiff, Nat.zero_add, Nat.sub_zero, hv.1.len, wrap64_in]
  by_cases h1 : n - ↑L.length < 0
  · try simp (maxSteps := 3000000) (disch := first | omega | (simp only [len_new, len_put, len_kill]; omega)) only [↓xpre, xpost, ↓reduceIte, Nat.reduceEqDiff, Nat.reduceAdd, Nat.reduceSub, Nat.reduceLeDiff, Nat.zero_add, Nat.sub_zero, h1]
    exact hQ _ (by omega) (by omega)
  · try simp (maxSteps := 3000000) (disch := first | omega | (simp only [len_new, len_put, len_kill]; omega)) only [↓xpre, xpost, ↓reduceIte, Nat.reduceEqDiff, Nat.reduceAdd, Nat.reduceSub, Nat.reduceLeDiff, Nat.zero_add, Nat.sub_zero, h1]
    exact hQ _ (by omega) (fun _ => by unfold SmallX; omega)
theorem gsz_X {v : Value} {x : Sch} {n : Int} {h : AH} {Q : Value → AH → Prop} (hv : Prods h v x.ps) (h0 : 0 ≤ n ∧ n ≤ 1048576) (hl : (x.ps.length : Int) ≤ 9223372036854775807)
    (hQ : ∀ (m : Int) h', h <+: h' → m ≤ n → (0 ≤ m → SmallX x.ps) → Q (I64 m) h') : WF S 49 [schV x v, I64 n] h Q := by
  refine WF_fn (fn := c49) rfl rfl ?_
  unfold c49
  try simp (maxSteps := 3000000) (disch := first | omega | (simp only [len_new, len_put, len_kill]; omega)) only [↓xpre, xpost, ↓reduceIte, Nat.reduceEqDiff, Nat.reduceAdd, Nat.reduceSub, Nat.reduceLeDiff, Nat.zero_add, Nat.sub_zero, schV, hv.one]
  refine l_szProductS (hv.pre (pre_new (List.prefix_refl _))) h0 hl fun m h1 h2 => ?_
  try simp (maxSteps := 3000000) (disch := first | omega | (simp only [len_new, len_put, len_kill]; omega)) only [↓xpre, xpost, ↓reduceIte, Nat.reduceEqDiff, Nat.reduceAdd, Nat.reduceSub, Nat.reduceLeDiff, Nat.zero_add, Nat.sub_zero, IfW_dec]
  exact ⟨fun hm => hQ _ _ (pre_new (List.prefix_refl _)) (by omega) (by omega), fun hm => hQ _ _ (pre_new (List.prefix_refl _)) h1 h2⟩
theorem InX.put_ne {a b n : Nat} {h : AH} {v : Value} {L : List (List Int)} {c : Blk} (o : InX a b h v L) (hn : n < a) : InX a b (h.put n c) v L :=
  ⟨o.1.only (c := n) (d := n + 1) ⟨len_put, fun m hm => by unfold AH.put; rw [List.getElem?_set_ne (by omega)]⟩ (by omega), o.2⟩
theorem InX.wide {a b c d : Nat} {h : AH} {v : Value} {L : List (List Int)} (o : InX a b h v L) (h1 : c ≤ a) (h2 : b ≤ d) : InX c d h v L := by
  refine ⟨?_, o.2⟩
  rcases o.1 with q1 | ⟨n, e, full, r1, r2, r3, r4⟩
  · exact .inl q1
  · exact .inr ⟨n, e, full, by omega, r2, r3, r4⟩
theorem gto_X {v : Value} {x : Sch} {h : AH} {Q : Value → AH → Prop} (hv : Prods h v x.ps) (hl : SmallX x.ps)
    (hQ : ∀ v' h', h <+: h' → InX h.length h'.length h' v' x.ps → Q (schV x v') h') : WF S 51 [schV x v] h Q := by
  refine WF_fn (fn := c51) rfl rfl ?_
  unfold c51
  try simp (maxSteps := 3000000) (disch := first | omega | (simp only [len_new, len_put, len_kill]; omega)) only [↓xpre, xpost, ↓reduceIte, Nat.reduceEqDiff, Nat.reduceAdd, Nat.reduceSub, Nat.reduceLeDiff, Nat.zero_add, Nat.sub_zero, schV, hv.one]
  refine l_toProductS (hv.pre ?_) hl fun v' h' hp o => ?_
  · exact pre_new (pre_new (pre_new (List.prefix_refl _)))
  generalize hH1 : AH.new h _ = H1 at hp o ⊢
  obtain ⟨hb1, p1, n1⟩ := new_facts hH1
  generalize hH2 : AH.new H1 _ = H2 at hp o ⊢
  obtain ⟨hb2, p2, n2⟩ := new_facts hH2
  generalize hH3 : AH.new H2 _ = H3 at hp o ⊢
  obtain ⟨hb3, p3, n3⟩ := new_facts hH3
  have hb2 := pre_get hp (pre_get p3 hb2)
  have hb3 := pre_get hp hb3
  have nl := pre_len hp
  have hv' := o.rd
  try simp (maxSteps := 3000000) (disch := first | omega | (simp only [len_new, len_put, len_kill]; omega)) only [↓xpre, xpost, ↓reduceIte, Nat.reduceEqDiff, Nat.reduceAdd, Nat.reduceSub, Nat.reduceLeDiff, Nat.zero_add, Nat.sub_zero, hv'.one, hv'.1.cells, wr_of hb3, wr_of hb2]
  refine hQ _ _ (pre_put (pre_put (((p1.trans p2).trans p3).trans hp) ?_) ?_) ?_
  all_goals first | omega | skip
  · refine ((o.put_ne ?_).put_ne ?_).wide ?_ ?_
    all_goals first | omega | (simp only [len_put]; omega)

theorem l_eqForm {q : List Int} {h : AH} {Q : Value → AH → Prop} (hq : q.length = 9) (hQ : ∀ h', h <+: h' → Q (.bool true) h') : WF S 155 [aggV .u8 q, aggV .u8 q] h Q := by
  refine WF_fn (fn := c155) rfl rfl ?_
  unfold c155
  try simp (maxSteps := 3000000) (disch := first | omega | (simp only [len_new, len_put, len_kill]; omega)) only [↓xpre, xpost, ↓reduceIte, Nat.reduceEqDiff, Nat.reduceAdd, Nat.reduceSub, Nat.reduceLeDiff, Nat.zero_add, Nat.sub_zero, aggV, cel_all]
  generalize hH1 : AH.new h _ = H1
  obtain ⟨hb1, p1, n1⟩ := new_facts hH1
  generalize hH2 : AH.new H1 _ = H2
  obtain ⟨hb2, p2, n2⟩ := new_facts hH2
  have hb1 := pre_get p2 hb1
  refine WC_loop_inv (fun m f K1 => ∃ (i : Nat), m = 9 - i ∧ i ≤ 9 ∧ f 2 = .pointer (some ⟨h.length, 0, none⟩) ∧ f 3 = .pointer (some ⟨H1.length, 0, none⟩) ∧ f 5 = I64 i ∧ (K1 = H2)) ?_ (9 - 0) _ _ ⟨0, rfl, by omega, (by first | rfl | (simp [upd_apply]; done)), (by first | rfl | (simp [upd_apply]; done)), (by first | rfl | (simp [upd_apply]; done)), rfl⟩
  rintro m f K1 ⟨i, rfl, hi, f2, f3, f5, hK⟩
  subst hK
  try simp (maxSteps := 3000000) (disch := first | omega | (simp only [len_new, len_put, len_kill]; omega)) only [↓xpre, xpost, ↓reduceIte, Nat.reduceEqDiff, Nat.reduceAdd, Nat.reduceSub, Nat.reduceLeDiff, Nat.zero_add, Nat.sub_zero, f2, f3, f5, IfW_dec]
  refine ⟨fun hlt => ?_, fun hge => ?_⟩
  · have g1 := cel_get (k := .u8) (q := q) (j := i) (by omega)
    try simp (maxSteps := 3000000) (disch := first | omega | (simp only [len_new, len_put, len_kill]; omega)) only [↓xpre, xpost, ↓reduceIte, Nat.reduceEqDiff, Nat.reduceAdd, Nat.reduceSub, Nat.reduceLeDiff, Nat.zero_add, Nat.sub_zero, f2, f3, f5, ↓WX_ixa, ixaV_ptr, Int.toNat_natCast, Nat.mul_one, rd1_of hb1, rd1_of hb2, g1, ne_eq, not_true_eq_false, wrap64_in]
    refine InvQ_go (9 - (i + 1)) (by omega) ⟨(i + 1), rfl, by omega, (by first | rfl | exact f2 | (simp only [upd_apply]; rfl) | (show I64 _ = _; congr 1; omega)), (by first | rfl | exact f3 | (simp only [upd_apply]; rfl) | (show I64 _ = _; congr 1; omega)), (by first | rfl | exact f5 | (simp only [upd_apply]; rfl) | (show I64 _ = _; congr 1; omega)), rfl⟩
  · try simp (maxSteps := 3000000) (disch := first | omega | (simp only [len_new, len_put, len_kill]; omega)) only [↓xpre, xpost, ↓reduceIte, Nat.reduceEqDiff, Nat.reduceAdd, Nat.reduceSub, Nat.reduceLeDiff, Nat.zero_add, Nat.sub_zero, f2, f3, f5]
    exact hQ _ (p1.trans p2)
theorem l_eqProduct {q : List Int} {h : AH} {Q : Value → AH → Prop} (hq : q.length = 27) (hQ : ∀ h', h <+: h' → Q (.bool true) h') : WF S 139 [aggV .u8 q, aggV .u8 q] h Q := by
  refine WF_fn (fn := c139) rfl rfl ?_
  unfold c139
  try simp (maxSteps := 3000000) (disch := first | omega | (simp only [len_new, len_put, len_kill]; omega)) only [↓xpre, xpost, ↓reduceIte, Nat.reduceEqDiff, Nat.reduceAdd, Nat.reduceSub, Nat.reduceLeDiff, Nat.zero_add, Nat.sub_zero, aggV, cel_all]
  generalize hH1 : AH.new h _ = H1
  obtain ⟨hb1, p1, n1⟩ := new_facts hH1
  generalize hH2 : AH.new H1 _ = H2
  obtain ⟨hb2, p2, n2⟩ := new_facts hH2
  have hb1 := pre_get p2 hb1
  have a1 : (q.take 9).length = 9 := by simp; omega
  have a2 : ((q.drop 9).take 9).length = 9 := by simp; omega
  have a3 : ((q.drop 18).take 9).length = 9 := by simp; omega
  try simp (maxSteps := 3000000) (disch := first | omega | (simp only [len_new, len_put, len_kill]; omega)) only [↓xpre, xpost, ↓reduceIte, Nat.reduceEqDiff, Nat.reduceAdd, Nat.reduceSub, Nat.reduceLeDiff, Nat.zero_add, Nat.sub_zero, rdn_of hb1, rdn_of hb2, cel_len, hq, cel_take, cel_drop]
  refine l_eqForm a1 fun H4 p4 => ?_
  have hb1 := pre_get p4 hb1
  have hb2 := pre_get p4 hb2
  try simp (maxSteps := 3000000) (disch := first | omega | (simp only [len_new, len_put, len_kill]; omega)) only [↓xpre, xpost, ↓reduceIte, Nat.reduceEqDiff, Nat.reduceAdd, Nat.reduceSub, Nat.reduceLeDiff, Nat.zero_add, Nat.sub_zero, rdn_of hb1, rdn_of hb2, cel_len, hq, cel_take, cel_drop]
  refine l_eqForm a2 fun H5 p5 => ?_
  have hb1 := pre_get p5 hb1
  have hb2 := pre_get p5 hb2
  try simp (maxSteps := 3000000) (disch := first | omega | (simp only [len_new, len_put, len_kill]; omega)) only [↓xpre, xpost, ↓reduceIte, Nat.reduceEqDiff, Nat.reduceAdd, Nat.reduceSub, Nat.reduceLeDiff, Nat.zero_add, Nat.sub_zero, rdn_of hb1, rdn_of hb2, cel_len, hq, cel_take, cel_drop]
  refine l_eqForm a3 fun H6 p6 => ?_
  try simp (maxSteps := 3000000) (disch := first | omega | (simp only [len_new, len_put, len_kill]; omega)) only [↓xpre, xpost, ↓reduceIte, Nat.reduceEqDiff, Nat.reduceAdd, Nat.reduceSub, Nat.reduceLeDiff, Nat.zero_add, Nat.sub_zero]
  exact hQ _ ((p1.trans p2).trans (p4.trans (p5.trans p6)))
theorem l_eqProductS {v v' : Value} {L : List (List Int)} {h : AH} {Q : Value → AH → Prop} (hv : Prods h v L) (hv' : Prods h v' L) (hl : SmallX L)
    (hQ : ∀ h', h <+: h' → Q (.bool true) h') : WF S 106 [v, v'] h Q := by
  refine WF_fn (fn := c106) rfl rfl ?_
  unfold c106
  unfold SmallX at hl
  try simp (maxSteps := 3000000) (disch := first | omega | (simp only [len_new, len_put, len_kill]; omega)) only [↓xpre, xpost, ↓reduceIte, Nat.reduceEqDiff, Nat.reduceAdd, Nat.reduceSub, Nat.reduceLeDiff, Nat.zero_add, Nat.sub_zero, hv.1.len, hv'.1.len, ne_eq, not_true_eq_false]
  refine WC_loop_inv (fun m f K1 => ∃ (i : Nat), m = L.length - i ∧ i ≤ L.length ∧ f 0 = v ∧ f 1 = v' ∧ f 5 = I64 i ∧ (h <+: K1)) ?_ (L.length - 0) _ _ ⟨0, rfl, by omega, (by first | rfl | (simp [upd_apply]; done)), (by first | rfl | (simp [upd_apply]; done)), (by first | rfl | (simp [upd_apply]; done)), List.prefix_refl _⟩
  rintro m f K1 ⟨i, rfl, hi, f0, f1, f5, pp⟩
  have e1 := hv.1.pre pp
  have e2 := hv'.1.pre pp
  try simp (maxSteps := 3000000) (disch := first | omega | (simp only [len_new, len_put, len_kill]; omega)) only [↓xpre, xpost, ↓reduceIte, Nat.reduceEqDiff, Nat.reduceAdd, Nat.reduceSub, Nat.reduceLeDiff, Nat.zero_add, Nat.sub_zero, f0, f1, f5, e1.len, IfW_dec]
  refine ⟨fun hlt => ?_, fun hge => ?_⟩
  · have hi' : i < L.length := by omega
    obtain ⟨n, off, hix, hrn, hr1⟩ := e1.at hi'
    obtain ⟨n', off', hix', hrn', hr1'⟩ := e2.at hi'
    have r27 := hrn 0 27 (by omega)
    rw [List.drop_zero, List.take_of_length_le (by rw [e1.wid hi']; exact Nat.le_refl _), Nat.add_zero] at r27
    have r27' := hrn' 0 27 (by omega)
    rw [List.drop_zero, List.take_of_length_le (by rw [e1.wid hi']; exact Nat.le_refl _), Nat.add_zero] at r27'
    try simp (maxSteps := 3000000) (disch := first | omega | (simp only [len_new, len_put, len_kill]; omega)) only [↓xpre, xpost, ↓reduceIte, Nat.reduceEqDiff, Nat.reduceAdd, Nat.reduceSub, Nat.reduceLeDiff, Nat.zero_add, Nat.sub_zero, f0, f1, f5, hix, r27, hix', r27']
    refine l_eqProduct (e1.wid hi') fun h2 p2 => ?_
    try simp (maxSteps := 3000000) (disch := first | omega | (simp only [len_new, len_put, len_kill]; omega)) only [↓xpre, xpost, ↓reduceIte, Nat.reduceEqDiff, Nat.reduceAdd, Nat.reduceSub, Nat.reduceLeDiff, Nat.zero_add, Nat.sub_zero, f0, f1, f5, wrap64_in]
    refine InvQ_go (L.length - (i + 1)) (by omega) ⟨(i + 1), rfl, by omega, (by first | rfl | exact f0 | (simp only [upd_apply]; rfl) | (show I64 _ = _; congr 1; omega)), (by first | rfl | exact f1 | (simp only [upd_apply]; rfl) | (show I64 _ = _; congr 1; omega)), (by first | rfl | exact f5 | (simp only [upd_apply]; rfl) | (show I64 _ = _; congr 1; omega)), (pp.trans p2)⟩
  · try simp (maxSteps := 3000000) (disch := first | omega | (simp only [len_new, len_put, len_kill]; omega)) only [↓xpre, xpost, ↓reduceIte, Nat.reduceEqDiff, Nat.reduceAdd, Nat.reduceSub, Nat.reduceLeDiff, Nat.zero_add, Nat.sub_zero, f0, f1, f5]
    exact hQ _ pp
theorem geq_X {v v' : Value} {x : Sch} {h : AH} {Q : Value → AH → Prop} (hv : Prods h v x.ps) (hv' : Prods h v' x.ps) (hl : SmallX x.ps)
    (hQ : ∀ h', h <+: h' → Q (.bool true) h') : WF S 53 [schV x v, schV x v'] h Q := by
  refine WF_fn (fn := c53) rfl rfl ?_
  unfold c53
  try simp (maxSteps := 3000000) (disch := first | omega | (simp only [len_new, len_put, len_kill]; omega)) only [↓xpre, xpost, ↓reduceIte, Nat.reduceEqDiff, Nat.reduceAdd, Nat.reduceSub, Nat.reduceLeDiff, Nat.zero_add, Nat.sub_zero, schV, hv.one, hv'.one]
  generalize hH1 : AH.new h _ = H1
  obtain ⟨hb1, p1, n1⟩ := new_facts hH1
  generalize hH2 : AH.new H1 _ = H2
  obtain ⟨hb2, p2, n2⟩ := new_facts hH2
  have hb1 := pre_get p2 hb1
  try simp (maxSteps := 3000000) (disch := first | omega | (simp only [len_new, len_put, len_kill]; omega)) only [↓xpre, xpost, ↓reduceIte, Nat.reduceEqDiff, Nat.reduceAdd, Nat.reduceSub, Nat.reduceLeDiff, Nat.zero_add, Nat.sub_zero, rd1_of hb1, rd1_of hb2, ne_eq, not_true_eq_false]
  refine l_eqProductS (hv.pre (p1.trans p2)) (hv'.pre (p1.trans p2)) hl fun H3 p3 => ?_
  try simp (maxSteps := 3000000) (disch := first | omega | (simp only [len_new, len_put, len_kill]; omega)) only [↓xpre, xpost, ↓reduceIte, Nat.reduceEqDiff, Nat.reduceAdd, Nat.reduceSub, Nat.reduceLeDiff, Nat.zero_add, Nat.sub_zero]
  exact hQ _ ((p1.trans p2).trans p3)

/-- Marks: only blocks of one's own change. -/
theorem l_markProductS {v : Value} {L : List (List Int)} {k : Int} {a b : Nat} {h : AH} {Q : Value → AH → Prop} (o : InX a b h v L) (hl : SmallX L) (hk : 0 ≤ k ∧ k ≤ 549755813888)
    (hQ : ∀ h', OnlyR a b h h' → Q (I64 (k + cntX L)) h') : WF S 107 [v, I64 k] h Q := by
  refine WF_fn (fn := c107) rfl rfl ?_
  unfold c107
  unfold SmallX at hl
  obtain ⟨o, -⟩ := o
  rcases o with ⟨rfl, rfl⟩ | ⟨n, e, full, hab, rfl, hg, hw⟩
  · try simp (maxSteps := 3000000) (disch := first | omega | (simp only [len_new, len_put, len_kill]; omega)) only [↓xpre, xpost, ↓reduceIte, Nat.reduceEqDiff, Nat.reduceAdd, Nat.reduceSub, Nat.reduceLeDiff, Nat.zero_add, Nat.sub_zero]
    refine WC_loop ?_
    try simp (maxSteps := 3000000) (disch := first | omega | (simp only [len_new, len_put, len_kill]; omega)) only [↓xpre, xpost, ↓reduceIte, Nat.reduceEqDiff, Nat.reduceAdd, Nat.reduceSub, Nat.reduceLeDiff, Nat.zero_add, Nat.sub_zero, IfW_dec]
    refine ⟨fun hlt => by simp at hlt, fun _ => ?_⟩
    have := hQ h (OnlyR.refl _ _ _)
    simpa [cntX] using this
  · try simp (maxSteps := 3000000) (disch := first | omega | (simp only [len_new, len_put, len_kill]; omega)) only [↓xpre, xpost, ↓reduceIte, Nat.reduceEqDiff, Nat.reduceAdd, Nat.reduceSub, Nat.reduceLeDiff, Nat.zero_add, Nat.sub_zero]
    have c0 : (cel .u8 L.flatten).length = L.length * 27 := by rw [cel_len, flat_len hw]
    refine WC_loop_inv (fun m f K1 => ∃ (i : Nat) (c : List Value), m = L.length - i ∧ i ≤ L.length ∧ f 0 = .slice (some ⟨n, 0, none⟩) L.length 27 ∧ f 1 = I64 (k + ((i * 27 : Nat) : Int)) ∧ f 5 = I64 i ∧ (c.length = L.length * 27) ∧ (K1.get n = some ⟨c, e, false, full⟩) ∧ (OnlyR a b h K1)) ?_ (L.length - 0) _ _ ⟨0, cel .u8 L.flatten, rfl, by omega, (by first | rfl | (simp [upd_apply]; done)), (by first | rfl | (simp [upd_apply]; done)), (by first | rfl | (simp [upd_apply]; done)), c0, hg, OnlyR.refl _ _ _⟩
    rintro m f K1 ⟨i, c, rfl, hi, f0, f1, f5, hc, hgc, wc⟩
    try simp (maxSteps := 3000000) (disch := first | omega | (simp only [len_new, len_put, len_kill]; omega)) only [↓xpre, xpost, ↓reduceIte, Nat.reduceEqDiff, Nat.reduceAdd, Nat.reduceSub, Nat.reduceLeDiff, Nat.zero_add, Nat.sub_zero, f0, f1, f5, IfW_dec]
    refine ⟨fun hlt => ?_, fun hge => ?_⟩
    case refine_2 =>
      have ei : i = L.length := by omega
      subst ei
      try simp (maxSteps := 3000000) (disch := first | omega | (simp only [len_new, len_put, len_kill]; omega)) only [↓xpre, xpost, ↓reduceIte, Nat.reduceEqDiff, Nat.reduceAdd, Nat.reduceSub, Nat.reduceLeDiff, Nat.zero_add, Nat.sub_zero, f0, f1, f5]
      have := hQ _ wc
      unfold cntX at this
      have e1 : ((L.length * 27 : Nat) : Int) = (L.length : Int) * 27 := by omega
      rw [e1]
      exact this
    have hi' : i < L.length := by omega
    have hrow := mul_row (w := 27) hi'
    have ixd : ixsV 27 (.slice (some ⟨n, 0, none⟩) L.length 27) (I64 i) = some (.pointer (some ⟨n, i * 27, none⟩)) := by
      rw [ixsV_some, if_pos (by omega)]
      simp
    try simp (maxSteps := 3000000) (disch := first | omega | (simp only [len_new, len_put, len_kill]; omega)) only [↓xpre, xpost, ↓reduceIte, Nat.reduceEqDiff, Nat.reduceAdd, Nat.reduceSub, Nat.reduceLeDiff, Nat.zero_add, Nat.sub_zero, f0, f1, f5]
    refine WC_loop_inv (fun m f K2 => ∃ (ja : Nat) (ca : List Value), m = 9 - ja ∧ ja ≤ 9 ∧ f 0 = .slice (some ⟨n, 0, none⟩) L.length 27 ∧ f 1 = I64 (k + ((i * 27 + 0 + ja : Nat) : Int)) ∧ f 5 = I64 i ∧ f 6 = I64 ja ∧ (ca.length = L.length * 27) ∧ (K2.get n = some ⟨ca, e, false, full⟩) ∧ (OnlyR a b h K2)) ?_ (9 - 0) _ _ ⟨0, c, rfl, by omega, (by first | rfl | exact f0 | (simp [upd_apply]; done)), (by first | rfl | exact f1 | (simp [upd_apply]; done)), (by first | rfl | exact f5 | (simp [upd_apply]; done)), (by first | rfl | (simp [upd_apply]; done)), hc, hgc, wc⟩
    rintro m f K2 ⟨ja, ca, rfl, hja, f0, f1, f5, f6, hca, hga, wa⟩
    try simp (maxSteps := 3000000) (disch := first | omega | (simp only [len_new, len_put, len_kill]; omega)) only [↓xpre, xpost, ↓reduceIte, Nat.reduceEqDiff, Nat.reduceAdd, Nat.reduceSub, Nat.reduceLeDiff, Nat.zero_add, Nat.sub_zero, f0, f1, f5, f6, IfW_dec]
    refine ⟨fun hlta => ?_, fun hgea => ?_⟩
    · have hja' : ja < 9 := by omega
      have lta := get_lt hga
      try simp (maxSteps := 3000000) (disch := first | omega | (simp only [len_new, len_put, len_kill]; omega)) only [↓xpre, xpost, ↓reduceIte, Nat.reduceEqDiff, Nat.reduceAdd, Nat.reduceSub, Nat.reduceLeDiff, Nat.zero_add, Nat.sub_zero, f0, f1, f5, f6, ixd, ↓WX_ixa, ixaV_ptr, Int.toNat_natCast, Nat.mul_one, wr_of hga, wrap64_in]
      refine ⟨by omega, ?_⟩
      have sla : ∀ x : Value, (splice ca (i * 27 + 0 + ja) [x]).length = L.length * 27 := fun x => by rw [splice_set (by omega), List.length_set, hca]
      refine InvQ_go (9 - (ja + 1)) (by omega) ⟨(ja + 1), _, rfl, by omega, (by first | rfl | exact f0 | (simp only [upd_apply]; rfl) | (show I64 _ = _; congr 1; omega)), (by show I64 _ = I64 _; congr 1; omega), (by first | rfl | exact f5 | (simp only [upd_apply]; rfl) | (show I64 _ = _; congr 1; omega)), (by first | rfl | exact f6 | (simp only [upd_apply]; rfl) | (show I64 _ = _; congr 1; omega)), (sla _), (get_put_same lta), ⟨by rw [len_put]; exact wa.len, fun m hm => by unfold AH.put; rw [List.getElem?_set_ne (fun e => hm (by omega))]; exact wa.same m hm⟩⟩
    have eja : ja = 9 := by omega
    subst eja
    try simp (maxSteps := 3000000) (disch := first | omega | (simp only [len_new, len_put, len_kill]; omega)) only [↓xpre, xpost, ↓reduceIte, Nat.reduceEqDiff, Nat.reduceAdd, Nat.reduceSub, Nat.reduceLeDiff, Nat.zero_add, Nat.sub_zero, f0, f1, f5, f6]
    refine WC_loop_inv (fun m f K3 => ∃ (jb : Nat) (cb : List Value), m = 9 - jb ∧ jb ≤ 9 ∧ f 0 = .slice (some ⟨n, 0, none⟩) L.length 27 ∧ f 1 = I64 (k + ((i * 27 + 9 + jb : Nat) : Int)) ∧ f 5 = I64 i ∧ f 7 = I64 jb ∧ (cb.length = L.length * 27) ∧ (K3.get n = some ⟨cb, e, false, full⟩) ∧ (OnlyR a b h K3)) ?_ (9 - 0) _ _ ⟨0, ca, rfl, by omega, (by first | rfl | exact f0 | (simp [upd_apply]; done)), (by first | rfl | exact f1 | (simp [upd_apply]; done)), (by first | rfl | exact f5 | (simp [upd_apply]; done)), (by first | rfl | (simp [upd_apply]; done)), hca, hga, wa⟩
    rintro m f K3 ⟨jb, cb, rfl, hjb, f0, f1, f5, f7, hcb, hgb, wb⟩
    try simp (maxSteps := 3000000) (disch := first | omega | (simp only [len_new, len_put, len_kill]; omega)) only [↓xpre, xpost, ↓reduceIte, Nat.reduceEqDiff, Nat.reduceAdd, Nat.reduceSub, Nat.reduceLeDiff, Nat.zero_add, Nat.sub_zero, f0, f1, f5, f7, IfW_dec]
    refine ⟨fun hltb => ?_, fun hgeb => ?_⟩
    · have hjb' : jb < 9 := by omega
      have ltb := get_lt hgb
      try simp (maxSteps := 3000000) (disch := first | omega | (simp only [len_new, len_put, len_kill]; omega)) only [↓xpre, xpost, ↓reduceIte, Nat.reduceEqDiff, Nat.reduceAdd, Nat.reduceSub, Nat.reduceLeDiff, Nat.zero_add, Nat.sub_zero, f0, f1, f5, f7, ixd, ↓WX_ixa, ixaV_ptr, Int.toNat_natCast, Nat.mul_one, wr_of hgb, wrap64_in]
      refine ⟨by omega, ?_⟩
      have slb : ∀ x : Value, (splice cb (i * 27 + 9 + jb) [x]).length = L.length * 27 := fun x => by rw [splice_set (by omega), List.length_set, hcb]
      refine InvQ_go (9 - (jb + 1)) (by omega) ⟨(jb + 1), _, rfl, by omega, (by first | rfl | exact f0 | (simp only [upd_apply]; rfl) | (show I64 _ = _; congr 1; omega)), (by show I64 _ = I64 _; congr 1; omega), (by first | rfl | exact f5 | (simp only [upd_apply]; rfl) | (show I64 _ = _; congr 1; omega)), (by first | rfl | exact f7 | (simp only [upd_apply]; rfl) | (show I64 _ = _; congr 1; omega)), (slb _), (get_put_same ltb), ⟨by rw [len_put]; exact wb.len, fun m hm => by unfold AH.put; rw [List.getElem?_set_ne (fun e => hm (by omega))]; exact wb.same m hm⟩⟩
    have ejb : jb = 9 := by omega
    subst ejb
    try simp (maxSteps := 3000000) (disch := first | omega | (simp only [len_new, len_put, len_kill]; omega)) only [↓xpre, xpost, ↓reduceIte, Nat.reduceEqDiff, Nat.reduceAdd, Nat.reduceSub, Nat.reduceLeDiff, Nat.zero_add, Nat.sub_zero, f0, f1, f5, f7]
    refine WC_loop_inv (fun m f K4 => ∃ (jd : Nat) (cd : List Value), m = 9 - jd ∧ jd ≤ 9 ∧ f 0 = .slice (some ⟨n, 0, none⟩) L.length 27 ∧ f 1 = I64 (k + ((i * 27 + 18 + jd : Nat) : Int)) ∧ f 5 = I64 i ∧ f 8 = I64 jd ∧ (cd.length = L.length * 27) ∧ (K4.get n = some ⟨cd, e, false, full⟩) ∧ (OnlyR a b h K4)) ?_ (9 - 0) _ _ ⟨0, cb, rfl, by omega, (by first | rfl | exact f0 | (simp [upd_apply]; done)), (by first | rfl | exact f1 | (simp [upd_apply]; done)), (by first | rfl | exact f5 | (simp [upd_apply]; done)), (by first | rfl | (simp [upd_apply]; done)), hcb, hgb, wb⟩
    rintro m f K4 ⟨jd, cd, rfl, hjd, f0, f1, f5, f8, hcd, hgd, wd⟩
    try simp (maxSteps := 3000000) (disch := first | omega | (simp only [len_new, len_put, len_kill]; omega)) only [↓xpre, xpost, ↓reduceIte, Nat.reduceEqDiff, Nat.reduceAdd, Nat.reduceSub, Nat.reduceLeDiff, Nat.zero_add, Nat.sub_zero, f0, f1, f5, f8, IfW_dec]
    refine ⟨fun hltd => ?_, fun hged => ?_⟩
    · have hjd' : jd < 9 := by omega
      have ltd := get_lt hgd
      try simp (maxSteps := 3000000) (disch := first | omega | (simp only [len_new, len_put, len_kill]; omega)) only [↓xpre, xpost, ↓reduceIte, Nat.reduceEqDiff, Nat.reduceAdd, Nat.reduceSub, Nat.reduceLeDiff, Nat.zero_add, Nat.sub_zero, f0, f1, f5, f8, ixd, ↓WX_ixa, ixaV_ptr, Int.toNat_natCast, Nat.mul_one, wr_of hgd, wrap64_in]
      refine ⟨by omega, ?_⟩
      have sld : ∀ x : Value, (splice cd (i * 27 + 18 + jd) [x]).length = L.length * 27 := fun x => by rw [splice_set (by omega), List.length_set, hcd]
      refine InvQ_go (9 - (jd + 1)) (by omega) ⟨(jd + 1), _, rfl, by omega, (by first | rfl | exact f0 | (simp only [upd_apply]; rfl) | (show I64 _ = _; congr 1; omega)), (by show I64 _ = I64 _; congr 1; omega), (by first | rfl | exact f5 | (simp only [upd_apply]; rfl) | (show I64 _ = _; congr 1; omega)), (by first | rfl | exact f8 | (simp only [upd_apply]; rfl) | (show I64 _ = _; congr 1; omega)), (sld _), (get_put_same ltd), ⟨by rw [len_put]; exact wd.len, fun m hm => by unfold AH.put; rw [List.getElem?_set_ne (fun e => hm (by omega))]; exact wd.same m hm⟩⟩
    have ejd : jd = 9 := by omega
    subst ejd
    try simp (maxSteps := 3000000) (disch := first | omega | (simp only [len_new, len_put, len_kill]; omega)) only [↓xpre, xpost, ↓reduceIte, Nat.reduceEqDiff, Nat.reduceAdd, Nat.reduceSub, Nat.reduceLeDiff, Nat.zero_add, Nat.sub_zero, f0, f1, f5, f8, wrap64_in]
    refine InvQ_go (L.length - (i + 1)) (by omega) ⟨(i + 1), cd, rfl, by omega, (by first | rfl | exact f0 | (simp only [upd_apply]; rfl) | (show I64 _ = _; congr 1; omega)), (by have e1 := f1; show f 1 = _; rw [e1]; congr 2; omega), (by first | rfl | exact f5 | (simp only [upd_apply]; rfl) | (show I64 _ = _; congr 1; omega)), hcd, hgd, wd⟩
theorem gmark_X {v : Value} {x : Sch} {k : Int} {a b : Nat} {h : AH} {Q : Value → AH → Prop} (o : InX a b h v x.ps) (hl : SmallX x.ps) (hk : 0 ≤ k ∧ k ≤ 549755813888)
    (hQ : ∀ J h', h <+: J → OnlyR a b J h' → True → Q (I64 (k + cntX x.ps)) h') : WF S 54 [schV x v, I64 k] h Q := by
  refine WF_fn (fn := c54) rfl rfl ?_
  unfold c54
  try simp (maxSteps := 3000000) (disch := first | omega | (simp only [len_new, len_put, len_kill]; omega)) only [↓xpre, xpost, ↓reduceIte, Nat.reduceEqDiff, Nat.reduceAdd, Nat.reduceSub, Nat.reduceLeDiff, Nat.zero_add, Nat.sub_zero, schV, o.rd.one]
  have p1 := pre_new (b := ⟨[I64 x.p, I64 x.n, I64 x.m, I64 x.k, v], 71, false, true⟩) (List.prefix_refl h)
  refine l_markProductS (o.pre p1) hl hk fun h' w => ?_
  try simp (maxSteps := 3000000) (disch := first | omega | (simp only [len_new, len_put, len_kill]; omega)) only [↓xpre, xpost, ↓reduceIte, Nat.reduceEqDiff, Nat.reduceAdd, Nat.reduceSub, Nat.reduceLeDiff, Nat.zero_add, Nat.sub_zero]
  exact hQ _ _ p1 w trivial
end Go.Proofs.Ytilpnbejpndgpaa.X

/- Slices and flattenings of tensors. -/
set_option linter.unusedVariables false
set_option linter.unusedSimpArgs false
set_option maxRecDepth 20000
set_option maxHeartbeats 4000000
namespace Go.Proofs.Ytilpnbejpndgpaa.X
open Go Go.RowKit

theorem Keeps.trans {lo : Nat} {h h' h'' : AH} (k : Keeps lo h h') (k' : Keeps lo h' h'') : Keeps lo h h'' := ⟨Nat.le_trans k.1 k'.1, fun n b hn hb => k'.2 n b hn (k.2 n b hn hb)⟩
theorem WayF.pre {h h' : AH} {lo : Nat} {sv : Value} {l : List Int} (w : WayF h lo sv l) (p : h <+: h') : WayF h' lo sv l := by
  obtain ⟨kb, full, e, h1, h2⟩ := w
  exact ⟨kb, full, e, h1, pre_get p h2⟩
end Go.Proofs.Ytilpnbejpndgpaa.X

/- Two tensors; their sum. -/
set_option linter.unusedVariables false
set_option linter.unusedSimpArgs false
set_option maxRecDepth 20000
set_option maxHeartbeats 4000000
namespace Go.Proofs.Ytilpnbejpndgpaa.X
open Go Go.RowKit

end Go.Proofs.Ytilpnbejpndgpaa.X

/- SliceOf, both sides. -/
set_option linter.unusedVariables false
set_option linter.unusedSimpArgs false
set_option maxRecDepth 20000
set_option maxHeartbeats 4000000
namespace Go.Proofs.Ytilpnbejpndgpaa.X
open Go Go.RowKit

theorem cut_get {α : Type} {d : α} {l : List α} {a n k : Nat} (h : k < n) : ((l.drop a).take n).getD k d = l.getD (a + k) d := by
  simp [List.getD_eq_getElem?_getD, List.getElem?_take, List.getElem?_drop, h]
def sideN (t : Ten) (s : Nat) : Int := if s = 0 then t.i else if s = 1 then t.j else t.k
def slOK (t : Ten) (s a : Int) : Prop := (0 ≤ s ∧ s ≤ 2) ∧ 0 ≤ a ∧ a < sideN t s.toNat
instance {t : Ten} {s a : Int} : Decidable (slOK t s a) := by unfold slOK; infer_instance
end Go.Proofs.Ytilpnbejpndgpaa.X

/- What schemes are: forms, products. -/
set_option linter.unusedVariables false
set_option linter.unusedSimpArgs false
set_option maxRecDepth 20000
set_option maxHeartbeats 4000000
namespace Go.Proofs.Ytilpnbejpndgpaa.X
open Go Go.RowKit

theorem WG_un {S : XS} {b : Bool} {i : XI} {rest : List XI} {f : Fr} {h : AH} {Q : Fr → AH → Prop} : WG S undef b i rest f h Q = WO S rest (updo f i.d undef) h Q := rfl
theorem step_all {P : Nat → Prop} {i : Nat} (h : ∀ j, j < i → P j) (hi : P i) : ∀ j, j < i + 1 → P j := fun j hj => by
  rcases Nat.lt_succ_iff_lt_or_eq.1 hj with hj | rfl
  · exact h j hj
  · exact hi
def By (w : Nat) (q : List Int) : Prop := q.length = w ∧ ∀ j, j < w → 0 ≤ q.getD j 0 ∧ q.getD j 0 ≤ 255
def okAt (p n : Int) (q : List Int) (j : Nat) : Bool := decide (q.getD j 0 < p ∧ (n ≤ (j : Int) → q.getD j 0 = 0))
def okForm (p n : Int) (q : List Int) : Bool := (List.range 9).all (okAt p n q)
theorem okForm_t {p n : Int} {q : List Int} (h : ∀ j, j < 9 → okAt p n q j = true) : okForm p n q = true := by
  unfold okForm
  rw [List.all_eq_true]
  exact fun j hj => h j (List.mem_range.1 hj)
theorem okForm_f {p n : Int} {q : List Int} {j : Nat} (hj : j < 9) (h : okAt p n q j = false) : okForm p n q = false := by
  cases e : okForm p n q with
  | false => rfl
  | true =>
    unfold okForm at e
    rw [List.all_eq_true] at e
    rw [e j (List.mem_range.2 hj)] at h
    cases h
theorem s_l01Form {p n : Int} {q : List Int} {h : AH} {Q : Value → AH → Prop} (hq : By 9 q) (hQ : ∀ h', h <+: h' → Q (.bool (okForm p n q)) h') : WF S 150 [I64 p, aggV .u8 q, I64 n] h Q := by
  refine WF_fn (fn := c150) rfl rfl ?_
  unfold c150
  try simp (maxSteps := 3000000) (disch := first | omega | (simp only [len_new, len_put, len_kill]; omega)) only [↓xpre, xpost, ↓reduceIte, Nat.reduceEqDiff, Nat.reduceAdd, Nat.reduceSub, Nat.reduceLeDiff, Nat.zero_add, Nat.sub_zero, aggV, cel_all]
  generalize hH1 : AH.new h _ = H1
  obtain ⟨hb1, p1, n1⟩ := new_facts hH1
  refine WC_loop_inv (fun m f K1 => ∃ (i : Nat), m = 9 - i ∧ i ≤ 9 ∧ f 0 = I64 p ∧ f 2 = I64 n ∧ f 4 = .pointer (some ⟨h.length, 0, none⟩) ∧ f 7 = I64 i ∧ (K1 = H1) ∧ (∀ j, j < i → okAt p n q j = true)) ?_ (9 - 0) _ _ ⟨0, rfl, by omega, (by first | rfl | (simp [upd_apply]; done)), (by first | rfl | (simp [upd_apply]; done)), (by first | rfl | (simp [upd_apply]; done)), (by first | rfl | (simp [upd_apply]; done)), rfl, (by omega)⟩
  rintro m f K1 ⟨i, rfl, hi, f0, f2, f4, f7, hK, hj⟩
  subst hK
  try simp (maxSteps := 3000000) (disch := first | omega | (simp only [len_new, len_put, len_kill]; omega)) only [↓xpre, xpost, ↓reduceIte, Nat.reduceEqDiff, Nat.reduceAdd, Nat.reduceSub, Nat.reduceLeDiff, Nat.zero_add, Nat.sub_zero, f0, f2, f4, f7, IfW_dec]
  refine ⟨fun hlt => ?_, fun hge => ?_⟩
  · have hi' : i < 9 := by omega
    have g1 := cel_get (k := .u8) (q := q) (j := i) (by rw [hq.1]; exact hi')
    have b1 := hq.2 i hi'
    have no : okAt p n q i = false → Q (.bool false) K1 := fun e => by have := hQ _ p1; rw [okForm_f hi' e] at this; exact this
    by_cases c1 : p ≤ q.getD i 0
    · try simp (maxSteps := 3000000) (disch := first | omega | (simp only [len_new, len_put, len_kill]; omega)) only [↓xpre, xpost, ↓reduceIte, Nat.reduceEqDiff, Nat.reduceAdd, Nat.reduceSub, Nat.reduceLeDiff, Nat.zero_add, Nat.sub_zero, f0, f2, f4, f7, ↓WX_ixa, ixaV_ptr, Int.toNat_natCast, Nat.mul_one, rd1_of hb1, g1, wrap64_in, decide_eq_true c1, WG_un]
      exact no (by unfold okAt; exact decide_eq_false (by omega))
    by_cases c2 : n ≤ (i : Int)
    · by_cases c3 : q.getD i 0 = 0
      · try simp (maxSteps := 3000000) (disch := first | omega | (simp only [len_new, len_put, len_kill]; omega)) only [↓xpre, xpost, ↓reduceIte, Nat.reduceEqDiff, Nat.reduceAdd, Nat.reduceSub, Nat.reduceLeDiff, Nat.zero_add, Nat.sub_zero, f0, f2, f4, f7, ↓WX_ixa, ixaV_ptr, Int.toNat_natCast, Nat.mul_one, rd1_of hb1, g1, wrap64_in, decide_eq_false c1, decide_eq_true c2, decide_eq_false (show ¬ (q.getD i 0 ≠ 0) from fun e => e c3)]
        refine InvQ_go (9 - (i + 1)) (by omega) ⟨(i + 1), rfl, by omega, (by first | rfl | exact f0 | (simp only [upd_apply]; rfl) | (show I64 _ = _; congr 1; omega)), (by first | rfl | exact f2 | (simp only [upd_apply]; rfl) | (show I64 _ = _; congr 1; omega)), (by first | rfl | exact f4 | (simp only [upd_apply]; rfl) | (show I64 _ = _; congr 1; omega)), (by first | rfl | exact f7 | (simp only [upd_apply]; rfl) | (show I64 _ = _; congr 1; omega)), rfl, (step_all hj (by unfold okAt; exact decide_eq_true ⟨by omega, fun _ => c3⟩))⟩
      · try simp (maxSteps := 3000000) (disch := first | omega | (simp only [len_new, len_put, len_kill]; omega)) only [↓xpre, xpost, ↓reduceIte, Nat.reduceEqDiff, Nat.reduceAdd, Nat.reduceSub, Nat.reduceLeDiff, Nat.zero_add, Nat.sub_zero, f0, f2, f4, f7, ↓WX_ixa, ixaV_ptr, Int.toNat_natCast, Nat.mul_one, rd1_of hb1, g1, wrap64_in, decide_eq_false c1, decide_eq_true c2, decide_eq_true (show q.getD i 0 ≠ 0 from c3)]
        exact no (by unfold okAt; exact decide_eq_false (fun e => c3 (e.2 c2)))
    · try simp (maxSteps := 3000000) (disch := first | omega | (simp only [len_new, len_put, len_kill]; omega)) only [↓xpre, xpost, ↓reduceIte, Nat.reduceEqDiff, Nat.reduceAdd, Nat.reduceSub, Nat.reduceLeDiff, Nat.zero_add, Nat.sub_zero, f0, f2, f4, f7, ↓WX_ixa, ixaV_ptr, Int.toNat_natCast, Nat.mul_one, rd1_of hb1, g1, wrap64_in, decide_eq_false c1, decide_eq_false c2, WG_un]
      refine InvQ_go (9 - (i + 1)) (by omega) ⟨(i + 1), rfl, by omega, (by first | rfl | exact f0 | (simp only [upd_apply]; rfl) | (show I64 _ = _; congr 1; omega)), (by first | rfl | exact f2 | (simp only [upd_apply]; rfl) | (show I64 _ = _; congr 1; omega)), (by first | rfl | exact f4 | (simp only [upd_apply]; rfl) | (show I64 _ = _; congr 1; omega)), (by first | rfl | exact f7 | (simp only [upd_apply]; rfl) | (show I64 _ = _; congr 1; omega)), rfl, (step_all hj (by unfold okAt; exact decide_eq_true ⟨by omega, fun e => absurd e c2⟩))⟩
  · try simp (maxSteps := 3000000) (disch := first | omega | (simp only [len_new, len_put, len_kill]; omega)) only [↓xpre, xpost, ↓reduceIte, Nat.reduceEqDiff, Nat.reduceAdd, Nat.reduceSub, Nat.reduceLeDiff, Nat.zero_add, Nat.sub_zero, f0, f2, f4, f7]
    have := hQ _ p1
    rw [okForm_t fun j hj' => hj j (by omega)] at this
    exact this
theorem idx1V_cel {k : IntKind} {q : List Int} {n j : Nat} {kk : IntKind} (hj : j < n) (hq : j < q.length) : idx1V n (.agg (cel k q).toArray) (.int kk j) = some (.int k (q.getD j 0)) := by
  simp only [idx1V, Int.toNat_natCast]
  rw [if_pos (by omega), cel_get hq]
theorem i_isForm {p n : Int} {q : List Int} {h : AH} {Q : Value → AH → Prop} (hq : By 9 q) (hQ : ∀ h', h <+: h' → Q (.bool (okForm p n q)) h') : WF S 161 [I64 p, I64 n, aggV .u8 q] h Q := by
  refine WF_fn (fn := c161) rfl rfl ?_
  unfold c161
  have tk : q.take 9 = q := List.take_of_length_le (by rw [hq.1]; exact Nat.le_refl _)
  try simp (maxSteps := 3000000) (disch := first | omega | (simp only [len_new, len_put, len_kill]; omega)) only [↓xpre, xpost, ↓reduceIte, Nat.reduceEqDiff, Nat.reduceAdd, Nat.reduceSub, Nat.reduceLeDiff, Nat.zero_add, Nat.sub_zero, aggV, cel_all]
  generalize hH1 : AH.new h _ = H1
  obtain ⟨hb1, p1, n1⟩ := new_facts hH1
  try simp (maxSteps := 3000000) (disch := first | omega | (simp only [len_new, len_put, len_kill]; omega)) only [↓xpre, xpost, ↓reduceIte, Nat.reduceEqDiff, Nat.reduceAdd, Nat.reduceSub, Nat.reduceLeDiff, Nat.zero_add, Nat.sub_zero, rdn_of hb1, cel_len, hq.1, cel_take, tk]
  refine WC_loop_inv (fun m f K1 => ∃ (i : Nat), m = 9 - i ∧ i ≤ 9 ∧ f 0 = I64 p ∧ f 1 = I64 n ∧ f 9 = .agg (cel .u8 q).toArray ∧ f 10 = I64 i ∧ (K1 = H1) ∧ (∀ j, j < i → okAt p n q j = true)) ?_ (9 - 0) _ _ ⟨0, rfl, by omega, (by first | rfl | (simp [upd_apply]; done)), (by first | rfl | (simp [upd_apply]; done)), (by first | rfl | (simp [upd_apply]; done)), (by first | rfl | (simp [upd_apply]; done)), rfl, (by omega)⟩
  rintro m f K1 ⟨i, rfl, hi, f0, f1, f9, f10, hK, hj⟩
  subst hK
  try simp (maxSteps := 3000000) (disch := first | omega | (simp only [len_new, len_put, len_kill]; omega)) only [↓xpre, xpost, ↓reduceIte, Nat.reduceEqDiff, Nat.reduceAdd, Nat.reduceSub, Nat.reduceLeDiff, Nat.zero_add, Nat.sub_zero, f0, f1, f9, f10, IfW_dec]
  refine ⟨fun hlt => ?_, fun hge => ?_⟩
  · have hi' : i < 9 := by omega
    have g1 := idx1V_cel (k := .u8) (q := q) (n := 9) (j := i) (kk := .i64) hi' (by rw [hq.1]; exact hi')
    have b1 := hq.2 i hi'
    have no : okAt p n q i = false → Q (.bool false) K1 := fun e => by have := hQ _ p1; rw [okForm_f hi' e] at this; exact this
    by_cases c1 : p ≤ q.getD i 0
    · try simp (maxSteps := 3000000) (disch := first | omega | (simp only [len_new, len_put, len_kill]; omega)) only [↓xpre, xpost, ↓reduceIte, Nat.reduceEqDiff, Nat.reduceAdd, Nat.reduceSub, Nat.reduceLeDiff, Nat.zero_add, Nat.sub_zero, f0, f1, f9, f10, ↓WX_idx1, g1, wrap64_in, decide_eq_true c1, WG_un]
      exact no (by unfold okAt; exact decide_eq_false (by omega))
    by_cases c3 : q.getD i 0 = 0
    · try simp (maxSteps := 3000000) (disch := first | omega | (simp only [len_new, len_put, len_kill]; omega)) only [↓xpre, xpost, ↓reduceIte, Nat.reduceEqDiff, Nat.reduceAdd, Nat.reduceSub, Nat.reduceLeDiff, Nat.zero_add, Nat.sub_zero, f0, f1, f9, f10, ↓WX_idx1, g1, wrap64_in, decide_eq_false c1, decide_eq_false (show ¬ (q.getD i 0 ≠ 0) from fun e => e c3)]
      refine InvQ_go (9 - (i + 1)) (by omega) ⟨(i + 1), rfl, by omega, (by first | rfl | exact f0 | (simp only [upd_apply]; rfl) | (show I64 _ = _; congr 1; omega)), (by first | rfl | exact f1 | (simp only [upd_apply]; rfl) | (show I64 _ = _; congr 1; omega)), (by first | rfl | exact f9 | (simp only [upd_apply]; rfl) | (show I64 _ = _; congr 1; omega)), (by first | rfl | exact f10 | (simp only [upd_apply]; rfl) | (show I64 _ = _; congr 1; omega)), rfl, (step_all hj (by unfold okAt; exact decide_eq_true ⟨by omega, fun _ => c3⟩))⟩
    · by_cases c2 : n ≤ (i : Int)
      · try simp (maxSteps := 3000000) (disch := first | omega | (simp only [len_new, len_put, len_kill]; omega)) only [↓xpre, xpost, ↓reduceIte, Nat.reduceEqDiff, Nat.reduceAdd, Nat.reduceSub, Nat.reduceLeDiff, Nat.zero_add, Nat.sub_zero, f0, f1, f9, f10, ↓WX_idx1, g1, wrap64_in, decide_eq_false c1, decide_eq_true c2, decide_eq_true (show q.getD i 0 ≠ 0 from c3)]
        exact no (by unfold okAt; exact decide_eq_false (fun e => c3 (e.2 c2)))
      · try simp (maxSteps := 3000000) (disch := first | omega | (simp only [len_new, len_put, len_kill]; omega)) only [↓xpre, xpost, ↓reduceIte, Nat.reduceEqDiff, Nat.reduceAdd, Nat.reduceSub, Nat.reduceLeDiff, Nat.zero_add, Nat.sub_zero, f0, f1, f9, f10, ↓WX_idx1, g1, wrap64_in, decide_eq_false c1, decide_eq_false c2, decide_eq_true (show q.getD i 0 ≠ 0 from c3)]
        refine InvQ_go (9 - (i + 1)) (by omega) ⟨(i + 1), rfl, by omega, (by first | rfl | exact f0 | (simp only [upd_apply]; rfl) | (show I64 _ = _; congr 1; omega)), (by first | rfl | exact f1 | (simp only [upd_apply]; rfl) | (show I64 _ = _; congr 1; omega)), (by first | rfl | exact f9 | (simp only [upd_apply]; rfl) | (show I64 _ = _; congr 1; omega)), (by first | rfl | exact f10 | (simp only [upd_apply]; rfl) | (show I64 _ = _; congr 1; omega)), rfl, (step_all hj (by unfold okAt; exact decide_eq_true ⟨by omega, fun e => absurd e c2⟩))⟩
  · try simp (maxSteps := 3000000) (disch := first | omega | (simp only [len_new, len_put, len_kill]; omega)) only [↓xpre, xpost, ↓reduceIte, Nat.reduceEqDiff, Nat.reduceAdd, Nat.reduceSub, Nat.reduceLeDiff, Nat.zero_add, Nat.sub_zero, f0, f1, f9, f10]
    have := hQ _ p1
    rw [okForm_t fun j hj' => hj j (by omega)] at this
    exact this

def z9 : List Int := [0, 0, 0, 0, 0, 0, 0, 0, 0]
theorem zeros9' : ([.int .u8 0, .int .u8 0, .int .u8 0, .int .u8 0, .int .u8 0, .int .u8 0, .int .u8 0, .int .u8 0, .int .u8 0] : List Value) = cel .u8 z9 := rfl
def isZ (q : List Int) : Bool := q == z9
theorem intsOf_cel {k : IntKind} : ∀ {q : List Int}, q ≠ [] → intsOf (cel k q) = some (k, q)
  | [], h => absurd rfl h
  | [a], _ => rfl
  | a :: b :: l, _ => by
    have ih := intsOf_cel (k := k) (q := b :: l) (by simp)
    have e : cel k (a :: b :: l) = .int k a :: cel k (b :: l) := rfl
    have e2 : cel k (b :: l) = .int k b :: cel k l := rfl
    rw [e2] at ih
    rw [e, e2]
    simp only [intsOf, ih, if_true]
theorem eqaV_cel {n : Nat} {k : IntKind} {q r : List Int} (hq : q.length = n) (hr : r.length = n) (h0 : 0 < n) : eqaV false n (.agg (cel k q).toArray) (.agg (cel k r).toArray) = some (.bool (q == r)) := by
  have e1 := intsOf_cel (k := k) (q := q) (by intro e; rw [e] at hq; simp at hq; omega)
  have e2 := intsOf_cel (k := k) (q := r) (by intro e; rw [e] at hr; simp at hr; omega)
  simp only [eqaV, e1, e2]
  rw [if_pos ⟨trivial, hq, hr⟩]
  simp
theorem s_l01Zero {q : List Int} {h : AH} {Q : Value → AH → Prop} (hq : q.length = 9) (hQ : ∀ h', h <+: h' → Q (.bool (isZ q)) h') : WF S 151 [aggV .u8 q] h Q := by
  refine WF_fn (fn := c151) rfl rfl ?_
  unfold c151
  have tk : q.take 9 = q := List.take_of_length_le (by rw [hq]; exact Nat.le_refl _)
  have e := eqaV_cel (k := .u8) hq (show z9.length = 9 from rfl) (by omega)
  try simp (maxSteps := 3000000) (disch := first | omega | (simp only [len_new, len_put, len_kill]; omega)) only [↓xpre, xpost, ↓reduceIte, Nat.reduceEqDiff, Nat.reduceAdd, Nat.reduceSub, Nat.reduceLeDiff, Nat.zero_add, Nat.sub_zero, aggV, cel_all, cel_len, hq, cel_take, tk, fillL, zeros9', e]
  have := hQ _ (pre_new (b := ⟨cel .u8 q, 153, false, true⟩) (List.prefix_refl h))
  unfold isZ at this
  simpa using this
def seg (q : List Int) (i : Nat) : List Int := (q.drop (i * 9)).take 9
theorem By.seg {q : List Int} (hq : By 27 q) {i : Nat} (hi : i < 3) : By 9 (seg q i) := by
  have h1 := hq.1
  refine ⟨by unfold X.seg; simp; omega, fun j hj => ?_⟩
  unfold X.seg
  rw [cut_get hj]
  exact hq.2 _ (by omega)
def hasZ (q : List Int) : Bool := isZ (seg q 0) || isZ (seg q 1) || isZ (seg q 2)
theorem i_hasZero {q : List Int} {h : AH} {Q : Value → AH → Prop} (hq : By 27 q) (hQ : ∀ h', h <+: h' → Q (.bool (hasZ q)) h') : WF S 162 [aggV .u8 q] h Q := by
  refine WF_fn (fn := c162) rfl rfl ?_
  unfold c162
  have hQ' := hQ _ (pre_new (b := ⟨cel .u8 q, 155, false, true⟩) (List.prefix_refl h))
  have hz9 : z9.length = 9 := rfl
  have e0 := eqaV_cel (k := .u8) (hq.seg (i := 0) (by omega)).1 hz9 (by omega)
  have e1 := eqaV_cel (k := .u8) (hq.seg (i := 1) (by omega)).1 hz9 (by omega)
  have e2 := eqaV_cel (k := .u8) (hq.seg (i := 2) (by omega)).1 hz9 (by omega)
  have s0 : seg q 0 = q.take 9 := by unfold seg; simp
  have s1 : seg q 1 = (q.drop 9).take 9 := rfl
  have s2 : seg q 2 = (q.drop 18).take 9 := rfl
  unfold hasZ isZ at hQ'
  rw [s0] at e0 hQ'
  rw [s1] at e1 hQ'
  rw [s2] at e2 hQ'
  generalize hc0 : (q.take 9 == z9) = c0 at *
  generalize hc1 : ((q.drop 9).take 9 == z9) = c1 at *
  generalize hc2 : ((q.drop 18).take 9 == z9) = c2 at *
  try simp (maxSteps := 3000000) (disch := first | omega | (simp only [len_new, len_put, len_kill]; omega)) only [↓xpre, xpost, ↓reduceIte, Nat.reduceEqDiff, Nat.reduceAdd, Nat.reduceSub, Nat.reduceLeDiff, Nat.zero_add, Nat.sub_zero, aggV, cel_all, cel_len, hq.1, cel_take, cel_drop, List.drop_zero, fillL, zeros9', e0]
  cases c0 with
  | true =>
    try simp (maxSteps := 3000000) (disch := first | omega | (simp only [len_new, len_put, len_kill]; omega)) only [↓xpre, xpost, ↓reduceIte, Nat.reduceEqDiff, Nat.reduceAdd, Nat.reduceSub, Nat.reduceLeDiff, Nat.zero_add, Nat.sub_zero]
    exact hQ'
  | false =>
    try simp (maxSteps := 3000000) (disch := first | omega | (simp only [len_new, len_put, len_kill]; omega)) only [↓xpre, xpost, ↓reduceIte, Nat.reduceEqDiff, Nat.reduceAdd, Nat.reduceSub, Nat.reduceLeDiff, Nat.zero_add, Nat.sub_zero, cel_all, cel_len, hq.1, cel_take, cel_drop, fillL, zeros9', e1]
    cases c1 with
    | true =>
      try simp (maxSteps := 3000000) (disch := first | omega | (simp only [len_new, len_put, len_kill]; omega)) only [↓xpre, xpost, ↓reduceIte, Nat.reduceEqDiff, Nat.reduceAdd, Nat.reduceSub, Nat.reduceLeDiff, Nat.zero_add, Nat.sub_zero]
      exact hQ'
    | false =>
      try simp (maxSteps := 3000000) (disch := first | omega | (simp only [len_new, len_put, len_kill]; omega)) only [↓xpre, xpost, ↓reduceIte, Nat.reduceEqDiff, Nat.reduceAdd, Nat.reduceSub, Nat.reduceLeDiff, Nat.zero_add, Nat.sub_zero, cel_all, cel_len, hq.1, cel_take, cel_drop, fillL, zeros9', e2]
      exact hQ'
end Go.Proofs.Ytilpnbejpndgpaa.X

/- What schemes are: sizes, places, products, the whole. -/
set_option linter.unusedVariables false
set_option linter.unusedSimpArgs false
set_option maxRecDepth 20000
set_option maxHeartbeats 4000000
namespace Go.Proofs.Ytilpnbejpndgpaa.X
open Go Go.RowKit

def sz (n : Int) : Bool := decide (1 ≤ n ∧ n ≤ 3)
theorem s_l01Sizes {p n m k : Int} {h : AH} {Q : Value → AH → Prop} (hQ : Q (.bool (isP p && sz n && sz m && sz k)) h) : WF S 132 [I64 p, I64 n, I64 m, I64 k] h Q := by
  refine WF_fn (fn := c132) rfl rfl ?_
  unfold c132
  try simp (maxSteps := 3000000) (disch := first | omega | (simp only [len_new, len_put, len_kill]; omega)) only [↓xpre, xpost, ↓reduceIte, Nat.reduceEqDiff, Nat.reduceAdd, Nat.reduceSub, Nat.reduceLeDiff, Nat.zero_add, Nat.sub_zero]
  refine s_l01Prime ?_
  cases c0 : isP p with
  | false =>
    rw [c0] at hQ
    try simp (maxSteps := 3000000) (disch := first | omega | (simp only [len_new, len_put, len_kill]; omega)) only [↓xpre, xpost, ↓reduceIte, Nat.reduceEqDiff, Nat.reduceAdd, Nat.reduceSub, Nat.reduceLeDiff, Nat.zero_add, Nat.sub_zero, WG_un]
    exact hQ
  | true =>
    rw [c0] at hQ
    try simp (maxSteps := 3000000) (disch := first | omega | (simp only [len_new, len_put, len_kill]; omega)) only [↓xpre, xpost, ↓reduceIte, Nat.reduceEqDiff, Nat.reduceAdd, Nat.reduceSub, Nat.reduceLeDiff, Nat.zero_add, Nat.sub_zero]
    refine s_l01In ?_
    have e1 : decide (1 ≤ n ∧ n ≤ 3) = sz n := rfl
    have e2 : decide (1 ≤ m ∧ m ≤ 3) = sz m := rfl
    have e3 : decide (1 ≤ k ∧ k ≤ 3) = sz k := rfl
    rw [e1]
    cases c1 : sz n with
    | false =>
      rw [c1] at hQ
      try simp (maxSteps := 3000000) (disch := first | omega | (simp only [len_new, len_put, len_kill]; omega)) only [↓xpre, xpost, ↓reduceIte, Nat.reduceEqDiff, Nat.reduceAdd, Nat.reduceSub, Nat.reduceLeDiff, Nat.zero_add, Nat.sub_zero, WG_un]
      exact hQ
    | true =>
      rw [c1] at hQ
      try simp (maxSteps := 3000000) (disch := first | omega | (simp only [len_new, len_put, len_kill]; omega)) only [↓xpre, xpost, ↓reduceIte, Nat.reduceEqDiff, Nat.reduceAdd, Nat.reduceSub, Nat.reduceLeDiff, Nat.zero_add, Nat.sub_zero]
      refine s_l01In ?_
      rw [e2]
      cases c2 : sz m with
      | false =>
        rw [c2] at hQ
        try simp (maxSteps := 3000000) (disch := first | omega | (simp only [len_new, len_put, len_kill]; omega)) only [↓xpre, xpost, ↓reduceIte, Nat.reduceEqDiff, Nat.reduceAdd, Nat.reduceSub, Nat.reduceLeDiff, Nat.zero_add, Nat.sub_zero, WG_un]
        exact hQ
      | true =>
        rw [c2] at hQ
        try simp (maxSteps := 3000000) (disch := first | omega | (simp only [len_new, len_put, len_kill]; omega)) only [↓xpre, xpost, ↓reduceIte, Nat.reduceEqDiff, Nat.reduceAdd, Nat.reduceSub, Nat.reduceLeDiff, Nat.zero_add, Nat.sub_zero]
        refine s_l01In ?_
        rw [e3]
        try simp (maxSteps := 3000000) (disch := first | omega | (simp only [len_new, len_put, len_kill]; omega)) only [↓xpre, xpost, ↓reduceIte, Nat.reduceEqDiff, Nat.reduceAdd, Nat.reduceSub, Nat.reduceLeDiff, Nat.zero_add, Nat.sub_zero]
        exact hQ
theorem i_isSize {v : Value} {ns : List Int} {h : AH} {Q : Value → AH → Prop} (hv : Ints h v ns) (hl : (ns.length : Int) ≤ 1048576) (hQ : Q (.bool (ns.all sz)) h) : WF S 153 [v] h Q := by
  refine WF_fn (fn := c153) rfl rfl ?_
  unfold c153
  try simp (maxSteps := 3000000) (disch := first | omega | (simp only [len_new, len_put, len_kill]; omega)) only [↓xpre, xpost, ↓reduceIte, Nat.reduceEqDiff, Nat.reduceAdd, Nat.reduceSub, Nat.reduceLeDiff, Nat.zero_add, Nat.sub_zero, hv.len]
  refine WC_loop_inv (fun m f K1 => ∃ (i : Nat), m = ns.length - i ∧ i ≤ ns.length ∧ f 5 = v ∧ f 6 = I64 ns.length ∧ f 7 = I64 i ∧ (K1 = h) ∧ (∀ j, j < i → sz (ns.getD j 0) = true)) ?_ (ns.length - 0) _ _ ⟨0, rfl, by omega, (by first | rfl | (simp [upd_apply]; done)), (by first | rfl | (simp [upd_apply]; done)), (by first | rfl | (simp [upd_apply]; done)), rfl, (by omega)⟩
  rintro m f K1 ⟨i, rfl, hi, f5, f6, f7, hK, hj⟩
  subst hK
  try simp (maxSteps := 3000000) (disch := first | omega | (simp only [len_new, len_put, len_kill]; omega)) only [↓xpre, xpost, ↓reduceIte, Nat.reduceEqDiff, Nat.reduceAdd, Nat.reduceSub, Nat.reduceLeDiff, Nat.zero_add, Nat.sub_zero, f5, f6, f7, IfW_dec]
  refine ⟨fun hlt => ?_, fun hge => ?_⟩
  · have hi' : i < ns.length := by omega
    have hix := hv.ix (k := .i64) (j := i) (by omega) (by omega)
    have hrd := hv.rd (j := i) (by omega) (by omega)
    simp only [nth, Int.toNat_natCast] at hrd
    have no : sz (ns.getD i 0) = false → Q (.bool false) K1 := fun e => by
      have : ns.all sz = false := by
        rw [List.all_eq_false]
        refine ⟨ns.getD i 0, ?_, by rw [e]; simp⟩
        rw [List.getD_eq_getElem?_getD, List.getElem?_eq_getElem hi']
        exact List.getElem_mem hi'
      rw [this] at hQ
      exact hQ
    by_cases c1 : ns.getD i 0 < 1
    · try simp (maxSteps := 3000000) (disch := first | omega | (simp only [len_new, len_put, len_kill]; omega)) only [↓xpre, xpost, ↓reduceIte, Nat.reduceEqDiff, Nat.reduceAdd, Nat.reduceSub, Nat.reduceLeDiff, Nat.zero_add, Nat.sub_zero, f5, f6, f7, hix, hrd, decide_eq_true c1, WG_un]
      exact no (by unfold sz; exact decide_eq_false (by omega))
    by_cases c2 : 3 < ns.getD i 0
    · try simp (maxSteps := 3000000) (disch := first | omega | (simp only [len_new, len_put, len_kill]; omega)) only [↓xpre, xpost, ↓reduceIte, Nat.reduceEqDiff, Nat.reduceAdd, Nat.reduceSub, Nat.reduceLeDiff, Nat.zero_add, Nat.sub_zero, f5, f6, f7, hix, hrd, decide_eq_false c1, decide_eq_true c2]
      exact no (by unfold sz; exact decide_eq_false (by omega))
    try simp (maxSteps := 3000000) (disch := first | omega | (simp only [len_new, len_put, len_kill]; omega)) only [↓xpre, xpost, ↓reduceIte, Nat.reduceEqDiff, Nat.reduceAdd, Nat.reduceSub, Nat.reduceLeDiff, Nat.zero_add, Nat.sub_zero, f5, f6, f7, hix, hrd, decide_eq_false c1, decide_eq_false c2, wrap64_in]
    refine InvQ_go (ns.length - (i + 1)) (by omega) ⟨(i + 1), rfl, by omega, (by first | rfl | exact f5 | (simp only [upd_apply]; rfl) | (show I64 _ = _; congr 1; omega)), (by first | rfl | exact f6 | (simp only [upd_apply]; rfl) | (show I64 _ = _; congr 1; omega)), (by first | rfl | exact f7 | (simp only [upd_apply]; rfl) | (show I64 _ = _; congr 1; omega)), rfl, (step_all hj (by unfold sz; exact decide_eq_true (by omega)))⟩
  · try simp (maxSteps := 3000000) (disch := first | omega | (simp only [len_new, len_put, len_kill]; omega)) only [↓xpre, xpost, ↓reduceIte, Nat.reduceEqDiff, Nat.reduceAdd, Nat.reduceSub, Nat.reduceLeDiff, Nat.zero_add, Nat.sub_zero, f5, f6, f7]
    have : ns.all sz = true := by
      rw [List.all_eq_true]
      intro x hx
      obtain ⟨j, hj', rfl⟩ := List.mem_iff_getElem.1 hx
      have := hj j (by omega)
      rw [List.getD_eq_getElem?_getD, List.getElem?_eq_getElem hj'] at this
      exact this
    rw [this] at hQ
    exact hQ
/-- Sizes and prime as told. -/
def szX (x : Sch) : Bool := isP x.p && sz x.n && sz x.m && sz x.k
structure SZ (x : Sch) : Prop where
  p : 2 ≤ x.p ∧ x.p ≤ 5
  n : 1 ≤ x.n ∧ x.n ≤ 3
  m : 1 ≤ x.m ∧ x.m ≤ 3
  k : 1 ≤ x.k ∧ x.k ≤ 3
  nm : 1 ≤ x.n * x.m ∧ x.n * x.m ≤ 9
  mk2 : 1 ≤ x.m * x.k ∧ x.m * x.k ≤ 9
  nk : 1 ≤ x.n * x.k ∧ x.n * x.k ≤ 9
theorem szX_facts {x : Sch} (h : szX x = true) : SZ x := by
  simp only [szX, sz, Bool.and_eq_true, decide_eq_true_eq] at h
  obtain ⟨⟨⟨h1, h2⟩, h3⟩, h4⟩ := h
  exact ⟨isP_in h1, h2, h3, h4, mul_in1 (A := 3) (B := 3) h2 h3, mul_in1 (A := 3) (B := 3) h3 h4, mul_in1 (A := 3) (B := 3) h2 h4⟩
theorem xres_tmp3 {f : Fr} {h : AH} {t u w : Nat} : xres f h [.tmp t, .tmp u, .tmp w] = some (.tuple #[f t, f u, f w]) := rfl
theorem s_l01Lengths {x : Sch} {v : Value} {h : AH} {Q : Value → AH → Prop} (hv : isOne v = true) (z : SZ x) (hQ : ∀ h', h <+: h' → Q (.tuple #[I64 (x.n * x.m), I64 (x.m * x.k), I64 (x.n * x.k)]) h') : WF S 140 [schV x v] h Q := by
  refine WF_fn (fn := c140) rfl rfl ?_
  unfold c140
  have := z.nm
  have := z.mk2
  have := z.nk
  try simp (maxSteps := 3000000) (disch := first | omega | (simp only [len_new, len_put, len_kill]; omega)) only [↓xpre, xpost, ↓reduceIte, Nat.reduceEqDiff, Nat.reduceAdd, Nat.reduceSub, Nat.reduceLeDiff, Nat.zero_add, Nat.sub_zero, schV, hv, wrap64_in, xres_tmp3]
  exact hQ _ (pre_new (List.prefix_refl _))
theorem i_placesOf {x : Sch} {v : Value} {h : AH} {Q : Value → AH → Prop} (hv : isOne v = true) (z : SZ x) (hQ : ∀ h', h <+: h' → Q (.agg #[I64 (x.n * x.m), I64 (x.m * x.k), I64 (x.n * x.k)]) h') : WF S 143 [schV x v] h Q := by
  refine WF_fn (fn := c143) rfl rfl ?_
  unfold c143
  have := z.nm
  have := z.mk2
  have := z.nk
  try simp (maxSteps := 3000000) (disch := first | omega | (simp only [len_new, len_put, len_kill]; omega)) only [↓xpre, xpost, ↓reduceIte, Nat.reduceEqDiff, Nat.reduceAdd, Nat.reduceSub, Nat.reduceLeDiff, Nat.zero_add, Nat.sub_zero, schV, hv, wrap64_in, fillL]
  exact hQ _ (pre_new (pre_new (List.prefix_refl _)))
def pl (x : Sch) (i : Nat) : Int := if i = 0 then x.n * x.m else if i = 1 then x.m * x.k else x.n * x.k
def okProd (x : Sch) (q : List Int) : Bool := okForm x.p (pl x 0) (seg q 0) && okForm x.p (pl x 1) (seg q 1) && okForm x.p (pl x 2) (seg q 2) && !hasZ q
theorem s_l01Product {x : Sch} {v : Value} {q : List Int} {h : AH} {Q : Value → AH → Prop} (hv : isOne v = true) (z : SZ x) (hq : By 27 q) (hQ : ∀ h', h <+: h' → Q (.bool (okProd x q)) h') :
    WF S 133 [schV x v, aggV .u8 q] h Q := by
  refine WF_fn (fn := c133) rfl rfl ?_
  unfold c133
  have s0 : q.take 9 = seg q 0 := by unfold seg; simp
  have s1 : (q.drop 9).take 9 = seg q 1 := rfl
  have s2 : (q.drop 18).take 9 = seg q 2 := rfl
  try simp (maxSteps := 3000000) (disch := first | omega | (simp only [len_new, len_put, len_kill]; omega)) only [↓xpre, xpost, ↓reduceIte, Nat.reduceEqDiff, Nat.reduceAdd, Nat.reduceSub, Nat.reduceLeDiff, Nat.zero_add, Nat.sub_zero, schV, hv, aggV, cel_all]
  generalize hH1 : AH.new h _ = H1
  obtain ⟨hb1, p1, n1⟩ := new_facts hH1
  generalize hH2 : AH.new H1 _ = H2
  obtain ⟨hb2, p2, n2⟩ := new_facts hH2
  have hb1 := pre_get p2 hb1
  try simp (maxSteps := 3000000) (disch := first | omega | (simp only [len_new, len_put, len_kill]; omega)) only [↓xpre, xpost, ↓reduceIte, Nat.reduceEqDiff, Nat.reduceAdd, Nat.reduceSub, Nat.reduceLeDiff, Nat.zero_add, Nat.sub_zero, rdn_of hb1]
  refine s_l01Lengths hv z fun H3 p3 => ?_
  have hb1 := pre_get p3 hb1
  have hb2 := pre_get p3 hb2
  try simp (maxSteps := 3000000) (disch := first | omega | (simp only [len_new, len_put, len_kill]; omega)) only [↓xpre, xpost, ↓reduceIte, Nat.reduceEqDiff, Nat.reduceAdd, Nat.reduceSub, Nat.reduceLeDiff, Nat.zero_add, Nat.sub_zero, rd1_of hb1, rdn_of hb2, cel_len, hq.1, cel_take, cel_drop, List.drop_zero, s0, s1, s2]
  refine s_l01Form (hq.seg (by omega)) fun H4 p4 => ?_
  have hb1 := pre_get p4 hb1
  have hb2 := pre_get p4 hb2
  unfold okProd hasZ at hQ
  have e0 : pl x 0 = x.n * x.m := rfl
  have e1 : pl x 1 = x.m * x.k := rfl
  have e2 : pl x 2 = x.n * x.k := rfl
  rw [e0, e1, e2] at hQ
  have ph := (p1.trans p2).trans (p3.trans p4)
  cases c0 : okForm x.p (x.n * x.m) (seg q 0) with
  | false =>
    try simp (maxSteps := 3000000) (disch := first | omega | (simp only [len_new, len_put, len_kill]; omega)) only [↓xpre, xpost, ↓reduceIte, Nat.reduceEqDiff, Nat.reduceAdd, Nat.reduceSub, Nat.reduceLeDiff, Nat.zero_add, Nat.sub_zero, WG_un]
    have := hQ _ ph
    rw [c0] at this
    exact this
  | true =>
    rw [c0] at hQ
    try simp (maxSteps := 3000000) (disch := first | omega | (simp only [len_new, len_put, len_kill]; omega)) only [↓xpre, xpost, ↓reduceIte, Nat.reduceEqDiff, Nat.reduceAdd, Nat.reduceSub, Nat.reduceLeDiff, Nat.zero_add, Nat.sub_zero, rd1_of hb1, rdn_of hb2, cel_len, hq.1, cel_take, cel_drop, s0, s1, s2]
    refine s_l01Form (hq.seg (by omega)) fun H5 p5 => ?_
    have hb1 := pre_get p5 hb1
    have hb2 := pre_get p5 hb2
    have ph := ph.trans p5
    cases c1 : okForm x.p (x.m * x.k) (seg q 1) with
    | false =>
      try simp (maxSteps := 3000000) (disch := first | omega | (simp only [len_new, len_put, len_kill]; omega)) only [↓xpre, xpost, ↓reduceIte, Nat.reduceEqDiff, Nat.reduceAdd, Nat.reduceSub, Nat.reduceLeDiff, Nat.zero_add, Nat.sub_zero, WG_un]
      have := hQ _ ph
      rw [c1] at this
      exact this
    | true =>
      rw [c1] at hQ
      try simp (maxSteps := 3000000) (disch := first | omega | (simp only [len_new, len_put, len_kill]; omega)) only [↓xpre, xpost, ↓reduceIte, Nat.reduceEqDiff, Nat.reduceAdd, Nat.reduceSub, Nat.reduceLeDiff, Nat.zero_add, Nat.sub_zero, rd1_of hb1, rdn_of hb2, cel_len, hq.1, cel_take, cel_drop, s0, s1, s2]
      refine s_l01Form (hq.seg (by omega)) fun H6 p6 => ?_
      have hb1 := pre_get p6 hb1
      have hb2 := pre_get p6 hb2
      have ph := ph.trans p6
      cases c2 : okForm x.p (x.n * x.k) (seg q 2) with
      | false =>
        try simp (maxSteps := 3000000) (disch := first | omega | (simp only [len_new, len_put, len_kill]; omega)) only [↓xpre, xpost, ↓reduceIte, Nat.reduceEqDiff, Nat.reduceAdd, Nat.reduceSub, Nat.reduceLeDiff, Nat.zero_add, Nat.sub_zero, WG_un]
        have := hQ _ ph
        rw [c2] at this
        exact this
      | true =>
        rw [c2] at hQ
        try simp (maxSteps := 3000000) (disch := first | omega | (simp only [len_new, len_put, len_kill]; omega)) only [↓xpre, xpost, ↓reduceIte, Nat.reduceEqDiff, Nat.reduceAdd, Nat.reduceSub, Nat.reduceLeDiff, Nat.zero_add, Nat.sub_zero, rdn_of hb2, cel_len, hq.1, cel_take, cel_drop, List.drop_zero, s0, s1, s2]
        refine s_l01Zero (hq.seg (by omega)).1 fun H7 p7 => ?_
        have hb2 := pre_get p7 hb2
        have ph := ph.trans p7
        cases d0 : isZ (seg q 0) with
        | true =>
          try simp (maxSteps := 3000000) (disch := first | omega | (simp only [len_new, len_put, len_kill]; omega)) only [↓xpre, xpost, ↓reduceIte, Nat.reduceEqDiff, Nat.reduceAdd, Nat.reduceSub, Nat.reduceLeDiff, Nat.zero_add, Nat.sub_zero, WG_un]
          have := hQ _ ph
          rw [d0] at this
          exact this
        | false =>
          rw [d0] at hQ
          try simp (maxSteps := 3000000) (disch := first | omega | (simp only [len_new, len_put, len_kill]; omega)) only [↓xpre, xpost, ↓reduceIte, Nat.reduceEqDiff, Nat.reduceAdd, Nat.reduceSub, Nat.reduceLeDiff, Nat.zero_add, Nat.sub_zero, rdn_of hb2, cel_len, hq.1, cel_take, cel_drop, s0, s1, s2]
          refine s_l01Zero (hq.seg (by omega)).1 fun H8 p8 => ?_
          have hb2 := pre_get p8 hb2
          have ph := ph.trans p8
          cases d1 : isZ (seg q 1) with
          | true =>
            try simp (maxSteps := 3000000) (disch := first | omega | (simp only [len_new, len_put, len_kill]; omega)) only [↓xpre, xpost, ↓reduceIte, Nat.reduceEqDiff, Nat.reduceAdd, Nat.reduceSub, Nat.reduceLeDiff, Nat.zero_add, Nat.sub_zero, WG_un]
            have := hQ _ ph
            rw [d1] at this
            exact this
          | false =>
            rw [d1] at hQ
            try simp (maxSteps := 3000000) (disch := first | omega | (simp only [len_new, len_put, len_kill]; omega)) only [↓xpre, xpost, ↓reduceIte, Nat.reduceEqDiff, Nat.reduceAdd, Nat.reduceSub, Nat.reduceLeDiff, Nat.zero_add, Nat.sub_zero, rdn_of hb2, cel_len, hq.1, cel_take, cel_drop, s0, s1, s2]
            refine s_l01Zero (hq.seg (by omega)).1 fun H9 p9 => ?_
            have ph := ph.trans p9
            try simp (maxSteps := 3000000) (disch := first | omega | (simp only [len_new, len_put, len_kill]; omega)) only [↓xpre, xpost, ↓reduceIte, Nat.reduceEqDiff, Nat.reduceAdd, Nat.reduceSub, Nat.reduceLeDiff, Nat.zero_add, Nat.sub_zero]
            exact hQ _ ph
theorem i_factors {q : List Int} {h : AH} {Q : Value → AH → Prop} (hq : q.length = 27) (hQ : ∀ h', h <+: h' → Q (aggV .u8 q) h') : WF S 157 [aggV .u8 q] h Q := by
  refine WF_fn (fn := c157) rfl rfl ?_
  unfold c157
  have z27 : (List.replicate 27 (0 : Int)).length = 27 := by simp
  have a1 : (q.take 9).length = 9 := by simp; omega
  have a2 : ((q.drop 9).take 9).length = 9 := by simp; omega
  have a3 : ((q.drop 18).take 9).length = 9 := by simp; omega
  have fl : fillL ([.int .u8 0, .int .u8 0, .int .u8 0, .int .u8 0, .int .u8 0, .int .u8 0, .int .u8 0, .int .u8 0, .int .u8 0, .int .u8 0, .int .u8 0, .int .u8 0, .int .u8 0, .int .u8 0, .int .u8 0, .int .u8 0, .int .u8 0, .int .u8 0, .int .u8 0, .int .u8 0, .int .u8 0, .int .u8 0, .int .u8 0, .int .u8 0, .int .u8 0, .int .u8 0, .int .u8 0]) [(0, 9, .agg (cel .u8 (q.take 9)).toArray), (9, 9, .agg (cel .u8 ((q.drop 9).take 9)).toArray), (18, 9, .agg (cel .u8 ((q.drop 18).take 9)).toArray)] = some (cel .u8 q) := by
    have f0 : List.replicate 27 0 = fillN q 0 := by rw [fillN_zero, hq]
    have f3 : fillN q 27 = q := by have := fillN_all (ns := q); rw [hq] at this; exact this
    have s1 := cel_fill (k := .u8) (q := q) (i := 0) (n := 9) (by omega)
    have s2 := cel_fill (k := .u8) (q := q) (i := 9) (n := 9) (by omega)
    have s3 := cel_fill (k := .u8) (q := q) (i := 18) (n := 9) (by omega)
    rw [List.drop_zero, ← f0] at s1
    rw [f3] at s3
    have fl : ∀ i, i ≤ 27 → (fillN q i).length = 27 := fun i hi => by rw [fillN_len (by omega), hq]
    rw [zeros27]
    simp only [fillL, cellsL_cel, cel_len, a1, a2, a3, z27, fl 9 (by omega), fl 18 (by omega), s1, s2, s3, cel_all, and_self, if_true, Nat.reduceAdd, Nat.reduceLeDiff, Nat.zero_add]
  have tk : q.take 27 = q := List.take_of_length_le (by omega)
  have w1 : ∀ (h1 : AH) (e : TypeId), (h1.new ⟨[.int .u8 0, .int .u8 0, .int .u8 0, .int .u8 0, .int .u8 0, .int .u8 0, .int .u8 0, .int .u8 0, .int .u8 0, .int .u8 0, .int .u8 0, .int .u8 0, .int .u8 0, .int .u8 0, .int .u8 0, .int .u8 0, .int .u8 0, .int .u8 0, .int .u8 0, .int .u8 0, .int .u8 0, .int .u8 0, .int .u8 0, .int .u8 0, .int .u8 0, .int .u8 0, .int .u8 0], e, false, true⟩).wr h1.length 0 (cel .u8 q) = some (h1.new ⟨cel .u8 q, e, false, true⟩) := fun h1 e => wr_all (by rw [cel_len, hq]; rfl)
  try simp (maxSteps := 3000000) (disch := first | omega | (simp only [len_new, len_put, len_kill]; omega)) only [↓xpre, xpost, ↓reduceIte, Nat.reduceEqDiff, Nat.reduceAdd, Nat.reduceSub, Nat.reduceLeDiff, Nat.zero_add, Nat.sub_zero, aggV, cel_all, cel_len, hq, cel_take, cel_drop, List.drop_zero, fl, ↓w1, tk]
  exact hQ _ (pre_new (pre_new (List.prefix_refl _)))
theorem pl_get {x : Sch} {i : Nat} (hi : i < 3) : ([I64 (x.n * x.m), I64 (x.m * x.k), I64 (x.n * x.k)] : List Value)[i]? = some (I64 (pl x i)) := by
  have : i = 0 ∨ i = 1 ∨ i = 2 := by omega
  rcases this with rfl | rfl | rfl <;> rfl
theorem i_isProduct {x : Sch} {q : List Int} {h : AH} {Q : Value → AH → Prop} (z : SZ x) (hq : By 27 q) (hQ : ∀ h', h <+: h' → Q (.bool (okProd x q)) h') :
    WF S 154 [I64 x.p, .agg #[I64 (x.n * x.m), I64 (x.m * x.k), I64 (x.n * x.k)], aggV .u8 q] h Q := by
  refine WF_fn (fn := c154) rfl rfl ?_
  unfold c154
  try simp (maxSteps := 3000000) (disch := first | omega | (simp only [len_new, len_put, len_kill]; omega)) only [↓xpre, xpost, ↓reduceIte, Nat.reduceEqDiff, Nat.reduceAdd, Nat.reduceSub, Nat.reduceLeDiff, Nat.zero_add, Nat.sub_zero, aggV, cel_all]
  generalize hH1 : AH.new h _ = H1
  obtain ⟨hb1, p1, n1⟩ := new_facts hH1
  generalize hH2 : AH.new H1 _ = H2
  obtain ⟨hb2, p2, n2⟩ := new_facts hH2
  have hb1 := pre_get p2 hb1
  have tk : q.take 27 = q := List.take_of_length_le (by rw [hq.1]; exact Nat.le_refl _)
  try simp (maxSteps := 3000000) (disch := first | omega | (simp only [len_new, len_put, len_kill]; omega)) only [↓xpre, xpost, ↓reduceIte, Nat.reduceEqDiff, Nat.reduceAdd, Nat.reduceSub, Nat.reduceLeDiff, Nat.zero_add, Nat.sub_zero, rdn_of hb2, cel_len, hq.1, cel_take, tk]
  refine i_factors hq.1 fun H3 p3 => ?_
  try simp (maxSteps := 3000000) (disch := first | omega | (simp only [len_new, len_put, len_kill]; omega)) only [↓xpre, xpost, ↓reduceIte, Nat.reduceEqDiff, Nat.reduceAdd, Nat.reduceSub, Nat.reduceLeDiff, Nat.zero_add, Nat.sub_zero]
  refine WC_loop_inv (fun m f K1 => ∃ (i : Nat), m = 3 - i ∧ i ≤ 3 ∧ f 0 = I64 x.p ∧ f 4 = .pointer (some ⟨h.length, 0, none⟩) ∧ f 5 = .pointer (some ⟨H1.length, 0, none⟩) ∧ f 10 = aggV .u8 q ∧ f 11 = I64 i ∧ (H3 <+: K1) ∧ (∀ j, j < i → okForm x.p (pl x j) (seg q j) = true)) ?_ (3 - 0) _ _ ⟨0, rfl, by omega, (by first | rfl | (simp [upd_apply]; done)), (by first | rfl | (simp [upd_apply]; done)), (by first | rfl | (simp [upd_apply]; done)), (by first | rfl | (simp [upd_apply]; done)), (by first | rfl | (simp [upd_apply]; done)), List.prefix_refl _, (by omega)⟩
  rintro m f K1 ⟨i, rfl, hi, f0, f4, f5, f10, f11, pp, hj⟩
  have hb1 := pre_get (p3.trans pp) hb1
  have hb2 := pre_get (p3.trans pp) hb2
  by_cases hlt : (i : Int) < 3
  · have hi' : i < 3 := by omega
    have e1 : idxnV 3 9 (aggV .u8 q) (I64 i) = some (.agg (cel .u8 (seg q i)).toArray) := by
      simp only [idxnV, aggV, toL, Int.toNat_natCast, cel_len, hq.1]
      rw [if_pos ⟨by omega, by omega, by omega⟩]
      simp only [cel_drop, cel_take]
      rfl
    have sl := (hq.seg hi').1
    have w1 : ∀ (h1 : AH) (e : TypeId), (h1.new ⟨[.int .u8 0, .int .u8 0, .int .u8 0, .int .u8 0, .int .u8 0, .int .u8 0, .int .u8 0, .int .u8 0, .int .u8 0], e, false, true⟩).wr h1.length 0 (cel .u8 (seg q i)) = some (h1.new ⟨cel .u8 (seg q i), e, false, true⟩) := fun h1 e => wr_all (by rw [cel_len, sl]; rfl)
    have ts : (seg q i).take 9 = seg q i := List.take_of_length_le (by omega)
    have lt1 := get_lt hb1
    try simp (maxSteps := 3000000) (disch := first | omega | (simp only [len_new, len_put, len_kill]; omega)) only [↓xpre, xpost, ↓reduceIte, Nat.reduceEqDiff, Nat.reduceAdd, Nat.reduceSub, Nat.reduceLeDiff, Nat.zero_add, Nat.sub_zero, f0, f4, f5, f10, f11, decide_eq_true hlt, ↓WX_idxn, e1, cel_all, cel_len, sl, ↓w1, ↓WX_ixa, ixaV_ptr, Int.toNat_natCast, Nat.mul_one, rd1_of hb1, pl_get hi', cel_take, ts]
    refine i_isForm (hq.seg hi') fun H4 p4 => ?_
    cases c0 : okForm x.p (pl x i) (seg q i) with
    | false =>
      try simp (maxSteps := 3000000) (disch := first | omega | (simp only [len_new, len_put, len_kill]; omega)) only [↓xpre, xpost, ↓reduceIte, Nat.reduceEqDiff, Nat.reduceAdd, Nat.reduceSub, Nat.reduceLeDiff, Nat.zero_add, Nat.sub_zero, f0, f4, f5, f10, f11]
      have := hQ _ ((p1.trans p2).trans ((p3.trans pp).trans ((pre_new (List.prefix_refl _)).trans p4)))
      have e2 : okProd x q = false := by
        unfold okProd
        have : i = 0 ∨ i = 1 ∨ i = 2 := by omega
        rcases this with rfl | rfl | rfl <;> simp [c0]
      rw [e2] at this
      exact this
    | true =>
      try simp (maxSteps := 3000000) (disch := first | omega | (simp only [len_new, len_put, len_kill]; omega)) only [↓xpre, xpost, ↓reduceIte, Nat.reduceEqDiff, Nat.reduceAdd, Nat.reduceSub, Nat.reduceLeDiff, Nat.zero_add, Nat.sub_zero, f0, f4, f5, f10, f11, wrap64_in]
      refine InvQ_go (3 - (i + 1)) (by omega) ⟨(i + 1), rfl, by omega, (by first | rfl | exact f0 | (simp only [upd_apply]; rfl) | (show I64 _ = _; congr 1; omega)), (by first | rfl | exact f4 | (simp only [upd_apply]; rfl) | (show I64 _ = _; congr 1; omega)), (by first | rfl | exact f5 | (simp only [upd_apply]; rfl) | (show I64 _ = _; congr 1; omega)), (by first | rfl | exact f10 | (simp only [upd_apply]; rfl) | (show I64 _ = _; congr 1; omega)), (by first | rfl | exact f11 | (simp only [upd_apply]; rfl) | (show I64 _ = _; congr 1; omega)), (pp.trans ((pre_new (List.prefix_refl _)).trans p4)), (step_all hj c0)⟩
  · try simp (maxSteps := 3000000) (disch := first | omega | (simp only [len_new, len_put, len_kill]; omega)) only [↓xpre, xpost, ↓reduceIte, Nat.reduceEqDiff, Nat.reduceAdd, Nat.reduceSub, Nat.reduceLeDiff, Nat.zero_add, Nat.sub_zero, f0, f4, f5, f10, f11, decide_eq_false hlt, rdn_of hb2, cel_len, hq.1, cel_take, tk]
    refine i_hasZero hq fun H4 p4 => ?_
    try simp (maxSteps := 3000000) (disch := first | omega | (simp only [len_new, len_put, len_kill]; omega)) only [↓xpre, xpost, ↓reduceIte, Nat.reduceEqDiff, Nat.reduceAdd, Nat.reduceSub, Nat.reduceLeDiff, Nat.zero_add, Nat.sub_zero, f0, f4, f5, f10, f11]
    have := hQ _ ((p1.trans p2).trans ((p3.trans pp).trans p4))
    have e2 : okProd x q = !hasZ q := by
      unfold okProd
      rw [hj 0 (by omega), hj 1 (by omega), hj 2 (by omega)]
      simp
    rw [e2] at this
    exact this
def isX (x : Sch) : Bool := szX x && decide (x.ps.length ≤ 30) && x.ps.all (okProd x)
theorem Prods.by {h : AH} {v : Value} {L : List (List Int)} (hv : Prods h v L) {i : Nat} (hi : i < L.length) : By 27 (L.getD i []) := ⟨hv.1.wid hi, hv.2 i hi⟩
theorem all_getD {α : Type} {d : α} {f : α → Bool} {L : List α} (h : ∀ j, j < L.length → f (L.getD j d) = true) : L.all f = true := by
  rw [List.all_eq_true]
  intro x hx
  obtain ⟨j, hj, rfl⟩ := List.mem_iff_getElem.1 hx
  have := h j hj
  rw [List.getD_eq_getElem?_getD, List.getElem?_eq_getElem hj] at this
  exact this
theorem all_getD_f {α : Type} {d : α} {f : α → Bool} {L : List α} {j : Nat} (hj : j < L.length) (h : f (L.getD j d) = false) : L.all f = false := by
  rw [List.all_eq_false]
  refine ⟨L.getD j d, ?_, by rw [h]; simp⟩
  rw [List.getD_eq_getElem?_getD, List.getElem?_eq_getElem hj]
  exact List.getElem_mem hj
theorem s_l01Is {v : Value} {x : Sch} {h : AH} {Q : Value → AH → Prop} (hv : Prods h v x.ps) (hl : SmallX x.ps) (hQ : ∀ h', h <+: h' → Q (.bool (isX x)) h') : WF S 98 [schV x v] h Q := by
  refine WF_fn (fn := c98) rfl rfl ?_
  unfold c98
  unfold SmallX at hl
  try simp (maxSteps := 3000000) (disch := first | omega | (simp only [len_new, len_put, len_kill]; omega)) only [↓xpre, xpost, ↓reduceIte, Nat.reduceEqDiff, Nat.reduceAdd, Nat.reduceSub, Nat.reduceLeDiff, Nat.zero_add, Nat.sub_zero, schV, hv.one]
  generalize hH1 : AH.new h _ = H1
  obtain ⟨hb1, p1, n1⟩ := new_facts hH1
  try simp (maxSteps := 3000000) (disch := first | omega | (simp only [len_new, len_put, len_kill]; omega)) only [↓xpre, xpost, ↓reduceIte, Nat.reduceEqDiff, Nat.reduceAdd, Nat.reduceSub, Nat.reduceLeDiff, Nat.zero_add, Nat.sub_zero, rd1_of hb1]
  refine s_l01Sizes ?_
  have hQ1 := hQ _ p1
  unfold isX at hQ hQ1
  have e0 : (isP x.p && sz x.n && sz x.m && sz x.k) = szX x := rfl
  rw [e0]
  cases c0 : szX x with
  | false =>
    try simp (maxSteps := 3000000) (disch := first | omega | (simp only [len_new, len_put, len_kill]; omega)) only [↓xpre, xpost, ↓reduceIte, Nat.reduceEqDiff, Nat.reduceAdd, Nat.reduceSub, Nat.reduceLeDiff, Nat.zero_add, Nat.sub_zero, WG_un]
    rw [c0] at hQ1
    exact hQ1
  | true =>
    rw [c0] at hQ hQ1
    have z := szX_facts c0
    by_cases c1 : (30 : Int) < x.ps.length
    · try simp (maxSteps := 3000000) (disch := first | omega | (simp only [len_new, len_put, len_kill]; omega)) only [↓xpre, xpost, ↓reduceIte, Nat.reduceEqDiff, Nat.reduceAdd, Nat.reduceSub, Nat.reduceLeDiff, Nat.zero_add, Nat.sub_zero, rd1_of hb1, (hv.pre p1).1.len, decide_eq_true c1]
      rw [decide_eq_false (show ¬ x.ps.length ≤ 30 by omega)] at hQ1
      exact hQ1
    rw [decide_eq_true (show x.ps.length ≤ 30 by omega)] at hQ
    try simp (maxSteps := 3000000) (disch := first | omega | (simp only [len_new, len_put, len_kill]; omega)) only [↓xpre, xpost, ↓reduceIte, Nat.reduceEqDiff, Nat.reduceAdd, Nat.reduceSub, Nat.reduceLeDiff, Nat.zero_add, Nat.sub_zero, rd1_of hb1, (hv.pre p1).1.len, decide_eq_false c1]
    refine WC_loop_inv (fun m f K1 => ∃ (i : Nat), m = x.ps.length - i ∧ i ≤ x.ps.length ∧ f 1 = .pointer (some ⟨h.length, 0, none⟩) ∧ f 3 = I64 i ∧ (H1 <+: K1) ∧ (∀ j, j < i → okProd x (x.ps.getD j []) = true)) ?_ (x.ps.length - 0) _ _ ⟨0, rfl, by omega, (by first | rfl | (simp [upd_apply]; done)), (by first | rfl | (simp [upd_apply]; done)), List.prefix_refl _, (by omega)⟩
    rintro m f K1 ⟨i, rfl, hi, f1, f3, pp, hj⟩
    have hb1 := pre_get pp hb1
    have hvK := hv.pre (p1.trans pp)
    try simp (maxSteps := 3000000) (disch := first | omega | (simp only [len_new, len_put, len_kill]; omega)) only [↓xpre, xpost, ↓reduceIte, Nat.reduceEqDiff, Nat.reduceAdd, Nat.reduceSub, Nat.reduceLeDiff, Nat.zero_add, Nat.sub_zero, f1, f3, rd1_of hb1, hvK.1.len, IfW_dec]
    refine ⟨fun hlt => ?_, fun hge => ?_⟩
    · have hi' : i < x.ps.length := by omega
      obtain ⟨n, off, hix, hrn, hr1⟩ := hvK.1.at hi'
      have r27 := hrn 0 27 (by omega)
      rw [List.drop_zero, List.take_of_length_le (by rw [hvK.1.wid hi']; exact Nat.le_refl _), Nat.add_zero] at r27
      try simp (maxSteps := 3000000) (disch := first | omega | (simp only [len_new, len_put, len_kill]; omega)) only [↓xpre, xpost, ↓reduceIte, Nat.reduceEqDiff, Nat.reduceAdd, Nat.reduceSub, Nat.reduceLeDiff, Nat.zero_add, Nat.sub_zero, f1, f3, rdn_of hb1, rd1_of hb1, hix, r27]
      refine s_l01Product hvK.one z (hvK.by hi') fun H2 p2 => ?_
      cases c2 : okProd x (x.ps.getD i []) with
      | false =>
        try simp (maxSteps := 3000000) (disch := first | omega | (simp only [len_new, len_put, len_kill]; omega)) only [↓xpre, xpost, ↓reduceIte, Nat.reduceEqDiff, Nat.reduceAdd, Nat.reduceSub, Nat.reduceLeDiff, Nat.zero_add, Nat.sub_zero, f1, f3]
        have := hQ _ ((p1.trans pp).trans p2)
        rw [all_getD_f hi' c2] at this
        exact this
      | true =>
        try simp (maxSteps := 3000000) (disch := first | omega | (simp only [len_new, len_put, len_kill]; omega)) only [↓xpre, xpost, ↓reduceIte, Nat.reduceEqDiff, Nat.reduceAdd, Nat.reduceSub, Nat.reduceLeDiff, Nat.zero_add, Nat.sub_zero, f1, f3, wrap64_in]
        refine InvQ_go (x.ps.length - (i + 1)) (by omega) ⟨(i + 1), rfl, by omega, (by first | rfl | exact f1 | (simp only [upd_apply]; rfl) | (show I64 _ = _; congr 1; omega)), (by first | rfl | exact f3 | (simp only [upd_apply]; rfl) | (show I64 _ = _; congr 1; omega)), (pp.trans p2), (step_all hj c2)⟩
    · try simp (maxSteps := 3000000) (disch := first | omega | (simp only [len_new, len_put, len_kill]; omega)) only [↓xpre, xpost, ↓reduceIte, Nat.reduceEqDiff, Nat.reduceAdd, Nat.reduceSub, Nat.reduceLeDiff, Nat.zero_add, Nat.sub_zero, f1, f3]
      have := hQ _ (p1.trans pp)
      rw [all_getD (d := []) fun j hj' => hj j (by omega)] at this
      exact this
theorem i_IsScheme {v : Value} {x : Sch} {h : AH} {Q : Value → AH → Prop} (hv : Prods h v x.ps) (hl : SmallX x.ps) (hQ : ∀ h', h <+: h' → Q (.bool (isX x)) h') : WF S 136 [schV x v] h Q := by
  refine WF_fn (fn := c136) rfl rfl ?_
  unfold c136
  unfold SmallX at hl
  try simp (maxSteps := 3000000) (disch := first | omega | (simp only [len_new, len_put, len_kill]; omega)) only [↓xpre, xpost, ↓reduceIte, Nat.reduceEqDiff, Nat.reduceAdd, Nat.reduceSub, Nat.reduceLeDiff, Nat.zero_add, Nat.sub_zero, schV, hv.one]
  generalize hH1 : AH.new h _ = H1
  obtain ⟨hb1, p1, n1⟩ := new_facts hH1
  try simp (maxSteps := 3000000) (disch := first | omega | (simp only [len_new, len_put, len_kill]; omega)) only [↓xpre, xpost, ↓reduceIte, Nat.reduceEqDiff, Nat.reduceAdd, Nat.reduceSub, Nat.reduceLeDiff, Nat.zero_add, Nat.sub_zero, rd1_of hb1]
  refine i_isPrime ?_
  have hQ1 := hQ _ p1
  unfold isX at hQ hQ1
  cases c0 : isP x.p with
  | false =>
    try simp (maxSteps := 3000000) (disch := first | omega | (simp only [len_new, len_put, len_kill]; omega)) only [↓xpre, xpost, ↓reduceIte, Nat.reduceEqDiff, Nat.reduceAdd, Nat.reduceSub, Nat.reduceLeDiff, Nat.zero_add, Nat.sub_zero, WG_un]
    have : szX x = false := by unfold szX; rw [c0]; rfl
    rw [this] at hQ1
    exact hQ1
  | true =>
    try simp (maxSteps := 3000000) (disch := first | omega | (simp only [len_new, len_put, len_kill]; omega)) only [↓xpre, xpost, ↓reduceIte, Nat.reduceEqDiff, Nat.reduceAdd, Nat.reduceSub, Nat.reduceLeDiff, Nat.zero_add, Nat.sub_zero, rd1_of hb1, fillL, zrep]
    generalize hH2 : AH.new H1 _ = H2
    obtain ⟨hb2, p2, n2⟩ := new_facts hH2
    have hb1 := pre_get p2 hb1
    refine i_isSize (ns := [x.n, x.m, x.k]) (Ints.own (ns := [x.n, x.m, x.k]) hb2 rfl) (by simp) ?_
    have e0 : ([x.n, x.m, x.k] : List Int).all sz = szX x := by unfold szX; rw [c0]; simp [Bool.and_assoc]
    rw [e0]
    have hQ2 := hQ _ (p1.trans p2)
    cases c1 : szX x with
    | false =>
      try simp (maxSteps := 3000000) (disch := first | omega | (simp only [len_new, len_put, len_kill]; omega)) only [↓xpre, xpost, ↓reduceIte, Nat.reduceEqDiff, Nat.reduceAdd, Nat.reduceSub, Nat.reduceLeDiff, Nat.zero_add, Nat.sub_zero, WG_un]
      rw [c1] at hQ2
      exact hQ2
    | true =>
      rw [c1] at hQ hQ2
      have z := szX_facts c1
      by_cases c2 : (30 : Int) < x.ps.length
      · try simp (maxSteps := 3000000) (disch := first | omega | (simp only [len_new, len_put, len_kill]; omega)) only [↓xpre, xpost, ↓reduceIte, Nat.reduceEqDiff, Nat.reduceAdd, Nat.reduceSub, Nat.reduceLeDiff, Nat.zero_add, Nat.sub_zero, rd1_of hb1, (hv.pre (p1.trans p2)).1.len, decide_eq_true c2]
        rw [decide_eq_false (show ¬ x.ps.length ≤ 30 by omega)] at hQ2
        exact hQ2
      rw [decide_eq_true (show x.ps.length ≤ 30 by omega)] at hQ
      try simp (maxSteps := 3000000) (disch := first | omega | (simp only [len_new, len_put, len_kill]; omega)) only [↓xpre, xpost, ↓reduceIte, Nat.reduceEqDiff, Nat.reduceAdd, Nat.reduceSub, Nat.reduceLeDiff, Nat.zero_add, Nat.sub_zero, rd1_of hb1, (hv.pre (p1.trans p2)).1.len, decide_eq_false c2]
      refine WC_loop_inv (fun m f K1 => ∃ (i : Nat), m = x.ps.length - i ∧ i ≤ x.ps.length ∧ f 1 = .pointer (some ⟨h.length, 0, none⟩) ∧ f 27 = v ∧ f 28 = I64 x.ps.length ∧ f 29 = I64 i ∧ (H2 <+: K1) ∧ (∀ j, j < i → okProd x (x.ps.getD j []) = true)) ?_ (x.ps.length - 0) _ _ ⟨0, rfl, by omega, (by first | rfl | (simp [upd_apply]; done)), (by first | rfl | (simp [upd_apply]; done)), (by first | rfl | (simp [upd_apply]; done)), (by first | rfl | (simp [upd_apply]; done)), List.prefix_refl _, (by omega)⟩
      rintro m f K1 ⟨i, rfl, hi, f1, f27, f28, f29, pp, hj⟩
      have hb1 := pre_get pp hb1
      have hvK := hv.pre ((p1.trans p2).trans pp)
      by_cases hlt : (i : Int) < x.ps.length
      · have hi' : i < x.ps.length := by omega
        obtain ⟨n, off, hix, hrn, hr1⟩ := hvK.1.at hi'
        have r27 := hrn 0 27 (by omega)
        have wi := hvK.1.wid hi'
        have tk : (x.ps.getD i []).take 27 = x.ps.getD i [] := List.take_of_length_le (by omega)
        rw [List.drop_zero, tk, Nat.add_zero] at r27
        have w1 : ∀ (h1 : AH) (e : TypeId), (h1.new ⟨[.int .u8 0, .int .u8 0, .int .u8 0, .int .u8 0, .int .u8 0, .int .u8 0, .int .u8 0, .int .u8 0, .int .u8 0, .int .u8 0, .int .u8 0, .int .u8 0, .int .u8 0, .int .u8 0, .int .u8 0, .int .u8 0, .int .u8 0, .int .u8 0, .int .u8 0, .int .u8 0, .int .u8 0, .int .u8 0, .int .u8 0, .int .u8 0, .int .u8 0, .int .u8 0, .int .u8 0], e, false, true⟩).wr h1.length 0 (cel .u8 (x.ps.getD i [])) = some (h1.new ⟨cel .u8 (x.ps.getD i []), e, false, true⟩) := fun h1 e => wr_all (by rw [cel_len, wi]; rfl)
        try simp (maxSteps := 3000000) (disch := first | omega | (simp only [len_new, len_put, len_kill]; omega)) only [↓xpre, xpost, ↓reduceIte, Nat.reduceEqDiff, Nat.reduceAdd, Nat.reduceSub, Nat.reduceLeDiff, Nat.zero_add, Nat.sub_zero, f1, f27, f28, f29, decide_eq_true hlt, hix, r27, cel_all, cel_len, wi, ↓w1]
        generalize hH3 : AH.new K1 _ = H3
        obtain ⟨hb3, p3, n3⟩ := new_facts hH3
        have hb1 := pre_get p3 hb1
        try simp (maxSteps := 3000000) (disch := first | omega | (simp only [len_new, len_put, len_kill]; omega)) only [↓xpre, xpost, ↓reduceIte, Nat.reduceEqDiff, Nat.reduceAdd, Nat.reduceSub, Nat.reduceLeDiff, Nat.zero_add, Nat.sub_zero, f1, f27, f28, f29, rd1_of hb1, rdn_of hb1]
        refine i_placesOf hvK.one z fun H4 p4 => ?_
        have hb1 := pre_get p4 hb1
        have hb3 := pre_get p4 hb3
        try simp (maxSteps := 3000000) (disch := first | omega | (simp only [len_new, len_put, len_kill]; omega)) only [↓xpre, xpost, ↓reduceIte, Nat.reduceEqDiff, Nat.reduceAdd, Nat.reduceSub, Nat.reduceLeDiff, Nat.zero_add, Nat.sub_zero, f1, f27, f28, f29, rdn_of hb3, cel_len, wi, cel_take, tk]
        refine ⟨p4, ?_⟩
        refine i_isProduct z (hvK.by hi') fun H5 p5 => ?_
        cases c3 : okProd x (x.ps.getD i []) with
        | false =>
          try simp (maxSteps := 3000000) (disch := first | omega | (simp only [len_new, len_put, len_kill]; omega)) only [↓xpre, xpost, ↓reduceIte, Nat.reduceEqDiff, Nat.reduceAdd, Nat.reduceSub, Nat.reduceLeDiff, Nat.zero_add, Nat.sub_zero, f1, f27, f28, f29]
          have := hQ _ (((p1.trans p2).trans pp).trans ((p3.trans p4).trans p5))
          rw [all_getD_f hi' c3] at this
          exact this
        | true =>
          try simp (maxSteps := 3000000) (disch := first | omega | (simp only [len_new, len_put, len_kill]; omega)) only [↓xpre, xpost, ↓reduceIte, Nat.reduceEqDiff, Nat.reduceAdd, Nat.reduceSub, Nat.reduceLeDiff, Nat.zero_add, Nat.sub_zero, f1, f27, f28, f29, wrap64_in]
          refine InvQ_go (x.ps.length - (i + 1)) (by omega) ⟨(i + 1), rfl, by omega, (by first | rfl | exact f1 | (simp only [upd_apply]; rfl) | (show I64 _ = _; congr 1; omega)), (by first | rfl | exact f27 | (simp only [upd_apply]; rfl) | (show I64 _ = _; congr 1; omega)), (by first | rfl | exact f28 | (simp only [upd_apply]; rfl) | (show I64 _ = _; congr 1; omega)), (by first | rfl | exact f29 | (simp only [upd_apply]; rfl) | (show I64 _ = _; congr 1; omega)), (pp.trans ((p3.trans p4).trans p5)), (step_all hj c3)⟩
      · try simp (maxSteps := 3000000) (disch := first | omega | (simp only [len_new, len_put, len_kill]; omega)) only [↓xpre, xpost, ↓reduceIte, Nat.reduceEqDiff, Nat.reduceAdd, Nat.reduceSub, Nat.reduceLeDiff, Nat.zero_add, Nat.sub_zero, f1, f27, f28, f29, decide_eq_false hlt]
        have := hQ _ ((p1.trans p2).trans pp)
        rw [all_getD (d := []) fun j hj' => hj j (by omega)] at this
        exact this
end Go.Proofs.Ytilpnbejpndgpaa.X

/- The rules once more, with continuations that the rewriting leaves alone until their turn: printed by wip/tools/mkY.py. -/
set_option linter.unusedVariables false
set_option linter.unusedSimpArgs false
set_option linter.defProp false
namespace Go.Proofs.Ytilpnbejpndgpaa.X
open Go Go.RowKit

/-- A dummy that depends on what is to be left alone. -/
inductive Dum {α : Type} (a : α) : Type
 | mk

def yQV (v : Value) (Q : Value → Prop) (_ : Dum Q) : Prop := QV v Q
@[congr] theorem yQV_congr {v : Value} {Q : Value → Prop} {w : Value} {d0 : Dum Q} (e : v = w) : yQV v Q d0 = yQV w Q d0 := by rw [e]
theorem yQV_forth {v : Value} {Q : Value → Prop} : QV v Q = yQV v Q .mk := rfl
theorem yQV_back {v : Value} {Q : Value → Prop} {d0 : Dum Q} : yQV v Q d0 = QV v Q := rfl
def yWV (r : Option Value) (Q : Value → Prop) (_ : Dum Q) : Prop := WV r Q
@[congr] theorem yWV_congr {r : Option Value} {Q : Value → Prop} {w : Option Value} {d0 : Dum Q} (e : r = w) : yWV r Q d0 = yWV w Q d0 := by rw [e]
theorem yWV_forth {r : Option Value} {Q : Value → Prop} : WV r Q = yWV r Q .mk := rfl
theorem yWV_back {r : Option Value} {Q : Value → Prop} {d0 : Dum Q} : yWV r Q d0 = WV r Q := rfl
def yHQ (r : Option AH) (Q : AH → Prop) (_ : Dum Q) : Prop := HQ r Q
@[congr] theorem yHQ_congr {r : Option AH} {Q : AH → Prop} {w : Option AH} {d0 : Dum Q} (e : r = w) : yHQ r Q d0 = yHQ w Q d0 := by rw [e]
theorem yHQ_forth {r : Option AH} {Q : AH → Prop} : HQ r Q = yHQ r Q .mk := rfl
theorem yHQ_back {r : Option AH} {Q : AH → Prop} {d0 : Dum Q} : yHQ r Q d0 = HQ r Q := rfl
def yPQ (v : Value) (Q : Nat → Nat → Prop) (_ : Dum Q) : Prop := PQ v Q
@[congr] theorem yPQ_congr {v : Value} {Q : Nat → Nat → Prop} {w : Value} {d0 : Dum Q} (e : v = w) : yPQ v Q d0 = yPQ w Q d0 := by rw [e]
theorem yPQ_forth {v : Value} {Q : Nat → Nat → Prop} : PQ v Q = yPQ v Q .mk := rfl
theorem yPQ_back {v : Value} {Q : Nat → Nat → Prop} {d0 : Dum Q} : yPQ v Q d0 = PQ v Q := rfl
def yLQ (v : List Value) (Q : List Value → Prop) (_ : Dum Q) : Prop := LQ v Q
@[congr] theorem yLQ_congr {v : List Value} {Q : List Value → Prop} {w : List Value} {d0 : Dum Q} (e : v = w) : yLQ v Q d0 = yLQ w Q d0 := by rw [e]
theorem yLQ_forth {v : List Value} {Q : List Value → Prop} : LQ v Q = yLQ v Q .mk := rfl
theorem yLQ_back {v : List Value} {Q : List Value → Prop} {d0 : Dum Q} : yLQ v Q d0 = LQ v Q := rfl
def yVQ (r : Option (List Value)) (Q : List Value → Prop) (_ : Dum Q) : Prop := VQ r Q
@[congr] theorem yVQ_congr {r : Option (List Value)} {Q : List Value → Prop} {w : Option (List Value)} {d0 : Dum Q} (e : r = w) : yVQ r Q d0 = yVQ w Q d0 := by rw [e]
theorem yVQ_forth {r : Option (List Value)} {Q : List Value → Prop} : VQ r Q = yVQ r Q .mk := rfl
theorem yVQ_back {r : Option (List Value)} {Q : List Value → Prop} {d0 : Dum Q} : yVQ r Q d0 = VQ r Q := rfl
def yOQ (r : Option (Value × AH)) (Q : Value → AH → Prop) (_ : Dum Q) : Prop := OQ r Q
@[congr] theorem yOQ_congr {r : Option (Value × AH)} {Q : Value → AH → Prop} {w : Option (Value × AH)} {d0 : Dum Q} (e : r = w) : yOQ r Q d0 = yOQ w Q d0 := by rw [e]
theorem yOQ_forth {r : Option (Value × AH)} {Q : Value → AH → Prop} : OQ r Q = yOQ r Q .mk := rfl
theorem yOQ_back {r : Option (Value × AH)} {Q : Value → AH → Prop} {d0 : Dum Q} : yOQ r Q d0 = OQ r Q := rfl
def yIfW (v : Value) (A : Prop) (B : Prop) (_ : Dum A) (_ : Dum B) : Prop := IfW v A B
@[congr] theorem yIfW_congr {v : Value} {A : Prop} {B : Prop} {w : Value} {d0 : Dum A} {d1 : Dum B} (e : v = w) : yIfW v A B d0 d1 = yIfW w A B d0 d1 := by rw [e]
theorem yIfW_forth {v : Value} {A : Prop} {B : Prop} : IfW v A B = yIfW v A B .mk .mk := rfl
theorem yIfW_back {v : Value} {A : Prop} {B : Prop} {d0 : Dum A} {d1 : Dum B} : yIfW v A B d0 d1 = IfW v A B := rfl
def yWF (S : XS) (g : FuncId) (args : List Value) (h : AH) (Q : Value → AH → Prop) (_ : Dum h) (_ : Dum Q) : Prop := WF S g args h Q
@[congr] theorem yWF_congr {S : XS} {g : FuncId} {args args1 : List Value} {h : AH} {Q : Value → AH → Prop} {d0 : Dum h} {d1 : Dum Q} (e : args = args1) : yWF S g args h Q d0 d1 = yWF S g args1 h Q d0 d1 := by rw [e]
theorem yWF_back {S : XS} {g : FuncId} {args : List Value} {h : AH} {Q : Value → AH → Prop} {d0 : Dum h} {d1 : Dum Q} : yWF S g args h Q d0 d1 = WF S g args h Q := rfl
def yWK (S : XS) (v : Value) (args : List Value) (h : AH) (Q : Value → AH → Prop) (_ : Dum h) (_ : Dum Q) : Prop := WK S v args h Q
@[congr] theorem yWK_congr {S : XS} {v v1 : Value} {args args1 : List Value} {h : AH} {Q : Value → AH → Prop} {d0 : Dum h} {d1 : Dum Q} (e : v = v1) (e1 : args = args1) : yWK S v args h Q d0 d1 = yWK S v1 args1 h Q d0 d1 := by rw [e, e1]
theorem yWK_back {S : XS} {v : Value} {args : List Value} {h : AH} {Q : Value → AH → Prop} {d0 : Dum h} {d1 : Dum Q} : yWK S v args h Q d0 d1 = WK S v args h Q := rfl
theorem yWK_func {S : XS} {g : FuncId} {cap : Array Value} {args : List Value} {h : AH} {Q : Value → AH → Prop} {d0 : Dum h} {d1 : Dum Q} : yWK S (.func (.func g) #[] cap) args h Q d0 d1 = yWF S g (args ++ cap.toList) h Q .mk .mk := rfl
def yWG (S : XS) (v : Value) (b : Bool) (i : XI) (rest : List XI) (f : Fr) (h : AH) (Q : Fr → AH → Prop) (_ : Dum i) (_ : Dum rest) (_ : Dum f) (_ : Dum h) (_ : Dum Q) : Prop := WG S v b i rest f h Q
@[congr] theorem yWG_congr {v v1 : Value} {b : Bool} {S : XS} {i : XI} {rest : List XI} {f : Fr} {h : AH} {Q : Fr → AH → Prop} {d0 : Dum i} {d1 : Dum rest} {d2 : Dum f} {d3 : Dum h} {d4 : Dum Q} (e : v = v1) : yWG S v b i rest f h Q d0 d1 d2 d3 d4 = yWG S v1 b i rest f h Q d0 d1 d2 d3 d4 := by rw [e]
theorem yWG_back {v : Value} {b : Bool} {S : XS} {i : XI} {rest : List XI} {f : Fr} {h : AH} {Q : Fr → AH → Prop} {d0 : Dum i} {d1 : Dum rest} {d2 : Dum f} {d3 : Dum h} {d4 : Dum Q} : yWG S v b i rest f h Q d0 d1 d2 d3 d4 = WG S v b i rest f h Q := rfl
theorem yWG_tt {S : XS} {i : XI} {rest : List XI} {f : Fr} {h : AH} {Q : Fr → AH → Prop} {d0 : Dum i} {d1 : Dum rest} {d2 : Dum f} {d3 : Dum h} {d4 : Dum Q} : yWG S (.bool true) true i rest f h Q d0 d1 d2 d3 d4 = WO S (⟨i.d, i.o, none, i.q⟩ :: rest) f h Q := rfl
theorem yWG_ff {S : XS} {i : XI} {rest : List XI} {f : Fr} {h : AH} {Q : Fr → AH → Prop} {d0 : Dum i} {d1 : Dum rest} {d2 : Dum f} {d3 : Dum h} {d4 : Dum Q} : yWG S (.bool false) false i rest f h Q d0 d1 d2 d3 d4 = WO S (⟨i.d, i.o, none, i.q⟩ :: rest) f h Q := rfl
theorem yWG_tf {S : XS} {i : XI} {rest : List XI} {f : Fr} {h : AH} {Q : Fr → AH → Prop} {d0 : Dum i} {d1 : Dum rest} {d2 : Dum f} {d3 : Dum h} {d4 : Dum Q} : yWG S (.bool true) false i rest f h Q d0 d1 d2 d3 d4 = WO S rest (updo f i.d undef) h Q := rfl
theorem yWG_ft {S : XS} {i : XI} {rest : List XI} {f : Fr} {h : AH} {Q : Fr → AH → Prop} {d0 : Dum i} {d1 : Dum rest} {d2 : Dum f} {d3 : Dum h} {d4 : Dum Q} : yWG S (.bool false) true i rest f h Q d0 d1 d2 d3 d4 = WO S rest (updo f i.d undef) h Q := rfl
theorem yWG_un {b : Bool} {S : XS} {i : XI} {rest : List XI} {f : Fr} {h : AH} {Q : Fr → AH → Prop} {d0 : Dum i} {d1 : Dum rest} {d2 : Dum f} {d3 : Dum h} {d4 : Dum Q} : yWG S undef b i rest f h Q d0 d1 d2 d3 d4 = WO S rest (updo f i.d undef) h Q := rfl
theorem yQV_eq {v : Value} {Q : Value → Prop} {d : Dum Q} : yQV v Q d = Q v := rfl
theorem yWV_some {v : Value} {Q : Value → Prop} {d : Dum Q} : yWV (some v) Q d = Q v := WV_some
theorem yWV_ite {c : Prop} [Decidable c] {v : Value} {Q : Value → Prop} {d : Dum Q} : yWV (if c then some v else none) Q d = (c ∧ Q v) := WV_ite
theorem yHQ_some {v : AH} {Q : AH → Prop} {d : Dum Q} : yHQ (some v) Q d = Q v := HQ_some
theorem yHQ_ite {c : Prop} [Decidable c] {v : AH} {Q : AH → Prop} {d : Dum Q} : yHQ (if c then some v else none) Q d = (c ∧ Q v) := HQ_ite
theorem yPQ_ptr {p : Addr} {Q : Nat → Nat → Prop} {d : Dum Q} : yPQ (.pointer (some p)) Q d = Q p.block p.off := rfl
theorem yLQ_eq {v : List Value} {Q : List Value → Prop} {d : Dum Q} : yLQ v Q d = Q v := rfl
theorem yVQ_some {v : List Value} {Q : List Value → Prop} {d : Dum Q} : yVQ (some v) Q d = Q v := VQ_some
theorem yOQ_some {v : Value} {h : AH} {Q : Value → AH → Prop} {d : Dum Q} : yOQ (some (v, h)) Q d = Q v h := OQ_some
theorem yOQ_ite {c : Prop} [Decidable c] {v : Value} {h : AH} {Q : Value → AH → Prop} {d : Dum Q} : yOQ (if c then some (v, h) else none) Q d = (c ∧ Q v h) := OQ_ite
theorem yIfW_t {A B : Prop} {d : Dum A} {e : Dum B} : yIfW (.bool true) A B d e = A := rfl
theorem yIfW_f {A B : Prop} {d : Dum A} {e : Dum B} : yIfW (.bool false) A B d e = B := rfl

theorem yWX_mkz {S : XS} {f : Fr} {h : AH} {Q : Value → AH → Prop}  : WX S .mkz f h Q = yQV (.slice none 0 2) (fun v => Q v h) .mk := WX_mkz
theorem yWX_mv {S : XS} {f : Fr} {h : AH} {Q : Value → AH → Prop} {x : Operand} : WX S (.mv x) f h Q = yQV (ev f x) (fun v => Q v h) .mk := WX_mv
theorem yWX_pick {S : XS} {f : Fr} {h : AH} {Q : Value → AH → Prop} {a b c : Operand} : WX S (.pick c a b) f h Q = yWV (pickV (ev f c) (ev f a) (ev f b)) (fun v => Q v h) .mk := WX_pick
theorem yWX_box {S : XS} {f : Fr} {h : AH} {Q : Value → AH → Prop} {x : Operand} {e : TypeId} : WX S (.box e x) f h Q = yLQ (cellsL (ev f x)) (fun c => c.all isOne = true ∧ Q (.pointer (some ⟨h.length, 0, none⟩)) (h.new ⟨c, e, false, true⟩)) .mk := WX_box
theorem yWX_boxn {S : XS} {f : Fr} {h : AH} {Q : Value → AH → Prop} {x : Operand} {e : TypeId} {n : Nat} : WX S (.boxn e n x) f h Q = yLQ (cellsL (ev f x)) (fun c => (c.length = n ∧ c.all isOne = true) ∧ Q (.pointer (some ⟨h.length, 0, none⟩)) (h.new ⟨c, e, false, true⟩)) .mk := WX_boxn
theorem yWX_load1 {S : XS} {f : Fr} {h : AH} {Q : Value → AH → Prop} {a : Operand} : WX S (.load1 a) f h Q = yPQ (ev f a) (fun n off => yWV (h.rd1 n off) (fun v => Q v h) .mk) .mk := WX_load1
theorem yWX_loadn {S : XS} {f : Fr} {h : AH} {Q : Value → AH → Prop} {a : Operand} {n : Nat} : WX S (.loadn n a) f h Q = yPQ (ev f a) (fun m off => yWV ((h.rdn m off n).map fun c => .agg c.toArray) (fun v => Q v h) .mk) .mk := WX_loadn
theorem yWX_store {S : XS} {f : Fr} {h : AH} {Q : Value → AH → Prop} {a x : Operand} {n : Nat} : WX S (.store n a x) f h Q = yPQ (ev f a) (fun m off => yLQ (cellsL (ev f x)) (fun c => (c.length = n ∧ c.all isOne = true) ∧ yHQ (h.wr m off c) (fun h1 => Q undef h1) .mk) .mk) .mk := WX_store
theorem yWX_bin {S : XS} {f : Fr} {h : AH} {Q : Value → AH → Prop} {x y : Operand} {op : BinOp} : WX S (.bin op x y) f h Q = yWV (xbin op (ev f x) (ev f y)) (fun v => Q v h) .mk := WX_bin
theorem yWX_un {S : XS} {f : Fr} {h : AH} {Q : Value → AH → Prop} {x : Operand} {op : UnOp} : WX S (.un op x) f h Q = yWV (xun op (ev f x)) (fun v => Q v h) .mk := WX_un
theorem yWX_conv {S : XS} {f : Fr} {h : AH} {Q : Value → AH → Prop} {x : Operand} {k : IntKind} : WX S (.conv k x) f h Q = yWV (convV k (ev f x)) (fun v => Q v h) .mk := WX_conv
theorem yWX_fadr {S : XS} {f : Fr} {h : AH} {Q : Value → AH → Prop} {x : Operand} {off : Nat} : WX S (.fadr off x) f h Q = yPQ (ev f x) (fun n o => Q (.pointer (some ⟨n, o + off, none⟩)) h) .mk := WX_fadr
theorem yWX_fld1 {S : XS} {f : Fr} {h : AH} {Q : Value → AH → Prop} {x : Operand} {off : Nat} : WX S (.fld1 off x) f h Q = yWV (fstV (ev f x) off) (fun v => Q v h) .mk := WX_fld1
theorem yWX_ext {S : XS} {f : Fr} {h : AH} {Q : Value → AH → Prop} {x : Operand} {i : Nat} : WX S (.ext x i) f h Q = yWV (extV (ev f x) i) (fun v => Q v h) .mk := WX_ext
theorem yWX_len {S : XS} {f : Fr} {h : AH} {Q : Value → AH → Prop} {x : Operand} : WX S (.len x) f h Q = yWV (lenV (ev f x)) (fun v => Q v h) .mk := WX_len
theorem yWX_ixs {S : XS} {f : Fr} {h : AH} {Q : Value → AH → Prop} {x y : Operand} {sz : Nat} : WX S (.ixs sz x y) f h Q = yWV (ixsV sz (ev f x) (ev f y)) (fun v => Q v h) .mk := WX_ixs
theorem yWX_ixa {S : XS} {f : Fr} {h : AH} {Q : Value → AH → Prop} {x y : Operand} {n sz : Nat} : WX S (.ixa n sz x y) f h Q = yWV (ixaV n sz (ev f x) (ev f y)) (fun v => Q v h) .mk := WX_ixa
theorem yWX_idx1 {S : XS} {f : Fr} {h : AH} {Q : Value → AH → Prop} {x y : Operand} {n : Nat} : WX S (.idx1 n x y) f h Q = yWV (idx1V n (ev f x) (ev f y)) (fun v => Q v h) .mk := WX_idx1
theorem yWX_idxn {S : XS} {f : Fr} {h : AH} {Q : Value → AH → Prop} {x y : Operand} {n sz : Nat} : WX S (.idxn n sz x y) f h Q = yWV (idxnV n sz (ev f x) (ev f y)) (fun v => Q v h) .mk := WX_idxn
theorem yWX_slc {S : XS} {f : Fr} {h : AH} {Q : Value → AH → Prop} {x : Operand} {sz : Nat} {lo hi : Option Operand} : WX S (.slc sz x lo hi) f h Q = yWV (slcV sz (ev f x) (omapF f lo) (omapF f hi)) (fun v => Q v h) .mk := WX_slc
theorem yWX_cap {S : XS} {f : Fr} {h : AH} {Q : Value → AH → Prop} {x : Operand} : WX S (.cap x) f h Q = yWV (capV (ev f x)) (fun v => Q v h) .mk := WX_cap
theorem yWX_isnil {S : XS} {f : Fr} {h : AH} {Q : Value → AH → Prop} {x : Operand} {neg : Bool} : WX S (.isnil neg x) f h Q = yWV (isnilV neg (ev f x)) (fun v => Q v h) .mk := WX_isnil
theorem yWX_eqb {S : XS} {f : Fr} {h : AH} {Q : Value → AH → Prop} {x y : Operand} {neg : Bool} : WX S (.eqb neg x y) f h Q = yWV (eqbV neg (ev f x) (ev f y)) (fun v => Q v h) .mk := WX_eqb
theorem yWX_eqa {S : XS} {f : Fr} {h : AH} {Q : Value → AH → Prop} {x y : Operand} {neg : Bool} {n : Nat} : WX S (.eqa neg n x y) f h Q = yWV (eqaV neg n (ev f x) (ev f y)) (fun v => Q v h) .mk := WX_eqa
theorem yWX_mks {S : XS} {f : Fr} {h : AH} {Q : Value → AH → Prop} {x : Operand} {e : TypeId} {sz bytes : Nat} {z : List Value} : WX S (.mks e sz bytes z x) f h Q = yOQ (mksV e sz bytes z (ev f x) h) Q .mk := WX_mks
theorem yWX_app {S : XS} {f : Fr} {h : AH} {Q : Value → AH → Prop} {x y : Operand} {e : TypeId} {sz bytes : Nat} : WX S (.app e sz bytes x y) f h Q = yOQ (appV e sz bytes (ev f x) (ev f y) h) Q .mk := WX_app
theorem yWX_appz {S : XS} {f : Fr} {h : AH} {Q : Value → AH → Prop} {x y : Operand} {e : TypeId} {sz bytes : Nat} : WX S (.appz e sz bytes x y) f h Q = yOQ (appzV e sz bytes (ev f x) (ev f y) h) Q .mk := WX_appz
theorem yWX_mkf {S : XS} {f : Fr} {h : AH} {Q : Value → AH → Prop} {g : FuncId} {l : List Operand} : WX S (.mkf g l) f h Q = yLQ (l.map (ev f)) (fun c => Q (.func (.func g) #[] c.toArray) h) .mk := WX_mkf
theorem yWX_build {S : XS} {f : Fr} {h : AH} {Q : Value → AH → Prop} {z : List Value} {l : List (Nat × Nat × Operand)} : WX S (.build z l) f h Q = yVQ (fillL z (l.map fun p => (p.1, p.2.1, ev f p.2.2))) (fun c => c.all isOne = true ∧ Q (.agg c.toArray) h) .mk := WX_build
theorem yWX_bslice {S : XS} {f : Fr} {h : AH} {Q : Value → AH → Prop} {e : TypeId} {sz n : Nat} {z : List Value} {l : List (Nat × Nat × Operand)} : WX S (.bslice e sz n z l) f h Q = yVQ (fillL (zrep n z) (l.map fun p => (p.1, p.2.1, ev f p.2.2))) (fun c => c.all isOne = true ∧ Q (.slice (some ⟨h.length, 0, none⟩) n sz) (h.new ⟨c, e, false, true⟩)) .mk := WX_bslice
theorem yWX_callf {S : XS} {f : Fr} {h : AH} {Q : Value → AH → Prop} {g : FuncId} {args : List Operand} : WX S (.call (.func g) args) f h Q = yWF S g (args.map (ev f)) h Q .mk .mk := WX_callf
theorem yWX_calls {S : XS} {f : Fr} {h : AH} {Q : Value → AH → Prop} {fo : Operand} {args : List Operand} : WX S (.call fo args) f h Q = yWK S (ev f fo) (args.map (ev f)) h Q .mk .mk := WX_calls
theorem yWO_guard {S : XS} {d : Option Nat} {o : XOp} {s : Nat} {b q : Bool} {rest : List XI} {f : Fr} {h : AH} {Q : Fr → AH → Prop} : WO S (⟨d, o, some (s, b), q⟩ :: rest) f h Q = yWG S (f s) b ⟨d, o, none, q⟩ rest f h Q .mk .mk .mk .mk .mk := WO_guard
theorem yWC_cond {S : XS} {c : Operand} {a b : IR} {f : Fr} {h : AH} {Q : XE → Fr → AH → Prop} : WC S (.cond c a b) f h Q = yIfW (ev f c) (WC S a f h Q) (WC S b f h Q) .mk .mk := WC_cond
theorem yRetQ_n {rs : List XRes} {f : Fr} {h : AH} {R : Value → AH → Prop} : RetQ rs R .normal f h = yOQ ((xres f h rs).map (·, h)) R .mk := rfl
theorem yRetQ_r {rs : List XRes} {f : Fr} {h : AH} {R : Value → AH → Prop} : RetQ rs R .ret f h = yOQ ((xres f h rs).map (·, h)) R .mk := rfl
theorem yfill_nil {z : List Value} : fillL z [] = some z := rfl
theorem yfill_cons {z : List Value} {off n : Nat} {x : Value} {rest : List (Nat × Nat × Value)} : fillL z ((off, n, x) :: rest) = if (cellsL x).length = n ∧ off + n ≤ z.length then fillL (splice z off (cellsL x)) rest else none := rfl
theorem yzrep_0 {z : List Value} : zrep 0 z = [] := by simp [zrep]
theorem yzrep_1 {z : List Value} : zrep 1 z = z := by simp [zrep]
theorem yzrep_2 {z : List Value} : zrep 2 z = z ++ z := by simp [zrep]
theorem yzrep_3 {z : List Value} : zrep 3 z = z ++ z ++ z := by simp [zrep]
theorem yzrep_4 {z : List Value} : zrep 4 z = z ++ z ++ z ++ z := by simp [zrep]
theorem yzrep_5 {z : List Value} : zrep 5 z = z ++ z ++ z ++ z ++ z := by simp [zrep]
theorem yzrep_6 {z : List Value} : zrep 6 z = z ++ z ++ z ++ z ++ z ++ z := by simp [zrep]
theorem yzrep_7 {z : List Value} : zrep 7 z = z ++ z ++ z ++ z ++ z ++ z ++ z := by simp [zrep]
theorem yzrep_8 {z : List Value} : zrep 8 z = z ++ z ++ z ++ z ++ z ++ z ++ z ++ z := by simp [zrep]
theorem yzrep_9 {z : List Value} : zrep 9 z = z ++ z ++ z ++ z ++ z ++ z ++ z ++ z ++ z := by simp [zrep]
theorem yWF_forth {S : XS} {g : FuncId} {args : List Value} {h : AH} {Q : Value → AH → Prop} : WF S g args h Q = yWF S g args h Q .mk .mk := rfl
theorem yWK_forth {S : XS} {v : Value} {args : List Value} {h : AH} {Q : Value → AH → Prop} : WK S v args h Q = yWK S v args h Q .mk .mk := rfl
theorem yWG_forth {S : XS} {v : Value} {b : Bool} {i : XI} {rest : List XI} {f : Fr} {h : AH} {Q : Fr → AH → Prop} : WG S v b i rest f h Q = yWG S v b i rest f h Q .mk .mk .mk .mk .mk := rfl
def ypre := And.intro @WC_skip (And.intro @WC_exit (And.intro @WC_ret (And.intro @WC_reg (And.intro @WC_seq (And.intro @yWC_cond (And.intro @WC_blk (And.intro @WO_free (And.intro @WO_calm (And.intro @yWO_guard (And.intro @yWX_mv (And.intro @yWX_pick (And.intro @WX_alloc (And.intro @yWX_box (And.intro @yWX_boxn (And.intro @yWX_load1 (And.intro @yWX_loadn (And.intro @yWX_store (And.intro @yWX_bin (And.intro @yWX_un (And.intro @yWX_conv (And.intro @yWX_fadr (And.intro @yWX_fld1 (And.intro @yWX_ext (And.intro @yWX_len (And.intro @yWX_cap (And.intro @yWX_ixa (And.intro @yWX_idx1 (And.intro @yWX_idxn (And.intro @yWX_slc (And.intro @yWX_cap (And.intro @yWX_isnil (And.intro @yWX_ixs (And.intro @yWX_eqb (And.intro @yWX_eqa (And.intro @yWX_mks (And.intro @yWX_app (And.intro @yWX_appz (And.intro @yWX_mkz (And.intro @yWX_mkf (And.intro @yWX_build (And.intro @yWX_bslice (And.intro @yWX_callf (And.intro @yWX_calls (And.intro @ev_tmp (And.intro @ev_const (And.intro @ev_func (And.intro @updo_some (And.intro @updo_none (And.intro @upd_apply (And.intro @SeqQ_n (And.intro @SeqQ_e (And.intro @SeqQ_r (And.intro @BlkQ_n (And.intro @BlkQ_e (And.intro @BlkQ_r (And.intro @RegQ_eq (And.intro @yRetQ_n (And.intro @yRetQ_r (And.intro @InvQ_e (And.intro @InvQ_r (And.intro @LoopQ_e (And.intro @LoopQ_r (And.intro @yQV_forth (And.intro @yWV_forth (And.intro @yHQ_forth (And.intro @yPQ_forth (And.intro @yLQ_forth (And.intro @yVQ_forth (And.intro @yOQ_forth (And.intro @yIfW_forth (And.intro @yWF_forth (And.intro @yWK_forth (@yWG_forth)))))))))))))))))))))))))))))))))))))))))))))))))))))))))))))))))))))))))
def ypost := And.intro @WO_nil (And.intro @yWG_tt (And.intro @yWG_ff (And.intro @yWG_tf (And.intro @yWG_un (And.intro @yWG_ft (And.intro @yQV_eq (And.intro @yWV_some (And.intro @yOQ_some (And.intro @yWK_func (And.intro @yHQ_some (And.intro @yPQ_ptr (And.intro @yLQ_eq (And.intro @yVQ_some (And.intro @yIfW_t (And.intro @yIfW_f (And.intro @pickV_t (And.intro @pickV_f (And.intro @bin_add (And.intro @bin_sub (And.intro @bin_mul (And.intro @bin_eql (And.intro @bin_neq (And.intro @bin_lss (And.intro @bin_leq (And.intro @bin_gtr (And.intro @bin_geq (And.intro @un_not (And.intro @un_minus (And.intro @lenV_slice (And.intro @convV_int (And.intro @fstV_agg (And.intro @extV_tuple (And.intro @eqa3 (And.intro @eqbV_b (And.intro @cellsL_agg (And.intro @cellsL_int (And.intro @cellsL_bool (And.intro @cellsL_slice (And.intro @cellsL_ptr (And.intro @cellsL_func (And.intro @mksV_int (And.intro @yOQ_ite (And.intro @yWV_ite (And.intro @rd1_new_same (And.intro @rd1_new_lt (And.intro @rdn_new_lt (And.intro @get_new_lt (And.intro @wr_new_lt (And.intro @yHQ_ite (And.intro @map_ite_v (And.intro @rd1_put_same (And.intro @rdn_put_same (And.intro @rd1_put_ne (And.intro @rdn_put_ne (And.intro @wr_put_same (And.intro @wr_put_ne (And.intro @xres_tmp (And.intro @xres_tmp2 (And.intro @xres_cell (And.intro @xres_cells (And.intro @xres_2 (And.intro @tup2_some (And.intro @rd1V_ptr (And.intro @rdnV_ptr (And.intro @xres1_tmp (And.intro @xres1_cell (And.intro @xres1_cells (And.intro @args_nil (And.intro @args_cons (And.intro @map_some_v (And.intro @bind_some_v (And.intro @map_cons_v (And.intro @map_nil_v (And.intro @lit_nil (And.intro @lit_cons (And.intro @toL (And.intro @all_cons_v (And.intro @all_nil_v (And.intro @one_int (And.intro @one_bool (And.intro @one_slice (And.intro @one_func (And.intro @one_ptr (And.intro @len_cons_v (And.intro @len_nil_v (And.intro @drop_zero_v (And.intro @drop_cons_v (And.intro @take_zero_v (And.intro @take_nil_v (And.intro @take_cons_v (And.intro @app_nil_v (And.intro @app_cons_v (And.intro @get_new_same (And.intro @Bool.and_true (And.intro @Bool.true_and (And.intro @Bool.not_true (And.intro @Bool.not_false (And.intro @true_and (And.intro @and_true (And.intro @and_self (And.intro @decide_true (And.intro @decide_false (And.intro @yfill_nil (And.intro @yfill_cons (And.intro @yzrep_0 (And.intro @yzrep_1 (And.intro @yzrep_2 (And.intro @yzrep_3 (And.intro @yzrep_4 (And.intro @yzrep_5 (And.intro @yzrep_6 (And.intro @yzrep_7 (And.intro @yzrep_8 (@yzrep_9))))))))))))))))))))))))))))))))))))))))))))))))))))))))))))))))))))))))))))))))))))))))))))))))))))))))))))))))))
def yback := And.intro @yQV_back (And.intro @yWV_back (And.intro @yHQ_back (And.intro @yPQ_back (And.intro @yLQ_back (And.intro @yVQ_back (And.intro @yOQ_back (And.intro @yIfW_back (And.intro @yWF_back (And.intro @yWK_back (@yWG_back))))))))))
def ynew := And.intro @wr_new_same (And.intro @rdn_new_same (@splice_cons))
end Go.Proofs.Ytilpnbejpndgpaa.X

/- Sets of rows as whole numbers of 32 bits; their counts. -/
set_option linter.unusedVariables false
set_option linter.unusedSimpArgs false
set_option maxRecDepth 20000
set_option maxHeartbeats 4000000
namespace Go.Proofs.Ytilpnbejpndgpaa.X
open Go Go.RowKit

/-- The set of the rows ahead of R with a mark. -/
def bs : Nat → (Nat → Bool) → Nat
  | 0, _ => 0
  | R + 1, f => bs R f + (if f R = true then 2 ^ R else 0)
theorem bs_lt {f : Nat → Bool} : ∀ {R : Nat}, bs R f < 2 ^ R
  | 0 => by simp [bs]
  | R + 1 => by
    have := bs_lt (f := f) (R := R)
    unfold bs
    rw [Nat.pow_succ]
    split <;> omega
theorem bs_bit {f : Nat → Bool} : ∀ {R k : Nat}, (bs R f).testBit k = (decide (k < R) && f k)
  | 0, k => by simp [bs]
  | R + 1, k => by
    have ih := bs_bit (f := f) (R := R) (k := k)
    have lt := bs_lt (f := f) (R := R)
    unfold bs
    by_cases hf : f R = true
    · rw [if_pos hf]
      rw [Nat.add_comm]
      by_cases h1 : k < R
      · rw [Nat.testBit_two_pow_add_gt h1, ih, decide_eq_true h1, decide_eq_true (show k < R + 1 by omega)]
      · by_cases h2 : k = R
        · subst h2
          rw [Nat.testBit_two_pow_add_eq, ih, hf]
          simp
        · rw [Nat.testBit_lt_two_pow, decide_eq_false (by omega), Bool.false_and]
          have : 2 ^ (R + 1) ≤ 2 ^ k := Nat.pow_le_pow_right (by omega) (by omega)
          rw [Nat.pow_succ] at this
          omega
    · rw [if_neg hf, Nat.add_zero, ih]
      by_cases h2 : k = R
      · subst h2
        simp [hf]
      · by_cases h1 : k < R
        · rw [decide_eq_true h1, decide_eq_true (show k < R + 1 by omega)]
        · rw [decide_eq_false h1, decide_eq_false (by omega)]
theorem bs_of {n R : Nat} {f : Nat → Bool} (h : ∀ k, n.testBit k = (decide (k < R) && f k)) : n = bs R f := Nat.eq_of_testBit_eq fun k => by rw [h, bs_bit]
theorem bs_congr {R : Nat} {f g : Nat → Bool} (h : ∀ k, k < R → f k = g k) : bs R f = bs R g := bs_of fun k => by
  rw [bs_bit]
  by_cases hk : k < R
  · rw [h k hk]
  · rw [decide_eq_false hk, Bool.false_and, Bool.false_and]
theorem bs_32 {R : Nat} {f : Nat → Bool} (hR : R ≤ 32) : bs R f < 4294967296 := by
  have := bs_lt (R := R) (f := f)
  have h2 : 2 ^ R ≤ 2 ^ 32 := Nat.pow_le_pow_right (by omega) hR
  have : (2 : Nat) ^ 32 = 4294967296 := by decide
  omega
def U32 (n : Nat) : Value := .int .u32 (n : Int)
theorem wrapU {n : Nat} (h : n < 4294967296) : IntKind.u32.wrap (n : Int) = n := by
  simp only [IntKind.wrap, IntKind.signed, IntKind.bits]
  have e : (n : Int) % 4294967296 = n := Int.emod_eq_of_lt (by omega) (by omega)
  simpa using e
theorem ofInt_nat {n : Nat} : BitVec.ofInt 32 (n : Int) = BitVec.ofNat 32 n := by simp
section
variable {R : Nat} {f g : Nat → Bool}
theorem bv_bit {n k : Nat} (h : n < 4294967296) : (BitVec.ofNat 32 n).getLsbD k = n.testBit k := by
  rw [BitVec.getLsbD_ofNat]
  by_cases hk : k < 32
  · simp [hk]
  · rw [decide_eq_false hk, Bool.false_and, Nat.testBit_lt_two_pow]
    have : 2 ^ 32 ≤ 2 ^ k := Nat.pow_le_pow_right (by omega) (by omega)
    omega
theorem bin_and (hR : R ≤ 32) : xbin .and (U32 (bs R f)) (U32 (bs R g)) = some (U32 (bs R fun k => f k && g k)) := by
  have e : (BitVec.ofInt 32 ((bs R f : Nat) : Int) &&& BitVec.ofInt 32 ((bs R g : Nat) : Int)).toNat = bs R fun k => f k && g k := bs_of fun k => by
    rw [BitVec.testBit_toNat, BitVec.getLsbD_and, ofInt_nat, ofInt_nat, bv_bit (bs_32 hR), bv_bit (bs_32 hR), bs_bit, bs_bit]
    cases decide (k < R) <;> simp
  show (if IntKind.u32 = IntKind.u32 then some (Value.int .u32 (IntKind.u32.wrap ((BitVec.ofInt 32 ((bs R f : Nat) : Int) &&& BitVec.ofInt 32 ((bs R g : Nat) : Int)).toNat : Int))) else none) = _
  rw [if_pos rfl, e, wrapU (bs_32 hR)]
  rfl
theorem bin_or (hR : R ≤ 32) : xbin .or (U32 (bs R f)) (U32 (bs R g)) = some (U32 (bs R fun k => f k || g k)) := by
  have e : (BitVec.ofInt 32 ((bs R f : Nat) : Int) ||| BitVec.ofInt 32 ((bs R g : Nat) : Int)).toNat = bs R fun k => f k || g k := bs_of fun k => by
    rw [BitVec.testBit_toNat, BitVec.getLsbD_or, ofInt_nat, ofInt_nat, bv_bit (bs_32 hR), bv_bit (bs_32 hR), bs_bit, bs_bit]
    cases decide (k < R) <;> simp
  show (if IntKind.u32 = IntKind.u32 then some (Value.int .u32 (IntKind.u32.wrap ((BitVec.ofInt 32 ((bs R f : Nat) : Int) ||| BitVec.ofInt 32 ((bs R g : Nat) : Int)).toNat : Int))) else none) = _
  rw [if_pos rfl, e, wrapU (bs_32 hR)]
  rfl
theorem bin_andNot (hR : R ≤ 32) : xbin .andNot (U32 (bs R f)) (U32 (bs R g)) = some (U32 (bs R fun k => f k && !g k)) := by
  have e : (BitVec.ofInt 32 ((bs R f : Nat) : Int) &&& ~~~ BitVec.ofInt 32 ((bs R g : Nat) : Int)).toNat = bs R fun k => f k && !g k := bs_of fun k => by
    rw [BitVec.testBit_toNat, BitVec.getLsbD_and, BitVec.getLsbD_not, ofInt_nat, ofInt_nat, bv_bit (bs_32 hR), bv_bit (bs_32 hR), bs_bit, bs_bit]
    by_cases hk : k < R
    · rw [decide_eq_true hk, decide_eq_true (show k < 32 by omega)]
      simp
    · rw [decide_eq_false hk]
      simp
  show (if IntKind.u32 = IntKind.u32 then some (Value.int .u32 (IntKind.u32.wrap ((BitVec.ofInt 32 ((bs R f : Nat) : Int) &&& ~~~ BitVec.ofInt 32 ((bs R g : Nat) : Int)).toNat : Int))) else none) = _
  rw [if_pos rfl, e, wrapU (bs_32 hR)]
  rfl
theorem bin_shl {r : Nat} (hr : r < R) (hR : R ≤ 32) : xbin .shl (.int .u32 1) (I64 r) = some (U32 (bs R fun k => k == r)) := by
  have e : (1 : Int) * 2 ^ (min ((r : Int).toNat) 32) = ((2 ^ r : Nat) : Int) := by
    rw [Int.toNat_natCast, Nat.min_eq_left (by omega), Int.one_mul]
    simp
  have e2 : 2 ^ r = bs R fun k => k == r := bs_of fun k => by
    rw [Nat.testBit_two_pow]
    by_cases h : r = k
    · subst h
      simp [hr]
    · rw [decide_eq_false h]
      have : (k == r) = false := by simpa using fun e => h e.symm
      rw [this, Bool.and_false]
  show (if (0 : Int) ≤ (r : Int) then some (Value.int .u32 (IntKind.u32.wrap ((1 : Int) * 2 ^ (min ((r : Int).toNat) 32)))) else none) = _
  rw [if_pos (by omega), e, e2, wrapU (bs_32 hR)]
  rfl
/-- One row's mark out of a set. -/
theorem bin_pick {r : Nat} (hR : R ≤ 32) (hr : r < R) : xbin .shr (U32 (bs R f)) (I64 r) = some (U32 (bs R f >>> r)) ∧ xbin .and (U32 (bs R f >>> r)) (.int .u32 1) = some (.int .u32 (if f r = true then 1 else 0)) := by
  have h32 := bs_32 (f := f) hR
  have hs : bs R f >>> r ≤ bs R f := Nat.shiftRight_le _ _
  constructor
  · show (if (0 : Int) ≤ (r : Int) then some (Value.int .u32 (((bs R f : Nat) : Int).fdiv (2 ^ (min ((r : Int).toNat) 32)))) else none) = _
    rw [if_pos (by omega), Int.toNat_natCast, Nat.min_eq_left (by omega)]
    unfold U32
    rw [Nat.shiftRight_eq_div_pow]
    have : ((bs R f : Nat) : Int).fdiv (2 ^ r) = ((bs R f / 2 ^ r : Nat) : Int) := by
      rw [Int.fdiv_eq_ediv_of_nonneg _ (by exact_mod_cast Nat.zero_le _)]
      simp
    rw [this]
  · have e : (BitVec.ofInt 32 ((bs R f >>> r : Nat) : Int) &&& BitVec.ofInt 32 1).toNat = if f r = true then 1 else 0 := by
      have e1 : BitVec.ofInt 32 1 = BitVec.ofNat 32 1 := rfl
      refine Nat.eq_of_testBit_eq fun k => ?_
      rw [BitVec.testBit_toNat, BitVec.getLsbD_and, ofInt_nat, e1, bv_bit (by omega), bv_bit (by omega), Nat.testBit_shiftRight, bs_bit]
      have t1 : Nat.testBit 1 k = decide (k = 0) := by
        rw [show (1 : Nat) = 2 ^ 0 from rfl, Nat.testBit_two_pow]
        by_cases hk : k = 0
        · subst hk; rfl
        · rw [decide_eq_false hk, decide_eq_false (fun e => hk e.symm)]
      rw [t1]
      by_cases hk : k = 0
      · subst hk
        rw [Nat.add_zero, decide_eq_true hr]
        cases f r <;> simp
      · rw [decide_eq_false hk, Bool.and_false]
        split
        · rw [t1, decide_eq_false hk]
        · simp
    show (if IntKind.u32 = IntKind.u32 then some (Value.int .u32 (IntKind.u32.wrap ((BitVec.ofInt 32 ((bs R f >>> r : Nat) : Int) &&& BitVec.ofInt 32 1).toNat : Int))) else none) = _
    rw [if_pos rfl, e]
    cases f r <;> rfl
end

/-! ### Counts -/
def cntB (f : Nat → Bool) : Nat → Nat
  | 0 => 0
  | R + 1 => cntB f R + (if f R = true then 1 else 0)
theorem cntB_congr {f g : Nat → Bool} : ∀ {R : Nat}, (∀ k, k < R → f k = g k) → cntB f R = cntB g R
  | 0, _ => rfl
  | R + 1, h => by
    unfold cntB
    rw [cntB_congr (R := R) fun k hk => h k (by omega), h R (by omega)]
theorem cntB_le {f : Nat → Bool} : ∀ {R : Nat}, cntB f R ≤ R
  | 0 => Nat.le_refl _
  | R + 1 => by
    have := cntB_le (f := f) (R := R)
    unfold cntB
    split <;> omega
theorem cntB_mono {f g : Nat → Bool} : ∀ {R : Nat}, (∀ k, k < R → f k = true → g k = true) → cntB f R ≤ cntB g R
  | 0, _ => Nat.le_refl _
  | R + 1, h => by
    have ih := cntB_mono (R := R) fun k hk => h k (by omega)
    unfold cntB
    by_cases hf : f R = true
    · rw [if_pos hf, if_pos (h R (by omega) hf)]
      omega
    · rw [if_neg hf]
      omega
theorem cntB_add {f : Nat → Bool} {m : Nat} : ∀ {n : Nat}, cntB f (m + n) = cntB f m + cntB (fun k => f (m + k)) n
  | 0 => rfl
  | n + 1 => by
    show cntB f (m + n) + (if f (m + n) = true then 1 else 0) = cntB f m + (cntB (fun k => f (m + k)) n + (if f (m + n) = true then 1 else 0))
    rw [cntB_add (n := n)]
    omega
theorem cntB_more {f : Nat → Bool} {R : Nat} : ∀ {n : Nat}, cntB (fun k => decide (k < R) && f k) (R + n) = cntB f R
  | 0 => cntB_congr fun k hk => by rw [decide_eq_true (show k < R from hk), Bool.true_and]
  | n + 1 => by
    show cntB _ (R + n) + (if (decide (R + n < R) && f (R + n)) = true then 1 else 0) = _
    rw [cntB_more (n := n), decide_eq_false (by omega), Bool.false_and]
    rfl
/-- How many bits of the lowest w are set. -/
def pop (w n : Nat) : Nat := cntB n.testBit w
theorem pop_bs {R : Nat} {f : Nat → Bool} (hR : R ≤ 32) : pop 32 (bs R f) = cntB f R := by
  unfold pop
  rw [cntB_congr (g := fun k => decide (k < R) && f k) fun k _ => bs_bit, show 32 = R + (32 - R) by omega, cntB_more]
theorem pop_split {n : Nat} : pop 32 n = pop 8 (n / 2 ^ 24 % 256) + pop 8 (n / 2 ^ 16 % 256) + pop 8 (n / 2 ^ 8 % 256) + pop 8 (n % 256) := by
  have e : ∀ s, pop 8 (n / 2 ^ s % 256) = cntB (fun k => n.testBit (s + k)) 8 := fun s => cntB_congr fun k hk => by
    rw [show (256 : Nat) = 2 ^ 8 from rfl, Nat.testBit_mod_two_pow, decide_eq_true hk, Bool.true_and, ← Nat.shiftRight_eq_div_pow, Nat.testBit_shiftRight]
  have e0 := e 0
  rw [Nat.pow_zero, Nat.div_one] at e0
  rw [e 24, e 16, e 8, e0]
  unfold pop
  rw [show 32 = 24 + 8 from rfl, cntB_add, show 24 = 16 + 8 from rfl, cntB_add, show 16 = 8 + 8 from rfl, cntB_add, cntB_congr (f := fun k => n.testBit (0 + k)) (g := n.testBit) fun k _ => by rw [Nat.zero_add]]
  omega
def tblP : List Nat := (List.range 256).map (pop 8)
theorem tblP_at {b : Nat} (h : b < 256) : tblP[b]? = some (pop 8 b) := by simp [tblP, h]
theorem tblP_eq : [0, 1, 1, 2, 1, 2, 2, 3, 1, 2, 2, 3, 2, 3, 3, 4, 1, 2, 2, 3, 2, 3, 3, 4, 2, 3, 3, 4, 3, 4, 4, 5, 1, 2, 2, 3, 2, 3, 3, 4, 2, 3, 3, 4, 3, 4, 4, 5, 2, 3, 3, 4, 3, 4, 4, 5, 3, 4, 4, 5, 4, 5, 5, 6, 1, 2, 2, 3, 2, 3, 3, 4, 2, 3, 3, 4, 3, 4, 4, 5, 2, 3, 3, 4, 3, 4, 4, 5, 3, 4, 4, 5, 4, 5, 5, 6, 2, 3, 3, 4, 3, 4, 4, 5, 3, 4, 4, 5, 4, 5, 5, 6, 3, 4, 4, 5, 4, 5, 5, 6, 4, 5, 5, 6, 5, 6, 6, 7, 1, 2, 2, 3, 2, 3, 3, 4, 2, 3, 3, 4, 3, 4, 4, 5, 2, 3, 3, 4, 3, 4, 4, 5, 3, 4, 4, 5, 4, 5, 5, 6, 2, 3, 3, 4, 3, 4, 4, 5, 3, 4, 4, 5, 4, 5, 5, 6, 3, 4, 4, 5, 4, 5, 5, 6, 4, 5, 5, 6, 5, 6, 6, 7, 2, 3, 3, 4, 3, 4, 4, 5, 3, 4, 4, 5, 4, 5, 5, 6, 3, 4, 4, 5, 4, 5, 5, 6, 4, 5, 5, 6, 5, 6, 6, 7, 3, 4, 4, 5, 4, 5, 5, 6, 4, 5, 5, 6, 5, 6, 6, 7, 4, 5, 5, 6, 5, 6, 6, 7, 5, 6, 6, 7, 6, 7, 7, 8] = tblP := by decide +kernel
def idxsV (l : List Nat) (x : Value) : Option Value := match x with
  | .int _ j => if 0 ≤ j then (l[j.toNat]?).map fun b => .int .u8 b else none
  | _ => none
theorem yWX_idxs {S : XS} {f : Fr} {h : AH} {Q : Value → AH → Prop} {l : List Nat} {x : Operand} : WX S (.idxs l x) f h Q = yWV (idxsV l (ev f x)) (fun v => Q v h) .mk := by
  refine WX_of (fun _ => rfl) ?_
  simp only [xop]
  generalize ev f x = vx
  cases vx <;> try rfl
  rename_i k j
  simp only [idxsV]
  split
  · cases l[j.toNat]? <;> rfl
  · rfl
theorem pop_le {w n : Nat} : pop w n ≤ w := cntB_le
theorem l_OnesCount {n : Nat} {h : AH} {Q : Value → AH → Prop} (hn : n < 4294967296) (hQ : Q (I64 (pop 32 n)) h) : WF S 149 [U32 n] h Q := by
  refine WF_fn (fn := c149) rfl rfl ?_
  unfold c149
  simp only [tblP_eq]
  have sh : ∀ s : Nat, s < 32 → xbin .shr (U32 n) (.int .u64 (s : Int)) = some (U32 (n / 2 ^ s)) := fun s hs => by
    show (if (0 : Int) ≤ (s : Int) then some (Value.int .u32 ((n : Int).fdiv (2 ^ (min ((s : Int).toNat) 32)))) else none) = _
    rw [if_pos (by omega), Int.toNat_natCast, Nat.min_eq_left (by omega)]
    unfold U32
    have : (n : Int).fdiv (2 ^ s) = ((n / 2 ^ s : Nat) : Int) := by
      rw [Int.fdiv_eq_ediv_of_nonneg _ (by exact_mod_cast Nat.zero_le _)]
      simp
    rw [this]
  have an : ∀ m : Nat, m < 4294967296 → xbin .and (U32 m) (.int .u32 255) = some (U32 (m % 256)) := fun m hm => by
    have e : (BitVec.ofInt 32 (m : Int) &&& BitVec.ofInt 32 255).toNat = m % 256 := by
      have e1 : BitVec.ofInt 32 255 = BitVec.ofNat 32 255 := rfl
      refine Nat.eq_of_testBit_eq fun k => ?_
      rw [BitVec.testBit_toNat, BitVec.getLsbD_and, ofInt_nat, e1, bv_bit hm, bv_bit (by omega), show (256 : Nat) = 2 ^ 8 from rfl, Nat.testBit_mod_two_pow, show (255 : Nat) = 2 ^ 8 - 1 from rfl, Nat.testBit_two_pow_sub_one, Bool.and_comm]
    show (if IntKind.u32 = IntKind.u32 then some (Value.int .u32 (IntKind.u32.wrap ((BitVec.ofInt 32 (m : Int) &&& BitVec.ofInt 32 255).toNat : Int))) else none) = _
    rw [if_pos rfl, e, wrapU (by omega)]
    rfl
  have ix : ∀ m : Nat, m < 256 → idxsV tblP (U32 m) = some (.int .u8 ((pop 8 m : Nat) : Int)) := fun m hm => by
    show (if (0 : Int) ≤ (m : Int) then (tblP[(m : Int).toNat]?).map fun b => Value.int .u8 (b : Int) else none) = _
    rw [if_pos (by omega), Int.toNat_natCast, tblP_at hm]
    rfl
  have d24 : n / 2 ^ 24 < 256 := by
    have : (2 : Nat) ^ 24 = 16777216 := by decide
    omega
  have d16 : n / 2 ^ 16 < 4294967296 := Nat.lt_of_le_of_lt (Nat.div_le_self _ _) hn
  have d8 : n / 2 ^ 8 < 4294967296 := Nat.lt_of_le_of_lt (Nat.div_le_self _ _) hn
  have s24 : xbin .shr (U32 n) (.int .u64 24) = some (U32 (n / 2 ^ 24)) := sh 24 (by omega)
  have s16 : xbin .shr (U32 n) (.int .u64 16) = some (U32 (n / 2 ^ 16)) := sh 16 (by omega)
  have s8 : xbin .shr (U32 n) (.int .u64 8) = some (U32 (n / 2 ^ 8)) := sh 8 (by omega)
  have a16 := an _ d16
  have a8 := an _ d8
  have a0 := an _ hn
  have i24 := ix _ d24
  have i16 := ix (n / 2 ^ 16 % 256) (Nat.mod_lt _ (by omega))
  have i8 := ix (n / 2 ^ 8 % 256) (Nat.mod_lt _ (by omega))
  have i0 := ix (n % 256) (Nat.mod_lt _ (by omega))
  rw [pop_split, Nat.mod_eq_of_lt d24] at hQ
  have l1 := pop_le (w := 8) (n := n / 2 ^ 24)
  have l2 := pop_le (w := 8) (n := n / 2 ^ 16 % 256)
  have l3 := pop_le (w := 8) (n := n / 2 ^ 8 % 256)
  have l4 := pop_le (w := 8) (n := n % 256)
  clear sh an ix
  generalize n / 2 ^ 24 = n24 at *
  generalize n / 2 ^ 16 = n16 at *
  generalize n / 2 ^ 8 = n8 at *
  generalize pop 8 n24 = q1 at *
  generalize pop 8 (n16 % 256) = q2 at *
  generalize pop 8 (n8 % 256) = q3 at *
  generalize pop 8 (n % 256) = q4 at *
  have w8 : ∀ a : Int, 0 ≤ a → a ≤ 255 → IntKind.u8.wrap a = a := fun a h1 h2 => by
    simp only [IntKind.wrap, IntKind.signed, IntKind.bits]
    have e : a % 256 = a := Int.emod_eq_of_lt (by omega) (by omega)
    simpa using e
  have b1 := w8 ((q1 : Int) + q2) (by omega) (by omega)
  have b2 := w8 ((q1 : Int) + q2 + q3) (by omega) (by omega)
  have b3 := w8 ((q1 : Int) + q2 + q3 + q4) (by omega) (by omega)
  rw [show ((q1 + q2 + q3 + q4 : Nat) : Int) = (q1 : Int) + q2 + q3 + q4 by omega] at hQ
  ((try simp (maxSteps := 3000000) (dsimp := false) (disch := first | omega | (simp only [len_new, len_put, len_kill]; omega)) only [↓ypre, ypost, ↓reduceIte, Nat.reduceEqDiff, Nat.reduceAdd, Nat.reduceSub, Nat.reduceLeDiff, Nat.zero_add, Nat.sub_zero, ynew, s24, s16, s8, a16, a8, a0, i24, i16, i8, i0, b1, b2, b3, ↓yWX_idxs, wrap64_in]); try simp only [yback])
  exact hQ
end Go.Proofs.Ytilpnbejpndgpaa.X
