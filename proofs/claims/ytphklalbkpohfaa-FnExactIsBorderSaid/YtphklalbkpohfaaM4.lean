/- Texts of one claim, put together by merge.py: XS1, XS2, XS3, XS4, XS5, XA3. -/
import Derived.Test.YtphklalbkpohfaaM3
import Derived.Test.YtphklalbkpohfaaM2
/- Forms and products: copies and comparisons. -/
set_option linter.unusedVariables false
set_option linter.unusedSimpArgs false
set_option maxRecDepth 20000
set_option maxHeartbeats 4000000
namespace Go.Proofs.Ytphklalbkpohfaa.X
open Go Go.RowKit

/-- The value of so many whole numbers side by side. -/
def aggV (k : IntKind) (q : List Int) : Value := .agg (cel k q).toArray
theorem wr_all {h : AH} {z vs : List Value} {e : TypeId} {full : Bool} (hl : vs.length = z.length) : (h.new ⟨z, e, false, full⟩).wr h.length 0 vs = some (h.new ⟨vs, e, false, full⟩) := by
  rw [wr_new_same, if_pos ⟨rfl, by simp only; omega⟩, splice_eq, hl]
  simp
theorem wr_full {h : AH} {z vs : List Value} {e : TypeId} {full : Bool} {n : Nat} (hg : h.get n = some ⟨z, e, false, full⟩) (hl : vs.length = z.length) : h.wr n 0 vs = some (h.put n ⟨vs, e, false, full⟩) := by
  rw [wr_of hg, if_pos ⟨rfl, by simp only; omega⟩, splice_eq]
  simp [hl]
theorem zeros9 : ([.int .u8 0, .int .u8 0, .int .u8 0, .int .u8 0, .int .u8 0, .int .u8 0, .int .u8 0, .int .u8 0, .int .u8 0] : List Value) = cel .u8 (List.replicate 9 0) := rfl
theorem zeros27 : ([.int .u8 0, .int .u8 0, .int .u8 0, .int .u8 0, .int .u8 0, .int .u8 0, .int .u8 0, .int .u8 0, .int .u8 0, .int .u8 0, .int .u8 0, .int .u8 0, .int .u8 0, .int .u8 0, .int .u8 0, .int .u8 0, .int .u8 0, .int .u8 0, .int .u8 0, .int .u8 0, .int .u8 0, .int .u8 0, .int .u8 0, .int .u8 0, .int .u8 0, .int .u8 0, .int .u8 0] : List Value) = cel .u8 (List.replicate 27 0) := rfl

theorem l_toForm {q : List Int} {h : AH} {Q : Value → AH → Prop} (hq : q.length = 9) (hQ : ∀ h', h <+: h' → Q (aggV .u8 q) h') : WF S 119 [aggV .u8 q] h Q := by
  refine WF_fn (fn := c119) rfl rfl ?_
  unfold c119
  try simp (maxSteps := 3000000) (disch := first | omega | (simp only [len_new, len_put, len_kill]; omega)) only [↓xpre, xpost, ↓reduceIte, Nat.reduceEqDiff, Nat.reduceAdd, Nat.reduceSub, Nat.reduceLeDiff, Nat.zero_add, Nat.sub_zero, aggV, zeros9, cel_all]
  generalize hH1 : AH.new h _ = H1
  obtain ⟨hb1, p1, n1⟩ := new_facts hH1
  generalize hH2 : AH.new H1 _ = H2
  obtain ⟨hb2, p2, n2⟩ := new_facts hH2
  generalize hH3 : AH.new H2 _ = H3
  obtain ⟨hb3, p3, n3⟩ := new_facts hH3
  refine WC_loop_inv (fun m f K1 => ∃ (i : Nat), m = 9 - i ∧ i ≤ 9 ∧ f 1 = .pointer (some ⟨h.length, 0, none⟩) ∧ f 2 = .pointer (some ⟨H1.length, 0, none⟩) ∧ f 3 = .pointer (some ⟨H2.length, 0, none⟩) ∧ f 4 = I64 i ∧ (H2 <+: K1) ∧ (OwnB K1 H2.length (cel .u8 (fillN q i)) true)) ?_ (9 - 0) _ _ ⟨0, rfl, by omega, (by first | rfl | (simp [upd_apply]; done)), (by first | rfl | (simp [upd_apply]; done)), (by first | rfl | (simp [upd_apply]; done)), (by first | rfl | (simp [upd_apply]; done)), p3, ⟨_, by rw [fillN_zero, hq]; exact hb3⟩⟩
  rintro m f K1 ⟨i, rfl, hi, f1, f2, f3, f4, pp, hb⟩
  obtain ⟨e, hb⟩ := hb
  have hbq := pre_get (p2.trans pp) hb1
  have hbz := pre_get pp hb2
  have fl := fillN_len (ns := q) (i := i) (by omega)
  try simp (maxSteps := 3000000) (disch := first | omega | (simp only [len_new, len_put, len_kill]; omega)) only [↓xpre, xpost, ↓reduceIte, Nat.reduceEqDiff, Nat.reduceAdd, Nat.reduceSub, Nat.reduceLeDiff, Nat.zero_add, Nat.sub_zero, f1, f2, f3, f4, IfW_dec]
  refine ⟨fun hlt => ?_, fun hge => ?_⟩
  · have hi' : i < 9 := by omega
    have g1 := cel_get (k := .u8) (q := q) (j := i) (by omega)
    have s1 : splice (cel .u8 (fillN q i)) i [.int .u8 (q.getD i 0)] = cel .u8 (fillN q (i + 1)) := by rw [cel_set (by omega), fillN_set (by omega)]
    try simp (maxSteps := 3000000) (disch := first | omega | (simp only [len_new, len_put, len_kill]; omega)) only [↓xpre, xpost, ↓reduceIte, Nat.reduceEqDiff, Nat.reduceAdd, Nat.reduceSub, Nat.reduceLeDiff, Nat.zero_add, Nat.sub_zero, f1, f2, f3, f4, ↓WX_ixa, ixaV_ptr, Int.toNat_natCast, Nat.mul_one, rd1_of hbq, g1, wr_of hb, s1, cel_len]
    refine ⟨by omega, ?_⟩
    try simp (maxSteps := 3000000) (disch := first | omega | (simp only [len_new, len_put, len_kill]; omega)) only [↓xpre, xpost, ↓reduceIte, Nat.reduceEqDiff, Nat.reduceAdd, Nat.reduceSub, Nat.reduceLeDiff, Nat.zero_add, Nat.sub_zero, f1, f2, f3, f4, wrap64_in]
    refine InvQ_go (9 - (i + 1)) (by omega) ⟨(i + 1), rfl, by omega, (by first | rfl | exact f1 | (simp only [upd_apply]; rfl) | (show I64 _ = _; congr 1; omega)), (by first | rfl | exact f2 | (simp only [upd_apply]; rfl) | (show I64 _ = _; congr 1; omega)), (by first | rfl | exact f3 | (simp only [upd_apply]; rfl) | (show I64 _ = _; congr 1; omega)), (by first | rfl | exact f4 | (simp only [upd_apply]; rfl) | (show I64 _ = _; congr 1; omega)), (pre_put pp (by omega)), ⟨_, get_put_same (get_lt hb)⟩⟩
  · have e9 : i = 9 := by omega
    subst e9
    have fa := fillN_all (ns := q)
    rw [hq] at fa
    rw [fa] at hb
    have w1 := wr_full (vs := cel .u8 q) hbz (by rw [cel_len, cel_len, hq]; rfl)
    have tk : (cel .u8 q).take 9 = cel .u8 q := List.take_of_length_le (by rw [cel_len]; omega)
    have ltz := get_lt hbz
    try simp (maxSteps := 3000000) (disch := first | omega | (simp only [len_new, len_put, len_kill]; omega)) only [↓xpre, xpost, ↓reduceIte, Nat.reduceEqDiff, Nat.reduceAdd, Nat.reduceSub, Nat.reduceLeDiff, Nat.zero_add, Nat.sub_zero, f1, f2, f3, f4, rdn_of hb, cel_len, hq, tk, cel_all, w1]
    exact hQ _ (pre_put ((p1.trans p2).trans pp) (show h.length ≤ H1.length by omega))

theorem cel_fill {k : IntKind} {q : List Int} {i n : Nat} (h : i + n ≤ q.length) : splice (cel k (fillN q i)) i (cel k ((q.drop i).take n)) = cel k (fillN q (i + n)) := by
  have hl : ((q.drop i).take n).length = n := by simp; omega
  have ht : (q.take i).length = i := by simp; omega
  rw [cel_splice, hl]
  congr 1
  unfold fillN
  have e1 : (q.take i ++ List.replicate (q.length - i) 0).take i = q.take i := by
    rw [List.take_append_of_le_length (by omega), List.take_take, Nat.min_self]
  have e2 : (q.take i ++ List.replicate (q.length - i) 0).drop (i + n) = List.replicate (q.length - (i + n)) 0 := by
    rw [List.drop_append, List.drop_of_length_le (by omega), ht, List.nil_append, List.drop_replicate]
    congr 1
    omega
  rw [e1, e2, List.take_add]
theorem l_toProduct {q : List Int} {h : AH} {Q : Value → AH → Prop} (hq : q.length = 27) (hQ : ∀ h', h <+: h' → Q (aggV .u8 q) h') : WF S 106 [aggV .u8 q] h Q := by
  refine WF_fn (fn := c106) rfl rfl ?_
  unfold c106
  try simp (maxSteps := 3000000) (disch := first | omega | (simp only [len_new, len_put, len_kill]; omega)) only [↓xpre, xpost, ↓reduceIte, Nat.reduceEqDiff, Nat.reduceAdd, Nat.reduceSub, Nat.reduceLeDiff, Nat.zero_add, Nat.sub_zero, aggV, zeros27, cel_all]
  generalize hH1 : AH.new h _ = H1
  obtain ⟨hb1, p1, n1⟩ := new_facts hH1
  generalize hH2 : AH.new H1 _ = H2
  obtain ⟨hb2, p2, n2⟩ := new_facts hH2
  generalize hH3 : AH.new H2 _ = H3
  obtain ⟨hb3, p3, n3⟩ := new_facts hH3
  have f0 : List.replicate 27 0 = fillN q 0 := by rw [fillN_zero, hq]
  have f3 : fillN q 27 = q := by have := fillN_all (ns := q); rw [hq] at this; exact this
  have fl : ∀ i, i ≤ 27 → (fillN q i).length = 27 := fun i hi => by rw [fillN_len (by omega), hq]
  have a1 : (q.take 9).length = 9 := by simp; omega
  have a2 : ((q.drop 9).take 9).length = 9 := by simp; omega
  have a3 : ((q.drop 18).take 9).length = 9 := by simp; omega
  have s1 := cel_fill (k := .u8) (q := q) (i := 0) (n := 9) (by omega)
  have s2 := cel_fill (k := .u8) (q := q) (i := 9) (n := 9) (by omega)
  have s3 := cel_fill (k := .u8) (q := q) (i := 18) (n := 9) (by omega)
  rw [f3] at s3
  rw [List.drop_zero] at s1
  rw [f0] at hb3
  have hb1' := pre_get (p2.trans p3) hb1
  have b0 := fl 0 (by omega)
  have b9 := fl 9 (by omega)
  have b18 := fl 18 (by omega)
  try simp (maxSteps := 3000000) (disch := first | omega | (simp only [len_new, len_put, len_kill]; omega)) only [↓xpre, xpost, ↓reduceIte, Nat.reduceEqDiff, Nat.reduceAdd, Nat.reduceSub, Nat.reduceLeDiff, Nat.zero_add, Nat.sub_zero, rdn_of hb1', cel_len, hq, cel_take, cel_drop]
  refine l_toForm a1 fun H4 p4 => ?_
  have hb4 := pre_get p4 hb3
  have hq4 := pre_get p4 hb1'
  have l4 := pre_len p4
  have lt4 := get_lt hb4
  try simp (maxSteps := 3000000) (disch := first | omega | (simp only [len_new, len_put, len_kill]; omega)) only [↓xpre, xpost, ↓reduceIte, Nat.reduceEqDiff, Nat.reduceAdd, Nat.reduceSub, Nat.reduceLeDiff, Nat.zero_add, Nat.sub_zero, aggV, cel_all, cel_len, a1, wr_of hb4, s1, b0, rdn_of hq4, hq, cel_take, cel_drop]
  generalize hH5 : AH.put H4 _ _ = H5
  have hb5 : OwnB H5 H2.length (cel .u8 (fillN q 9)) true := by rw [← hH5]; exact ⟨_, get_put_same (get_lt hb4)⟩
  have hq5 : OwnB H5 h.length (cel .u8 q) true := by rw [← hH5]; exact OwnB.put_ne ⟨_, hq4⟩ (by omega)
  have hz5 : OwnB H5 H1.length (cel .u8 (List.replicate 27 0)) true := by rw [← hH5]; exact OwnB.put_ne ⟨_, pre_get (p3.trans p4) hb2⟩ (by omega)
  have p5 : h <+: H5 := by rw [← hH5]; exact pre_put (((p1.trans p2).trans p3).trans p4) (by omega)
  obtain ⟨e5, hb5⟩ := hb5
  obtain ⟨e5q, hq5⟩ := hq5
  obtain ⟨e5z, hz5⟩ := hz5
  have l5 : H5.length = H4.length := by rw [← hH5, len_put]
  clear hb1 hb2 hb3 hb1' hb4 hq4 s1 hH5
  refine l_toForm a2 fun H6 p6 => ?_
  have hb6 := pre_get p6 hb5
  have hq6 := pre_get p6 hq5
  have l6 := pre_len p6
  have lt6 := get_lt hb6
  try simp (maxSteps := 3000000) (disch := first | omega | (simp only [len_new, len_put, len_kill]; omega)) only [↓xpre, xpost, ↓reduceIte, Nat.reduceEqDiff, Nat.reduceAdd, Nat.reduceSub, Nat.reduceLeDiff, Nat.zero_add, Nat.sub_zero, aggV, cel_all, cel_len, a2, wr_of hb6, s2, b9, rdn_of hq6, hq, cel_take, cel_drop]
  generalize hH7 : AH.put H6 _ _ = H7
  have hb7 : OwnB H7 H2.length (cel .u8 (fillN q 18)) true := by rw [← hH7]; exact ⟨_, get_put_same (get_lt hb6)⟩
  have hz7 : OwnB H7 H1.length (cel .u8 (List.replicate 27 0)) true := by rw [← hH7]; exact OwnB.put_ne ⟨_, pre_get p6 hz5⟩ (by omega)
  have p7 : h <+: H7 := by rw [← hH7]; exact pre_put (p5.trans p6) (by omega)
  obtain ⟨e7, hb7⟩ := hb7
  obtain ⟨e7z, hz7⟩ := hz7
  have l7 : H7.length = H6.length := by rw [← hH7, len_put]
  clear hb5 hq5 hz5 hb6 hq6 s2 hH7
  refine l_toForm a3 fun H8 p8 => ?_
  have hb8 := pre_get p8 hb7
  have hz8 := pre_get p8 hz7
  have l8 := pre_len p8
  have tk : q.take 27 = q := List.take_of_length_le (by omega)
  have lt8 := get_lt hb8
  have lz8 := get_lt hz8
  have w1 := wr_full (vs := cel .u8 q) hz8 (by rw [cel_len, cel_len, hq]; rfl)
  try simp (maxSteps := 3000000) (disch := first | omega | (simp only [len_new, len_put, len_kill]; omega)) only [↓xpre, xpost, ↓reduceIte, Nat.reduceEqDiff, Nat.reduceAdd, Nat.reduceSub, Nat.reduceLeDiff, Nat.zero_add, Nat.sub_zero, aggV, cel_all, cel_len, a3, wr_of hb8, s3, b18, rdn_put_same, hq, cel_take, cel_drop, List.drop_zero, tk, w1]
  exact hQ _ (pre_put (pre_put (p7.trans p8) (show h.length ≤ H1.length by omega)) (show h.length ≤ H2.length by omega))
end Go.Proofs.Ytphklalbkpohfaa.X

/- Slices of products, schemes: sizes, copies, comparisons, marks. -/
set_option linter.unusedVariables false
set_option linter.unusedSimpArgs false
set_option maxRecDepth 20000
set_option maxHeartbeats 4000000
namespace Go.Proofs.Ytphklalbkpohfaa.X
open Go Go.RowKit

def Wid (w : Nat) (L : List (List Int)) : Prop := ∀ q, q ∈ L → q.length = w
theorem flat_len {w : Nat} : ∀ {L : List (List Int)}, Wid w L → L.flatten.length = L.length * w
  | [], _ => by simp
  | q :: L, h => by
    rw [List.flatten_cons, List.length_append, flat_len (fun r hr => h r (List.mem_cons_of_mem _ hr)), h q List.mem_cons_self, List.length_cons, Nat.succ_mul]
    omega
theorem flat_get {w : Nat} : ∀ {L : List (List Int)} {i : Nat}, Wid w L → i < L.length → (L.flatten.drop (i * w)).take w = L.getD i []
  | [], i, _, hi => by simp at hi
  | q :: L, 0, h, _ => by
    have hq := h q List.mem_cons_self
    rw [Nat.zero_mul, List.drop_zero, List.flatten_cons, List.take_append_of_le_length (by omega), List.take_of_length_le (by omega)]
    rfl
  | q :: L, i + 1, h, hi => by
    have hq := h q List.mem_cons_self
    have e : (q ++ L.flatten).drop w = L.flatten := by rw [← hq]; exact List.drop_left
    rw [List.flatten_cons, Nat.succ_mul, Nat.add_comm, ← List.drop_drop, e, flat_get (fun r hr => h r (List.mem_cons_of_mem _ hr)) (by simpa using hi)]
    rfl
theorem flat_set {w : Nat} {r : List Int} : ∀ {L : List (List Int)} {i : Nat}, Wid w L → i < L.length → L.flatten.take (i * w) ++ r ++ L.flatten.drop (i * w + w) = (L.set i r).flatten
  | [], i, _, hi => by simp at hi
  | q :: L, 0, h, _ => by
    have hq := h q List.mem_cons_self
    rw [Nat.zero_mul, List.take_zero, List.nil_append, Nat.zero_add, List.flatten_cons, List.drop_append_of_le_length (by omega), List.drop_of_length_le (by omega), List.nil_append]
    rfl
  | q :: L, i + 1, h, hi => by
    have hq := h q List.mem_cons_self
    have ih := flat_set (r := r) (fun r hr => h r (List.mem_cons_of_mem _ hr)) (show i < L.length by simpa using hi)
    rw [List.set_cons_succ, List.flatten_cons, List.flatten_cons, ← ih, show (i + 1) * w = q.length + i * w by rw [Nat.succ_mul, hq]; omega, List.take_append, List.drop_append]
    rw [List.take_of_length_le (l := q) (by omega), List.drop_of_length_le (l := q) (by omega), show q.length + i * w - q.length = i * w by omega, show q.length + i * w + w - q.length = i * w + w by omega]
    simp
def fillG (z : List Int) (L : List (List Int)) (i : Nat) : List (List Int) := L.take i ++ List.replicate (L.length - i) z
section
variable {z : List Int} {L : List (List Int)} {i w : Nat}
theorem fillG_len (hi : i ≤ L.length) : (fillG z L i).length = L.length := by simp [fillG]; omega
theorem fillG_zero : fillG z L 0 = List.replicate L.length z := by simp [fillG]
theorem fillG_all : fillG z L L.length = L := by simp [fillG]
theorem fillG_set (hi : i < L.length) : (fillG z L i).set i (L.getD i []) = fillG z L (i + 1) := by
  unfold fillG
  rw [List.set_append_right _ _ (by rw [List.length_take]; omega)]
  have e1 : L.length - i = (L.length - (i + 1)) + 1 := by omega
  have e2 : i - (L.take i).length = 0 := by rw [List.length_take]; exact Nat.sub_eq_zero_of_le (by omega)
  rw [e1, e2, List.replicate_succ, List.set_cons_zero, List.take_succ_eq_append_getElem hi]
  simp only [List.getD_eq_getElem?_getD, List.getElem?_eq_getElem hi, Option.getD_some, List.append_assoc, List.singleton_append]
theorem fillG_wid (hz : z.length = w) (hL : Wid w L) : Wid w (fillG z L i) := by
  intro q hq
  rcases List.mem_append.1 hq with hq | hq
  · exact hL q (List.mem_of_mem_take hq)
  · rw [(List.mem_replicate.1 hq).2, hz]
end
theorem zrep_cel {k : IntKind} {z : List Int} : ∀ n, zrep n (cel k z) = cel k (List.replicate n z).flatten
  | 0 => rfl
  | n + 1 => by rw [zrep, zrep_cel n, List.replicate_succ, List.flatten_cons, ← cel_app]
theorem wid_of {w : Nat} {L : List (List Int)} (h : ∀ i, i < L.length → (L.getD i []).length = w) : Wid w L := by
  intro q hq
  obtain ⟨i, hi, rfl⟩ := List.mem_iff_getElem.1 hq
  have := h i hi
  rw [List.getD_eq_getElem?_getD, List.getElem?_eq_getElem hi] at this
  exact this
theorem Els.widL {k : IntKind} {w : Nat} {h : AH} {v : Value} {L : List (List Int)} (e : Els k w h v L) : Wid w L := wid_of fun _ hi => e.wid hi

/-- Elements of one's own, in one block within a range. -/
def InE (k : IntKind) (w a b : Nat) (h : AH) (v : Value) (L : List (List Int)) : Prop :=
  (v = .slice none 0 0 ∧ L = []) ∨ ∃ n e full, (a ≤ n ∧ n < b) ∧ v = .slice (some ⟨n, 0, none⟩) L.length w ∧ h.get n = some ⟨cel k L.flatten, e, false, full⟩ ∧ Wid w L
section
variable {k : IntKind} {w a b c d : Nat} {h h' : AH} {v : Value} {L : List (List Int)}
theorem InE.rd (o : InE k w a b h v L) : Els k w h v L := by
  rcases o with ⟨rfl, rfl⟩ | ⟨n, e, full, h1, rfl, h2, h3⟩
  · exact .inl ⟨rfl, 0, by omega, rfl⟩
  · refine .inr ⟨n, 0, _, rfl, h2, fun i hi => ?_⟩
    have := mul_row (w := w) hi
    simp only [cel_len, flat_len h3, Nat.zero_add, cel_drop, cel_take, flat_get h3 hi]
    exact ⟨by omega, trivial⟩
theorem InE.pre (o : InE k w a b h v L) (p : h <+: h') : InE k w a b h' v L := by
  rcases o with ⟨rfl, rfl⟩ | ⟨n, e, full, h1, rfl, h2, h3⟩
  · exact .inl ⟨rfl, rfl⟩
  · exact .inr ⟨n, e, full, h1, rfl, pre_get p h2, h3⟩
theorem InE.only (o : InE k w a b h v L) (u : OnlyR c d h h') (hd : b ≤ c ∨ d ≤ a) : InE k w a b h' v L := by
  rcases o with ⟨rfl, rfl⟩ | ⟨n, e, full, h1, rfl, h2, h3⟩
  · exact .inl ⟨rfl, rfl⟩
  · exact .inr ⟨n, e, full, h1, rfl, u.get' h2 (by omega), h3⟩
end
/-- Bytes. -/
def Byt (w : Nat) (L : List (List Int)) : Prop := ∀ i, i < L.length → ∀ j, j < w → 0 ≤ (L.getD i []).getD j 0 ∧ (L.getD i []).getD j 0 ≤ 255
structure Sch where
  p : Int
  n : Int
  m : Int
  k : Int
  ps : List (List Int)
def schV (x : Sch) (v : Value) : Value := .agg #[I64 x.p, I64 x.n, I64 x.m, I64 x.k, v]
def Prods (h : AH) (v : Value) (L : List (List Int)) : Prop := Els .u8 27 h v L ∧ Byt 27 L
def InX (a b : Nat) (h : AH) (v : Value) (L : List (List Int)) : Prop := InE .u8 27 a b h v L ∧ Byt 27 L
section
variable {a b c d : Nat} {h h' : AH} {v : Value} {L : List (List Int)}
theorem Prods.pre (o : Prods h v L) (p : h <+: h') : Prods h' v L := ⟨o.1.pre p, o.2⟩
theorem Prods.one (o : Prods h v L) : isOne v = true := o.1.one
theorem InX.rd (o : InX a b h v L) : Prods h v L := ⟨o.1.rd, o.2⟩
theorem InX.pre (o : InX a b h v L) (p : h <+: h') : InX a b h' v L := ⟨o.1.pre p, o.2⟩
theorem InX.only (o : InX a b h v L) (u : OnlyR c d h h') (hd : b ≤ c ∨ d ≤ a) : InX a b h' v L := ⟨o.1.only u hd, o.2⟩
end
def SmallX (L : List (List Int)) : Prop := (L.length : Int) ≤ 1048576
def cntX (L : List (List Int)) : Int := (L.length : Int) * 27
theorem cntX_le {L : List (List Int)} (h : SmallX L) : 0 ≤ cntX L ∧ cntX L ≤ 28311552 := by unfold SmallX at h; unfold cntX; omega

theorem l_toProductS {v : Value} {L : List (List Int)} {h : AH} {Q : Value → AH → Prop} (hv : Prods h v L) (hl : SmallX L)
    (hQ : ∀ v' h', h <+: h' → InX h.length h'.length h' v' L → Q v' h') : WF S 70 [v] h Q := by
  refine WF_fn (fn := c70) rfl rfl ?_
  unfold c70
  obtain ⟨he, hby⟩ := hv
  have hw := he.widL
  unfold SmallX at hl
  try simp (maxSteps := 3000000) (disch := first | omega | (simp only [len_new, len_put, len_kill]; omega)) only [↓xpre, xpost, ↓reduceIte, Nat.reduceEqDiff, Nat.reduceAdd, Nat.reduceSub, Nat.reduceLeDiff, Nat.zero_add, Nat.sub_zero, he.len, zeros27]
  refine ⟨by omega, ?_⟩
  rw [Int.toNat_natCast, zrep_cel]
  generalize hH : AH.new h _ = H
  obtain ⟨hb0, p0, n0⟩ := new_facts hH
  refine WC_loop_inv (fun m f K1 => ∃ (i : Nat), m = L.length - i ∧ i ≤ L.length ∧ f 0 = v ∧ f 3 = .slice (some ⟨h.length, 0, none⟩) L.length 27 ∧ f 4 = I64 i ∧ (h <+: K1) ∧ (OwnB K1 h.length (cel .u8 (fillG (List.replicate 27 0) L i).flatten) true)) ?_ (L.length - 0) _ _ ⟨0, rfl, by omega, (by first | rfl | (simp [upd_apply]; done)), (by first | rfl | (simp [upd_apply]; done)), (by first | rfl | (simp [upd_apply]; done)), p0, ⟨_, by rw [fillG_zero]; exact hb0⟩⟩
  rintro m f K1 ⟨i, rfl, hi, f0, f3, f4, pp, hb⟩
  have he1 := he.pre pp
  try simp (maxSteps := 3000000) (disch := first | omega | (simp only [len_new, len_put, len_kill]; omega)) only [↓xpre, xpost, ↓reduceIte, Nat.reduceEqDiff, Nat.reduceAdd, Nat.reduceSub, Nat.reduceLeDiff, Nat.zero_add, Nat.sub_zero, f0, f3, f4, he1.len, IfW_dec]
  refine ⟨fun hlt => ?_, fun hge => ?_⟩
  · have hi' : i < L.length := by omega
    obtain ⟨n, off, hix, hrn, hr1⟩ := he1.at hi'
    have r27 := hrn 0 27 (by omega)
    rw [List.drop_zero, List.take_of_length_le (by rw [he1.wid hi']; exact Nat.le_refl _), Nat.add_zero] at r27
    try simp (maxSteps := 3000000) (disch := first | omega | (simp only [len_new, len_put, len_kill]; omega)) only [↓xpre, xpost, ↓reduceIte, Nat.reduceEqDiff, Nat.reduceAdd, Nat.reduceSub, Nat.reduceLeDiff, Nat.zero_add, Nat.sub_zero, f0, f3, f4, hix, r27]
    refine l_toProduct (he1.wid hi') fun h2 p2 => ?_
    have wf := fillG_wid (z := List.replicate 27 0) (i := i) (w := 27) (by simp) hw
    have fl := fillG_len (z := List.replicate 27 0) (L := L) (i := i) (by omega)
    have ffl := flat_len wf
    rw [fl] at ffl
    have hrow := mul_row (w := 27) hi'
    obtain ⟨e, hb⟩ := hb
    have hb2 := pre_get p2 hb
    have lt2 := get_lt hb2
    have ixd : ixsV 27 (.slice (some ⟨h.length, 0, none⟩) L.length 27) (I64 i) = some (.pointer (some ⟨h.length, i * 27, none⟩)) := by
      rw [ixsV_some, if_pos (by omega)]
      simp
    have sp : splice (cel .u8 (fillG (List.replicate 27 0) L i).flatten) (i * 27) (cel .u8 (L.getD i [])) = cel .u8 (fillG (List.replicate 27 0) L (i + 1)).flatten := by
      rw [cel_splice, he1.wid hi', flat_set wf (by omega), fillG_set hi']
    try simp (maxSteps := 3000000) (disch := first | omega | (simp only [len_new, len_put, len_kill]; omega)) only [↓xpre, xpost, ↓reduceIte, Nat.reduceEqDiff, Nat.reduceAdd, Nat.reduceSub, Nat.reduceLeDiff, Nat.zero_add, Nat.sub_zero, f0, f3, f4, aggV, cel_all, cel_len, he1.wid hi', ixd, wr_of hb2, sp, ffl]
    refine ⟨by omega, ?_⟩
    try simp (maxSteps := 3000000) (disch := first | omega | (simp only [len_new, len_put, len_kill]; omega)) only [↓xpre, xpost, ↓reduceIte, Nat.reduceEqDiff, Nat.reduceAdd, Nat.reduceSub, Nat.reduceLeDiff, Nat.zero_add, Nat.sub_zero, f0, f3, f4, wrap64_in]
    refine InvQ_go (L.length - (i + 1)) (by omega) ⟨(i + 1), rfl, by omega, (by first | rfl | exact f0 | (simp only [upd_apply]; rfl) | (show I64 _ = _; congr 1; omega)), (by first | rfl | exact f3 | (simp only [upd_apply]; rfl) | (show I64 _ = _; congr 1; omega)), (by first | rfl | exact f4 | (simp only [upd_apply]; rfl) | (show I64 _ = _; congr 1; omega)), (pre_put (pp.trans p2) (Nat.le_refl _)), ⟨_, get_put_same lt2⟩⟩
  · have ei : i = L.length := by omega
    subst ei
    obtain ⟨e, hb⟩ := hb
    rw [fillG_all] at hb
    have lt := get_lt hb
    try simp (maxSteps := 3000000) (disch := first | omega | (simp only [len_new, len_put, len_kill]; omega)) only [↓xpre, xpost, ↓reduceIte, Nat.reduceEqDiff, Nat.reduceAdd, Nat.reduceSub, Nat.reduceLeDiff, Nat.zero_add, Nat.sub_zero, f0, f3, f4]
    exact hQ _ _ pp ⟨.inr ⟨h.length, e, true, ⟨Nat.le_refl _, lt⟩, rfl, hb, hw⟩, hby⟩
end Go.Proofs.Ytphklalbkpohfaa.X

/- Schemes: sizes, copies, comparisons, marks. -/
set_option linter.unusedVariables false
set_option linter.unusedSimpArgs false
set_option maxRecDepth 20000
set_option maxHeartbeats 4000000
namespace Go.Proofs.Ytphklalbkpohfaa.X
open Go Go.RowKit

theorem l_szProductS {v : Value} {L : List (List Int)} {n : Int} {h : AH} {Q : Value → AH → Prop} (hv : Prods h v L) (h0 : 0 ≤ n ∧ n ≤ 1048576) (hl : (L.length : Int) ≤ 9223372036854775807)
    (hQ : ∀ m : Int, m ≤ n → (0 ≤ m → SmallX L) → Q (I64 m) h) : WF S 66 [v, I64 n] h Q := by
  refine WF_fn (fn := c66) rfl rfl ?_
  unfold c66
  try simp (maxSteps := 3000000) (disch := first | omega | (simp only [len_new, len_put, len_kill]; omega)) only [↓xpre, xpost, ↓reduceIte, Nat.reduceEqDiff, Nat.reduceAdd, Nat.reduceSub, Nat.reduceLeDiff, Nat.zero_add, Nat.sub_zero, hv.1.len, wrap64_in]
  by_cases h1 : n - ↑L.length < 0
  · try simp (maxSteps := 3000000) (disch := first | omega | (simp only [len_new, len_put, len_kill]; omega)) only [↓xpre, xpost, ↓reduceIte, Nat.reduceEqDiff, Nat.reduceAdd, Nat.reduceSub, Nat.reduceLeDiff, Nat.zero_add, Nat.sub_zero, h1]
    exact hQ _ (by omega) (by omega)
  · try simp (maxSteps := 3000000) (disch := first | omega | (simp only [len_new, len_put, len_kill]; omega)) only [↓xpre, xpost, ↓reduceIte, Nat.reduceEqDiff, Nat.reduceAdd, Nat.reduceSub, Nat.reduceLeDiff, Nat.zero_add, Nat.sub_zero, h1]
    exact hQ _ (by omega) (fun _ => by unfold SmallX; omega)
theorem gsz_X {v : Value} {x : Sch} {n : Int} {h : AH} {Q : Value → AH → Prop} (hv : Prods h v x.ps) (h0 : 0 ≤ n ∧ n ≤ 1048576) (hl : (x.ps.length : Int) ≤ 9223372036854775807)
    (hQ : ∀ (m : Int) h', h <+: h' → m ≤ n → (0 ≤ m → SmallX x.ps) → Q (I64 m) h') : WF S 25 [schV x v, I64 n] h Q := by
  refine WF_fn (fn := c25) rfl rfl ?_
  unfold c25
  try simp (maxSteps := 3000000) (disch := first | omega | (simp only [len_new, len_put, len_kill]; omega)) only [↓xpre, xpost, ↓reduceIte, Nat.reduceEqDiff, Nat.reduceAdd, Nat.reduceSub, Nat.reduceLeDiff, Nat.zero_add, Nat.sub_zero, schV, hv.one]
  refine l_szProductS (hv.pre (pre_new (List.prefix_refl _))) h0 hl fun m h1 h2 => ?_
  try simp (maxSteps := 3000000) (disch := first | omega | (simp only [len_new, len_put, len_kill]; omega)) only [↓xpre, xpost, ↓reduceIte, Nat.reduceEqDiff, Nat.reduceAdd, Nat.reduceSub, Nat.reduceLeDiff, Nat.zero_add, Nat.sub_zero, IfW_dec]
  exact ⟨fun hm => hQ _ _ (pre_new (List.prefix_refl _)) (by omega) (by omega), fun hm => hQ _ _ (pre_new (List.prefix_refl _)) h1 h2⟩
theorem InX.put_ne {a b n : Nat} {h : AH} {v : Value} {L : List (List Int)} {c : Blk} (o : InX a b h v L) (hn : n < a) : InX a b (h.put n c) v L :=
  ⟨o.1.only (c := n) (d := n + 1) ⟨len_put, fun m hm => by unfold AH.put; rw [List.getElem?_set_ne (by omega)]⟩ (by omega), o.2⟩
theorem InX.wide {a b c d : Nat} {h : AH} {v : Value} {L : List (List Int)} (o : InX a b h v L) (h1 : c ≤ a) (h2 : b ≤ d) : InX c d h v L := by
  refine ⟨?_, o.2⟩
  rcases o.1 with q1 | ⟨n, e, full, r1, r2, r3, r4⟩
  · exact .inl q1
  · exact .inr ⟨n, e, full, by omega, r2, r3, r4⟩
theorem gto_X {v : Value} {x : Sch} {h : AH} {Q : Value → AH → Prop} (hv : Prods h v x.ps) (hl : SmallX x.ps)
    (hQ : ∀ v' h', h <+: h' → InX h.length h'.length h' v' x.ps → Q (schV x v') h') : WF S 27 [schV x v] h Q := by
  refine WF_fn (fn := c27) rfl rfl ?_
  unfold c27
  try simp (maxSteps := 3000000) (disch := first | omega | (simp only [len_new, len_put, len_kill]; omega)) only [↓xpre, xpost, ↓reduceIte, Nat.reduceEqDiff, Nat.reduceAdd, Nat.reduceSub, Nat.reduceLeDiff, Nat.zero_add, Nat.sub_zero, schV, hv.one]
  refine l_toProductS (hv.pre ?_) hl fun v' h' hp o => ?_
  · exact pre_new (pre_new (pre_new (List.prefix_refl _)))
  generalize hH1 : AH.new h _ = H1 at hp o ⊢
  obtain ⟨hb1, p1, n1⟩ := new_facts hH1
  generalize hH2 : AH.new H1 _ = H2 at hp o ⊢
  obtain ⟨hb2, p2, n2⟩ := new_facts hH2
  generalize hH3 : AH.new H2 _ = H3 at hp o ⊢
  obtain ⟨hb3, p3, n3⟩ := new_facts hH3
  have hb2 := pre_get hp (pre_get p3 hb2)
  have hb3 := pre_get hp hb3
  have nl := pre_len hp
  have hv' := o.rd
  try simp (maxSteps := 3000000) (disch := first | omega | (simp only [len_new, len_put, len_kill]; omega)) only [↓xpre, xpost, ↓reduceIte, Nat.reduceEqDiff, Nat.reduceAdd, Nat.reduceSub, Nat.reduceLeDiff, Nat.zero_add, Nat.sub_zero, hv'.one, hv'.1.cells, wr_of hb3, wr_of hb2]
  refine hQ _ _ (pre_put (pre_put (((p1.trans p2).trans p3).trans hp) ?_) ?_) ?_
  all_goals first | omega | skip
  · refine ((o.put_ne ?_).put_ne ?_).wide ?_ ?_
    all_goals first | omega | (simp only [len_put]; omega)

theorem l_eqForm {q : List Int} {h : AH} {Q : Value → AH → Prop} (hq : q.length = 9) (hQ : ∀ h', h <+: h' → Q (.bool true) h') : WF S 120 [aggV .u8 q, aggV .u8 q] h Q := by
  refine WF_fn (fn := c120) rfl rfl ?_
  unfold c120
  try simp (maxSteps := 3000000) (disch := first | omega | (simp only [len_new, len_put, len_kill]; omega)) only [↓xpre, xpost, ↓reduceIte, Nat.reduceEqDiff, Nat.reduceAdd, Nat.reduceSub, Nat.reduceLeDiff, Nat.zero_add, Nat.sub_zero, aggV, cel_all]
  generalize hH1 : AH.new h _ = H1
  obtain ⟨hb1, p1, n1⟩ := new_facts hH1
  generalize hH2 : AH.new H1 _ = H2
  obtain ⟨hb2, p2, n2⟩ := new_facts hH2
  have hb1 := pre_get p2 hb1
  refine WC_loop_inv (fun m f K1 => ∃ (i : Nat), m = 9 - i ∧ i ≤ 9 ∧ f 2 = .pointer (some ⟨h.length, 0, none⟩) ∧ f 3 = .pointer (some ⟨H1.length, 0, none⟩) ∧ f 5 = I64 i ∧ (K1 = H2)) ?_ (9 - 0) _ _ ⟨0, rfl, by omega, (by first | rfl | (simp [upd_apply]; done)), (by first | rfl | (simp [upd_apply]; done)), (by first | rfl | (simp [upd_apply]; done)), rfl⟩
  rintro m f K1 ⟨i, rfl, hi, f2, f3, f5, hK⟩
  subst hK
  try simp (maxSteps := 3000000) (disch := first | omega | (simp only [len_new, len_put, len_kill]; omega)) only [↓xpre, xpost, ↓reduceIte, Nat.reduceEqDiff, Nat.reduceAdd, Nat.reduceSub, Nat.reduceLeDiff, Nat.zero_add, Nat.sub_zero, f2, f3, f5, IfW_dec]
  refine ⟨fun hlt => ?_, fun hge => ?_⟩
  · have g1 := cel_get (k := .u8) (q := q) (j := i) (by omega)
    try simp (maxSteps := 3000000) (disch := first | omega | (simp only [len_new, len_put, len_kill]; omega)) only [↓xpre, xpost, ↓reduceIte, Nat.reduceEqDiff, Nat.reduceAdd, Nat.reduceSub, Nat.reduceLeDiff, Nat.zero_add, Nat.sub_zero, f2, f3, f5, ↓WX_ixa, ixaV_ptr, Int.toNat_natCast, Nat.mul_one, rd1_of hb1, rd1_of hb2, g1, ne_eq, not_true_eq_false, wrap64_in]
    refine InvQ_go (9 - (i + 1)) (by omega) ⟨(i + 1), rfl, by omega, (by first | rfl | exact f2 | (simp only [upd_apply]; rfl) | (show I64 _ = _; congr 1; omega)), (by first | rfl | exact f3 | (simp only [upd_apply]; rfl) | (show I64 _ = _; congr 1; omega)), (by first | rfl | exact f5 | (simp only [upd_apply]; rfl) | (show I64 _ = _; congr 1; omega)), rfl⟩
  · try simp (maxSteps := 3000000) (disch := first | omega | (simp only [len_new, len_put, len_kill]; omega)) only [↓xpre, xpost, ↓reduceIte, Nat.reduceEqDiff, Nat.reduceAdd, Nat.reduceSub, Nat.reduceLeDiff, Nat.zero_add, Nat.sub_zero, f2, f3, f5]
    exact hQ _ (p1.trans p2)
theorem l_eqProduct {q : List Int} {h : AH} {Q : Value → AH → Prop} (hq : q.length = 27) (hQ : ∀ h', h <+: h' → Q (.bool true) h') : WF S 107 [aggV .u8 q, aggV .u8 q] h Q := by
  refine WF_fn (fn := c107) rfl rfl ?_
  unfold c107
  try simp (maxSteps := 3000000) (disch := first | omega | (simp only [len_new, len_put, len_kill]; omega)) only [↓xpre, xpost, ↓reduceIte, Nat.reduceEqDiff, Nat.reduceAdd, Nat.reduceSub, Nat.reduceLeDiff, Nat.zero_add, Nat.sub_zero, aggV, cel_all]
  generalize hH1 : AH.new h _ = H1
  obtain ⟨hb1, p1, n1⟩ := new_facts hH1
  generalize hH2 : AH.new H1 _ = H2
  obtain ⟨hb2, p2, n2⟩ := new_facts hH2
  have hb1 := pre_get p2 hb1
  have a1 : (q.take 9).length = 9 := by simp; omega
  have a2 : ((q.drop 9).take 9).length = 9 := by simp; omega
  have a3 : ((q.drop 18).take 9).length = 9 := by simp; omega
  try simp (maxSteps := 3000000) (disch := first | omega | (simp only [len_new, len_put, len_kill]; omega)) only [↓xpre, xpost, ↓reduceIte, Nat.reduceEqDiff, Nat.reduceAdd, Nat.reduceSub, Nat.reduceLeDiff, Nat.zero_add, Nat.sub_zero, rdn_of hb1, rdn_of hb2, cel_len, hq, cel_take, cel_drop]
  refine l_eqForm a1 fun H4 p4 => ?_
  have hb1 := pre_get p4 hb1
  have hb2 := pre_get p4 hb2
  try simp (maxSteps := 3000000) (disch := first | omega | (simp only [len_new, len_put, len_kill]; omega)) only [↓xpre, xpost, ↓reduceIte, Nat.reduceEqDiff, Nat.reduceAdd, Nat.reduceSub, Nat.reduceLeDiff, Nat.zero_add, Nat.sub_zero, rdn_of hb1, rdn_of hb2, cel_len, hq, cel_take, cel_drop]
  refine l_eqForm a2 fun H5 p5 => ?_
  have hb1 := pre_get p5 hb1
  have hb2 := pre_get p5 hb2
  try simp (maxSteps := 3000000) (disch := first | omega | (simp only [len_new, len_put, len_kill]; omega)) only [↓xpre, xpost, ↓reduceIte, Nat.reduceEqDiff, Nat.reduceAdd, Nat.reduceSub, Nat.reduceLeDiff, Nat.zero_add, Nat.sub_zero, rdn_of hb1, rdn_of hb2, cel_len, hq, cel_take, cel_drop]
  refine l_eqForm a3 fun H6 p6 => ?_
  try simp (maxSteps := 3000000) (disch := first | omega | (simp only [len_new, len_put, len_kill]; omega)) only [↓xpre, xpost, ↓reduceIte, Nat.reduceEqDiff, Nat.reduceAdd, Nat.reduceSub, Nat.reduceLeDiff, Nat.zero_add, Nat.sub_zero]
  exact hQ _ ((p1.trans p2).trans (p4.trans (p5.trans p6)))
theorem l_eqProductS {v v' : Value} {L : List (List Int)} {h : AH} {Q : Value → AH → Prop} (hv : Prods h v L) (hv' : Prods h v' L) (hl : SmallX L)
    (hQ : ∀ h', h <+: h' → Q (.bool true) h') : WF S 73 [v, v'] h Q := by
  refine WF_fn (fn := c73) rfl rfl ?_
  unfold c73
  unfold SmallX at hl
  try simp (maxSteps := 3000000) (disch := first | omega | (simp only [len_new, len_put, len_kill]; omega)) only [↓xpre, xpost, ↓reduceIte, Nat.reduceEqDiff, Nat.reduceAdd, Nat.reduceSub, Nat.reduceLeDiff, Nat.zero_add, Nat.sub_zero, hv.1.len, hv'.1.len, ne_eq, not_true_eq_false]
  refine WC_loop_inv (fun m f K1 => ∃ (i : Nat), m = L.length - i ∧ i ≤ L.length ∧ f 0 = v ∧ f 1 = v' ∧ f 5 = I64 i ∧ (h <+: K1)) ?_ (L.length - 0) _ _ ⟨0, rfl, by omega, (by first | rfl | (simp [upd_apply]; done)), (by first | rfl | (simp [upd_apply]; done)), (by first | rfl | (simp [upd_apply]; done)), List.prefix_refl _⟩
  rintro m f K1 ⟨i, rfl, hi, f0, f1, f5, pp⟩
  have e1 := hv.1.pre pp
  have e2 := hv'.1.pre pp
  try simp (maxSteps := 3000000) (disch := first | omega | (simp only [len_new, len_put, len_kill]; omega)) only [↓xpre, xpost, ↓reduceIte, Nat.reduceEqDiff, Nat.reduceAdd, Nat.reduceSub, Nat.reduceLeDiff, Nat.zero_add, Nat.sub_zero, f0, f1, f5, e1.len, IfW_dec]
  refine ⟨fun hlt => ?_, fun hge => ?_⟩
  · have hi' : i < L.length := by omega
    obtain ⟨n, off, hix, hrn, hr1⟩ := e1.at hi'
    obtain ⟨n', off', hix', hrn', hr1'⟩ := e2.at hi'
    have r27 := hrn 0 27 (by omega)
    rw [List.drop_zero, List.take_of_length_le (by rw [e1.wid hi']; exact Nat.le_refl _), Nat.add_zero] at r27
    have r27' := hrn' 0 27 (by omega)
    rw [List.drop_zero, List.take_of_length_le (by rw [e1.wid hi']; exact Nat.le_refl _), Nat.add_zero] at r27'
    try simp (maxSteps := 3000000) (disch := first | omega | (simp only [len_new, len_put, len_kill]; omega)) only [↓xpre, xpost, ↓reduceIte, Nat.reduceEqDiff, Nat.reduceAdd, Nat.reduceSub, Nat.reduceLeDiff, Nat.zero_add, Nat.sub_zero, f0, f1, f5, hix, r27, hix', r27']
    refine l_eqProduct (e1.wid hi') fun h2 p2 => ?_
    try simp (maxSteps := 3000000) (disch := first | omega | (simp only [len_new, len_put, len_kill]; omega)) only [↓xpre, xpost, ↓reduceIte, Nat.reduceEqDiff, Nat.reduceAdd, Nat.reduceSub, Nat.reduceLeDiff, Nat.zero_add, Nat.sub_zero, f0, f1, f5, wrap64_in]
    refine InvQ_go (L.length - (i + 1)) (by omega) ⟨(i + 1), rfl, by omega, (by first | rfl | exact f0 | (simp only [upd_apply]; rfl) | (show I64 _ = _; congr 1; omega)), (by first | rfl | exact f1 | (simp only [upd_apply]; rfl) | (show I64 _ = _; congr 1; omega)), (by first | rfl | exact f5 | (simp only [upd_apply]; rfl) | (show I64 _ = _; congr 1; omega)), (pp.trans p2)⟩
  · try simp (maxSteps := 3000000) (disch := first | omega | (simp only [len_new, len_put, len_kill]; omega)) only [↓xpre, xpost, ↓reduceIte, Nat.reduceEqDiff, Nat.reduceAdd, Nat.reduceSub, Nat.reduceLeDiff, Nat.zero_add, Nat.sub_zero, f0, f1, f5]
    exact hQ _ pp
theorem geq_X {v v' : Value} {x : Sch} {h : AH} {Q : Value → AH → Prop} (hv : Prods h v x.ps) (hv' : Prods h v' x.ps) (hl : SmallX x.ps)
    (hQ : ∀ h', h <+: h' → Q (.bool true) h') : WF S 29 [schV x v, schV x v'] h Q := by
  refine WF_fn (fn := c29) rfl rfl ?_
  unfold c29
  try simp (maxSteps := 3000000) (disch := first | omega | (simp only [len_new, len_put, len_kill]; omega)) only [↓xpre, xpost, ↓reduceIte, Nat.reduceEqDiff, Nat.reduceAdd, Nat.reduceSub, Nat.reduceLeDiff, Nat.zero_add, Nat.sub_zero, schV, hv.one, hv'.one]
  generalize hH1 : AH.new h _ = H1
  obtain ⟨hb1, p1, n1⟩ := new_facts hH1
  generalize hH2 : AH.new H1 _ = H2
  obtain ⟨hb2, p2, n2⟩ := new_facts hH2
  have hb1 := pre_get p2 hb1
  try simp (maxSteps := 3000000) (disch := first | omega | (simp only [len_new, len_put, len_kill]; omega)) only [↓xpre, xpost, ↓reduceIte, Nat.reduceEqDiff, Nat.reduceAdd, Nat.reduceSub, Nat.reduceLeDiff, Nat.zero_add, Nat.sub_zero, rd1_of hb1, rd1_of hb2, ne_eq, not_true_eq_false]
  refine l_eqProductS (hv.pre (p1.trans p2)) (hv'.pre (p1.trans p2)) hl fun H3 p3 => ?_
  try simp (maxSteps := 3000000) (disch := first | omega | (simp only [len_new, len_put, len_kill]; omega)) only [↓xpre, xpost, ↓reduceIte, Nat.reduceEqDiff, Nat.reduceAdd, Nat.reduceSub, Nat.reduceLeDiff, Nat.zero_add, Nat.sub_zero]
  exact hQ _ ((p1.trans p2).trans p3)

/-- Marks: only blocks of one's own change. -/
theorem l_markProductS {v : Value} {L : List (List Int)} {k : Int} {a b : Nat} {h : AH} {Q : Value → AH → Prop} (o : InX a b h v L) (hl : SmallX L) (hk : 0 ≤ k ∧ k ≤ 549755813888)
    (hQ : ∀ h', OnlyR a b h h' → Q (I64 (k + cntX L)) h') : WF S 85 [v, I64 k] h Q := by
  refine WF_fn (fn := c85) rfl rfl ?_
  unfold c85
  unfold SmallX at hl
  obtain ⟨o, -⟩ := o
  rcases o with ⟨rfl, rfl⟩ | ⟨n, e, full, hab, rfl, hg, hw⟩
  · try simp (maxSteps := 3000000) (disch := first | omega | (simp only [len_new, len_put, len_kill]; omega)) only [↓xpre, xpost, ↓reduceIte, Nat.reduceEqDiff, Nat.reduceAdd, Nat.reduceSub, Nat.reduceLeDiff, Nat.zero_add, Nat.sub_zero]
    refine WC_loop ?_
    try simp (maxSteps := 3000000) (disch := first | omega | (simp only [len_new, len_put, len_kill]; omega)) only [↓xpre, xpost, ↓reduceIte, Nat.reduceEqDiff, Nat.reduceAdd, Nat.reduceSub, Nat.reduceLeDiff, Nat.zero_add, Nat.sub_zero, IfW_dec]
    refine ⟨fun hlt => by simp at hlt, fun _ => ?_⟩
    have := hQ h (OnlyR.refl _ _ _)
    simpa [cntX] using this
  · try simp (maxSteps := 3000000) (disch := first | omega | (simp only [len_new, len_put, len_kill]; omega)) only [↓xpre, xpost, ↓reduceIte, Nat.reduceEqDiff, Nat.reduceAdd, Nat.reduceSub, Nat.reduceLeDiff, Nat.zero_add, Nat.sub_zero]
    have c0 : (cel .u8 L.flatten).length = L.length * 27 := by rw [cel_len, flat_len hw]
    refine WC_loop_inv (fun m f K1 => ∃ (i : Nat) (c : List Value), m = L.length - i ∧ i ≤ L.length ∧ f 0 = .slice (some ⟨n, 0, none⟩) L.length 27 ∧ f 1 = I64 (k + ((i * 27 : Nat) : Int)) ∧ f 5 = I64 i ∧ (c.length = L.length * 27) ∧ (K1.get n = some ⟨c, e, false, full⟩) ∧ (OnlyR a b h K1)) ?_ (L.length - 0) _ _ ⟨0, cel .u8 L.flatten, rfl, by omega, (by first | rfl | (simp [upd_apply]; done)), (by first | rfl | (simp [upd_apply]; done)), (by first | rfl | (simp [upd_apply]; done)), c0, hg, OnlyR.refl _ _ _⟩
    rintro m f K1 ⟨i, c, rfl, hi, f0, f1, f5, hc, hgc, wc⟩
    try simp (maxSteps := 3000000) (disch := first | omega | (simp only [len_new, len_put, len_kill]; omega)) only [↓xpre, xpost, ↓reduceIte, Nat.reduceEqDiff, Nat.reduceAdd, Nat.reduceSub, Nat.reduceLeDiff, Nat.zero_add, Nat.sub_zero, f0, f1, f5, IfW_dec]
    refine ⟨fun hlt => ?_, fun hge => ?_⟩
    case refine_2 =>
      have ei : i = L.length := by omega
      subst ei
      try simp (maxSteps := 3000000) (disch := first | omega | (simp only [len_new, len_put, len_kill]; omega)) only [↓xpre, xpost, ↓reduceIte, Nat.reduceEqDiff, Nat.reduceAdd, Nat.reduceSub, Nat.reduceLeDiff, Nat.zero_add, Nat.sub_zero, f0, f1, f5]
      have := hQ _ wc
      unfold cntX at this
      have e1 : ((L.length * 27 : Nat) : Int) = (L.length : Int) * 27 := by omega
      rw [e1]
      exact this
    have hi' : i < L.length := by omega
    have hrow := mul_row (w := 27) hi'
    have ixd : ixsV 27 (.slice (some ⟨n, 0, none⟩) L.length 27) (I64 i) = some (.pointer (some ⟨n, i * 27, none⟩)) := by
      rw [ixsV_some, if_pos (by omega)]
      simp
    try simp (maxSteps := 3000000) (disch := first | omega | (simp only [len_new, len_put, len_kill]; omega)) only [↓xpre, xpost, ↓reduceIte, Nat.reduceEqDiff, Nat.reduceAdd, Nat.reduceSub, Nat.reduceLeDiff, Nat.zero_add, Nat.sub_zero, f0, f1, f5]
    refine WC_loop_inv (fun m f K2 => ∃ (ja : Nat) (ca : List Value), m = 9 - ja ∧ ja ≤ 9 ∧ f 0 = .slice (some ⟨n, 0, none⟩) L.length 27 ∧ f 1 = I64 (k + ((i * 27 + 0 + ja : Nat) : Int)) ∧ f 5 = I64 i ∧ f 6 = I64 ja ∧ (ca.length = L.length * 27) ∧ (K2.get n = some ⟨ca, e, false, full⟩) ∧ (OnlyR a b h K2)) ?_ (9 - 0) _ _ ⟨0, c, rfl, by omega, (by first | rfl | exact f0 | (simp [upd_apply]; done)), (by first | rfl | exact f1 | (simp [upd_apply]; done)), (by first | rfl | exact f5 | (simp [upd_apply]; done)), (by first | rfl | (simp [upd_apply]; done)), hc, hgc, wc⟩
    rintro m f K2 ⟨ja, ca, rfl, hja, f0, f1, f5, f6, hca, hga, wa⟩
    try simp (maxSteps := 3000000) (disch := first | omega | (simp only [len_new, len_put, len_kill]; omega)) only [↓xpre, xpost, ↓reduceIte, Nat.reduceEqDiff, Nat.reduceAdd, Nat.reduceSub, Nat.reduceLeDiff, Nat.zero_add, Nat.sub_zero, f0, f1, f5, f6, IfW_dec]
    refine ⟨fun hlta => ?_, fun hgea => ?_⟩
    · have hja' : ja < 9 := by omega
      have lta := get_lt hga
      try simp (maxSteps := 3000000) (disch := first | omega | (simp only [len_new, len_put, len_kill]; omega)) only [↓xpre, xpost, ↓reduceIte, Nat.reduceEqDiff, Nat.reduceAdd, Nat.reduceSub, Nat.reduceLeDiff, Nat.zero_add, Nat.sub_zero, f0, f1, f5, f6, ixd, ↓WX_ixa, ixaV_ptr, Int.toNat_natCast, Nat.mul_one, wr_of hga, wrap64_in]
      refine ⟨by omega, ?_⟩
      have sla : ∀ x : Value, (splice ca (i * 27 + 0 + ja) [x]).length = L.length * 27 := fun x => by rw [splice_set (by omega), List.length_set, hca]
      refine InvQ_go (9 - (ja + 1)) (by omega) ⟨(ja + 1), _, rfl, by omega, (by first | rfl | exact f0 | (simp only [upd_apply]; rfl) | (show I64 _ = _; congr 1; omega)), (by show I64 _ = I64 _; congr 1; omega), (by first | rfl | exact f5 | (simp only [upd_apply]; rfl) | (show I64 _ = _; congr 1; omega)), (by first | rfl | exact f6 | (simp only [upd_apply]; rfl) | (show I64 _ = _; congr 1; omega)), (sla _), (get_put_same lta), ⟨by rw [len_put]; exact wa.len, fun m hm => by unfold AH.put; rw [List.getElem?_set_ne (fun e => hm (by omega))]; exact wa.same m hm⟩⟩
    have eja : ja = 9 := by omega
    subst eja
    try simp (maxSteps := 3000000) (disch := first | omega | (simp only [len_new, len_put, len_kill]; omega)) only [↓xpre, xpost, ↓reduceIte, Nat.reduceEqDiff, Nat.reduceAdd, Nat.reduceSub, Nat.reduceLeDiff, Nat.zero_add, Nat.sub_zero, f0, f1, f5, f6]
    refine WC_loop_inv (fun m f K3 => ∃ (jb : Nat) (cb : List Value), m = 9 - jb ∧ jb ≤ 9 ∧ f 0 = .slice (some ⟨n, 0, none⟩) L.length 27 ∧ f 1 = I64 (k + ((i * 27 + 9 + jb : Nat) : Int)) ∧ f 5 = I64 i ∧ f 7 = I64 jb ∧ (cb.length = L.length * 27) ∧ (K3.get n = some ⟨cb, e, false, full⟩) ∧ (OnlyR a b h K3)) ?_ (9 - 0) _ _ ⟨0, ca, rfl, by omega, (by first | rfl | exact f0 | (simp [upd_apply]; done)), (by first | rfl | exact f1 | (simp [upd_apply]; done)), (by first | rfl | exact f5 | (simp [upd_apply]; done)), (by first | rfl | (simp [upd_apply]; done)), hca, hga, wa⟩
    rintro m f K3 ⟨jb, cb, rfl, hjb, f0, f1, f5, f7, hcb, hgb, wb⟩
    try simp (maxSteps := 3000000) (disch := first | omega | (simp only [len_new, len_put, len_kill]; omega)) only [↓xpre, xpost, ↓reduceIte, Nat.reduceEqDiff, Nat.reduceAdd, Nat.reduceSub, Nat.reduceLeDiff, Nat.zero_add, Nat.sub_zero, f0, f1, f5, f7, IfW_dec]
    refine ⟨fun hltb => ?_, fun hgeb => ?_⟩
    · have hjb' : jb < 9 := by omega
      have ltb := get_lt hgb
      try simp (maxSteps := 3000000) (disch := first | omega | (simp only [len_new, len_put, len_kill]; omega)) only [↓xpre, xpost, ↓reduceIte, Nat.reduceEqDiff, Nat.reduceAdd, Nat.reduceSub, Nat.reduceLeDiff, Nat.zero_add, Nat.sub_zero, f0, f1, f5, f7, ixd, ↓WX_ixa, ixaV_ptr, Int.toNat_natCast, Nat.mul_one, wr_of hgb, wrap64_in]
      refine ⟨by omega, ?_⟩
      have slb : ∀ x : Value, (splice cb (i * 27 + 9 + jb) [x]).length = L.length * 27 := fun x => by rw [splice_set (by omega), List.length_set, hcb]
      refine InvQ_go (9 - (jb + 1)) (by omega) ⟨(jb + 1), _, rfl, by omega, (by first | rfl | exact f0 | (simp only [upd_apply]; rfl) | (show I64 _ = _; congr 1; omega)), (by show I64 _ = I64 _; congr 1; omega), (by first | rfl | exact f5 | (simp only [upd_apply]; rfl) | (show I64 _ = _; congr 1; omega)), (by first | rfl | exact f7 | (simp only [upd_apply]; rfl) | (show I64 _ = _; congr 1; omega)), (slb _), (get_put_same ltb), ⟨by rw [len_put]; exact wb.len, fun m hm => by unfold AH.put; rw [List.getElem?_set_ne (fun e => hm (by omega))]; exact wb.same m hm⟩⟩
    have ejb : jb = 9 := by omega
    subst ejb
    try simp (maxSteps := 3000000) (disch := first | omega | (simp only [len_new, len_put, len_kill]; omega)) only [↓xpre, xpost, ↓reduceIte, Nat.reduceEqDiff, Nat.reduceAdd, Nat.reduceSub, Nat.reduceLeDiff, Nat.zero_add, Nat.sub_zero, f0, f1, f5, f7]
    refine WC_loop_inv (fun m f K4 => ∃ (jd : Nat) (cd : List Value), m = 9 - jd ∧ jd ≤ 9 ∧ f 0 = .slice (some ⟨n, 0, none⟩) L.length 27 ∧ f 1 = I64 (k + ((i * 27 + 18 + jd : Nat) : Int)) ∧ f 5 = I64 i ∧ f 8 = I64 jd ∧ (cd.length = L.length * 27) ∧ (K4.get n = some ⟨cd, e, false, full⟩) ∧ (OnlyR a b h K4)) ?_ (9 - 0) _ _ ⟨0, cb, rfl, by omega, (by first | rfl | exact f0 | (simp [upd_apply]; done)), (by first | rfl | exact f1 | (simp [upd_apply]; done)), (by first | rfl | exact f5 | (simp [upd_apply]; done)), (by first | rfl | (simp [upd_apply]; done)), hcb, hgb, wb⟩
    rintro m f K4 ⟨jd, cd, rfl, hjd, f0, f1, f5, f8, hcd, hgd, wd⟩
    try simp (maxSteps := 3000000) (disch := first | omega | (simp only [len_new, len_put, len_kill]; omega)) only [↓xpre, xpost, ↓reduceIte, Nat.reduceEqDiff, Nat.reduceAdd, Nat.reduceSub, Nat.reduceLeDiff, Nat.zero_add, Nat.sub_zero, f0, f1, f5, f8, IfW_dec]
    refine ⟨fun hltd => ?_, fun hged => ?_⟩
    · have hjd' : jd < 9 := by omega
      have ltd := get_lt hgd
      try simp (maxSteps := 3000000) (disch := first | omega | (simp only [len_new, len_put, len_kill]; omega)) only [↓xpre, xpost, ↓reduceIte, Nat.reduceEqDiff, Nat.reduceAdd, Nat.reduceSub, Nat.reduceLeDiff, Nat.zero_add, Nat.sub_zero, f0, f1, f5, f8, ixd, ↓WX_ixa, ixaV_ptr, Int.toNat_natCast, Nat.mul_one, wr_of hgd, wrap64_in]
      refine ⟨by omega, ?_⟩
      have sld : ∀ x : Value, (splice cd (i * 27 + 18 + jd) [x]).length = L.length * 27 := fun x => by rw [splice_set (by omega), List.length_set, hcd]
      refine InvQ_go (9 - (jd + 1)) (by omega) ⟨(jd + 1), _, rfl, by omega, (by first | rfl | exact f0 | (simp only [upd_apply]; rfl) | (show I64 _ = _; congr 1; omega)), (by show I64 _ = I64 _; congr 1; omega), (by first | rfl | exact f5 | (simp only [upd_apply]; rfl) | (show I64 _ = _; congr 1; omega)), (by first | rfl | exact f8 | (simp only [upd_apply]; rfl) | (show I64 _ = _; congr 1; omega)), (sld _), (get_put_same ltd), ⟨by rw [len_put]; exact wd.len, fun m hm => by unfold AH.put; rw [List.getElem?_set_ne (fun e => hm (by omega))]; exact wd.same m hm⟩⟩
    have ejd : jd = 9 := by omega
    subst ejd
    try simp (maxSteps := 3000000) (disch := first | omega | (simp only [len_new, len_put, len_kill]; omega)) only [↓xpre, xpost, ↓reduceIte, Nat.reduceEqDiff, Nat.reduceAdd, Nat.reduceSub, Nat.reduceLeDiff, Nat.zero_add, Nat.sub_zero, f0, f1, f5, f8, wrap64_in]
    refine InvQ_go (L.length - (i + 1)) (by omega) ⟨(i + 1), cd, rfl, by omega, (by first | rfl | exact f0 | (simp only [upd_apply]; rfl) | (show I64 _ = _; congr 1; omega)), (by have e1 := f1; show f 1 = _; rw [e1]; congr 2; omega), (by first | rfl | exact f5 | (simp only [upd_apply]; rfl) | (show I64 _ = _; congr 1; omega)), hcd, hgd, wd⟩
theorem gmark_X {v : Value} {x : Sch} {k : Int} {a b : Nat} {h : AH} {Q : Value → AH → Prop} (o : InX a b h v x.ps) (hl : SmallX x.ps) (hk : 0 ≤ k ∧ k ≤ 549755813888)
    (hQ : ∀ J h', h <+: J → OnlyR a b J h' → True → Q (I64 (k + cntX x.ps)) h') : WF S 39 [schV x v, I64 k] h Q := by
  refine WF_fn (fn := c39) rfl rfl ?_
  unfold c39
  try simp (maxSteps := 3000000) (disch := first | omega | (simp only [len_new, len_put, len_kill]; omega)) only [↓xpre, xpost, ↓reduceIte, Nat.reduceEqDiff, Nat.reduceAdd, Nat.reduceSub, Nat.reduceLeDiff, Nat.zero_add, Nat.sub_zero, schV, o.rd.one]
  have p1 := pre_new (b := ⟨[I64 x.p, I64 x.n, I64 x.m, I64 x.k, v], 49, false, true⟩) (List.prefix_refl h)
  refine l_markProductS (o.pre p1) hl hk fun h' w => ?_
  try simp (maxSteps := 3000000) (disch := first | omega | (simp only [len_new, len_put, len_kill]; omega)) only [↓xpre, xpost, ↓reduceIte, Nat.reduceEqDiff, Nat.reduceAdd, Nat.reduceSub, Nat.reduceLeDiff, Nat.zero_add, Nat.sub_zero]
  exact hQ _ _ p1 w trivial
end Go.Proofs.Ytphklalbkpohfaa.X

/- What schemes are: forms, products. -/
set_option linter.unusedVariables false
set_option linter.unusedSimpArgs false
set_option maxRecDepth 20000
set_option maxHeartbeats 4000000
namespace Go.Proofs.Ytphklalbkpohfaa.X
open Go Go.RowKit

theorem WG_un {S : XS} {b : Bool} {i : XI} {rest : List XI} {f : Fr} {h : AH} {Q : Fr → AH → Prop} : WG S undef b i rest f h Q = WO S rest (updo f i.d undef) h Q := rfl
theorem step_all {P : Nat → Prop} {i : Nat} (h : ∀ j, j < i → P j) (hi : P i) : ∀ j, j < i + 1 → P j := fun j hj => by
  rcases Nat.lt_succ_iff_lt_or_eq.1 hj with hj | rfl
  · exact h j hj
  · exact hi
def By (w : Nat) (q : List Int) : Prop := q.length = w ∧ ∀ j, j < w → 0 ≤ q.getD j 0 ∧ q.getD j 0 ≤ 255
def okAt (p n : Int) (q : List Int) (j : Nat) : Bool := decide (q.getD j 0 < p ∧ (n ≤ (j : Int) → q.getD j 0 = 0))
def okForm (p n : Int) (q : List Int) : Bool := (List.range 9).all (okAt p n q)
theorem okForm_t {p n : Int} {q : List Int} (h : ∀ j, j < 9 → okAt p n q j = true) : okForm p n q = true := by
  unfold okForm
  rw [List.all_eq_true]
  exact fun j hj => h j (List.mem_range.1 hj)
theorem okForm_f {p n : Int} {q : List Int} {j : Nat} (hj : j < 9) (h : okAt p n q j = false) : okForm p n q = false := by
  cases e : okForm p n q with
  | false => rfl
  | true =>
    unfold okForm at e
    rw [List.all_eq_true] at e
    rw [e j (List.mem_range.2 hj)] at h
    cases h
theorem s_l01Form {p n : Int} {q : List Int} {h : AH} {Q : Value → AH → Prop} (hq : By 9 q) (hQ : ∀ h', h <+: h' → Q (.bool (okForm p n q)) h') : WF S 121 [I64 p, aggV .u8 q, I64 n] h Q := by
  refine WF_fn (fn := c121) rfl rfl ?_
  unfold c121
  try simp (maxSteps := 3000000) (disch := first | omega | (simp only [len_new, len_put, len_kill]; omega)) only [↓xpre, xpost, ↓reduceIte, Nat.reduceEqDiff, Nat.reduceAdd, Nat.reduceSub, Nat.reduceLeDiff, Nat.zero_add, Nat.sub_zero, aggV, cel_all]
  generalize hH1 : AH.new h _ = H1
  obtain ⟨hb1, p1, n1⟩ := new_facts hH1
  refine WC_loop_inv (fun m f K1 => ∃ (i : Nat), m = 9 - i ∧ i ≤ 9 ∧ f 0 = I64 p ∧ f 2 = I64 n ∧ f 4 = .pointer (some ⟨h.length, 0, none⟩) ∧ f 7 = I64 i ∧ (K1 = H1) ∧ (∀ j, j < i → okAt p n q j = true)) ?_ (9 - 0) _ _ ⟨0, rfl, by omega, (by first | rfl | (simp [upd_apply]; done)), (by first | rfl | (simp [upd_apply]; done)), (by first | rfl | (simp [upd_apply]; done)), (by first | rfl | (simp [upd_apply]; done)), rfl, (by omega)⟩
  rintro m f K1 ⟨i, rfl, hi, f0, f2, f4, f7, hK, hj⟩
  subst hK
  try simp (maxSteps := 3000000) (disch := first | omega | (simp only [len_new, len_put, len_kill]; omega)) only [↓xpre, xpost, ↓reduceIte, Nat.reduceEqDiff, Nat.reduceAdd, Nat.reduceSub, Nat.reduceLeDiff, Nat.zero_add, Nat.sub_zero, f0, f2, f4, f7, IfW_dec]
  refine ⟨fun hlt => ?_, fun hge => ?_⟩
  · have hi' : i < 9 := by omega
    have g1 := cel_get (k := .u8) (q := q) (j := i) (by rw [hq.1]; exact hi')
    have b1 := hq.2 i hi'
    have no : okAt p n q i = false → Q (.bool false) K1 := fun e => by have := hQ _ p1; rw [okForm_f hi' e] at this; exact this
    by_cases c1 : p ≤ q.getD i 0
    · try simp (maxSteps := 3000000) (disch := first | omega | (simp only [len_new, len_put, len_kill]; omega)) only [↓xpre, xpost, ↓reduceIte, Nat.reduceEqDiff, Nat.reduceAdd, Nat.reduceSub, Nat.reduceLeDiff, Nat.zero_add, Nat.sub_zero, f0, f2, f4, f7, ↓WX_ixa, ixaV_ptr, Int.toNat_natCast, Nat.mul_one, rd1_of hb1, g1, wrap64_in, decide_eq_true c1, WG_un]
      exact no (by unfold okAt; exact decide_eq_false (by omega))
    by_cases c2 : n ≤ (i : Int)
    · by_cases c3 : q.getD i 0 = 0
      · try simp (maxSteps := 3000000) (disch := first | omega | (simp only [len_new, len_put, len_kill]; omega)) only [↓xpre, xpost, ↓reduceIte, Nat.reduceEqDiff, Nat.reduceAdd, Nat.reduceSub, Nat.reduceLeDiff, Nat.zero_add, Nat.sub_zero, f0, f2, f4, f7, ↓WX_ixa, ixaV_ptr, Int.toNat_natCast, Nat.mul_one, rd1_of hb1, g1, wrap64_in, decide_eq_false c1, decide_eq_true c2, decide_eq_false (show ¬ (q.getD i 0 ≠ 0) from fun e => e c3)]
        refine InvQ_go (9 - (i + 1)) (by omega) ⟨(i + 1), rfl, by omega, (by first | rfl | exact f0 | (simp only [upd_apply]; rfl) | (show I64 _ = _; congr 1; omega)), (by first | rfl | exact f2 | (simp only [upd_apply]; rfl) | (show I64 _ = _; congr 1; omega)), (by first | rfl | exact f4 | (simp only [upd_apply]; rfl) | (show I64 _ = _; congr 1; omega)), (by first | rfl | exact f7 | (simp only [upd_apply]; rfl) | (show I64 _ = _; congr 1; omega)), rfl, (step_all hj (by unfold okAt; exact decide_eq_true ⟨by omega, fun _ => c3⟩))⟩
      · try simp (maxSteps := 3000000) (disch := first | omega | (simp only [len_new, len_put, len_kill]; omega)) only [↓xpre, xpost, ↓reduceIte, Nat.reduceEqDiff, Nat.reduceAdd, Nat.reduceSub, Nat.reduceLeDiff, Nat.zero_add, Nat.sub_zero, f0, f2, f4, f7, ↓WX_ixa, ixaV_ptr, Int.toNat_natCast, Nat.mul_one, rd1_of hb1, g1, wrap64_in, decide_eq_false c1, decide_eq_true c2, decide_eq_true (show q.getD i 0 ≠ 0 from c3)]
        exact no (by unfold okAt; exact decide_eq_false (fun e => c3 (e.2 c2)))
    · try simp (maxSteps := 3000000) (disch := first | omega | (simp only [len_new, len_put, len_kill]; omega)) only [↓xpre, xpost, ↓reduceIte, Nat.reduceEqDiff, Nat.reduceAdd, Nat.reduceSub, Nat.reduceLeDiff, Nat.zero_add, Nat.sub_zero, f0, f2, f4, f7, ↓WX_ixa, ixaV_ptr, Int.toNat_natCast, Nat.mul_one, rd1_of hb1, g1, wrap64_in, decide_eq_false c1, decide_eq_false c2, WG_un]
      refine InvQ_go (9 - (i + 1)) (by omega) ⟨(i + 1), rfl, by omega, (by first | rfl | exact f0 | (simp only [upd_apply]; rfl) | (show I64 _ = _; congr 1; omega)), (by first | rfl | exact f2 | (simp only [upd_apply]; rfl) | (show I64 _ = _; congr 1; omega)), (by first | rfl | exact f4 | (simp only [upd_apply]; rfl) | (show I64 _ = _; congr 1; omega)), (by first | rfl | exact f7 | (simp only [upd_apply]; rfl) | (show I64 _ = _; congr 1; omega)), rfl, (step_all hj (by unfold okAt; exact decide_eq_true ⟨by omega, fun e => absurd e c2⟩))⟩
  · try simp (maxSteps := 3000000) (disch := first | omega | (simp only [len_new, len_put, len_kill]; omega)) only [↓xpre, xpost, ↓reduceIte, Nat.reduceEqDiff, Nat.reduceAdd, Nat.reduceSub, Nat.reduceLeDiff, Nat.zero_add, Nat.sub_zero, f0, f2, f4, f7]
    have := hQ _ p1
    rw [okForm_t fun j hj' => hj j (by omega)] at this
    exact this
theorem idx1V_cel {k : IntKind} {q : List Int} {n j : Nat} {kk : IntKind} (hj : j < n) (hq : j < q.length) : idx1V n (.agg (cel k q).toArray) (.int kk j) = some (.int k (q.getD j 0)) := by
  simp only [idx1V, Int.toNat_natCast]
  rw [if_pos (by omega), cel_get hq]
theorem i_isForm {p n : Int} {q : List Int} {h : AH} {Q : Value → AH → Prop} (hq : By 9 q) (hQ : ∀ h', h <+: h' → Q (.bool (okForm p n q)) h') : WF S 116 [I64 p, I64 n, aggV .u8 q] h Q := by
  refine WF_fn (fn := c116) rfl rfl ?_
  unfold c116
  have tk : q.take 9 = q := List.take_of_length_le (by rw [hq.1]; exact Nat.le_refl _)
  try simp (maxSteps := 3000000) (disch := first | omega | (simp only [len_new, len_put, len_kill]; omega)) only [↓xpre, xpost, ↓reduceIte, Nat.reduceEqDiff, Nat.reduceAdd, Nat.reduceSub, Nat.reduceLeDiff, Nat.zero_add, Nat.sub_zero, aggV, cel_all]
  generalize hH1 : AH.new h _ = H1
  obtain ⟨hb1, p1, n1⟩ := new_facts hH1
  try simp (maxSteps := 3000000) (disch := first | omega | (simp only [len_new, len_put, len_kill]; omega)) only [↓xpre, xpost, ↓reduceIte, Nat.reduceEqDiff, Nat.reduceAdd, Nat.reduceSub, Nat.reduceLeDiff, Nat.zero_add, Nat.sub_zero, rdn_of hb1, cel_len, hq.1, cel_take, tk]
  refine WC_loop_inv (fun m f K1 => ∃ (i : Nat), m = 9 - i ∧ i ≤ 9 ∧ f 0 = I64 p ∧ f 1 = I64 n ∧ f 9 = .agg (cel .u8 q).toArray ∧ f 10 = I64 i ∧ (K1 = H1) ∧ (∀ j, j < i → okAt p n q j = true)) ?_ (9 - 0) _ _ ⟨0, rfl, by omega, (by first | rfl | (simp [upd_apply]; done)), (by first | rfl | (simp [upd_apply]; done)), (by first | rfl | (simp [upd_apply]; done)), (by first | rfl | (simp [upd_apply]; done)), rfl, (by omega)⟩
  rintro m f K1 ⟨i, rfl, hi, f0, f1, f9, f10, hK, hj⟩
  subst hK
  try simp (maxSteps := 3000000) (disch := first | omega | (simp only [len_new, len_put, len_kill]; omega)) only [↓xpre, xpost, ↓reduceIte, Nat.reduceEqDiff, Nat.reduceAdd, Nat.reduceSub, Nat.reduceLeDiff, Nat.zero_add, Nat.sub_zero, f0, f1, f9, f10, IfW_dec]
  refine ⟨fun hlt => ?_, fun hge => ?_⟩
  · have hi' : i < 9 := by omega
    have g1 := idx1V_cel (k := .u8) (q := q) (n := 9) (j := i) (kk := .i64) hi' (by rw [hq.1]; exact hi')
    have b1 := hq.2 i hi'
    have no : okAt p n q i = false → Q (.bool false) K1 := fun e => by have := hQ _ p1; rw [okForm_f hi' e] at this; exact this
    by_cases c1 : p ≤ q.getD i 0
    · try simp (maxSteps := 3000000) (disch := first | omega | (simp only [len_new, len_put, len_kill]; omega)) only [↓xpre, xpost, ↓reduceIte, Nat.reduceEqDiff, Nat.reduceAdd, Nat.reduceSub, Nat.reduceLeDiff, Nat.zero_add, Nat.sub_zero, f0, f1, f9, f10, ↓WX_idx1, g1, wrap64_in, decide_eq_true c1, WG_un]
      exact no (by unfold okAt; exact decide_eq_false (by omega))
    by_cases c3 : q.getD i 0 = 0
    · try simp (maxSteps := 3000000) (disch := first | omega | (simp only [len_new, len_put, len_kill]; omega)) only [↓xpre, xpost, ↓reduceIte, Nat.reduceEqDiff, Nat.reduceAdd, Nat.reduceSub, Nat.reduceLeDiff, Nat.zero_add, Nat.sub_zero, f0, f1, f9, f10, ↓WX_idx1, g1, wrap64_in, decide_eq_false c1, decide_eq_false (show ¬ (q.getD i 0 ≠ 0) from fun e => e c3)]
      refine InvQ_go (9 - (i + 1)) (by omega) ⟨(i + 1), rfl, by omega, (by first | rfl | exact f0 | (simp only [upd_apply]; rfl) | (show I64 _ = _; congr 1; omega)), (by first | rfl | exact f1 | (simp only [upd_apply]; rfl) | (show I64 _ = _; congr 1; omega)), (by first | rfl | exact f9 | (simp only [upd_apply]; rfl) | (show I64 _ = _; congr 1; omega)), (by first | rfl | exact f10 | (simp only [upd_apply]; rfl) | (show I64 _ = _; congr 1; omega)), rfl, (step_all hj (by unfold okAt; exact decide_eq_true ⟨by omega, fun _ => c3⟩))⟩
    · by_cases c2 : n ≤ (i : Int)
      · try simp (maxSteps := 3000000) (disch := first | omega | (simp only [len_new, len_put, len_kill]; omega)) only [↓xpre, xpost, ↓reduceIte, Nat.reduceEqDiff, Nat.reduceAdd, Nat.reduceSub, Nat.reduceLeDiff, Nat.zero_add, Nat.sub_zero, f0, f1, f9, f10, ↓WX_idx1, g1, wrap64_in, decide_eq_false c1, decide_eq_true c2, decide_eq_true (show q.getD i 0 ≠ 0 from c3)]
        exact no (by unfold okAt; exact decide_eq_false (fun e => c3 (e.2 c2)))
      · try simp (maxSteps := 3000000) (disch := first | omega | (simp only [len_new, len_put, len_kill]; omega)) only [↓xpre, xpost, ↓reduceIte, Nat.reduceEqDiff, Nat.reduceAdd, Nat.reduceSub, Nat.reduceLeDiff, Nat.zero_add, Nat.sub_zero, f0, f1, f9, f10, ↓WX_idx1, g1, wrap64_in, decide_eq_false c1, decide_eq_false c2, decide_eq_true (show q.getD i 0 ≠ 0 from c3)]
        refine InvQ_go (9 - (i + 1)) (by omega) ⟨(i + 1), rfl, by omega, (by first | rfl | exact f0 | (simp only [upd_apply]; rfl) | (show I64 _ = _; congr 1; omega)), (by first | rfl | exact f1 | (simp only [upd_apply]; rfl) | (show I64 _ = _; congr 1; omega)), (by first | rfl | exact f9 | (simp only [upd_apply]; rfl) | (show I64 _ = _; congr 1; omega)), (by first | rfl | exact f10 | (simp only [upd_apply]; rfl) | (show I64 _ = _; congr 1; omega)), rfl, (step_all hj (by unfold okAt; exact decide_eq_true ⟨by omega, fun e => absurd e c2⟩))⟩
  · try simp (maxSteps := 3000000) (disch := first | omega | (simp only [len_new, len_put, len_kill]; omega)) only [↓xpre, xpost, ↓reduceIte, Nat.reduceEqDiff, Nat.reduceAdd, Nat.reduceSub, Nat.reduceLeDiff, Nat.zero_add, Nat.sub_zero, f0, f1, f9, f10]
    have := hQ _ p1
    rw [okForm_t fun j hj' => hj j (by omega)] at this
    exact this

def z9 : List Int := [0, 0, 0, 0, 0, 0, 0, 0, 0]
theorem zeros9' : ([.int .u8 0, .int .u8 0, .int .u8 0, .int .u8 0, .int .u8 0, .int .u8 0, .int .u8 0, .int .u8 0, .int .u8 0] : List Value) = cel .u8 z9 := rfl
def isZ (q : List Int) : Bool := q == z9
theorem intsOf_cel {k : IntKind} : ∀ {q : List Int}, q ≠ [] → intsOf (cel k q) = some (k, q)
  | [], h => absurd rfl h
  | [a], _ => rfl
  | a :: b :: l, _ => by
    have ih := intsOf_cel (k := k) (q := b :: l) (by simp)
    have e : cel k (a :: b :: l) = .int k a :: cel k (b :: l) := rfl
    have e2 : cel k (b :: l) = .int k b :: cel k l := rfl
    rw [e2] at ih
    rw [e, e2]
    simp only [intsOf, ih, if_true]
theorem eqaV_cel {n : Nat} {k : IntKind} {q r : List Int} (hq : q.length = n) (hr : r.length = n) (h0 : 0 < n) : eqaV false n (.agg (cel k q).toArray) (.agg (cel k r).toArray) = some (.bool (q == r)) := by
  have e1 := intsOf_cel (k := k) (q := q) (by intro e; rw [e] at hq; simp at hq; omega)
  have e2 := intsOf_cel (k := k) (q := r) (by intro e; rw [e] at hr; simp at hr; omega)
  simp only [eqaV, e1, e2]
  rw [if_pos ⟨trivial, hq, hr⟩]
  simp
theorem s_l01Zero {q : List Int} {h : AH} {Q : Value → AH → Prop} (hq : q.length = 9) (hQ : ∀ h', h <+: h' → Q (.bool (isZ q)) h') : WF S 122 [aggV .u8 q] h Q := by
  refine WF_fn (fn := c122) rfl rfl ?_
  unfold c122
  have tk : q.take 9 = q := List.take_of_length_le (by rw [hq]; exact Nat.le_refl _)
  have e := eqaV_cel (k := .u8) hq (show z9.length = 9 from rfl) (by omega)
  try simp (maxSteps := 3000000) (disch := first | omega | (simp only [len_new, len_put, len_kill]; omega)) only [↓xpre, xpost, ↓reduceIte, Nat.reduceEqDiff, Nat.reduceAdd, Nat.reduceSub, Nat.reduceLeDiff, Nat.zero_add, Nat.sub_zero, aggV, cel_all, cel_len, hq, cel_take, tk, fillL, zeros9', e]
  have := hQ _ (pre_new (b := ⟨cel .u8 q, 112, false, true⟩) (List.prefix_refl h))
  unfold isZ at this
  simpa using this
def seg (q : List Int) (i : Nat) : List Int := (q.drop (i * 9)).take 9
theorem By.seg {q : List Int} (hq : By 27 q) {i : Nat} (hi : i < 3) : By 9 (seg q i) := by
  have h1 := hq.1
  refine ⟨by unfold X.seg; simp; omega, fun j hj => ?_⟩
  unfold X.seg
  rw [cut_get hj]
  exact hq.2 _ (by omega)
def hasZ (q : List Int) : Bool := isZ (seg q 0) || isZ (seg q 1) || isZ (seg q 2)
theorem i_hasZero {q : List Int} {h : AH} {Q : Value → AH → Prop} (hq : By 27 q) (hQ : ∀ h', h <+: h' → Q (.bool (hasZ q)) h') : WF S 117 [aggV .u8 q] h Q := by
  refine WF_fn (fn := c117) rfl rfl ?_
  unfold c117
  have hQ' := hQ _ (pre_new (b := ⟨cel .u8 q, 114, false, true⟩) (List.prefix_refl h))
  have hz9 : z9.length = 9 := rfl
  have e0 := eqaV_cel (k := .u8) (hq.seg (i := 0) (by omega)).1 hz9 (by omega)
  have e1 := eqaV_cel (k := .u8) (hq.seg (i := 1) (by omega)).1 hz9 (by omega)
  have e2 := eqaV_cel (k := .u8) (hq.seg (i := 2) (by omega)).1 hz9 (by omega)
  have s0 : seg q 0 = q.take 9 := by unfold seg; simp
  have s1 : seg q 1 = (q.drop 9).take 9 := rfl
  have s2 : seg q 2 = (q.drop 18).take 9 := rfl
  unfold hasZ isZ at hQ'
  rw [s0] at e0 hQ'
  rw [s1] at e1 hQ'
  rw [s2] at e2 hQ'
  generalize hc0 : (q.take 9 == z9) = c0 at *
  generalize hc1 : ((q.drop 9).take 9 == z9) = c1 at *
  generalize hc2 : ((q.drop 18).take 9 == z9) = c2 at *
  try simp (maxSteps := 3000000) (disch := first | omega | (simp only [len_new, len_put, len_kill]; omega)) only [↓xpre, xpost, ↓reduceIte, Nat.reduceEqDiff, Nat.reduceAdd, Nat.reduceSub, Nat.reduceLeDiff, Nat.zero_add, Nat.sub_zero, aggV, cel_all, cel_len, hq.1, cel_take, cel_drop, List.drop_zero, fillL, zeros9', e0]
  cases c0 with
  | true =>
    try simp (maxSteps := 3000000) (disch := first | omega | (simp only [len_new, len_put, len_kill]; omega)) only [↓xpre, xpost, ↓reduceIte, Nat.reduceEqDiff, Nat.reduceAdd, Nat.reduceSub, Nat.reduceLeDiff, Nat.zero_add, Nat.sub_zero]
    exact hQ'
  | false =>
    try simp (maxSteps := 3000000) (disch := first | omega | (simp only [len_new, len_put, len_kill]; omega)) only [↓xpre, xpost, ↓reduceIte, Nat.reduceEqDiff, Nat.reduceAdd, Nat.reduceSub, Nat.reduceLeDiff, Nat.zero_add, Nat.sub_zero, cel_all, cel_len, hq.1, cel_take, cel_drop, fillL, zeros9', e1]
    cases c1 with
    | true =>
      try simp (maxSteps := 3000000) (disch := first | omega | (simp only [len_new, len_put, len_kill]; omega)) only [↓xpre, xpost, ↓reduceIte, Nat.reduceEqDiff, Nat.reduceAdd, Nat.reduceSub, Nat.reduceLeDiff, Nat.zero_add, Nat.sub_zero]
      exact hQ'
    | false =>
      try simp (maxSteps := 3000000) (disch := first | omega | (simp only [len_new, len_put, len_kill]; omega)) only [↓xpre, xpost, ↓reduceIte, Nat.reduceEqDiff, Nat.reduceAdd, Nat.reduceSub, Nat.reduceLeDiff, Nat.zero_add, Nat.sub_zero, cel_all, cel_len, hq.1, cel_take, cel_drop, fillL, zeros9', e2]
      exact hQ'
end Go.Proofs.Ytphklalbkpohfaa.X

/- What schemes are: sizes, places, products, the whole. -/
set_option linter.unusedVariables false
set_option linter.unusedSimpArgs false
set_option maxRecDepth 20000
set_option maxHeartbeats 4000000
namespace Go.Proofs.Ytphklalbkpohfaa.X
open Go Go.RowKit

def sz (n : Int) : Bool := decide (1 ≤ n ∧ n ≤ 3)
theorem s_l01Sizes {p n m k : Int} {h : AH} {Q : Value → AH → Prop} (hQ : Q (.bool (isP p && sz n && sz m && sz k)) h) : WF S 52 [I64 p, I64 n, I64 m, I64 k] h Q := by
  refine WF_fn (fn := c52) rfl rfl ?_
  unfold c52
  try simp (maxSteps := 3000000) (disch := first | omega | (simp only [len_new, len_put, len_kill]; omega)) only [↓xpre, xpost, ↓reduceIte, Nat.reduceEqDiff, Nat.reduceAdd, Nat.reduceSub, Nat.reduceLeDiff, Nat.zero_add, Nat.sub_zero]
  refine s_l01Prime ?_
  cases c0 : isP p with
  | false =>
    rw [c0] at hQ
    try simp (maxSteps := 3000000) (disch := first | omega | (simp only [len_new, len_put, len_kill]; omega)) only [↓xpre, xpost, ↓reduceIte, Nat.reduceEqDiff, Nat.reduceAdd, Nat.reduceSub, Nat.reduceLeDiff, Nat.zero_add, Nat.sub_zero, WG_un]
    exact hQ
  | true =>
    rw [c0] at hQ
    try simp (maxSteps := 3000000) (disch := first | omega | (simp only [len_new, len_put, len_kill]; omega)) only [↓xpre, xpost, ↓reduceIte, Nat.reduceEqDiff, Nat.reduceAdd, Nat.reduceSub, Nat.reduceLeDiff, Nat.zero_add, Nat.sub_zero]
    refine s_l01In ?_
    have e1 : decide (1 ≤ n ∧ n ≤ 3) = sz n := rfl
    have e2 : decide (1 ≤ m ∧ m ≤ 3) = sz m := rfl
    have e3 : decide (1 ≤ k ∧ k ≤ 3) = sz k := rfl
    rw [e1]
    cases c1 : sz n with
    | false =>
      rw [c1] at hQ
      try simp (maxSteps := 3000000) (disch := first | omega | (simp only [len_new, len_put, len_kill]; omega)) only [↓xpre, xpost, ↓reduceIte, Nat.reduceEqDiff, Nat.reduceAdd, Nat.reduceSub, Nat.reduceLeDiff, Nat.zero_add, Nat.sub_zero, WG_un]
      exact hQ
    | true =>
      rw [c1] at hQ
      try simp (maxSteps := 3000000) (disch := first | omega | (simp only [len_new, len_put, len_kill]; omega)) only [↓xpre, xpost, ↓reduceIte, Nat.reduceEqDiff, Nat.reduceAdd, Nat.reduceSub, Nat.reduceLeDiff, Nat.zero_add, Nat.sub_zero]
      refine s_l01In ?_
      rw [e2]
      cases c2 : sz m with
      | false =>
        rw [c2] at hQ
        try simp (maxSteps := 3000000) (disch := first | omega | (simp only [len_new, len_put, len_kill]; omega)) only [↓xpre, xpost, ↓reduceIte, Nat.reduceEqDiff, Nat.reduceAdd, Nat.reduceSub, Nat.reduceLeDiff, Nat.zero_add, Nat.sub_zero, WG_un]
        exact hQ
      | true =>
        rw [c2] at hQ
        try simp (maxSteps := 3000000) (disch := first | omega | (simp only [len_new, len_put, len_kill]; omega)) only [↓xpre, xpost, ↓reduceIte, Nat.reduceEqDiff, Nat.reduceAdd, Nat.reduceSub, Nat.reduceLeDiff, Nat.zero_add, Nat.sub_zero]
        refine s_l01In ?_
        rw [e3]
        try simp (maxSteps := 3000000) (disch := first | omega | (simp only [len_new, len_put, len_kill]; omega)) only [↓xpre, xpost, ↓reduceIte, Nat.reduceEqDiff, Nat.reduceAdd, Nat.reduceSub, Nat.reduceLeDiff, Nat.zero_add, Nat.sub_zero]
        exact hQ
theorem i_isSize {v : Value} {ns : List Int} {h : AH} {Q : Value → AH → Prop} (hv : Ints h v ns) (hl : (ns.length : Int) ≤ 1048576) (hQ : Q (.bool (ns.all sz)) h) : WF S 96 [v] h Q := by
  refine WF_fn (fn := c96) rfl rfl ?_
  unfold c96
  try simp (maxSteps := 3000000) (disch := first | omega | (simp only [len_new, len_put, len_kill]; omega)) only [↓xpre, xpost, ↓reduceIte, Nat.reduceEqDiff, Nat.reduceAdd, Nat.reduceSub, Nat.reduceLeDiff, Nat.zero_add, Nat.sub_zero, hv.len]
  refine WC_loop_inv (fun m f K1 => ∃ (i : Nat), m = ns.length - i ∧ i ≤ ns.length ∧ f 5 = v ∧ f 6 = I64 ns.length ∧ f 7 = I64 i ∧ (K1 = h) ∧ (∀ j, j < i → sz (ns.getD j 0) = true)) ?_ (ns.length - 0) _ _ ⟨0, rfl, by omega, (by first | rfl | (simp [upd_apply]; done)), (by first | rfl | (simp [upd_apply]; done)), (by first | rfl | (simp [upd_apply]; done)), rfl, (by omega)⟩
  rintro m f K1 ⟨i, rfl, hi, f5, f6, f7, hK, hj⟩
  subst hK
  try simp (maxSteps := 3000000) (disch := first | omega | (simp only [len_new, len_put, len_kill]; omega)) only [↓xpre, xpost, ↓reduceIte, Nat.reduceEqDiff, Nat.reduceAdd, Nat.reduceSub, Nat.reduceLeDiff, Nat.zero_add, Nat.sub_zero, f5, f6, f7, IfW_dec]
  refine ⟨fun hlt => ?_, fun hge => ?_⟩
  · have hi' : i < ns.length := by omega
    have hix := hv.ix (k := .i64) (j := i) (by omega) (by omega)
    have hrd := hv.rd (j := i) (by omega) (by omega)
    simp only [nth, Int.toNat_natCast] at hrd
    have no : sz (ns.getD i 0) = false → Q (.bool false) K1 := fun e => by
      have : ns.all sz = false := by
        rw [List.all_eq_false]
        refine ⟨ns.getD i 0, ?_, by rw [e]; simp⟩
        rw [List.getD_eq_getElem?_getD, List.getElem?_eq_getElem hi']
        exact List.getElem_mem hi'
      rw [this] at hQ
      exact hQ
    by_cases c1 : ns.getD i 0 < 1
    · try simp (maxSteps := 3000000) (disch := first | omega | (simp only [len_new, len_put, len_kill]; omega)) only [↓xpre, xpost, ↓reduceIte, Nat.reduceEqDiff, Nat.reduceAdd, Nat.reduceSub, Nat.reduceLeDiff, Nat.zero_add, Nat.sub_zero, f5, f6, f7, hix, hrd, decide_eq_true c1, WG_un]
      exact no (by unfold sz; exact decide_eq_false (by omega))
    by_cases c2 : 3 < ns.getD i 0
    · try simp (maxSteps := 3000000) (disch := first | omega | (simp only [len_new, len_put, len_kill]; omega)) only [↓xpre, xpost, ↓reduceIte, Nat.reduceEqDiff, Nat.reduceAdd, Nat.reduceSub, Nat.reduceLeDiff, Nat.zero_add, Nat.sub_zero, f5, f6, f7, hix, hrd, decide_eq_false c1, decide_eq_true c2]
      exact no (by unfold sz; exact decide_eq_false (by omega))
    try simp (maxSteps := 3000000) (disch := first | omega | (simp only [len_new, len_put, len_kill]; omega)) only [↓xpre, xpost, ↓reduceIte, Nat.reduceEqDiff, Nat.reduceAdd, Nat.reduceSub, Nat.reduceLeDiff, Nat.zero_add, Nat.sub_zero, f5, f6, f7, hix, hrd, decide_eq_false c1, decide_eq_false c2, wrap64_in]
    refine InvQ_go (ns.length - (i + 1)) (by omega) ⟨(i + 1), rfl, by omega, (by first | rfl | exact f5 | (simp only [upd_apply]; rfl) | (show I64 _ = _; congr 1; omega)), (by first | rfl | exact f6 | (simp only [upd_apply]; rfl) | (show I64 _ = _; congr 1; omega)), (by first | rfl | exact f7 | (simp only [upd_apply]; rfl) | (show I64 _ = _; congr 1; omega)), rfl, (step_all hj (by unfold sz; exact decide_eq_true (by omega)))⟩
  · try simp (maxSteps := 3000000) (disch := first | omega | (simp only [len_new, len_put, len_kill]; omega)) only [↓xpre, xpost, ↓reduceIte, Nat.reduceEqDiff, Nat.reduceAdd, Nat.reduceSub, Nat.reduceLeDiff, Nat.zero_add, Nat.sub_zero, f5, f6, f7]
    have : ns.all sz = true := by
      rw [List.all_eq_true]
      intro x hx
      obtain ⟨j, hj', rfl⟩ := List.mem_iff_getElem.1 hx
      have := hj j (by omega)
      rw [List.getD_eq_getElem?_getD, List.getElem?_eq_getElem hj'] at this
      exact this
    rw [this] at hQ
    exact hQ
/-- Sizes and prime as told. -/
def szX (x : Sch) : Bool := isP x.p && sz x.n && sz x.m && sz x.k
structure SZ (x : Sch) : Prop where
  p : 2 ≤ x.p ∧ x.p ≤ 5
  n : 1 ≤ x.n ∧ x.n ≤ 3
  m : 1 ≤ x.m ∧ x.m ≤ 3
  k : 1 ≤ x.k ∧ x.k ≤ 3
  nm : 1 ≤ x.n * x.m ∧ x.n * x.m ≤ 9
  mk2 : 1 ≤ x.m * x.k ∧ x.m * x.k ≤ 9
  nk : 1 ≤ x.n * x.k ∧ x.n * x.k ≤ 9
theorem szX_facts {x : Sch} (h : szX x = true) : SZ x := by
  simp only [szX, sz, Bool.and_eq_true, decide_eq_true_eq] at h
  obtain ⟨⟨⟨h1, h2⟩, h3⟩, h4⟩ := h
  exact ⟨isP_in h1, h2, h3, h4, mul_in1 (A := 3) (B := 3) h2 h3, mul_in1 (A := 3) (B := 3) h3 h4, mul_in1 (A := 3) (B := 3) h2 h4⟩
theorem xres_tmp3 {f : Fr} {h : AH} {t u w : Nat} : xres f h [.tmp t, .tmp u, .tmp w] = some (.tuple #[f t, f u, f w]) := rfl
theorem s_l01Lengths {x : Sch} {v : Value} {h : AH} {Q : Value → AH → Prop} (hv : isOne v = true) (z : SZ x) (hQ : ∀ h', h <+: h' → Q (.tuple #[I64 (x.n * x.m), I64 (x.m * x.k), I64 (x.n * x.k)]) h') : WF S 78 [schV x v] h Q := by
  refine WF_fn (fn := c78) rfl rfl ?_
  unfold c78
  have := z.nm
  have := z.mk2
  have := z.nk
  try simp (maxSteps := 3000000) (disch := first | omega | (simp only [len_new, len_put, len_kill]; omega)) only [↓xpre, xpost, ↓reduceIte, Nat.reduceEqDiff, Nat.reduceAdd, Nat.reduceSub, Nat.reduceLeDiff, Nat.zero_add, Nat.sub_zero, schV, hv, wrap64_in, xres_tmp3]
  exact hQ _ (pre_new (List.prefix_refl _))
theorem i_placesOf {x : Sch} {v : Value} {h : AH} {Q : Value → AH → Prop} (hv : isOne v = true) (z : SZ x) (hQ : ∀ h', h <+: h' → Q (.agg #[I64 (x.n * x.m), I64 (x.m * x.k), I64 (x.n * x.k)]) h') : WF S 62 [schV x v] h Q := by
  refine WF_fn (fn := c62) rfl rfl ?_
  unfold c62
  have := z.nm
  have := z.mk2
  have := z.nk
  try simp (maxSteps := 3000000) (disch := first | omega | (simp only [len_new, len_put, len_kill]; omega)) only [↓xpre, xpost, ↓reduceIte, Nat.reduceEqDiff, Nat.reduceAdd, Nat.reduceSub, Nat.reduceLeDiff, Nat.zero_add, Nat.sub_zero, schV, hv, wrap64_in, fillL]
  exact hQ _ (pre_new (pre_new (List.prefix_refl _)))
def pl (x : Sch) (i : Nat) : Int := if i = 0 then x.n * x.m else if i = 1 then x.m * x.k else x.n * x.k
def okProd (x : Sch) (q : List Int) : Bool := okForm x.p (pl x 0) (seg q 0) && okForm x.p (pl x 1) (seg q 1) && okForm x.p (pl x 2) (seg q 2) && !hasZ q
theorem s_l01Product {x : Sch} {v : Value} {q : List Int} {h : AH} {Q : Value → AH → Prop} (hv : isOne v = true) (z : SZ x) (hq : By 27 q) (hQ : ∀ h', h <+: h' → Q (.bool (okProd x q)) h') :
    WF S 109 [schV x v, aggV .u8 q] h Q := by
  refine WF_fn (fn := c109) rfl rfl ?_
  unfold c109
  have s0 : q.take 9 = seg q 0 := by unfold seg; simp
  have s1 : (q.drop 9).take 9 = seg q 1 := rfl
  have s2 : (q.drop 18).take 9 = seg q 2 := rfl
  try simp (maxSteps := 3000000) (disch := first | omega | (simp only [len_new, len_put, len_kill]; omega)) only [↓xpre, xpost, ↓reduceIte, Nat.reduceEqDiff, Nat.reduceAdd, Nat.reduceSub, Nat.reduceLeDiff, Nat.zero_add, Nat.sub_zero, schV, hv, aggV, cel_all]
  generalize hH1 : AH.new h _ = H1
  obtain ⟨hb1, p1, n1⟩ := new_facts hH1
  generalize hH2 : AH.new H1 _ = H2
  obtain ⟨hb2, p2, n2⟩ := new_facts hH2
  have hb1 := pre_get p2 hb1
  try simp (maxSteps := 3000000) (disch := first | omega | (simp only [len_new, len_put, len_kill]; omega)) only [↓xpre, xpost, ↓reduceIte, Nat.reduceEqDiff, Nat.reduceAdd, Nat.reduceSub, Nat.reduceLeDiff, Nat.zero_add, Nat.sub_zero, rdn_of hb1]
  refine s_l01Lengths hv z fun H3 p3 => ?_
  have hb1 := pre_get p3 hb1
  have hb2 := pre_get p3 hb2
  try simp (maxSteps := 3000000) (disch := first | omega | (simp only [len_new, len_put, len_kill]; omega)) only [↓xpre, xpost, ↓reduceIte, Nat.reduceEqDiff, Nat.reduceAdd, Nat.reduceSub, Nat.reduceLeDiff, Nat.zero_add, Nat.sub_zero, rd1_of hb1, rdn_of hb2, cel_len, hq.1, cel_take, cel_drop, List.drop_zero, s0, s1, s2]
  refine s_l01Form (hq.seg (by omega)) fun H4 p4 => ?_
  have hb1 := pre_get p4 hb1
  have hb2 := pre_get p4 hb2
  unfold okProd hasZ at hQ
  have e0 : pl x 0 = x.n * x.m := rfl
  have e1 : pl x 1 = x.m * x.k := rfl
  have e2 : pl x 2 = x.n * x.k := rfl
  rw [e0, e1, e2] at hQ
  have ph := (p1.trans p2).trans (p3.trans p4)
  cases c0 : okForm x.p (x.n * x.m) (seg q 0) with
  | false =>
    try simp (maxSteps := 3000000) (disch := first | omega | (simp only [len_new, len_put, len_kill]; omega)) only [↓xpre, xpost, ↓reduceIte, Nat.reduceEqDiff, Nat.reduceAdd, Nat.reduceSub, Nat.reduceLeDiff, Nat.zero_add, Nat.sub_zero, WG_un]
    have := hQ _ ph
    rw [c0] at this
    exact this
  | true =>
    rw [c0] at hQ
    try simp (maxSteps := 3000000) (disch := first | omega | (simp only [len_new, len_put, len_kill]; omega)) only [↓xpre, xpost, ↓reduceIte, Nat.reduceEqDiff, Nat.reduceAdd, Nat.reduceSub, Nat.reduceLeDiff, Nat.zero_add, Nat.sub_zero, rd1_of hb1, rdn_of hb2, cel_len, hq.1, cel_take, cel_drop, s0, s1, s2]
    refine s_l01Form (hq.seg (by omega)) fun H5 p5 => ?_
    have hb1 := pre_get p5 hb1
    have hb2 := pre_get p5 hb2
    have ph := ph.trans p5
    cases c1 : okForm x.p (x.m * x.k) (seg q 1) with
    | false =>
      try simp (maxSteps := 3000000) (disch := first | omega | (simp only [len_new, len_put, len_kill]; omega)) only [↓xpre, xpost, ↓reduceIte, Nat.reduceEqDiff, Nat.reduceAdd, Nat.reduceSub, Nat.reduceLeDiff, Nat.zero_add, Nat.sub_zero, WG_un]
      have := hQ _ ph
      rw [c1] at this
      exact this
    | true =>
      rw [c1] at hQ
      try simp (maxSteps := 3000000) (disch := first | omega | (simp only [len_new, len_put, len_kill]; omega)) only [↓xpre, xpost, ↓reduceIte, Nat.reduceEqDiff, Nat.reduceAdd, Nat.reduceSub, Nat.reduceLeDiff, Nat.zero_add, Nat.sub_zero, rd1_of hb1, rdn_of hb2, cel_len, hq.1, cel_take, cel_drop, s0, s1, s2]
      refine s_l01Form (hq.seg (by omega)) fun H6 p6 => ?_
      have hb1 := pre_get p6 hb1
      have hb2 := pre_get p6 hb2
      have ph := ph.trans p6
      cases c2 : okForm x.p (x.n * x.k) (seg q 2) with
      | false =>
        try simp (maxSteps := 3000000) (disch := first | omega | (simp only [len_new, len_put, len_kill]; omega)) only [↓xpre, xpost, ↓reduceIte, Nat.reduceEqDiff, Nat.reduceAdd, Nat.reduceSub, Nat.reduceLeDiff, Nat.zero_add, Nat.sub_zero, WG_un]
        have := hQ _ ph
        rw [c2] at this
        exact this
      | true =>
        rw [c2] at hQ
        try simp (maxSteps := 3000000) (disch := first | omega | (simp only [len_new, len_put, len_kill]; omega)) only [↓xpre, xpost, ↓reduceIte, Nat.reduceEqDiff, Nat.reduceAdd, Nat.reduceSub, Nat.reduceLeDiff, Nat.zero_add, Nat.sub_zero, rdn_of hb2, cel_len, hq.1, cel_take, cel_drop, List.drop_zero, s0, s1, s2]
        refine s_l01Zero (hq.seg (by omega)).1 fun H7 p7 => ?_
        have hb2 := pre_get p7 hb2
        have ph := ph.trans p7
        cases d0 : isZ (seg q 0) with
        | true =>
          try simp (maxSteps := 3000000) (disch := first | omega | (simp only [len_new, len_put, len_kill]; omega)) only [↓xpre, xpost, ↓reduceIte, Nat.reduceEqDiff, Nat.reduceAdd, Nat.reduceSub, Nat.reduceLeDiff, Nat.zero_add, Nat.sub_zero, WG_un]
          have := hQ _ ph
          rw [d0] at this
          exact this
        | false =>
          rw [d0] at hQ
          try simp (maxSteps := 3000000) (disch := first | omega | (simp only [len_new, len_put, len_kill]; omega)) only [↓xpre, xpost, ↓reduceIte, Nat.reduceEqDiff, Nat.reduceAdd, Nat.reduceSub, Nat.reduceLeDiff, Nat.zero_add, Nat.sub_zero, rdn_of hb2, cel_len, hq.1, cel_take, cel_drop, s0, s1, s2]
          refine s_l01Zero (hq.seg (by omega)).1 fun H8 p8 => ?_
          have hb2 := pre_get p8 hb2
          have ph := ph.trans p8
          cases d1 : isZ (seg q 1) with
          | true =>
            try simp (maxSteps := 3000000) (disch := first | omega | (simp only [len_new, len_put, len_kill]; omega)) only [↓xpre, xpost, ↓reduceIte, Nat.reduceEqDiff, Nat.reduceAdd, Nat.reduceSub, Nat.reduceLeDiff, Nat.zero_add, Nat.sub_zero, WG_un]
            have := hQ _ ph
            rw [d1] at this
            exact this
          | false =>
            rw [d1] at hQ
            try simp (maxSteps := 3000000) (disch := first | omega | (simp only [len_new, len_put, len_kill]; omega)) only [↓xpre, xpost, ↓reduceIte, Nat.reduceEqDiff, Nat.reduceAdd, Nat.reduceSub, Nat.reduceLeDiff, Nat.zero_add, Nat.sub_zero, rdn_of hb2, cel_len, hq.1, cel_take, cel_drop, s0, s1, s2]
            refine s_l01Zero (hq.seg (by omega)).1 fun H9 p9 => ?_
            have ph := ph.trans p9
            try simp (maxSteps := 3000000) (disch := first | omega | (simp only [len_new, len_put, len_kill]; omega)) only [↓xpre, xpost, ↓reduceIte, Nat.reduceEqDiff, Nat.reduceAdd, Nat.reduceSub, Nat.reduceLeDiff, Nat.zero_add, Nat.sub_zero]
            exact hQ _ ph
theorem i_factors {q : List Int} {h : AH} {Q : Value → AH → Prop} (hq : q.length = 27) (hQ : ∀ h', h <+: h' → Q (aggV .u8 q) h') : WF S 115 [aggV .u8 q] h Q := by
  refine WF_fn (fn := c115) rfl rfl ?_
  unfold c115
  have z27 : (List.replicate 27 (0 : Int)).length = 27 := by simp
  have a1 : (q.take 9).length = 9 := by simp; omega
  have a2 : ((q.drop 9).take 9).length = 9 := by simp; omega
  have a3 : ((q.drop 18).take 9).length = 9 := by simp; omega
  have fl : fillL ([.int .u8 0, .int .u8 0, .int .u8 0, .int .u8 0, .int .u8 0, .int .u8 0, .int .u8 0, .int .u8 0, .int .u8 0, .int .u8 0, .int .u8 0, .int .u8 0, .int .u8 0, .int .u8 0, .int .u8 0, .int .u8 0, .int .u8 0, .int .u8 0, .int .u8 0, .int .u8 0, .int .u8 0, .int .u8 0, .int .u8 0, .int .u8 0, .int .u8 0, .int .u8 0, .int .u8 0]) [(0, 9, .agg (cel .u8 (q.take 9)).toArray), (9, 9, .agg (cel .u8 ((q.drop 9).take 9)).toArray), (18, 9, .agg (cel .u8 ((q.drop 18).take 9)).toArray)] = some (cel .u8 q) := by
    have f0 : List.replicate 27 0 = fillN q 0 := by rw [fillN_zero, hq]
    have f3 : fillN q 27 = q := by have := fillN_all (ns := q); rw [hq] at this; exact this
    have s1 := cel_fill (k := .u8) (q := q) (i := 0) (n := 9) (by omega)
    have s2 := cel_fill (k := .u8) (q := q) (i := 9) (n := 9) (by omega)
    have s3 := cel_fill (k := .u8) (q := q) (i := 18) (n := 9) (by omega)
    rw [List.drop_zero, ← f0] at s1
    rw [f3] at s3
    have fl : ∀ i, i ≤ 27 → (fillN q i).length = 27 := fun i hi => by rw [fillN_len (by omega), hq]
    rw [zeros27]
    simp only [fillL, cellsL_cel, cel_len, a1, a2, a3, z27, fl 9 (by omega), fl 18 (by omega), s1, s2, s3, cel_all, and_self, if_true, Nat.reduceAdd, Nat.reduceLeDiff, Nat.zero_add]
  have tk : q.take 27 = q := List.take_of_length_le (by omega)
  have w1 : ∀ (h1 : AH) (e : TypeId), (h1.new ⟨[.int .u8 0, .int .u8 0, .int .u8 0, .int .u8 0, .int .u8 0, .int .u8 0, .int .u8 0, .int .u8 0, .int .u8 0, .int .u8 0, .int .u8 0, .int .u8 0, .int .u8 0, .int .u8 0, .int .u8 0, .int .u8 0, .int .u8 0, .int .u8 0, .int .u8 0, .int .u8 0, .int .u8 0, .int .u8 0, .int .u8 0, .int .u8 0, .int .u8 0, .int .u8 0, .int .u8 0], e, false, true⟩).wr h1.length 0 (cel .u8 q) = some (h1.new ⟨cel .u8 q, e, false, true⟩) := fun h1 e => wr_all (by rw [cel_len, hq]; rfl)
  try simp (maxSteps := 3000000) (disch := first | omega | (simp only [len_new, len_put, len_kill]; omega)) only [↓xpre, xpost, ↓reduceIte, Nat.reduceEqDiff, Nat.reduceAdd, Nat.reduceSub, Nat.reduceLeDiff, Nat.zero_add, Nat.sub_zero, aggV, cel_all, cel_len, hq, cel_take, cel_drop, List.drop_zero, fl, ↓w1, tk]
  exact hQ _ (pre_new (pre_new (List.prefix_refl _)))
theorem pl_get {x : Sch} {i : Nat} (hi : i < 3) : ([I64 (x.n * x.m), I64 (x.m * x.k), I64 (x.n * x.k)] : List Value)[i]? = some (I64 (pl x i)) := by
  have : i = 0 ∨ i = 1 ∨ i = 2 := by omega
  rcases this with rfl | rfl | rfl <;> rfl
theorem i_isProduct {x : Sch} {q : List Int} {h : AH} {Q : Value → AH → Prop} (z : SZ x) (hq : By 27 q) (hQ : ∀ h', h <+: h' → Q (.bool (okProd x q)) h') :
    WF S 104 [I64 x.p, .agg #[I64 (x.n * x.m), I64 (x.m * x.k), I64 (x.n * x.k)], aggV .u8 q] h Q := by
  refine WF_fn (fn := c104) rfl rfl ?_
  unfold c104
  try simp (maxSteps := 3000000) (disch := first | omega | (simp only [len_new, len_put, len_kill]; omega)) only [↓xpre, xpost, ↓reduceIte, Nat.reduceEqDiff, Nat.reduceAdd, Nat.reduceSub, Nat.reduceLeDiff, Nat.zero_add, Nat.sub_zero, aggV, cel_all]
  generalize hH1 : AH.new h _ = H1
  obtain ⟨hb1, p1, n1⟩ := new_facts hH1
  generalize hH2 : AH.new H1 _ = H2
  obtain ⟨hb2, p2, n2⟩ := new_facts hH2
  have hb1 := pre_get p2 hb1
  have tk : q.take 27 = q := List.take_of_length_le (by rw [hq.1]; exact Nat.le_refl _)
  try simp (maxSteps := 3000000) (disch := first | omega | (simp only [len_new, len_put, len_kill]; omega)) only [↓xpre, xpost, ↓reduceIte, Nat.reduceEqDiff, Nat.reduceAdd, Nat.reduceSub, Nat.reduceLeDiff, Nat.zero_add, Nat.sub_zero, rdn_of hb2, cel_len, hq.1, cel_take, tk]
  refine i_factors hq.1 fun H3 p3 => ?_
  try simp (maxSteps := 3000000) (disch := first | omega | (simp only [len_new, len_put, len_kill]; omega)) only [↓xpre, xpost, ↓reduceIte, Nat.reduceEqDiff, Nat.reduceAdd, Nat.reduceSub, Nat.reduceLeDiff, Nat.zero_add, Nat.sub_zero]
  refine WC_loop_inv (fun m f K1 => ∃ (i : Nat), m = 3 - i ∧ i ≤ 3 ∧ f 0 = I64 x.p ∧ f 4 = .pointer (some ⟨h.length, 0, none⟩) ∧ f 5 = .pointer (some ⟨H1.length, 0, none⟩) ∧ f 10 = aggV .u8 q ∧ f 11 = I64 i ∧ (H3 <+: K1) ∧ (∀ j, j < i → okForm x.p (pl x j) (seg q j) = true)) ?_ (3 - 0) _ _ ⟨0, rfl, by omega, (by first | rfl | (simp [upd_apply]; done)), (by first | rfl | (simp [upd_apply]; done)), (by first | rfl | (simp [upd_apply]; done)), (by first | rfl | (simp [upd_apply]; done)), (by first | rfl | (simp [upd_apply]; done)), List.prefix_refl _, (by omega)⟩
  rintro m f K1 ⟨i, rfl, hi, f0, f4, f5, f10, f11, pp, hj⟩
  have hb1 := pre_get (p3.trans pp) hb1
  have hb2 := pre_get (p3.trans pp) hb2
  by_cases hlt : (i : Int) < 3
  · have hi' : i < 3 := by omega
    have e1 : idxnV 3 9 (aggV .u8 q) (I64 i) = some (.agg (cel .u8 (seg q i)).toArray) := by
      simp only [idxnV, aggV, toL, Int.toNat_natCast, cel_len, hq.1]
      rw [if_pos ⟨by omega, by omega, by omega⟩]
      simp only [cel_drop, cel_take]
      rfl
    have sl := (hq.seg hi').1
    have w1 : ∀ (h1 : AH) (e : TypeId), (h1.new ⟨[.int .u8 0, .int .u8 0, .int .u8 0, .int .u8 0, .int .u8 0, .int .u8 0, .int .u8 0, .int .u8 0, .int .u8 0], e, false, true⟩).wr h1.length 0 (cel .u8 (seg q i)) = some (h1.new ⟨cel .u8 (seg q i), e, false, true⟩) := fun h1 e => wr_all (by rw [cel_len, sl]; rfl)
    have ts : (seg q i).take 9 = seg q i := List.take_of_length_le (by omega)
    have lt1 := get_lt hb1
    try simp (maxSteps := 3000000) (disch := first | omega | (simp only [len_new, len_put, len_kill]; omega)) only [↓xpre, xpost, ↓reduceIte, Nat.reduceEqDiff, Nat.reduceAdd, Nat.reduceSub, Nat.reduceLeDiff, Nat.zero_add, Nat.sub_zero, f0, f4, f5, f10, f11, decide_eq_true hlt, ↓WX_idxn, e1, cel_all, cel_len, sl, ↓w1, ↓WX_ixa, ixaV_ptr, Int.toNat_natCast, Nat.mul_one, rd1_of hb1, pl_get hi', cel_take, ts]
    refine i_isForm (hq.seg hi') fun H4 p4 => ?_
    cases c0 : okForm x.p (pl x i) (seg q i) with
    | false =>
      try simp (maxSteps := 3000000) (disch := first | omega | (simp only [len_new, len_put, len_kill]; omega)) only [↓xpre, xpost, ↓reduceIte, Nat.reduceEqDiff, Nat.reduceAdd, Nat.reduceSub, Nat.reduceLeDiff, Nat.zero_add, Nat.sub_zero, f0, f4, f5, f10, f11]
      have := hQ _ ((p1.trans p2).trans ((p3.trans pp).trans ((pre_new (List.prefix_refl _)).trans p4)))
      have e2 : okProd x q = false := by
        unfold okProd
        have : i = 0 ∨ i = 1 ∨ i = 2 := by omega
        rcases this with rfl | rfl | rfl <;> simp [c0]
      rw [e2] at this
      exact this
    | true =>
      try simp (maxSteps := 3000000) (disch := first | omega | (simp only [len_new, len_put, len_kill]; omega)) only [↓xpre, xpost, ↓reduceIte, Nat.reduceEqDiff, Nat.reduceAdd, Nat.reduceSub, Nat.reduceLeDiff, Nat.zero_add, Nat.sub_zero, f0, f4, f5, f10, f11, wrap64_in]
      refine InvQ_go (3 - (i + 1)) (by omega) ⟨(i + 1), rfl, by omega, (by first | rfl | exact f0 | (simp only [upd_apply]; rfl) | (show I64 _ = _; congr 1; omega)), (by first | rfl | exact f4 | (simp only [upd_apply]; rfl) | (show I64 _ = _; congr 1; omega)), (by first | rfl | exact f5 | (simp only [upd_apply]; rfl) | (show I64 _ = _; congr 1; omega)), (by first | rfl | exact f10 | (simp only [upd_apply]; rfl) | (show I64 _ = _; congr 1; omega)), (by first | rfl | exact f11 | (simp only [upd_apply]; rfl) | (show I64 _ = _; congr 1; omega)), (pp.trans ((pre_new (List.prefix_refl _)).trans p4)), (step_all hj c0)⟩
  · try simp (maxSteps := 3000000) (disch := first | omega | (simp only [len_new, len_put, len_kill]; omega)) only [↓xpre, xpost, ↓reduceIte, Nat.reduceEqDiff, Nat.reduceAdd, Nat.reduceSub, Nat.reduceLeDiff, Nat.zero_add, Nat.sub_zero, f0, f4, f5, f10, f11, decide_eq_false hlt, rdn_of hb2, cel_len, hq.1, cel_take, tk]
    refine i_hasZero hq fun H4 p4 => ?_
    try simp (maxSteps := 3000000) (disch := first | omega | (simp only [len_new, len_put, len_kill]; omega)) only [↓xpre, xpost, ↓reduceIte, Nat.reduceEqDiff, Nat.reduceAdd, Nat.reduceSub, Nat.reduceLeDiff, Nat.zero_add, Nat.sub_zero, f0, f4, f5, f10, f11]
    have := hQ _ ((p1.trans p2).trans ((p3.trans pp).trans p4))
    have e2 : okProd x q = !hasZ q := by
      unfold okProd
      rw [hj 0 (by omega), hj 1 (by omega), hj 2 (by omega)]
      simp
    rw [e2] at this
    exact this
def isX (x : Sch) : Bool := szX x && decide (x.ps.length ≤ 30) && x.ps.all (okProd x)
theorem Prods.by {h : AH} {v : Value} {L : List (List Int)} (hv : Prods h v L) {i : Nat} (hi : i < L.length) : By 27 (L.getD i []) := ⟨hv.1.wid hi, hv.2 i hi⟩
theorem all_getD {α : Type} {d : α} {f : α → Bool} {L : List α} (h : ∀ j, j < L.length → f (L.getD j d) = true) : L.all f = true := by
  rw [List.all_eq_true]
  intro x hx
  obtain ⟨j, hj, rfl⟩ := List.mem_iff_getElem.1 hx
  have := h j hj
  rw [List.getD_eq_getElem?_getD, List.getElem?_eq_getElem hj] at this
  exact this
theorem all_getD_f {α : Type} {d : α} {f : α → Bool} {L : List α} {j : Nat} (hj : j < L.length) (h : f (L.getD j d) = false) : L.all f = false := by
  rw [List.all_eq_false]
  refine ⟨L.getD j d, ?_, by rw [h]; simp⟩
  rw [List.getD_eq_getElem?_getD, List.getElem?_eq_getElem hj]
  exact List.getElem_mem hj
theorem s_l01Is {v : Value} {x : Sch} {h : AH} {Q : Value → AH → Prop} (hv : Prods h v x.ps) (hl : SmallX x.ps) (hQ : ∀ h', h <+: h' → Q (.bool (isX x)) h') : WF S 82 [schV x v] h Q := by
  refine WF_fn (fn := c82) rfl rfl ?_
  unfold c82
  unfold SmallX at hl
  try simp (maxSteps := 3000000) (disch := first | omega | (simp only [len_new, len_put, len_kill]; omega)) only [↓xpre, xpost, ↓reduceIte, Nat.reduceEqDiff, Nat.reduceAdd, Nat.reduceSub, Nat.reduceLeDiff, Nat.zero_add, Nat.sub_zero, schV, hv.one]
  generalize hH1 : AH.new h _ = H1
  obtain ⟨hb1, p1, n1⟩ := new_facts hH1
  try simp (maxSteps := 3000000) (disch := first | omega | (simp only [len_new, len_put, len_kill]; omega)) only [↓xpre, xpost, ↓reduceIte, Nat.reduceEqDiff, Nat.reduceAdd, Nat.reduceSub, Nat.reduceLeDiff, Nat.zero_add, Nat.sub_zero, rd1_of hb1]
  refine s_l01Sizes ?_
  have hQ1 := hQ _ p1
  unfold isX at hQ hQ1
  have e0 : (isP x.p && sz x.n && sz x.m && sz x.k) = szX x := rfl
  rw [e0]
  cases c0 : szX x with
  | false =>
    try simp (maxSteps := 3000000) (disch := first | omega | (simp only [len_new, len_put, len_kill]; omega)) only [↓xpre, xpost, ↓reduceIte, Nat.reduceEqDiff, Nat.reduceAdd, Nat.reduceSub, Nat.reduceLeDiff, Nat.zero_add, Nat.sub_zero, WG_un]
    rw [c0] at hQ1
    exact hQ1
  | true =>
    rw [c0] at hQ hQ1
    have z := szX_facts c0
    by_cases c1 : (30 : Int) < x.ps.length
    · try simp (maxSteps := 3000000) (disch := first | omega | (simp only [len_new, len_put, len_kill]; omega)) only [↓xpre, xpost, ↓reduceIte, Nat.reduceEqDiff, Nat.reduceAdd, Nat.reduceSub, Nat.reduceLeDiff, Nat.zero_add, Nat.sub_zero, rd1_of hb1, (hv.pre p1).1.len, decide_eq_true c1]
      rw [decide_eq_false (show ¬ x.ps.length ≤ 30 by omega)] at hQ1
      exact hQ1
    rw [decide_eq_true (show x.ps.length ≤ 30 by omega)] at hQ
    try simp (maxSteps := 3000000) (disch := first | omega | (simp only [len_new, len_put, len_kill]; omega)) only [↓xpre, xpost, ↓reduceIte, Nat.reduceEqDiff, Nat.reduceAdd, Nat.reduceSub, Nat.reduceLeDiff, Nat.zero_add, Nat.sub_zero, rd1_of hb1, (hv.pre p1).1.len, decide_eq_false c1]
    refine WC_loop_inv (fun m f K1 => ∃ (i : Nat), m = x.ps.length - i ∧ i ≤ x.ps.length ∧ f 1 = .pointer (some ⟨h.length, 0, none⟩) ∧ f 3 = I64 i ∧ (H1 <+: K1) ∧ (∀ j, j < i → okProd x (x.ps.getD j []) = true)) ?_ (x.ps.length - 0) _ _ ⟨0, rfl, by omega, (by first | rfl | (simp [upd_apply]; done)), (by first | rfl | (simp [upd_apply]; done)), List.prefix_refl _, (by omega)⟩
    rintro m f K1 ⟨i, rfl, hi, f1, f3, pp, hj⟩
    have hb1 := pre_get pp hb1
    have hvK := hv.pre (p1.trans pp)
    try simp (maxSteps := 3000000) (disch := first | omega | (simp only [len_new, len_put, len_kill]; omega)) only [↓xpre, xpost, ↓reduceIte, Nat.reduceEqDiff, Nat.reduceAdd, Nat.reduceSub, Nat.reduceLeDiff, Nat.zero_add, Nat.sub_zero, f1, f3, rd1_of hb1, hvK.1.len, IfW_dec]
    refine ⟨fun hlt => ?_, fun hge => ?_⟩
    · have hi' : i < x.ps.length := by omega
      obtain ⟨n, off, hix, hrn, hr1⟩ := hvK.1.at hi'
      have r27 := hrn 0 27 (by omega)
      rw [List.drop_zero, List.take_of_length_le (by rw [hvK.1.wid hi']; exact Nat.le_refl _), Nat.add_zero] at r27
      try simp (maxSteps := 3000000) (disch := first | omega | (simp only [len_new, len_put, len_kill]; omega)) only [↓xpre, xpost, ↓reduceIte, Nat.reduceEqDiff, Nat.reduceAdd, Nat.reduceSub, Nat.reduceLeDiff, Nat.zero_add, Nat.sub_zero, f1, f3, rdn_of hb1, rd1_of hb1, hix, r27]
      refine s_l01Product hvK.one z (hvK.by hi') fun H2 p2 => ?_
      cases c2 : okProd x (x.ps.getD i []) with
      | false =>
        try simp (maxSteps := 3000000) (disch := first | omega | (simp only [len_new, len_put, len_kill]; omega)) only [↓xpre, xpost, ↓reduceIte, Nat.reduceEqDiff, Nat.reduceAdd, Nat.reduceSub, Nat.reduceLeDiff, Nat.zero_add, Nat.sub_zero, f1, f3]
        have := hQ _ ((p1.trans pp).trans p2)
        rw [all_getD_f hi' c2] at this
        exact this
      | true =>
        try simp (maxSteps := 3000000) (disch := first | omega | (simp only [len_new, len_put, len_kill]; omega)) only [↓xpre, xpost, ↓reduceIte, Nat.reduceEqDiff, Nat.reduceAdd, Nat.reduceSub, Nat.reduceLeDiff, Nat.zero_add, Nat.sub_zero, f1, f3, wrap64_in]
        refine InvQ_go (x.ps.length - (i + 1)) (by omega) ⟨(i + 1), rfl, by omega, (by first | rfl | exact f1 | (simp only [upd_apply]; rfl) | (show I64 _ = _; congr 1; omega)), (by first | rfl | exact f3 | (simp only [upd_apply]; rfl) | (show I64 _ = _; congr 1; omega)), (pp.trans p2), (step_all hj c2)⟩
    · try simp (maxSteps := 3000000) (disch := first | omega | (simp only [len_new, len_put, len_kill]; omega)) only [↓xpre, xpost, ↓reduceIte, Nat.reduceEqDiff, Nat.reduceAdd, Nat.reduceSub, Nat.reduceLeDiff, Nat.zero_add, Nat.sub_zero, f1, f3]
      have := hQ _ (p1.trans pp)
      rw [all_getD (d := []) fun j hj' => hj j (by omega)] at this
      exact this
theorem i_IsScheme {v : Value} {x : Sch} {h : AH} {Q : Value → AH → Prop} (hv : Prods h v x.ps) (hl : SmallX x.ps) (hQ : ∀ h', h <+: h' → Q (.bool (isX x)) h') : WF S 60 [schV x v] h Q := by
  refine WF_fn (fn := c60) rfl rfl ?_
  unfold c60
  unfold SmallX at hl
  try simp (maxSteps := 3000000) (disch := first | omega | (simp only [len_new, len_put, len_kill]; omega)) only [↓xpre, xpost, ↓reduceIte, Nat.reduceEqDiff, Nat.reduceAdd, Nat.reduceSub, Nat.reduceLeDiff, Nat.zero_add, Nat.sub_zero, schV, hv.one]
  generalize hH1 : AH.new h _ = H1
  obtain ⟨hb1, p1, n1⟩ := new_facts hH1
  try simp (maxSteps := 3000000) (disch := first | omega | (simp only [len_new, len_put, len_kill]; omega)) only [↓xpre, xpost, ↓reduceIte, Nat.reduceEqDiff, Nat.reduceAdd, Nat.reduceSub, Nat.reduceLeDiff, Nat.zero_add, Nat.sub_zero, rd1_of hb1]
  refine i_isPrime ?_
  have hQ1 := hQ _ p1
  unfold isX at hQ hQ1
  cases c0 : isP x.p with
  | false =>
    try simp (maxSteps := 3000000) (disch := first | omega | (simp only [len_new, len_put, len_kill]; omega)) only [↓xpre, xpost, ↓reduceIte, Nat.reduceEqDiff, Nat.reduceAdd, Nat.reduceSub, Nat.reduceLeDiff, Nat.zero_add, Nat.sub_zero, WG_un]
    have : szX x = false := by unfold szX; rw [c0]; rfl
    rw [this] at hQ1
    exact hQ1
  | true =>
    try simp (maxSteps := 3000000) (disch := first | omega | (simp only [len_new, len_put, len_kill]; omega)) only [↓xpre, xpost, ↓reduceIte, Nat.reduceEqDiff, Nat.reduceAdd, Nat.reduceSub, Nat.reduceLeDiff, Nat.zero_add, Nat.sub_zero, rd1_of hb1, fillL, zrep]
    generalize hH2 : AH.new H1 _ = H2
    obtain ⟨hb2, p2, n2⟩ := new_facts hH2
    have hb1 := pre_get p2 hb1
    refine i_isSize (ns := [x.n, x.m, x.k]) (Ints.own (ns := [x.n, x.m, x.k]) hb2 rfl) (by simp) ?_
    have e0 : ([x.n, x.m, x.k] : List Int).all sz = szX x := by unfold szX; rw [c0]; simp [Bool.and_assoc]
    rw [e0]
    have hQ2 := hQ _ (p1.trans p2)
    cases c1 : szX x with
    | false =>
      try simp (maxSteps := 3000000) (disch := first | omega | (simp only [len_new, len_put, len_kill]; omega)) only [↓xpre, xpost, ↓reduceIte, Nat.reduceEqDiff, Nat.reduceAdd, Nat.reduceSub, Nat.reduceLeDiff, Nat.zero_add, Nat.sub_zero, WG_un]
      rw [c1] at hQ2
      exact hQ2
    | true =>
      rw [c1] at hQ hQ2
      have z := szX_facts c1
      by_cases c2 : (30 : Int) < x.ps.length
      · try simp (maxSteps := 3000000) (disch := first | omega | (simp only [len_new, len_put, len_kill]; omega)) only [↓xpre, xpost, ↓reduceIte, Nat.reduceEqDiff, Nat.reduceAdd, Nat.reduceSub, Nat.reduceLeDiff, Nat.zero_add, Nat.sub_zero, rd1_of hb1, (hv.pre (p1.trans p2)).1.len, decide_eq_true c2]
        rw [decide_eq_false (show ¬ x.ps.length ≤ 30 by omega)] at hQ2
        exact hQ2
      rw [decide_eq_true (show x.ps.length ≤ 30 by omega)] at hQ
      try simp (maxSteps := 3000000) (disch := first | omega | (simp only [len_new, len_put, len_kill]; omega)) only [↓xpre, xpost, ↓reduceIte, Nat.reduceEqDiff, Nat.reduceAdd, Nat.reduceSub, Nat.reduceLeDiff, Nat.zero_add, Nat.sub_zero, rd1_of hb1, (hv.pre (p1.trans p2)).1.len, decide_eq_false c2]
      refine WC_loop_inv (fun m f K1 => ∃ (i : Nat), m = x.ps.length - i ∧ i ≤ x.ps.length ∧ f 1 = .pointer (some ⟨h.length, 0, none⟩) ∧ f 27 = v ∧ f 28 = I64 x.ps.length ∧ f 29 = I64 i ∧ (H2 <+: K1) ∧ (∀ j, j < i → okProd x (x.ps.getD j []) = true)) ?_ (x.ps.length - 0) _ _ ⟨0, rfl, by omega, (by first | rfl | (simp [upd_apply]; done)), (by first | rfl | (simp [upd_apply]; done)), (by first | rfl | (simp [upd_apply]; done)), (by first | rfl | (simp [upd_apply]; done)), List.prefix_refl _, (by omega)⟩
      rintro m f K1 ⟨i, rfl, hi, f1, f27, f28, f29, pp, hj⟩
      have hb1 := pre_get pp hb1
      have hvK := hv.pre ((p1.trans p2).trans pp)
      by_cases hlt : (i : Int) < x.ps.length
      · have hi' : i < x.ps.length := by omega
        obtain ⟨n, off, hix, hrn, hr1⟩ := hvK.1.at hi'
        have r27 := hrn 0 27 (by omega)
        have wi := hvK.1.wid hi'
        have tk : (x.ps.getD i []).take 27 = x.ps.getD i [] := List.take_of_length_le (by omega)
        rw [List.drop_zero, tk, Nat.add_zero] at r27
        have w1 : ∀ (h1 : AH) (e : TypeId), (h1.new ⟨[.int .u8 0, .int .u8 0, .int .u8 0, .int .u8 0, .int .u8 0, .int .u8 0, .int .u8 0, .int .u8 0, .int .u8 0, .int .u8 0, .int .u8 0, .int .u8 0, .int .u8 0, .int .u8 0, .int .u8 0, .int .u8 0, .int .u8 0, .int .u8 0, .int .u8 0, .int .u8 0, .int .u8 0, .int .u8 0, .int .u8 0, .int .u8 0, .int .u8 0, .int .u8 0, .int .u8 0], e, false, true⟩).wr h1.length 0 (cel .u8 (x.ps.getD i [])) = some (h1.new ⟨cel .u8 (x.ps.getD i []), e, false, true⟩) := fun h1 e => wr_all (by rw [cel_len, wi]; rfl)
        try simp (maxSteps := 3000000) (disch := first | omega | (simp only [len_new, len_put, len_kill]; omega)) only [↓xpre, xpost, ↓reduceIte, Nat.reduceEqDiff, Nat.reduceAdd, Nat.reduceSub, Nat.reduceLeDiff, Nat.zero_add, Nat.sub_zero, f1, f27, f28, f29, decide_eq_true hlt, hix, r27, cel_all, cel_len, wi, ↓w1]
        generalize hH3 : AH.new K1 _ = H3
        obtain ⟨hb3, p3, n3⟩ := new_facts hH3
        have hb1 := pre_get p3 hb1
        try simp (maxSteps := 3000000) (disch := first | omega | (simp only [len_new, len_put, len_kill]; omega)) only [↓xpre, xpost, ↓reduceIte, Nat.reduceEqDiff, Nat.reduceAdd, Nat.reduceSub, Nat.reduceLeDiff, Nat.zero_add, Nat.sub_zero, f1, f27, f28, f29, rd1_of hb1, rdn_of hb1]
        refine i_placesOf hvK.one z fun H4 p4 => ?_
        have hb1 := pre_get p4 hb1
        have hb3 := pre_get p4 hb3
        try simp (maxSteps := 3000000) (disch := first | omega | (simp only [len_new, len_put, len_kill]; omega)) only [↓xpre, xpost, ↓reduceIte, Nat.reduceEqDiff, Nat.reduceAdd, Nat.reduceSub, Nat.reduceLeDiff, Nat.zero_add, Nat.sub_zero, f1, f27, f28, f29, rdn_of hb3, cel_len, wi, cel_take, tk]
        refine ⟨p4, ?_⟩
        refine i_isProduct z (hvK.by hi') fun H5 p5 => ?_
        cases c3 : okProd x (x.ps.getD i []) with
        | false =>
          try simp (maxSteps := 3000000) (disch := first | omega | (simp only [len_new, len_put, len_kill]; omega)) only [↓xpre, xpost, ↓reduceIte, Nat.reduceEqDiff, Nat.reduceAdd, Nat.reduceSub, Nat.reduceLeDiff, Nat.zero_add, Nat.sub_zero, f1, f27, f28, f29]
          have := hQ _ (((p1.trans p2).trans pp).trans ((p3.trans p4).trans p5))
          rw [all_getD_f hi' c3] at this
          exact this
        | true =>
          try simp (maxSteps := 3000000) (disch := first | omega | (simp only [len_new, len_put, len_kill]; omega)) only [↓xpre, xpost, ↓reduceIte, Nat.reduceEqDiff, Nat.reduceAdd, Nat.reduceSub, Nat.reduceLeDiff, Nat.zero_add, Nat.sub_zero, f1, f27, f28, f29, wrap64_in]
          refine InvQ_go (x.ps.length - (i + 1)) (by omega) ⟨(i + 1), rfl, by omega, (by first | rfl | exact f1 | (simp only [upd_apply]; rfl) | (show I64 _ = _; congr 1; omega)), (by first | rfl | exact f27 | (simp only [upd_apply]; rfl) | (show I64 _ = _; congr 1; omega)), (by first | rfl | exact f28 | (simp only [upd_apply]; rfl) | (show I64 _ = _; congr 1; omega)), (by first | rfl | exact f29 | (simp only [upd_apply]; rfl) | (show I64 _ = _; congr 1; omega)), (pp.trans ((p3.trans p4).trans p5)), (step_all hj c3)⟩
      · try simp (maxSteps := 3000000) (disch := first | omega | (simp only [len_new, len_put, len_kill]; omega)) only [↓xpre, xpost, ↓reduceIte, Nat.reduceEqDiff, Nat.reduceAdd, Nat.reduceSub, Nat.reduceLeDiff, Nat.zero_add, Nat.sub_zero, f1, f27, f28, f29, decide_eq_false hlt]
        have := hQ _ ((p1.trans p2).trans pp)
        rw [all_getD (d := []) fun j hj' => hj j (by omega)] at this
        exact this
end Go.Proofs.Ytphklalbkpohfaa.X

/- From the readings of slices of flat elements, and of schemes, to the first heap. -/
set_option linter.unusedVariables false
set_option linter.unusedSimpArgs false
namespace Go.Proofs.Ytphklalbkpohfaa.X
open Go Go.RowKit Go.ChangeShapes Go.WideShapes Go.Deep

theorem u8_in {n : Int} (h : (Lit.int .u8 n).wf = true) : 0 ≤ n ∧ n ≤ 255 := by
  simp [Lit.wf, IntKind.min, IntKind.max, IntKind.signed, IntKind.bits] at h
  omega
/-- Fields side by side. -/
def sideBy (P : Program) : List Field → Nat → Nat → Bool
  | [], o, m => o == m
  | f :: fs, o, m => f.offset == o && sideBy P fs (o + P.cellsOf f.type) m
/-- A type of whole numbers of one kind alone. -/
def flatK (P : Program) (k : IntKind) : Nat → TypeId → Bool
  | 0, _ => false
  | f + 1, t => match P.underlying t with
    | some (.int k') => decide (k' = k) && P.cellsOf t == 1
    | some (.array n e) => flatK P k f e && P.cellsOf t == n * P.cellsOf e
    | some (.struct fs) => sideBy P fs.toList 0 (P.cellsOf t) && fs.toList.all fun x => flatK P k f x.type
    | _ => false
theorem sideBy_at {P : Program} : ∀ {fs : List Field} {o m j : Nat}, sideBy P fs o m = true → o ≤ j → j < m → ∃ (i : Nat) (f : Field), fs[i]? = some f ∧ f.offset ≤ j ∧ j < f.offset + P.cellsOf f.type
  | [], o, m, j, h, h1, h2 => by
    simp only [sideBy, beq_iff_eq] at h
    omega
  | f :: fs, o, m, j, h, h1, h2 => by
    simp only [sideBy, Bool.and_eq_true, beq_iff_eq] at h
    by_cases hj : j < o + P.cellsOf f.type
    · exact ⟨0, f, rfl, by omega, by omega⟩
    · obtain ⟨i, g, q1, q2, q3⟩ := sideBy_at h.2 (by omega) h2
      exact ⟨i + 1, g, by rw [List.getElem?_cons_succ]; exact q1, q2, q3⟩
section
variable {H : Type} {enc : TypeId × Value → H} {P : Program} {W : World} {k : IntKind}
theorem flat_trod : ∀ (f : Nat) (t : TypeId) (n : Nat) (cs : List Value) (x : DataW H × List MemPlace), flatK P k f t = true → DataW.trod enc P W 0 (fun _ => true) true n t cs = some x →
    cs.length = P.cellsOf t ∧ ∀ (j : Nat) (v : Value), cs[j]? = some v → ∃ m, v = .int k m ∧ (Lit.int k m).wf = true
  | 0, _, _, _, _, h, _ => by cases h
  | f + 1, t, n, cs, x, h, hx => by
    unfold flatK at h
    split at h
    · rename_i k' ht
      simp only [Bool.and_eq_true, decide_eq_true_eq, beq_iff_eq] at h
      obtain ⟨rfl, hc⟩ := h
      obtain ⟨m, rfl, _, hw⟩ := DataW.trod_int ht hx
      refine ⟨by simpa using hc.symm, fun j v hv => ?_⟩
      have : j = 0 := by
        have := (List.getElem?_eq_some_iff.1 hv).1
        simp at this
        exact this
      subst this
      simp at hv
      exact ⟨m, hv.symm, hw⟩
    · rename_i c e ht
      simp only [Bool.and_eq_true, beq_iff_eq] at h
      obtain ⟨xs, m, _, _, hl, hxs, hall⟩ := DataW.trod_array ht hx
      refine ⟨hl, fun j v hv => ?_⟩
      have hj := (List.getElem?_eq_some_iff.1 hv).1
      rw [hl, h.2] at hj
      have hc : 0 < P.cellsOf e := Nat.pos_of_ne_zero fun e0 => by rw [e0] at hj; simp at hj
      have hi : j / P.cellsOf e < c := Nat.div_lt_of_lt_mul (by rw [Nat.mul_comm]; exact hj)
      have hy := hall _ hi
      rw [List.getElem?_eq_getElem (by omega)] at hy
      have hdm := Nat.div_add_mod j (P.cellsOf e)
      rw [Nat.mul_comm] at hdm
      refine (flat_trod f e m _ _ h.1 hy).2 (j % P.cellsOf e) v ?_
      rw [List.getElem?_take, if_pos (Nat.mod_lt _ hc), List.getElem?_drop, hdm]
      exact hv
    · rename_i fs ht
      simp only [Bool.and_eq_true] at h
      obtain ⟨xs, m, _, _, hl, hxs, hall⟩ := DataW.trod_struct ht hx
      refine ⟨hl, fun j v hv => ?_⟩
      have hj := (List.getElem?_eq_some_iff.1 hv).1
      rw [hl] at hj
      obtain ⟨i, g, q1, q2, q3⟩ := sideBy_at h.1 (Nat.zero_le _) hj
      have q1' : fs[i]? = some g := by simpa using q1
      have hy := hall i g q1'
      have hi : i < xs.length := by
        rw [hxs]
        exact (Array.getElem?_eq_some_iff.1 q1').1
      rw [List.getElem?_eq_getElem hi] at hy
      have hg : flatK P k f g.type = true := List.all_eq_true.1 h.2 g (List.mem_of_getElem? q1)
      refine (flat_trod f g.type m _ _ hg hy).2 (j - g.offset) v ?_
      rw [List.getElem?_take, if_pos (by omega), List.getElem?_drop, show g.offset + (j - g.offset) = j by omega]
      exact hv
    · cases h

theorem adm_elems {γ : List G} {h : AH} (A : Adm P W γ h) {t e : TypeId} {n w f : Nat} {cs : List Value} {x : DataW H × List MemPlace} (ht : P.underlying t = some (.slice e)) (hf : flatK P k f e = true)
    (hw : P.cellsOf e = w) (hw0 : 0 < w) (hx : DataW.trod enc P W 0 (fun _ => true) true n t cs = some x) :
    ∃ v' v L γ' h', cs = [v'] ∧ γ <+: γ' ∧ h <+: h' ∧ Adm P W γ' h' ∧ VR γ' v v' ∧ Els k w h' v L ∧ L.length ≤ maxLen ∧ ∀ i, i < L.length → ∀ j, j < w → (Lit.int k ((L.getD i []).getD j 0)).wf = true := by
  rcases open_slice ht hx with ⟨rfl, _⟩ | ⟨a, len, cap, m, n', D, Pl, rfl, hb, hl, hm, hmm, _, hcell⟩
  · exact ⟨_, .slice none 0 0, [], γ, h, rfl, List.prefix_refl _, List.prefix_refl _, A, .nils, .inl ⟨rfl, 0, by omega, rfl⟩, Nat.zero_le _, fun i hi => by simp at hi⟩
  · by_cases h0 : len = 0
    · subst h0
      exact ⟨_, .slice none 0 1, [], γ, h, rfl, List.prefix_refl _, List.prefix_refl _, A, .emp _ _, .inl ⟨rfl, 1, by omega, rfl⟩, Nat.zero_le _, fun i hi => by simp at hi⟩
    · have hmc : m = cap := hmm
      have cell : ∀ i, i < cap → ∀ r, r < w → ∃ z, W.cell? ((a.add (i * w)).add r) = some (.int k z) ∧ (Lit.int k z).wf = true := fun i hi r hr => by
        obtain ⟨cs', h1, h2⟩ := hcell i (by omega)
        rw [hw] at h1
        obtain ⟨_, hlen, hc⟩ := World.cells?_some h1
        obtain ⟨_, hall⟩ := flat_trod f e n' cs' _ hf h2
        have hr' : r < cs'.length := by omega
        obtain ⟨z, hz, hwf⟩ := hall r _ (List.getElem?_eq_getElem hr')
        refine ⟨z, ?_, hwf⟩
        rw [hc r hr, List.getElem?_eq_getElem hr', hz]
      obtain ⟨z0, hz, _⟩ := cell 0 (by omega) 0 hw0
      rw [Nat.zero_mul] at hz
      have a0 : a.add 0 = a := by simp [Addr.add]
      rw [a0, a0] at hz
      have hsp : a.spot = none := by
        unfold World.cell? at hz
        split at hz
        · split at hz
          · cases hz
          · rename_i hs
            simpa using hs
        · cases hz
      have hbl : a.block < W.heap.size := World.block_lt_of_cell? W _ hz
      have cell' : ∀ j, j < len * w → ∃ z, W.cell? ⟨a.block, a.off + j, none⟩ = some (.int k z) ∧ (Lit.int k z).wf = true := fun j hj => by
        have hi : j / w < len := Nat.div_lt_of_lt_mul (by rw [Nat.mul_comm]; exact hj)
        obtain ⟨z, q1, q2⟩ := cell (j / w) (by omega) (j % w) (Nat.mod_lt _ hw0)
        refine ⟨z, ?_, q2⟩
        rw [add_off a hsp, add_off _ rfl] at q1
        have hdm := Nat.div_add_mod j w
        rw [Nat.mul_comm] at hdm
        rw [show a.off + j = a.off + j / w * w + j % w by omega]
        exact q1
      obtain ⟨N, hN⟩ : ∃ N : Nat → Int, ∀ j, j < len * w → W.cell? ⟨a.block, a.off + j, none⟩ = some (.int k (N j)) ∧ (Lit.int k (N j)).wf = true := by
        refine ⟨fun j => if hj : j < len * w then (cell' j hj).choose else 0, fun j hj => ?_⟩
        simp only [dif_pos hj]
        exact (cell' j hj).choose_spec
      let L : List (List Int) := (List.range len).map fun i => (List.range w).map fun r => N (i * w + r)
      have hLl : L.length = len := by simp [L]
      have hLg : ∀ i, i < len → L.getD i [] = (List.range w).map fun r => N (i * w + r) := fun i hi => by simp [L, List.getD_eq_getElem?_getD, List.getElem?_map, List.getElem?_range hi]
      let C : List Value := cel k ((List.range (len * w)).map N)
      have hCl : C.length = len * w := by simp [C, cel_len]
      refine ⟨_, .slice (some ⟨h.length, 0, none⟩) L.length w, L, γ ++ [⟨a.block, a.off, cap * w⟩], h.new ⟨C, e, true, false⟩, rfl, List.prefix_append _ _, pre_new (List.prefix_refl _), ?_, ?_,
        .inr ⟨h.length, 0, _, rfl, get_new_same, fun i hi => ?_⟩, by rw [hLl]; omega, fun i hi j hj => ?_⟩
      · refine A.new hbl fun j v hv => ?_
        have hj : j < len * w := by rw [← hCl]; exact (List.getElem?_eq_some_iff.1 hv).1
        have hv' : C[j]? = some (.int k (N j)) := by simp [C, cel, hj]
        rw [hv'] at hv
        obtain rfl := Option.some.inj hv
        exact ⟨rfl, _, (hN j hj).1, .int _ _⟩
      · have hcw : len * w ≤ cap * w := Nat.mul_le_mul_right _ hl
        have := VR.slc (γ := γ ++ [⟨a.block, a.off, cap * w⟩]) h.length 0 L.length w ⟨a.block, a.off, cap * w⟩ (by rw [← A.rel.len]; simp) hw0 (by rw [hLl]; simp only; omega)
        have e1 : (some a : Option Addr) = some ⟨a.block, a.off + 0, none⟩ := by
          obtain ⟨b, o, s⟩ := a
          simp at hsp
          subst hsp
          rfl
        rw [e1]
        have e2 : (cap * w - 0) / w = cap := by rw [Nat.sub_zero]; exact Nat.mul_div_cancel _ hw0
        simp only [e2, hLl] at this
        rw [hLl]
        exact this
      · rw [hLl] at hi
        have hr : i * w + w ≤ len * w := mul_row hi
        refine ⟨by simp only [hCl]; omega, ?_⟩
        rw [hLg i hi]
        simp only [C, cel_drop, cel_take, Nat.zero_add]
        congr 1
        refine List.ext_getElem? fun r => ?_
        rw [List.getElem?_take, List.getElem?_drop, List.getElem?_map, List.getElem?_map]
        by_cases hr' : r < w
        · rw [if_pos hr', List.getElem?_range hr', List.getElem?_range (by omega)]
          rfl
        · rw [if_neg hr', List.getElem?_eq_none (by simp; omega)]
          rfl
      · rw [hLl] at hi
        have hr : i * w + w ≤ len * w := mul_row hi
        rw [hLg i hi]
        have : ((List.range w).map fun r => N (i * w + r)).getD j 0 = N (i * w + j) := by simp [List.getD_eq_getElem?_getD, List.getElem?_map, List.getElem?_range hj]
        rw [this]
        exact (hN _ (by omega)).2

/-- Four whole numbers and a slice of elements, side by side. -/
def isSch (P : Program) (t e : TypeId) (k : IntKind) (f w : Nat) : Bool := match P.underlying t with
  | some (.struct fs) => match fs.toList with
    | [f0, f1, f2, f3, f4] => P.cellsOf t == 5 && f0.offset == 0 && f1.offset == 1 && f2.offset == 2 && f3.offset == 3 && f4.offset == 4 &&
        [f0, f1, f2, f3].all (fun f => tyInt P f.type && P.cellsOf f.type == 1) && P.cellsOf f4.type == 1 && tySlice P f4.type e &&
        flatK P k f e && P.cellsOf e == w && decide (0 < w)
    | _ => false
  | _ => false
theorem adm_sch {γ : List G} {h : AH} (A : Adm P W γ h) {t : TypeId} (e : TypeId) (f w : Nat) (hk : isSch P t e k f w = true) {v : Value} {d : DataW H} {ps : List MemPlace} (hx : DataW.Trod enc P W 0 (fun _ => true) true t v d ps) :
    ∃ a b c d L v' γ' h', γ <+: γ' ∧ h <+: h' ∧ Adm P W γ' h' ∧ VR γ' (.agg #[I64 a, I64 b, I64 c, I64 d, v']) v ∧ Els k w h' v' L ∧ L.length ≤ maxLen ∧
      ∀ i, i < L.length → ∀ j, j < w → (Lit.int k ((L.getD i []).getD j 0)).wf = true := by
  unfold isSch at hk
  split at hk
  · rename_i fs hs
    split at hk
    · rename_i f0 f1 f2 f3 f4 hf
      have hfs : fs = #[f0, f1, f2, f3, f4] := by
        rw [← hf]
      subst hfs
      simp only [List.all_cons, List.all_nil, Bool.and_true, Bool.and_eq_true, beq_iff_eq, decide_eq_true_eq] at hk
      obtain ⟨⟨⟨⟨⟨⟨⟨⟨⟨⟨⟨hct, o0⟩, o1⟩, o2⟩, o3⟩, o4⟩, ⟨i0, c0⟩, ⟨i1, c1⟩, ⟨i2, c2⟩, ⟨i3, c3⟩⟩, c4⟩, s4⟩, fl⟩, ce⟩, cw⟩ := hk
      obtain ⟨n, hx⟩ := hx
      have hl := trod_cells hs hx
      rw [hct] at hl
      obtain ⟨a, ha, _⟩ := trod_field_int hs hx (i := 0) (f := f0) rfl (tyInt_eq i0)
      obtain ⟨b, hb, _⟩ := trod_field_int hs hx (i := 1) (f := f1) rfl (tyInt_eq i1)
      obtain ⟨c, hcc, _⟩ := trod_field_int hs hx (i := 2) (f := f2) rfl (tyInt_eq i2)
      obtain ⟨d, hd, _⟩ := trod_field_int hs hx (i := 3) (f := f3) rfl (tyInt_eq i3)
      obtain ⟨m, y, hy⟩ := trod_field hs hx (i := 4) (f := f4) rfl
      obtain ⟨v', u, L, γ', h', e1, q1, q2, q3, q4, q5, q6, q7⟩ := adm_elems A (tySlice_eq s4) fl ce cw hy
      generalize hcs : v.cells.toList = cs at *
      rw [o0, c0] at ha
      rw [o1, c1] at hb
      rw [o2, c2] at hcc
      rw [o3, c3] at hd
      rw [o4, c4] at e1
      obtain ⟨z0, z1, z2, z3, z4, rfl⟩ : ∃ z0 z1 z2 z3 z4, cs = [z0, z1, z2, z3, z4] := by
        match cs, hl with
        | [z0, z1, z2, z3, z4], _ => exact ⟨_, _, _, _, _, rfl⟩
      simp at ha hb hcc hd e1
      subst ha hb hcc hd e1
      refine ⟨a, b, c, d, L, u, γ', h', q1, q2, q3, ?_, q5, q6, q7⟩
      rw [agg_of_cells hcs (by simp)]
      exact VR.aggL (VRL.cons (.int _ _) (VRL.cons (.int _ _) (VRL.cons (.int _ _) (VRL.cons (.int _ _) (VRL.cons q4 (VRL.nil _))))))
    · cases hk
  · cases hk
end
end Go.Proofs.Ytphklalbkpohfaa.X
