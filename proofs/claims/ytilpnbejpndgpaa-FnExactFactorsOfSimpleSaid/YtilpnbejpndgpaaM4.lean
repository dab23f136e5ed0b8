/- Texts of one claim, put together by merge.py: XS1, XS2, XE2, XY, XP1, XP2, XA2, XA3, XA4. -/
import Derived.Test.YtilpnbejpndgpaaM5
import Derived.Test.YtilpnbejpndgpaaM2
import Derived.Test.YtilpnbejpndgpaaM3
/- Forms and products: copies and comparisons. -/
set_option linter.unusedVariables false
set_option linter.unusedSimpArgs false
set_option maxRecDepth 20000
set_option maxHeartbeats 4000000
namespace Go.Proofs.Ytilpnbejpndgpaa.X
open Go Go.RowKit

/-- The value of so many whole numbers side by side. -/
def aggV (k : IntKind) (q : List Int) : Value := .agg (cel k q).toArray
theorem wr_all {h : AH} {z vs : List Value} {e : TypeId} {full : Bool} (hl : vs.length = z.length) : (h.new ⟨z, e, false, full⟩).wr h.length 0 vs = some (h.new ⟨vs, e, false, full⟩) := by
  rw [wr_new_same, if_pos ⟨rfl, by simp only; omega⟩, splice_eq, hl]
  simp
theorem wr_full {h : AH} {z vs : List Value} {e : TypeId} {full : Bool} {n : Nat} (hg : h.get n = some ⟨z, e, false, full⟩) (hl : vs.length = z.length) : h.wr n 0 vs = some (h.put n ⟨vs, e, false, full⟩) := by
  rw [wr_of hg, if_pos ⟨rfl, by simp only; omega⟩, splice_eq]
  simp [hl]
theorem zeros9 : ([.int .u8 0, .int .u8 0, .int .u8 0, .int .u8 0, .int .u8 0, .int .u8 0, .int .u8 0, .int .u8 0, .int .u8 0] : List Value) = cel .u8 (List.replicate 9 0) := rfl
theorem zeros27 : ([.int .u8 0, .int .u8 0, .int .u8 0, .int .u8 0, .int .u8 0, .int .u8 0, .int .u8 0, .int .u8 0, .int .u8 0, .int .u8 0, .int .u8 0, .int .u8 0, .int .u8 0, .int .u8 0, .int .u8 0, .int .u8 0, .int .u8 0, .int .u8 0, .int .u8 0, .int .u8 0, .int .u8 0, .int .u8 0, .int .u8 0, .int .u8 0, .int .u8 0, .int .u8 0, .int .u8 0] : List Value) = cel .u8 (List.replicate 27 0) := rfl

theorem l_toForm {q : List Int} {h : AH} {Q : Value → AH → Prop} (hq : q.length = 9) (hQ : ∀ h', h <+: h' → Q (aggV .u8 q) h') : WF S 152 [aggV .u8 q] h Q := by
  refine WF_fn (fn := c152) rfl rfl ?_
  unfold c152
  try simp (maxSteps := 3000000) (disch := first | omega | (simp only [len_new, len_put, len_kill]; omega)) only [↓xpre, xpost, ↓reduceIte, Nat.reduceEqDiff, Nat.reduceAdd, Nat.reduceSub, Nat.reduceLeDiff, Nat.zero_add, Nat.sub_zero, aggV, zeros9, cel_all]
  generalize hH1 : AH.new h _ = H1
  obtain ⟨hb1, p1, n1⟩ := new_facts hH1
  generalize hH2 : AH.new H1 _ = H2
  obtain ⟨hb2, p2, n2⟩ := new_facts hH2
  generalize hH3 : AH.new H2 _ = H3
  obtain ⟨hb3, p3, n3⟩ := new_facts hH3
  refine WC_loop_inv (fun m f K1 => ∃ (i : Nat), m = 9 - i ∧ i ≤ 9 ∧ f 1 = .pointer (some ⟨h.length, 0, none⟩) ∧ f 2 = .pointer (some ⟨H1.length, 0, none⟩) ∧ f 3 = .pointer (some ⟨H2.length, 0, none⟩) ∧ f 4 = I64 i ∧ (H2 <+: K1) ∧ (OwnB K1 H2.length (cel .u8 (fillN q i)) true)) ?_ (9 - 0) _ _ ⟨0, rfl, by omega, (by first | rfl | (simp [upd_apply]; done)), (by first | rfl | (simp [upd_apply]; done)), (by first | rfl | (simp [upd_apply]; done)), (by first | rfl | (simp [upd_apply]; done)), p3, ⟨_, by rw [fillN_zero, hq]; exact hb3⟩⟩
  rintro m f K1 ⟨i, rfl, hi, f1, f2, f3, f4, pp, hb⟩
  obtain ⟨e, hb⟩ := hb
  have hbq := pre_get (p2.trans pp) hb1
  have hbz := pre_get pp hb2
  have fl := fillN_len (ns := q) (i := i) (by omega)
  try simp (maxSteps := 3000000) (disch := first | omega | (simp only [len_new, len_put, len_kill]; omega)) only [↓xpre, xpost, ↓reduceIte, Nat.reduceEqDiff, Nat.reduceAdd, Nat.reduceSub, Nat.reduceLeDiff, Nat.zero_add, Nat.sub_zero, f1, f2, f3, f4, IfW_dec]
  refine ⟨fun hlt => ?_, fun hge => ?_⟩
  · have hi' : i < 9 := by omega
    have g1 := cel_get (k := .u8) (q := q) (j := i) (by omega)
    have s1 : splice (cel .u8 (fillN q i)) i [.int .u8 (q.getD i 0)] = cel .u8 (fillN q (i + 1)) := by rw [cel_set (by omega), fillN_set (by omega)]
    try simp (maxSteps := 3000000) (disch := first | omega | (simp only [len_new, len_put, len_kill]; omega)) only [↓xpre, xpost, ↓reduceIte, Nat.reduceEqDiff, Nat.reduceAdd, Nat.reduceSub, Nat.reduceLeDiff, Nat.zero_add, Nat.sub_zero, f1, f2, f3, f4, ↓WX_ixa, ixaV_ptr, Int.toNat_natCast, Nat.mul_one, rd1_of hbq, g1, wr_of hb, s1, cel_len]
    refine ⟨by omega, ?_⟩
    try simp (maxSteps := 3000000) (disch := first | omega | (simp only [len_new, len_put, len_kill]; omega)) only [↓xpre, xpost, ↓reduceIte, Nat.reduceEqDiff, Nat.reduceAdd, Nat.reduceSub, Nat.reduceLeDiff, Nat.zero_add, Nat.sub_zero, f1, f2, f3, f4, wrap64_in]
    refine InvQ_go (9 - (i + 1)) (by omega) ⟨(i + 1), rfl, by omega, (by first | rfl | exact f1 | (simp only [upd_apply]; rfl) | (show I64 _ = _; congr 1; omega)), (by first | rfl | exact f2 | (simp only [upd_apply]; rfl) | (show I64 _ = _; congr 1; omega)), (by first | rfl | exact f3 | (simp only [upd_apply]; rfl) | (show I64 _ = _; congr 1; omega)), (by first | rfl | exact f4 | (simp only [upd_apply]; rfl) | (show I64 _ = _; congr 1; omega)), (pre_put pp (by omega)), ⟨_, get_put_same (get_lt hb)⟩⟩
  · have e9 : i = 9 := by omega
    subst e9
    have fa := fillN_all (ns := q)
    rw [hq] at fa
    rw [fa] at hb
    have w1 := wr_full (vs := cel .u8 q) hbz (by rw [cel_len, cel_len, hq]; rfl)
    have tk : (cel .u8 q).take 9 = cel .u8 q := List.take_of_length_le (by rw [cel_len]; omega)
    have ltz := get_lt hbz
    try simp (maxSteps := 3000000) (disch := first | omega | (simp only [len_new, len_put, len_kill]; omega)) only [↓xpre, xpost, ↓reduceIte, Nat.reduceEqDiff, Nat.reduceAdd, Nat.reduceSub, Nat.reduceLeDiff, Nat.zero_add, Nat.sub_zero, f1, f2, f3, f4, rdn_of hb, cel_len, hq, tk, cel_all, w1]
    exact hQ _ (pre_put ((p1.trans p2).trans pp) (show h.length ≤ H1.length by omega))

theorem cel_fill {k : IntKind} {q : List Int} {i n : Nat} (h : i + n ≤ q.length) : splice (cel k (fillN q i)) i (cel k ((q.drop i).take n)) = cel k (fillN q (i + n)) := by
  have hl : ((q.drop i).take n).length = n := by simp; omega
  have ht : (q.take i).length = i := by simp; omega
  rw [cel_splice, hl]
  congr 1
  unfold fillN
  have e1 : (q.take i ++ List.replicate (q.length - i) 0).take i = q.take i := by
    rw [List.take_append_of_le_length (by omega), List.take_take, Nat.min_self]
  have e2 : (q.take i ++ List.replicate (q.length - i) 0).drop (i + n) = List.replicate (q.length - (i + n)) 0 := by
    rw [List.drop_append, List.drop_of_length_le (by omega), ht, List.nil_append, List.drop_replicate]
    congr 1
    omega
  rw [e1, e2, List.take_add]
theorem l_toProduct {q : List Int} {h : AH} {Q : Value → AH → Prop} (hq : q.length = 27) (hQ : ∀ h', h <+: h' → Q (aggV .u8 q) h') : WF S 135 [aggV .u8 q] h Q := by
  refine WF_fn (fn := c135) rfl rfl ?_
  unfold c135
  try simp (maxSteps := 3000000) (disch := first | omega | (simp only [len_new, len_put, len_kill]; omega)) only [↓xpre, xpost, ↓reduceIte, Nat.reduceEqDiff, Nat.reduceAdd, Nat.reduceSub, Nat.reduceLeDiff, Nat.zero_add, Nat.sub_zero, aggV, zeros27, cel_all]
  generalize hH1 : AH.new h _ = H1
  obtain ⟨hb1, p1, n1⟩ := new_facts hH1
  generalize hH2 : AH.new H1 _ = H2
  obtain ⟨hb2, p2, n2⟩ := new_facts hH2
  generalize hH3 : AH.new H2 _ = H3
  obtain ⟨hb3, p3, n3⟩ := new_facts hH3
  have f0 : List.replicate 27 0 = fillN q 0 := by rw [fillN_zero, hq]
  have f3 : fillN q 27 = q := by have := fillN_all (ns := q); rw [hq] at this; exact this
  have fl : ∀ i, i ≤ 27 → (fillN q i).length = 27 := fun i hi => by rw [fillN_len (by omega), hq]
  have a1 : (q.take 9).length = 9 := by simp; omega
  have a2 : ((q.drop 9).take 9).length = 9 := by simp; omega
  have a3 : ((q.drop 18).take 9).length = 9 := by simp; omega
  have s1 := cel_fill (k := .u8) (q := q) (i := 0) (n := 9) (by omega)
  have s2 := cel_fill (k := .u8) (q := q) (i := 9) (n := 9) (by omega)
  have s3 := cel_fill (k := .u8) (q := q) (i := 18) (n := 9) (by omega)
  rw [f3] at s3
  rw [List.drop_zero] at s1
  rw [f0] at hb3
  have hb1' := pre_get (p2.trans p3) hb1
  have b0 := fl 0 (by omega)
  have b9 := fl 9 (by omega)
  have b18 := fl 18 (by omega)
  try simp (maxSteps := 3000000) (disch := first | omega | (simp only [len_new, len_put, len_kill]; omega)) only [↓xpre, xpost, ↓reduceIte, Nat.reduceEqDiff, Nat.reduceAdd, Nat.reduceSub, Nat.reduceLeDiff, Nat.zero_add, Nat.sub_zero, rdn_of hb1', cel_len, hq, cel_take, cel_drop]
  refine l_toForm a1 fun H4 p4 => ?_
  have hb4 := pre_get p4 hb3
  have hq4 := pre_get p4 hb1'
  have l4 := pre_len p4
  have lt4 := get_lt hb4
  try simp (maxSteps := 3000000) (disch := first | omega | (simp only [len_new, len_put, len_kill]; omega)) only [↓xpre, xpost, ↓reduceIte, Nat.reduceEqDiff, Nat.reduceAdd, Nat.reduceSub, Nat.reduceLeDiff, Nat.zero_add, Nat.sub_zero, aggV, cel_all, cel_len, a1, wr_of hb4, s1, b0, rdn_of hq4, hq, cel_take, cel_drop]
  generalize hH5 : AH.put H4 _ _ = H5
  have hb5 : OwnB H5 H2.length (cel .u8 (fillN q 9)) true := by rw [← hH5]; exact ⟨_, get_put_same (get_lt hb4)⟩
  have hq5 : OwnB H5 h.length (cel .u8 q) true := by rw [← hH5]; exact OwnB.put_ne ⟨_, hq4⟩ (by omega)
  have hz5 : OwnB H5 H1.length (cel .u8 (List.replicate 27 0)) true := by rw [← hH5]; exact OwnB.put_ne ⟨_, pre_get (p3.trans p4) hb2⟩ (by omega)
  have p5 : h <+: H5 := by rw [← hH5]; exact pre_put (((p1.trans p2).trans p3).trans p4) (by omega)
  obtain ⟨e5, hb5⟩ := hb5
  obtain ⟨e5q, hq5⟩ := hq5
  obtain ⟨e5z, hz5⟩ := hz5
  have l5 : H5.length = H4.length := by rw [← hH5, len_put]
  clear hb1 hb2 hb3 hb1' hb4 hq4 s1 hH5
  refine l_toForm a2 fun H6 p6 => ?_
  have hb6 := pre_get p6 hb5
  have hq6 := pre_get p6 hq5
  have l6 := pre_len p6
  have lt6 := get_lt hb6
  try simp (maxSteps := 3000000) (disch := first | omega | (simp only [len_new, len_put, len_kill]; omega)) only [↓xpre, xpost, ↓reduceIte, Nat.reduceEqDiff, Nat.reduceAdd, Nat.reduceSub, Nat.reduceLeDiff, Nat.zero_add, Nat.sub_zero, aggV, cel_all, cel_len, a2, wr_of hb6, s2, b9, rdn_of hq6, hq, cel_take, cel_drop]
  generalize hH7 : AH.put H6 _ _ = H7
  have hb7 : OwnB H7 H2.length (cel .u8 (fillN q 18)) true := by rw [← hH7]; exact ⟨_, get_put_same (get_lt hb6)⟩
  have hz7 : OwnB H7 H1.length (cel .u8 (List.replicate 27 0)) true := by rw [← hH7]; exact OwnB.put_ne ⟨_, pre_get p6 hz5⟩ (by omega)
  have p7 : h <+: H7 := by rw [← hH7]; exact pre_put (p5.trans p6) (by omega)
  obtain ⟨e7, hb7⟩ := hb7
  obtain ⟨e7z, hz7⟩ := hz7
  have l7 : H7.length = H6.length := by rw [← hH7, len_put]
  clear hb5 hq5 hz5 hb6 hq6 s2 hH7
  refine l_toForm a3 fun H8 p8 => ?_
  have hb8 := pre_get p8 hb7
  have hz8 := pre_get p8 hz7
  have l8 := pre_len p8
  have tk : q.take 27 = q := List.take_of_length_le (by omega)
  have lt8 := get_lt hb8
  have lz8 := get_lt hz8
  have w1 := wr_full (vs := cel .u8 q) hz8 (by rw [cel_len, cel_len, hq]; rfl)
  try simp (maxSteps := 3000000) (disch := first | omega | (simp only [len_new, len_put, len_kill]; omega)) only [↓xpre, xpost, ↓reduceIte, Nat.reduceEqDiff, Nat.reduceAdd, Nat.reduceSub, Nat.reduceLeDiff, Nat.zero_add, Nat.sub_zero, aggV, cel_all, cel_len, a3, wr_of hb8, s3, b18, rdn_put_same, hq, cel_take, cel_drop, List.drop_zero, tk, w1]
  exact hQ _ (pre_put (pre_put (p7.trans p8) (show h.length ≤ H1.length by omega)) (show h.length ≤ H2.length by omega))
end Go.Proofs.Ytilpnbejpndgpaa.X

/- Slices of products, schemes: sizes, copies, comparisons, marks. -/
set_option linter.unusedVariables false
set_option linter.unusedSimpArgs false
set_option maxRecDepth 20000
set_option maxHeartbeats 4000000
namespace Go.Proofs.Ytilpnbejpndgpaa.X
open Go Go.RowKit

def Wid (w : Nat) (L : List (List Int)) : Prop := ∀ q, q ∈ L → q.length = w
theorem flat_len {w : Nat} : ∀ {L : List (List Int)}, Wid w L → L.flatten.length = L.length * w
  | [], _ => by simp
  | q :: L, h => by
    rw [List.flatten_cons, List.length_append, flat_len (fun r hr => h r (List.mem_cons_of_mem _ hr)), h q List.mem_cons_self, List.length_cons, Nat.succ_mul]
    omega
theorem flat_get {w : Nat} : ∀ {L : List (List Int)} {i : Nat}, Wid w L → i < L.length → (L.flatten.drop (i * w)).take w = L.getD i []
  | [], i, _, hi => by simp at hi
  | q :: L, 0, h, _ => by
    have hq := h q List.mem_cons_self
    rw [Nat.zero_mul, List.drop_zero, List.flatten_cons, List.take_append_of_le_length (by omega), List.take_of_length_le (by omega)]
    rfl
  | q :: L, i + 1, h, hi => by
    have hq := h q List.mem_cons_self
    have e : (q ++ L.flatten).drop w = L.flatten := by rw [← hq]; exact List.drop_left
    rw [List.flatten_cons, Nat.succ_mul, Nat.add_comm, ← List.drop_drop, e, flat_get (fun r hr => h r (List.mem_cons_of_mem _ hr)) (by simpa using hi)]
    rfl
theorem flat_set {w : Nat} {r : List Int} : ∀ {L : List (List Int)} {i : Nat}, Wid w L → i < L.length → L.flatten.take (i * w) ++ r ++ L.flatten.drop (i * w + w) = (L.set i r).flatten
  | [], i, _, hi => by simp at hi
  | q :: L, 0, h, _ => by
    have hq := h q List.mem_cons_self
    rw [Nat.zero_mul, List.take_zero, List.nil_append, Nat.zero_add, List.flatten_cons, List.drop_append_of_le_length (by omega), List.drop_of_length_le (by omega), List.nil_append]
    rfl
  | q :: L, i + 1, h, hi => by
    have hq := h q List.mem_cons_self
    have ih := flat_set (r := r) (fun r hr => h r (List.mem_cons_of_mem _ hr)) (show i < L.length by simpa using hi)
    rw [List.set_cons_succ, List.flatten_cons, List.flatten_cons, ← ih, show (i + 1) * w = q.length + i * w by rw [Nat.succ_mul, hq]; omega, List.take_append, List.drop_append]
    rw [List.take_of_length_le (l := q) (by omega), List.drop_of_length_le (l := q) (by omega), show q.length + i * w - q.length = i * w by omega, show q.length + i * w + w - q.length = i * w + w by omega]
    simp
def fillG (z : List Int) (L : List (List Int)) (i : Nat) : List (List Int) := L.take i ++ List.replicate (L.length - i) z
section
variable {z : List Int} {L : List (List Int)} {i w : Nat}
theorem fillG_len (hi : i ≤ L.length) : (fillG z L i).length = L.length := by simp [fillG]; omega
theorem fillG_zero : fillG z L 0 = List.replicate L.length z := by simp [fillG]
theorem fillG_all : fillG z L L.length = L := by simp [fillG]
theorem fillG_set (hi : i < L.length) : (fillG z L i).set i (L.getD i []) = fillG z L (i + 1) := by
  unfold fillG
  rw [List.set_append_right _ _ (by rw [List.length_take]; omega)]
  have e1 : L.length - i = (L.length - (i + 1)) + 1 := by omega
  have e2 : i - (L.take i).length = 0 := by rw [List.length_take]; exact Nat.sub_eq_zero_of_le (by omega)
  rw [e1, e2, List.replicate_succ, List.set_cons_zero, List.take_succ_eq_append_getElem hi]
  simp only [List.getD_eq_getElem?_getD, List.getElem?_eq_getElem hi, Option.getD_some, List.append_assoc, List.singleton_append]
theorem fillG_wid (hz : z.length = w) (hL : Wid w L) : Wid w (fillG z L i) := by
  intro q hq
  rcases List.mem_append.1 hq with hq | hq
  · exact hL q (List.mem_of_mem_take hq)
  · rw [(List.mem_replicate.1 hq).2, hz]
end
theorem zrep_cel {k : IntKind} {z : List Int} : ∀ n, zrep n (cel k z) = cel k (List.replicate n z).flatten
  | 0 => rfl
  | n + 1 => by rw [zrep, zrep_cel n, List.replicate_succ, List.flatten_cons, ← cel_app]
theorem wid_of {w : Nat} {L : List (List Int)} (h : ∀ i, i < L.length → (L.getD i []).length = w) : Wid w L := by
  intro q hq
  obtain ⟨i, hi, rfl⟩ := List.mem_iff_getElem.1 hq
  have := h i hi
  rw [List.getD_eq_getElem?_getD, List.getElem?_eq_getElem hi] at this
  exact this
theorem Els.widL {k : IntKind} {w : Nat} {h : AH} {v : Value} {L : List (List Int)} (e : Els k w h v L) : Wid w L := wid_of fun _ hi => e.wid hi

/-- Elements of one's own, in one block within a range. -/
def InE (k : IntKind) (w a b : Nat) (h : AH) (v : Value) (L : List (List Int)) : Prop :=
  (v = .slice none 0 0 ∧ L = []) ∨ ∃ n e full, (a ≤ n ∧ n < b) ∧ v = .slice (some ⟨n, 0, none⟩) L.length w ∧ h.get n = some ⟨cel k L.flatten, e, false, full⟩ ∧ Wid w L
section
variable {k : IntKind} {w a b c d : Nat} {h h' : AH} {v : Value} {L : List (List Int)}
theorem InE.rd (o : InE k w a b h v L) : Els k w h v L := by
  rcases o with ⟨rfl, rfl⟩ | ⟨n, e, full, h1, rfl, h2, h3⟩
  · exact .inl ⟨rfl, 0, by omega, rfl⟩
  · refine .inr ⟨n, 0, _, rfl, h2, fun i hi => ?_⟩
    have := mul_row (w := w) hi
    simp only [cel_len, flat_len h3, Nat.zero_add, cel_drop, cel_take, flat_get h3 hi]
    exact ⟨by omega, trivial⟩
theorem InE.pre (o : InE k w a b h v L) (p : h <+: h') : InE k w a b h' v L := by
  rcases o with ⟨rfl, rfl⟩ | ⟨n, e, full, h1, rfl, h2, h3⟩
  · exact .inl ⟨rfl, rfl⟩
  · exact .inr ⟨n, e, full, h1, rfl, pre_get p h2, h3⟩
theorem InE.only (o : InE k w a b h v L) (u : OnlyR c d h h') (hd : b ≤ c ∨ d ≤ a) : InE k w a b h' v L := by
  rcases o with ⟨rfl, rfl⟩ | ⟨n, e, full, h1, rfl, h2, h3⟩
  · exact .inl ⟨rfl, rfl⟩
  · exact .inr ⟨n, e, full, h1, rfl, u.get' h2 (by omega), h3⟩
end
/-- Bytes. -/
def Byt (w : Nat) (L : List (List Int)) : Prop := ∀ i, i < L.length → ∀ j, j < w → 0 ≤ (L.getD i []).getD j 0 ∧ (L.getD i []).getD j 0 ≤ 255
structure Sch where
  p : Int
  n : Int
  m : Int
  k : Int
  ps : List (List Int)
def schV (x : Sch) (v : Value) : Value := .agg #[I64 x.p, I64 x.n, I64 x.m, I64 x.k, v]
def Prods (h : AH) (v : Value) (L : List (List Int)) : Prop := Els .u8 27 h v L ∧ Byt 27 L
def InX (a b : Nat) (h : AH) (v : Value) (L : List (List Int)) : Prop := InE .u8 27 a b h v L ∧ Byt 27 L
section
variable {a b c d : Nat} {h h' : AH} {v : Value} {L : List (List Int)}
theorem Prods.pre (o : Prods h v L) (p : h <+: h') : Prods h' v L := ⟨o.1.pre p, o.2⟩
theorem Prods.one (o : Prods h v L) : isOne v = true := o.1.one
theorem InX.rd (o : InX a b h v L) : Prods h v L := ⟨o.1.rd, o.2⟩
theorem InX.pre (o : InX a b h v L) (p : h <+: h') : InX a b h' v L := ⟨o.1.pre p, o.2⟩
theorem InX.only (o : InX a b h v L) (u : OnlyR c d h h') (hd : b ≤ c ∨ d ≤ a) : InX a b h' v L := ⟨o.1.only u hd, o.2⟩
end
def SmallX (L : List (List Int)) : Prop := (L.length : Int) ≤ 1048576
def cntX (L : List (List Int)) : Int := (L.length : Int) * 27
theorem cntX_le {L : List (List Int)} (h : SmallX L) : 0 ≤ cntX L ∧ cntX L ≤ 28311552 := by unfold SmallX at h; unfold cntX; omega

theorem l_toProductS {v : Value} {L : List (List Int)} {h : AH} {Q : Value → AH → Prop} (hv : Prods h v L) (hl : SmallX L)
    (hQ : ∀ v' h', h <+: h' → InX h.length h'.length h' v' L → Q v' h') : WF S 101 [v] h Q := by
  refine WF_fn (fn := c101) rfl rfl ?_
  unfold c101
  obtain ⟨he, hby⟩ := hv
  have hw := he.widL
  unfold SmallX at hl
  try simp (maxSteps := 3000000) (disch := first | omega | (simp only [len_new, len_put, len_kill]; omega)) only [↓xpre, xpost, ↓reduceIte, Nat.reduceEqDiff, Nat.reduceAdd, Nat.reduceSub, Nat.reduceLeDiff, Nat.zero_add, Nat.sub_zero, he.len, zeros27]
  refine ⟨by omega, ?_⟩
  rw [Int.toNat_natCast, zrep_cel]
  generalize hH : AH.new h _ = H
  obtain ⟨hb0, p0, n0⟩ := new_facts hH
  refine WC_loop_inv (fun m f K1 => ∃ (i : Nat), m = L.length - i ∧ i ≤ L.length ∧ f 0 = v ∧ f 3 = .slice (some ⟨h.length, 0, none⟩) L.length 27 ∧ f 4 = I64 i ∧ (h <+: K1) ∧ (OwnB K1 h.length (cel .u8 (fillG (List.replicate 27 0) L i).flatten) true)) ?_ (L.length - 0) _ _ ⟨0, rfl, by omega, (by first | rfl | (simp [upd_apply]; done)), (by first | rfl | (simp [upd_apply]; done)), (by first | rfl | (simp [upd_apply]; done)), p0, ⟨_, by rw [fillG_zero]; exact hb0⟩⟩
  rintro m f K1 ⟨i, rfl, hi, f0, f3, f4, pp, hb⟩
  have he1 := he.pre pp
  try simp (maxSteps := 3000000) (disch := first | omega | (simp only [len_new, len_put, len_kill]; omega)) only [↓xpre, xpost, ↓reduceIte, Nat.reduceEqDiff, Nat.reduceAdd, Nat.reduceSub, Nat.reduceLeDiff, Nat.zero_add, Nat.sub_zero, f0, f3, f4, he1.len, IfW_dec]
  refine ⟨fun hlt => ?_, fun hge => ?_⟩
  · have hi' : i < L.length := by omega
    obtain ⟨n, off, hix, hrn, hr1⟩ := he1.at hi'
    have r27 := hrn 0 27 (by omega)
    rw [List.drop_zero, List.take_of_length_le (by rw [he1.wid hi']; exact Nat.le_refl _), Nat.add_zero] at r27
    try simp (maxSteps := 3000000) (disch := first | omega | (simp only [len_new, len_put, len_kill]; omega)) only [↓xpre, xpost, ↓reduceIte, Nat.reduceEqDiff, Nat.reduceAdd, Nat.reduceSub, Nat.reduceLeDiff, Nat.zero_add, Nat.sub_zero, f0, f3, f4, hix, r27]
    refine l_toProduct (he1.wid hi') fun h2 p2 => ?_
    have wf := fillG_wid (z := List.replicate 27 0) (i := i) (w := 27) (by simp) hw
    have fl := fillG_len (z := List.replicate 27 0) (L := L) (i := i) (by omega)
    have ffl := flat_len wf
    rw [fl] at ffl
    have hrow := mul_row (w := 27) hi'
    obtain ⟨e, hb⟩ := hb
    have hb2 := pre_get p2 hb
    have lt2 := get_lt hb2
    have ixd : ixsV 27 (.slice (some ⟨h.length, 0, none⟩) L.length 27) (I64 i) = some (.pointer (some ⟨h.length, i * 27, none⟩)) := by
      rw [ixsV_some, if_pos (by omega)]
      simp
    have sp : splice (cel .u8 (fillG (List.replicate 27 0) L i).flatten) (i * 27) (cel .u8 (L.getD i [])) = cel .u8 (fillG (List.replicate 27 0) L (i + 1)).flatten := by
      rw [cel_splice, he1.wid hi', flat_set wf (by omega), fillG_set hi']
    try simp (maxSteps := 3000000) (disch := first | omega | (simp only [len_new, len_put, len_kill]; omega)) only [↓xpre, xpost, ↓reduceIte, Nat.reduceEqDiff, Nat.reduceAdd, Nat.reduceSub, Nat.reduceLeDiff, Nat.zero_add, Nat.sub_zero, f0, f3, f4, aggV, cel_all, cel_len, he1.wid hi', ixd, wr_of hb2, sp, ffl]
    refine ⟨by omega, ?_⟩
    try simp (maxSteps := 3000000) (disch := first | omega | (simp only [len_new, len_put, len_kill]; omega)) only [↓xpre, xpost, ↓reduceIte, Nat.reduceEqDiff, Nat.reduceAdd, Nat.reduceSub, Nat.reduceLeDiff, Nat.zero_add, Nat.sub_zero, f0, f3, f4, wrap64_in]
    refine InvQ_go (L.length - (i + 1)) (by omega) ⟨(i + 1), rfl, by omega, (by first | rfl | exact f0 | (simp only [upd_apply]; rfl) | (show I64 _ = _; congr 1; omega)), (by first | rfl | exact f3 | (simp only [upd_apply]; rfl) | (show I64 _ = _; congr 1; omega)), (by first | rfl | exact f4 | (simp only [upd_apply]; rfl) | (show I64 _ = _; congr 1; omega)), (pre_put (pp.trans p2) (Nat.le_refl _)), ⟨_, get_put_same lt2⟩⟩
  · have ei : i = L.length := by omega
    subst ei
    obtain ⟨e, hb⟩ := hb
    rw [fillG_all] at hb
    have lt := get_lt hb
    try simp (maxSteps := 3000000) (disch := first | omega | (simp only [len_new, len_put, len_kill]; omega)) only [↓xpre, xpost, ↓reduceIte, Nat.reduceEqDiff, Nat.reduceAdd, Nat.reduceSub, Nat.reduceLeDiff, Nat.zero_add, Nat.sub_zero, f0, f3, f4]
    exact hQ _ _ pp ⟨.inr ⟨h.length, e, true, ⟨Nat.le_refl _, lt⟩, rfl, hb, hw⟩, hby⟩
end Go.Proofs.Ytilpnbejpndgpaa.X

/- Slices of elements of some whole numbers each: appends. -/
set_option linter.unusedVariables false
set_option linter.unusedSimpArgs false
set_option maxRecDepth 20000
set_option maxHeartbeats 4000000
namespace Go.Proofs.Ytilpnbejpndgpaa.X
open Go Go.RowKit

theorem getD_app_l {α : Type} {l r : List α} {i : Nat} {d : α} (hi : i < l.length) : (l ++ r).getD i d = l.getD i d := by
  rw [List.getD_eq_getElem?_getD, List.getD_eq_getElem?_getD, List.getElem?_append_left hi]
theorem getD_app_r {α : Type} {l r : List α} {i : Nat} {d : α} (hi : l.length ≤ i) : (l ++ r).getD i d = r.getD (i - l.length) d := by
  rw [List.getD_eq_getElem?_getD, List.getD_eq_getElem?_getD, List.getElem?_append_right hi]
theorem app_ownW {e : TypeId} {w bytes : Nat} {h : AH} {k n n' : Nat} {c vs : List Value} {full : Bool} (hk : h.get k = some ⟨c, e, false, full⟩) (hc : c.length = n * w) (hn : h.rdn n' 0 w = some vs)
    (hs : (n + 1 : Int) * bytes ≤ 140737488355328 ∧ (n + 1 : Int) ≤ 9223372036854775807) :
    appV e w bytes (.slice (some ⟨k, 0, none⟩) n w) (.slice (some ⟨n', 0, none⟩) 1 w) h = some (.slice (some ⟨h.length, 0, none⟩) (n + 1) w, (h.kill k).new ⟨c ++ vs, e, false, false⟩) := by
  simp only [appV, xop, ev, if_true, Nat.one_mul, hn, hk]
  rw [if_pos (by simpa using hs)]
  simp [hc]
theorem app_nilW {e : TypeId} {w bytes : Nat} {h : AH} {n' t : Nat} {vs : List Value} (ht : t = 0 ∨ t = 2) (hn : h.rdn n' 0 w = some vs) (hs : (1 : Int) * bytes ≤ 140737488355328) :
    appV e w bytes (.slice none 0 t) (.slice (some ⟨n', 0, none⟩) 1 w) h = some (.slice (some ⟨h.length, 0, none⟩) 1 w, h.new ⟨vs, e, false, false⟩) := by
  simp only [appV, xop, ev, if_true, Nat.one_mul, hn]
  rw [if_pos (by simpa using hs)]
  simp [ht]
/-- Elements under way: nil, or a block of one's own behind a place, other than the box that holds the slice. -/
def WayE (e : TypeId) (k : IntKind) (w : Nat) (h : AH) (lo bx : Nat) (sv : Value) (L : List (List Int)) : Prop :=
  Wid w L ∧ ((sv = .slice none 0 0 ∧ L = []) ∨ ∃ kb full, sv = .slice (some ⟨kb, 0, none⟩) L.length w ∧ lo ≤ kb ∧ kb ≠ bx ∧ h.get kb = some ⟨cel k L.flatten, e, false, full⟩)
section
variable {e : TypeId} {k : IntKind} {w : Nat} {h h' : AH} {lo bx : Nat} {sv : Value} {L : List (List Int)}
theorem WayE.pre (o : WayE e k w h lo bx sv L) (p : h <+: h') : WayE e k w h' lo bx sv L := by
  obtain ⟨hw, o | ⟨kb, full, h1, h2, h3, h4⟩⟩ := o
  · exact ⟨hw, .inl o⟩
  · exact ⟨hw, .inr ⟨kb, full, h1, h2, h3, pre_get p h4⟩⟩
theorem WayE.one (o : WayE e k w h lo bx sv L) : isOne sv = true := by
  obtain ⟨hw, ⟨rfl, _⟩ | ⟨kb, full, rfl, h2, h3, h4⟩⟩ := o <;> rfl
theorem WayE.cells (o : WayE e k w h lo bx sv L) : cellsL sv = [sv] := by
  obtain ⟨hw, ⟨rfl, _⟩ | ⟨kb, full, rfl, h2, h3, h4⟩⟩ := o <;> rfl
theorem WayE.put {b : Blk} (o : WayE e k w h lo bx sv L) : WayE e k w (h.put bx b) lo bx sv L := by
  obtain ⟨hw, o | ⟨kb, full, h1, h2, h3, h4⟩⟩ := o
  · exact ⟨hw, .inl o⟩
  · exact ⟨hw, .inr ⟨kb, full, h1, h2, h3, by rw [get_put_ne (fun x => h3 x.symm)]; exact h4⟩⟩
theorem WayE.putb {b : Blk} {n : Nat} (o : WayE e k w h lo bx sv L) (hn : n < lo) : WayE e k w (h.put n b) lo bx sv L := by
  obtain ⟨hw, o | ⟨kb, full, h1, h2, h3, h4⟩⟩ := o
  · exact ⟨hw, .inl o⟩
  · exact ⟨hw, .inr ⟨kb, full, h1, h2, h3, by rw [get_put_ne (by omega)]; exact h4⟩⟩
theorem WayE.inE (o : WayE e k w h lo bx sv L) : InE k w lo h.length h sv L := by
  obtain ⟨hw, o | ⟨kb, full, h1, h2, h3, h4⟩⟩ := o
  · exact .inl o
  · exact .inr ⟨kb, e, full, ⟨h2, get_lt h4⟩, h1, h4, hw⟩
/-- One element more. -/
theorem WayE.app {H : AH} {q : List Int} {e' : TypeId} {ro full : Bool} {bytes : Nat} (o : WayE e k w H lo bx sv L) (hq : q.length = w) (hl : ((L.length : Int) + 1) * bytes ≤ 140737488355328) (hn : (L.length : Int) < 1048576) (hlo : lo ≤ H.length) (hbx : bx < H.length)
    {Q : Value → AH → Prop} (hQ : ∀ sv' H', H'.length = H.length + 2 → (∀ h0 : AH, h0.length ≤ lo → h0 <+: H → h0 <+: H') → (∀ n c f, n < lo → OwnB H n c f → OwnB H' n c f) → (∀ c f, OwnB H bx c f → OwnB H' bx c f) → WayE e k w H' lo bx sv' (L ++ [q]) → Q sv' H') :
    OQ (appV e w bytes sv (.slice (some ⟨H.length, 0, none⟩) 1 w) (H.new ⟨cel k q, e', ro, full⟩)) Q := by
  have hr : (H.new ⟨cel k q, e', ro, full⟩).rdn H.length 0 w = some (cel k q) := by
    rw [rdn_of get_new_same]
    simp only
    rw [if_pos (by rw [cel_len, hq]; omega), List.drop_zero, List.take_of_length_le (by rw [cel_len, hq]; omega)]
  obtain ⟨hw, ⟨rfl, rfl⟩ | ⟨kb, fu, rfl, h2, h3, h4⟩⟩ := o
  · rw [app_nilW (.inl rfl) hr (by simp only [List.length_nil] at hl; omega), OQ_some]
    refine hQ _ _ (by rw [len_new, len_new]) (fun h0 _ p => pre_new (pre_new p)) (fun n c f hn o => (o.pre (pre_new (List.prefix_refl _))).pre (pre_new (List.prefix_refl _))) (fun c f o => (o.pre (pre_new (List.prefix_refl _))).pre (pre_new (List.prefix_refl _))) ⟨?_, .inr ⟨_, false, rfl, by rw [len_new]; omega, by rw [len_new]; omega, ?_⟩⟩
    · intro r hr
      rw [List.nil_append, List.mem_singleton] at hr
      rw [hr, hq]
    · rw [get_new_same]
      simp
  · have hk : (H.new ⟨cel k q, e', ro, full⟩).get kb = some ⟨cel k L.flatten, e, false, fu⟩ := get_new_any h4
    have hkb := get_lt h4
    rw [app_ownW hk (by rw [cel_len, flat_len hw]) hr ⟨hl, by omega⟩, OQ_some]
    refine hQ _ _ (by rw [len_new, len_kill, len_new]) (fun h0 q p => pre_new (pre_kill (pre_new p) (by omega))) (fun n c f hn o => ?_) (fun c f o => ?_) ⟨?_, .inr ⟨(H.new ⟨cel k q, e', ro, full⟩).length, false, by simp, by rw [len_new]; omega, by rw [len_new]; omega, ?_⟩⟩
    · obtain ⟨e', o⟩ := o
      exact ⟨e', get_new_any (by rw [get_kill_ne (by omega)]; exact get_new_any o)⟩
    · obtain ⟨e', o⟩ := o
      exact ⟨e', get_new_any (by rw [get_kill_ne h3]; exact get_new_any o)⟩
    · intro r hr
      rcases List.mem_append.1 hr with hr | hr
      · exact hw r hr
      · rw [List.mem_singleton.1 hr, hq]
    · rw [get_new_eq (by rw [len_kill])]
      simp [cel_app]
end
theorem InE.putb {k : IntKind} {w a b : Nat} {h : AH} {v : Value} {L : List (List Int)} {n : Nat} {bl : Blk} (o : InE k w a b h v L) (hn : n < a) : InE k w a b (h.put n bl) v L := by
  rcases o with o | ⟨m, e, full, h1, rfl, h2, h3⟩
  · exact .inl o
  · exact .inr ⟨m, e, full, h1, rfl, by rw [get_put_ne (by omega)]; exact h2, h3⟩
theorem InE.mono {k : IntKind} {w a b a' b' : Nat} {h : AH} {v : Value} {L : List (List Int)} (o : InE k w a b h v L) (ha : a' ≤ a) (hb : b ≤ b') : InE k w a' b' h v L := by
  rcases o with o | ⟨m, e, full, h1, rfl, h2, h3⟩
  · exact .inl o
  · exact .inr ⟨m, e, full, ⟨by omega, by omega⟩, rfl, h2, h3⟩
end Go.Proofs.Ytilpnbejpndgpaa.X

/- The rules once more, with continuations that the rewriting leaves alone until their turn: printed by wip/tools/mkY.py. -/
set_option linter.unusedVariables false
set_option linter.unusedSimpArgs false
set_option linter.defProp false
namespace Go.Proofs.Ytilpnbejpndgpaa.X
open Go Go.RowKit

/-- A dummy that depends on what is to be left alone. -/
inductive Dum {α : Type} (a : α) : Type
 | mk

def yQV (v : Value) (Q : Value → Prop) (_ : Dum Q) : Prop := QV v Q
@[congr] theorem yQV_congr {v : Value} {Q : Value → Prop} {w : Value} {d0 : Dum Q} (e : v = w) : yQV v Q d0 = yQV w Q d0 := by rw [e]
theorem yQV_forth {v : Value} {Q : Value → Prop} : QV v Q = yQV v Q .mk := rfl
theorem yQV_back {v : Value} {Q : Value → Prop} {d0 : Dum Q} : yQV v Q d0 = QV v Q := rfl
def yWV (r : Option Value) (Q : Value → Prop) (_ : Dum Q) : Prop := WV r Q
@[congr] theorem yWV_congr {r : Option Value} {Q : Value → Prop} {w : Option Value} {d0 : Dum Q} (e : r = w) : yWV r Q d0 = yWV w Q d0 := by rw [e]
theorem yWV_forth {r : Option Value} {Q : Value → Prop} : WV r Q = yWV r Q .mk := rfl
theorem yWV_back {r : Option Value} {Q : Value → Prop} {d0 : Dum Q} : yWV r Q d0 = WV r Q := rfl
def yHQ (r : Option AH) (Q : AH → Prop) (_ : Dum Q) : Prop := HQ r Q
@[congr] theorem yHQ_congr {r : Option AH} {Q : AH → Prop} {w : Option AH} {d0 : Dum Q} (e : r = w) : yHQ r Q d0 = yHQ w Q d0 := by rw [e]
theorem yHQ_forth {r : Option AH} {Q : AH → Prop} : HQ r Q = yHQ r Q .mk := rfl
theorem yHQ_back {r : Option AH} {Q : AH → Prop} {d0 : Dum Q} : yHQ r Q d0 = HQ r Q := rfl
def yPQ (v : Value) (Q : Nat → Nat → Prop) (_ : Dum Q) : Prop := PQ v Q
@[congr] theorem yPQ_congr {v : Value} {Q : Nat → Nat → Prop} {w : Value} {d0 : Dum Q} (e : v = w) : yPQ v Q d0 = yPQ w Q d0 := by rw [e]
theorem yPQ_forth {v : Value} {Q : Nat → Nat → Prop} : PQ v Q = yPQ v Q .mk := rfl
theorem yPQ_back {v : Value} {Q : Nat → Nat → Prop} {d0 : Dum Q} : yPQ v Q d0 = PQ v Q := rfl
def yLQ (v : List Value) (Q : List Value → Prop) (_ : Dum Q) : Prop := LQ v Q
@[congr] theorem yLQ_congr {v : List Value} {Q : List Value → Prop} {w : List Value} {d0 : Dum Q} (e : v = w) : yLQ v Q d0 = yLQ w Q d0 := by rw [e]
theorem yLQ_forth {v : List Value} {Q : List Value → Prop} : LQ v Q = yLQ v Q .mk := rfl
theorem yLQ_back {v : List Value} {Q : List Value → Prop} {d0 : Dum Q} : yLQ v Q d0 = LQ v Q := rfl
def yVQ (r : Option (List Value)) (Q : List Value → Prop) (_ : Dum Q) : Prop := VQ r Q
@[congr] theorem yVQ_congr {r : Option (List Value)} {Q : List Value → Prop} {w : Option (List Value)} {d0 : Dum Q} (e : r = w) : yVQ r Q d0 = yVQ w Q d0 := by rw [e]
theorem yVQ_forth {r : Option (List Value)} {Q : List Value → Prop} : VQ r Q = yVQ r Q .mk := rfl
theorem yVQ_back {r : Option (List Value)} {Q : List Value → Prop} {d0 : Dum Q} : yVQ r Q d0 = VQ r Q := rfl
def yOQ (r : Option (Value × AH)) (Q : Value → AH → Prop) (_ : Dum Q) : Prop := OQ r Q
@[congr] theorem yOQ_congr {r : Option (Value × AH)} {Q : Value → AH → Prop} {w : Option (Value × AH)} {d0 : Dum Q} (e : r = w) : yOQ r Q d0 = yOQ w Q d0 := by rw [e]
theorem yOQ_forth {r : Option (Value × AH)} {Q : Value → AH → Prop} : OQ r Q = yOQ r Q .mk := rfl
theorem yOQ_back {r : Option (Value × AH)} {Q : Value → AH → Prop} {d0 : Dum Q} : yOQ r Q d0 = OQ r Q := rfl
def yIfW (v : Value) (A : Prop) (B : Prop) (_ : Dum A) (_ : Dum B) : Prop := IfW v A B
@[congr] theorem yIfW_congr {v : Value} {A : Prop} {B : Prop} {w : Value} {d0 : Dum A} {d1 : Dum B} (e : v = w) : yIfW v A B d0 d1 = yIfW w A B d0 d1 := by rw [e]
theorem yIfW_forth {v : Value} {A : Prop} {B : Prop} : IfW v A B = yIfW v A B .mk .mk := rfl
theorem yIfW_back {v : Value} {A : Prop} {B : Prop} {d0 : Dum A} {d1 : Dum B} : yIfW v A B d0 d1 = IfW v A B := rfl
def yWF (S : XS) (g : FuncId) (args : List Value) (h : AH) (Q : Value → AH → Prop) (_ : Dum h) (_ : Dum Q) : Prop := WF S g args h Q
@[congr] theorem yWF_congr {S : XS} {g : FuncId} {args args1 : List Value} {h : AH} {Q : Value → AH → Prop} {d0 : Dum h} {d1 : Dum Q} (e : args = args1) : yWF S g args h Q d0 d1 = yWF S g args1 h Q d0 d1 := by rw [e]
theorem yWF_back {S : XS} {g : FuncId} {args : List Value} {h : AH} {Q : Value → AH → Prop} {d0 : Dum h} {d1 : Dum Q} : yWF S g args h Q d0 d1 = WF S g args h Q := rfl
def yWK (S : XS) (v : Value) (args : List Value) (h : AH) (Q : Value → AH → Prop) (_ : Dum h) (_ : Dum Q) : Prop := WK S v args h Q
@[congr] theorem yWK_congr {S : XS} {v v1 : Value} {args args1 : List Value} {h : AH} {Q : Value → AH → Prop} {d0 : Dum h} {d1 : Dum Q} (e : v = v1) (e1 : args = args1) : yWK S v args h Q d0 d1 = yWK S v1 args1 h Q d0 d1 := by rw [e, e1]
theorem yWK_back {S : XS} {v : Value} {args : List Value} {h : AH} {Q : Value → AH → Prop} {d0 : Dum h} {d1 : Dum Q} : yWK S v args h Q d0 d1 = WK S v args h Q := rfl
theorem yWK_func {S : XS} {g : FuncId} {cap : Array Value} {args : List Value} {h : AH} {Q : Value → AH → Prop} {d0 : Dum h} {d1 : Dum Q} : yWK S (.func (.func g) #[] cap) args h Q d0 d1 = yWF S g (args ++ cap.toList) h Q .mk .mk := rfl
def yWG (S : XS) (v : Value) (b : Bool) (i : XI) (rest : List XI) (f : Fr) (h : AH) (Q : Fr → AH → Prop) (_ : Dum i) (_ : Dum rest) (_ : Dum f) (_ : Dum h) (_ : Dum Q) : Prop := WG S v b i rest f h Q
@[congr] theorem yWG_congr {v v1 : Value} {b : Bool} {S : XS} {i : XI} {rest : List XI} {f : Fr} {h : AH} {Q : Fr → AH → Prop} {d0 : Dum i} {d1 : Dum rest} {d2 : Dum f} {d3 : Dum h} {d4 : Dum Q} (e : v = v1) : yWG S v b i rest f h Q d0 d1 d2 d3 d4 = yWG S v1 b i rest f h Q d0 d1 d2 d3 d4 := by rw [e]
theorem yWG_back {v : Value} {b : Bool} {S : XS} {i : XI} {rest : List XI} {f : Fr} {h : AH} {Q : Fr → AH → Prop} {d0 : Dum i} {d1 : Dum rest} {d2 : Dum f} {d3 : Dum h} {d4 : Dum Q} : yWG S v b i rest f h Q d0 d1 d2 d3 d4 = WG S v b i rest f h Q := rfl
theorem yWG_tt {S : XS} {i : XI} {rest : List XI} {f : Fr} {h : AH} {Q : Fr → AH → Prop} {d0 : Dum i} {d1 : Dum rest} {d2 : Dum f} {d3 : Dum h} {d4 : Dum Q} : yWG S (.bool true) true i rest f h Q d0 d1 d2 d3 d4 = WO S (⟨i.d, i.o, none, i.q⟩ :: rest) f h Q := rfl
theorem yWG_ff {S : XS} {i : XI} {rest : List XI} {f : Fr} {h : AH} {Q : Fr → AH → Prop} {d0 : Dum i} {d1 : Dum rest} {d2 : Dum f} {d3 : Dum h} {d4 : Dum Q} : yWG S (.bool false) false i rest f h Q d0 d1 d2 d3 d4 = WO S (⟨i.d, i.o, none, i.q⟩ :: rest) f h Q := rfl
theorem yWG_tf {S : XS} {i : XI} {rest : List XI} {f : Fr} {h : AH} {Q : Fr → AH → Prop} {d0 : Dum i} {d1 : Dum rest} {d2 : Dum f} {d3 : Dum h} {d4 : Dum Q} : yWG S (.bool true) false i rest f h Q d0 d1 d2 d3 d4 = WO S rest (updo f i.d undef) h Q := rfl
theorem yWG_ft {S : XS} {i : XI} {rest : List XI} {f : Fr} {h : AH} {Q : Fr → AH → Prop} {d0 : Dum i} {d1 : Dum rest} {d2 : Dum f} {d3 : Dum h} {d4 : Dum Q} : yWG S (.bool false) true i rest f h Q d0 d1 d2 d3 d4 = WO S rest (updo f i.d undef) h Q := rfl
theorem yWG_un {b : Bool} {S : XS} {i : XI} {rest : List XI} {f : Fr} {h : AH} {Q : Fr → AH → Prop} {d0 : Dum i} {d1 : Dum rest} {d2 : Dum f} {d3 : Dum h} {d4 : Dum Q} : yWG S undef b i rest f h Q d0 d1 d2 d3 d4 = WO S rest (updo f i.d undef) h Q := rfl
theorem yQV_eq {v : Value} {Q : Value → Prop} {d : Dum Q} : yQV v Q d = Q v := rfl
theorem yWV_some {v : Value} {Q : Value → Prop} {d : Dum Q} : yWV (some v) Q d = Q v := WV_some
theorem yWV_ite {c : Prop} [Decidable c] {v : Value} {Q : Value → Prop} {d : Dum Q} : yWV (if c then some v else none) Q d = (c ∧ Q v) := WV_ite
theorem yHQ_some {v : AH} {Q : AH → Prop} {d : Dum Q} : yHQ (some v) Q d = Q v := HQ_some
theorem yHQ_ite {c : Prop} [Decidable c] {v : AH} {Q : AH → Prop} {d : Dum Q} : yHQ (if c then some v else none) Q d = (c ∧ Q v) := HQ_ite
theorem yPQ_ptr {p : Addr} {Q : Nat → Nat → Prop} {d : Dum Q} : yPQ (.pointer (some p)) Q d = Q p.block p.off := rfl
theorem yLQ_eq {v : List Value} {Q : List Value → Prop} {d : Dum Q} : yLQ v Q d = Q v := rfl
theorem yVQ_some {v : List Value} {Q : List Value → Prop} {d : Dum Q} : yVQ (some v) Q d = Q v := VQ_some
theorem yOQ_some {v : Value} {h : AH} {Q : Value → AH → Prop} {d : Dum Q} : yOQ (some (v, h)) Q d = Q v h := OQ_some
theorem yOQ_ite {c : Prop} [Decidable c] {v : Value} {h : AH} {Q : Value → AH → Prop} {d : Dum Q} : yOQ (if c then some (v, h) else none) Q d = (c ∧ Q v h) := OQ_ite
theorem yIfW_t {A B : Prop} {d : Dum A} {e : Dum B} : yIfW (.bool true) A B d e = A := rfl
theorem yIfW_f {A B : Prop} {d : Dum A} {e : Dum B} : yIfW (.bool false) A B d e = B := rfl

theorem yWX_mv {S : XS} {f : Fr} {h : AH} {Q : Value → AH → Prop} {x : Operand} : WX S (.mv x) f h Q = yQV (ev f x) (fun v => Q v h) .mk := WX_mv
theorem yWX_pick {S : XS} {f : Fr} {h : AH} {Q : Value → AH → Prop} {a b c : Operand} : WX S (.pick c a b) f h Q = yWV (pickV (ev f c) (ev f a) (ev f b)) (fun v => Q v h) .mk := WX_pick
theorem yWX_box {S : XS} {f : Fr} {h : AH} {Q : Value → AH → Prop} {x : Operand} {e : TypeId} : WX S (.box e x) f h Q = yLQ (cellsL (ev f x)) (fun c => c.all isOne = true ∧ Q (.pointer (some ⟨h.length, 0, none⟩)) (h.new ⟨c, e, false, true⟩)) .mk := WX_box
theorem yWX_boxn {S : XS} {f : Fr} {h : AH} {Q : Value → AH → Prop} {x : Operand} {e : TypeId} {n : Nat} : WX S (.boxn e n x) f h Q = yLQ (cellsL (ev f x)) (fun c => (c.length = n ∧ c.all isOne = true) ∧ Q (.pointer (some ⟨h.length, 0, none⟩)) (h.new ⟨c, e, false, true⟩)) .mk := WX_boxn
theorem yWX_load1 {S : XS} {f : Fr} {h : AH} {Q : Value → AH → Prop} {a : Operand} : WX S (.load1 a) f h Q = yPQ (ev f a) (fun n off => yWV (h.rd1 n off) (fun v => Q v h) .mk) .mk := WX_load1
theorem yWX_loadn {S : XS} {f : Fr} {h : AH} {Q : Value → AH → Prop} {a : Operand} {n : Nat} : WX S (.loadn n a) f h Q = yPQ (ev f a) (fun m off => yWV ((h.rdn m off n).map fun c => .agg c.toArray) (fun v => Q v h) .mk) .mk := WX_loadn
theorem yWX_store {S : XS} {f : Fr} {h : AH} {Q : Value → AH → Prop} {a x : Operand} {n : Nat} : WX S (.store n a x) f h Q = yPQ (ev f a) (fun m off => yLQ (cellsL (ev f x)) (fun c => (c.length = n ∧ c.all isOne = true) ∧ yHQ (h.wr m off c) (fun h1 => Q undef h1) .mk) .mk) .mk := WX_store
theorem yWX_bin {S : XS} {f : Fr} {h : AH} {Q : Value → AH → Prop} {x y : Operand} {op : BinOp} : WX S (.bin op x y) f h Q = yWV (xbin op (ev f x) (ev f y)) (fun v => Q v h) .mk := WX_bin
theorem yWX_un {S : XS} {f : Fr} {h : AH} {Q : Value → AH → Prop} {x : Operand} {op : UnOp} : WX S (.un op x) f h Q = yWV (xun op (ev f x)) (fun v => Q v h) .mk := WX_un
theorem yWX_conv {S : XS} {f : Fr} {h : AH} {Q : Value → AH → Prop} {x : Operand} {k : IntKind} : WX S (.conv k x) f h Q = yWV (convV k (ev f x)) (fun v => Q v h) .mk := WX_conv
theorem yWX_fadr {S : XS} {f : Fr} {h : AH} {Q : Value → AH → Prop} {x : Operand} {off : Nat} : WX S (.fadr off x) f h Q = yPQ (ev f x) (fun n o => Q (.pointer (some ⟨n, o + off, none⟩)) h) .mk := WX_fadr
theorem yWX_fld1 {S : XS} {f : Fr} {h : AH} {Q : Value → AH → Prop} {x : Operand} {off : Nat} : WX S (.fld1 off x) f h Q = yWV (fstV (ev f x) off) (fun v => Q v h) .mk := WX_fld1
theorem yWX_ext {S : XS} {f : Fr} {h : AH} {Q : Value → AH → Prop} {x : Operand} {i : Nat} : WX S (.ext x i) f h Q = yWV (extV (ev f x) i) (fun v => Q v h) .mk := WX_ext
theorem yWX_len {S : XS} {f : Fr} {h : AH} {Q : Value → AH → Prop} {x : Operand} : WX S (.len x) f h Q = yWV (lenV (ev f x)) (fun v => Q v h) .mk := WX_len
theorem yWX_ixs {S : XS} {f : Fr} {h : AH} {Q : Value → AH → Prop} {x y : Operand} {sz : Nat} : WX S (.ixs sz x y) f h Q = yWV (ixsV sz (ev f x) (ev f y)) (fun v => Q v h) .mk := WX_ixs
theorem yWX_ixa {S : XS} {f : Fr} {h : AH} {Q : Value → AH → Prop} {x y : Operand} {n sz : Nat} : WX S (.ixa n sz x y) f h Q = yWV (ixaV n sz (ev f x) (ev f y)) (fun v => Q v h) .mk := WX_ixa
theorem yWX_idx1 {S : XS} {f : Fr} {h : AH} {Q : Value → AH → Prop} {x y : Operand} {n : Nat} : WX S (.idx1 n x y) f h Q = yWV (idx1V n (ev f x) (ev f y)) (fun v => Q v h) .mk := WX_idx1
theorem yWX_idxn {S : XS} {f : Fr} {h : AH} {Q : Value → AH → Prop} {x y : Operand} {n sz : Nat} : WX S (.idxn n sz x y) f h Q = yWV (idxnV n sz (ev f x) (ev f y)) (fun v => Q v h) .mk := WX_idxn
theorem yWX_slc {S : XS} {f : Fr} {h : AH} {Q : Value → AH → Prop} {x : Operand} {sz : Nat} {lo hi : Option Operand} : WX S (.slc sz x lo hi) f h Q = yWV (slcV sz (ev f x) (omapF f lo) (omapF f hi)) (fun v => Q v h) .mk := WX_slc
theorem yWX_isnil {S : XS} {f : Fr} {h : AH} {Q : Value → AH → Prop} {x : Operand} {neg : Bool} : WX S (.isnil neg x) f h Q = yWV (isnilV neg (ev f x)) (fun v => Q v h) .mk := WX_isnil
theorem yWX_eqb {S : XS} {f : Fr} {h : AH} {Q : Value → AH → Prop} {x y : Operand} {neg : Bool} : WX S (.eqb neg x y) f h Q = yWV (eqbV neg (ev f x) (ev f y)) (fun v => Q v h) .mk := WX_eqb
theorem yWX_eqa {S : XS} {f : Fr} {h : AH} {Q : Value → AH → Prop} {x y : Operand} {neg : Bool} {n : Nat} : WX S (.eqa neg n x y) f h Q = yWV (eqaV neg n (ev f x) (ev f y)) (fun v => Q v h) .mk := WX_eqa
theorem yWX_mks {S : XS} {f : Fr} {h : AH} {Q : Value → AH → Prop} {x : Operand} {e : TypeId} {sz bytes : Nat} {z : List Value} : WX S (.mks e sz bytes z x) f h Q = yOQ (mksV e sz bytes z (ev f x) h) Q .mk := WX_mks
theorem yWX_app {S : XS} {f : Fr} {h : AH} {Q : Value → AH → Prop} {x y : Operand} {e : TypeId} {sz bytes : Nat} : WX S (.app e sz bytes x y) f h Q = yOQ (appV e sz bytes (ev f x) (ev f y) h) Q .mk := WX_app
theorem yWX_mkf {S : XS} {f : Fr} {h : AH} {Q : Value → AH → Prop} {g : FuncId} {l : List Operand} : WX S (.mkf g l) f h Q = yLQ (l.map (ev f)) (fun c => Q (.func (.func g) #[] c.toArray) h) .mk := WX_mkf
theorem yWX_build {S : XS} {f : Fr} {h : AH} {Q : Value → AH → Prop} {z : List Value} {l : List (Nat × Nat × Operand)} : WX S (.build z l) f h Q = yVQ (fillL z (l.map fun p => (p.1, p.2.1, ev f p.2.2))) (fun c => c.all isOne = true ∧ Q (.agg c.toArray) h) .mk := WX_build
theorem yWX_bslice {S : XS} {f : Fr} {h : AH} {Q : Value → AH → Prop} {e : TypeId} {sz n : Nat} {z : List Value} {l : List (Nat × Nat × Operand)} : WX S (.bslice e sz n z l) f h Q = yVQ (fillL (zrep n z) (l.map fun p => (p.1, p.2.1, ev f p.2.2))) (fun c => c.all isOne = true ∧ Q (.slice (some ⟨h.length, 0, none⟩) n sz) (h.new ⟨c, e, false, true⟩)) .mk := WX_bslice
theorem yWX_callf {S : XS} {f : Fr} {h : AH} {Q : Value → AH → Prop} {g : FuncId} {args : List Operand} : WX S (.call (.func g) args) f h Q = yWF S g (args.map (ev f)) h Q .mk .mk := WX_callf
theorem yWX_calls {S : XS} {f : Fr} {h : AH} {Q : Value → AH → Prop} {fo : Operand} {args : List Operand} : WX S (.call fo args) f h Q = yWK S (ev f fo) (args.map (ev f)) h Q .mk .mk := WX_calls
theorem yWO_guard {S : XS} {d : Option Nat} {o : XOp} {s : Nat} {b q : Bool} {rest : List XI} {f : Fr} {h : AH} {Q : Fr → AH → Prop} : WO S (⟨d, o, some (s, b), q⟩ :: rest) f h Q = yWG S (f s) b ⟨d, o, none, q⟩ rest f h Q .mk .mk .mk .mk .mk := WO_guard
theorem yWC_cond {S : XS} {c : Operand} {a b : IR} {f : Fr} {h : AH} {Q : XE → Fr → AH → Prop} : WC S (.cond c a b) f h Q = yIfW (ev f c) (WC S a f h Q) (WC S b f h Q) .mk .mk := WC_cond
theorem yRetQ_n {rs : List XRes} {f : Fr} {h : AH} {R : Value → AH → Prop} : RetQ rs R .normal f h = yOQ ((xres f h rs).map (·, h)) R .mk := rfl
theorem yRetQ_r {rs : List XRes} {f : Fr} {h : AH} {R : Value → AH → Prop} : RetQ rs R .ret f h = yOQ ((xres f h rs).map (·, h)) R .mk := rfl
theorem yfill_nil {z : List Value} : fillL z [] = some z := rfl
theorem yfill_cons {z : List Value} {off n : Nat} {x : Value} {rest : List (Nat × Nat × Value)} : fillL z ((off, n, x) :: rest) = if (cellsL x).length = n ∧ off + n ≤ z.length then fillL (splice z off (cellsL x)) rest else none := rfl
theorem yzrep_0 {z : List Value} : zrep 0 z = [] := by simp [zrep]
theorem yzrep_1 {z : List Value} : zrep 1 z = z := by simp [zrep]
theorem yzrep_2 {z : List Value} : zrep 2 z = z ++ z := by simp [zrep]
theorem yzrep_3 {z : List Value} : zrep 3 z = z ++ z ++ z := by simp [zrep]
theorem yzrep_4 {z : List Value} : zrep 4 z = z ++ z ++ z ++ z := by simp [zrep]
theorem yzrep_5 {z : List Value} : zrep 5 z = z ++ z ++ z ++ z ++ z := by simp [zrep]
theorem yzrep_6 {z : List Value} : zrep 6 z = z ++ z ++ z ++ z ++ z ++ z := by simp [zrep]
theorem yzrep_7 {z : List Value} : zrep 7 z = z ++ z ++ z ++ z ++ z ++ z ++ z := by simp [zrep]
theorem yzrep_8 {z : List Value} : zrep 8 z = z ++ z ++ z ++ z ++ z ++ z ++ z ++ z := by simp [zrep]
theorem yzrep_9 {z : List Value} : zrep 9 z = z ++ z ++ z ++ z ++ z ++ z ++ z ++ z ++ z := by simp [zrep]
theorem yWF_forth {S : XS} {g : FuncId} {args : List Value} {h : AH} {Q : Value → AH → Prop} : WF S g args h Q = yWF S g args h Q .mk .mk := rfl
theorem yWK_forth {S : XS} {v : Value} {args : List Value} {h : AH} {Q : Value → AH → Prop} : WK S v args h Q = yWK S v args h Q .mk .mk := rfl
theorem yWG_forth {S : XS} {v : Value} {b : Bool} {i : XI} {rest : List XI} {f : Fr} {h : AH} {Q : Fr → AH → Prop} : WG S v b i rest f h Q = yWG S v b i rest f h Q .mk .mk .mk .mk .mk := rfl
def ypre := And.intro @WC_skip (And.intro @WC_exit (And.intro @WC_ret (And.intro @WC_reg (And.intro @WC_seq (And.intro @yWC_cond (And.intro @WC_blk (And.intro @WO_free (And.intro @WO_calm (And.intro @yWO_guard (And.intro @yWX_mv (And.intro @yWX_pick (And.intro @WX_alloc (And.intro @yWX_box (And.intro @yWX_boxn (And.intro @yWX_load1 (And.intro @yWX_loadn (And.intro @yWX_store (And.intro @yWX_bin (And.intro @yWX_un (And.intro @yWX_conv (And.intro @yWX_fadr (And.intro @yWX_fld1 (And.intro @yWX_ext (And.intro @yWX_len (And.intro @yWX_ixa (And.intro @yWX_idx1 (And.intro @yWX_idxn (And.intro @yWX_slc (And.intro @yWX_isnil (And.intro @yWX_ixs (And.intro @yWX_eqb (And.intro @yWX_eqa (And.intro @yWX_mks (And.intro @yWX_app (And.intro @yWX_mkf (And.intro @yWX_build (And.intro @yWX_bslice (And.intro @yWX_callf (And.intro @yWX_calls (And.intro @ev_tmp (And.intro @ev_const (And.intro @ev_func (And.intro @updo_some (And.intro @updo_none (And.intro @upd_apply (And.intro @SeqQ_n (And.intro @SeqQ_e (And.intro @SeqQ_r (And.intro @BlkQ_n (And.intro @BlkQ_e (And.intro @BlkQ_r (And.intro @RegQ_eq (And.intro @yRetQ_n (And.intro @yRetQ_r (And.intro @InvQ_e (And.intro @InvQ_r (And.intro @LoopQ_e (And.intro @LoopQ_r (And.intro @yQV_forth (And.intro @yWV_forth (And.intro @yHQ_forth (And.intro @yPQ_forth (And.intro @yLQ_forth (And.intro @yVQ_forth (And.intro @yOQ_forth (And.intro @yIfW_forth (And.intro @yWF_forth (And.intro @yWK_forth (@yWG_forth)))))))))))))))))))))))))))))))))))))))))))))))))))))))))))))))))))))
def ypost := And.intro @WO_nil (And.intro @yWG_tt (And.intro @yWG_ff (And.intro @yWG_tf (And.intro @yWG_un (And.intro @yWG_ft (And.intro @yQV_eq (And.intro @yWV_some (And.intro @yOQ_some (And.intro @yWK_func (And.intro @yHQ_some (And.intro @yPQ_ptr (And.intro @yLQ_eq (And.intro @yVQ_some (And.intro @yIfW_t (And.intro @yIfW_f (And.intro @pickV_t (And.intro @pickV_f (And.intro @bin_add (And.intro @bin_sub (And.intro @bin_mul (And.intro @bin_eql (And.intro @bin_neq (And.intro @bin_lss (And.intro @bin_leq (And.intro @bin_gtr (And.intro @bin_geq (And.intro @un_not (And.intro @un_minus (And.intro @lenV_slice (And.intro @convV_int (And.intro @fstV_agg (And.intro @extV_tuple (And.intro @eqa3 (And.intro @eqbV_b (And.intro @cellsL_agg (And.intro @cellsL_int (And.intro @cellsL_bool (And.intro @cellsL_slice (And.intro @cellsL_ptr (And.intro @cellsL_func (And.intro @mksV_int (And.intro @yOQ_ite (And.intro @yWV_ite (And.intro @rd1_new_same (And.intro @rd1_new_lt (And.intro @rdn_new_lt (And.intro @get_new_lt (And.intro @wr_new_lt (And.intro @yHQ_ite (And.intro @map_ite_v (And.intro @rd1_put_same (And.intro @rdn_put_same (And.intro @rd1_put_ne (And.intro @rdn_put_ne (And.intro @wr_put_same (And.intro @wr_put_ne (And.intro @xres_tmp (And.intro @xres_tmp2 (And.intro @xres_cell (And.intro @xres_cells (And.intro @xres_2 (And.intro @tup2_some (And.intro @rd1V_ptr (And.intro @rdnV_ptr (And.intro @xres1_tmp (And.intro @xres1_cell (And.intro @xres1_cells (And.intro @args_nil (And.intro @args_cons (And.intro @map_some_v (And.intro @bind_some_v (And.intro @map_cons_v (And.intro @map_nil_v (And.intro @lit_nil (And.intro @lit_cons (And.intro @toL (And.intro @all_cons_v (And.intro @all_nil_v (And.intro @one_int (And.intro @one_bool (And.intro @one_slice (And.intro @one_func (And.intro @one_ptr (And.intro @len_cons_v (And.intro @len_nil_v (And.intro @drop_zero_v (And.intro @drop_cons_v (And.intro @take_zero_v (And.intro @take_nil_v (And.intro @take_cons_v (And.intro @app_nil_v (And.intro @app_cons_v (And.intro @get_new_same (And.intro @Bool.and_true (And.intro @Bool.true_and (And.intro @Bool.not_true (And.intro @Bool.not_false (And.intro @true_and (And.intro @and_true (And.intro @and_self (And.intro @decide_true (And.intro @decide_false (And.intro @yfill_nil (And.intro @yfill_cons (And.intro @yzrep_0 (And.intro @yzrep_1 (And.intro @yzrep_2 (And.intro @yzrep_3 (And.intro @yzrep_4 (And.intro @yzrep_5 (And.intro @yzrep_6 (And.intro @yzrep_7 (And.intro @yzrep_8 (@yzrep_9))))))))))))))))))))))))))))))))))))))))))))))))))))))))))))))))))))))))))))))))))))))))))))))))))))))))))))))))))
def yback := And.intro @yQV_back (And.intro @yWV_back (And.intro @yHQ_back (And.intro @yPQ_back (And.intro @yLQ_back (And.intro @yVQ_back (And.intro @yOQ_back (And.intro @yIfW_back (And.intro @yWF_back (And.intro @yWK_back (@yWG_back))))))))))
def ynew := And.intro @wr_new_same (And.intro @rdn_new_same (@splice_cons))
end Go.Proofs.Ytilpnbejpndgpaa.X

/- Programs of additions: sizes, copies, comparisons, marks (printed by wip/tools/mkP.py). -/
set_option linter.unusedVariables false
set_option linter.unusedSimpArgs false
set_option maxRecDepth 20000
set_option maxHeartbeats 4000000
namespace Go.Proofs.Ytilpnbejpndgpaa.X
open Go Go.RowKit

def SmallE (L : List (List Int)) : Prop := (L.length : Int) ≤ 1048576
theorem all3 {q : List Int} (h : q.length = 3) : ∃ a b c, q = [a, b, c] := by
  match q, h with
  | [a, b, c], _ => exact ⟨a, b, c, rfl⟩
theorem all2 {q : List Int} (h : q.length = 2) : ∃ a b, q = [a, b] := by
  match q, h with
  | [a, b], _ => exact ⟨a, b, rfl⟩
theorem cel_3 {k : IntKind} {a b c : Int} : cel k [a, b, c] = [.int k a, .int k b, .int k c] := rfl
theorem cel_2 {k : IntKind} {a b : Int} : cel k [a, b] = [.int k a, .int k b] := rfl
theorem Els.rdw {k : IntKind} {w : Nat} {h : AH} {v : Value} {L : List (List Int)} (e : Els k w h v L) {i : Nat} (hi : i < L.length) :
    ∃ n off, (∀ kk : IntKind, ixsV w v (.int kk i) = some (.pointer (some ⟨n, off, none⟩))) ∧ h.rdn n off w = some (cel k (L.getD i [])) := by
  obtain ⟨n, off, hix, hrn, hr1⟩ := e.at hi
  have r := hrn 0 w (by omega)
  rw [List.drop_zero, List.take_of_length_le (by rw [e.wid hi]; exact Nat.le_refl _), Nat.add_zero] at r
  exact ⟨n, off, hix, r⟩

theorem l_toStep {q : List Int} {h : AH} {Q : Value → AH → Prop} (hq : q.length = 3) (hQ : ∀ h', h <+: h' → Q (aggV .i64 q) h') : WF S 122 [aggV .i64 q] h Q := by
  obtain ⟨a, b, c, rfl⟩ := all3 hq
  refine WF_fn (fn := c122) rfl rfl ?_
  unfold c122
  ((try simp (maxSteps := 3000000) (dsimp := false) (disch := first | omega | (simp only [len_new, len_put, len_kill]; omega)) only [↓ypre, ypost, ↓reduceIte, Nat.reduceEqDiff, Nat.reduceAdd, Nat.reduceSub, Nat.reduceLeDiff, Nat.zero_add, Nat.sub_zero, ynew, aggV, cel_3]); try simp only [yback])
  exact hQ _ (pre_new (pre_new (pre_new (List.prefix_refl _))))
theorem l_toStepS {v : Value} {L : List (List Int)} {h : AH} {Q : Value → AH → Prop} (hv : Els .i64 3 h v L) (hl : SmallE L)
    (hQ : ∀ v' h', h <+: h' → InE .i64 3 h.length h'.length h' v' L → Q v' h') : WF S 76 [v] h Q := by
  refine WF_fn (fn := c76) rfl rfl ?_
  unfold c76
  have hw := hv.widL
  unfold SmallE at hl
  ((try simp (maxSteps := 3000000) (dsimp := false) (disch := first | omega | (simp only [len_new, len_put, len_kill]; omega)) only [↓ypre, ypost, ↓reduceIte, Nat.reduceEqDiff, Nat.reduceAdd, Nat.reduceSub, Nat.reduceLeDiff, Nat.zero_add, Nat.sub_zero, ynew, hv.len]); try simp only [yback])
  refine ⟨by omega, ?_⟩
  rw [Int.toNat_natCast, show ([.int .i64 0, .int .i64 0, .int .i64 0] : List Value) = cel .i64 (List.replicate 3 0) from rfl, zrep_cel]
  generalize hH : AH.new h _ = H
  obtain ⟨hb0, p0, n0⟩ := new_facts hH
  ((try simp (maxSteps := 3000000) (dsimp := false) (disch := first | omega | (simp only [len_new, len_put, len_kill]; omega)) only [↓ypre, ypost, ↓reduceIte, Nat.reduceEqDiff, Nat.reduceAdd, Nat.reduceSub, Nat.reduceLeDiff, Nat.zero_add, Nat.sub_zero, ynew]); try simp only [yback])
  refine WC_loop_inv (fun m f K1 => ∃ (i : Nat), m = L.length - i ∧ i ≤ L.length ∧ f 0 = v ∧ f 3 = .slice (some ⟨h.length, 0, none⟩) L.length 3 ∧ f 4 = I64 i ∧ (h <+: K1) ∧ (OwnB K1 h.length (cel .i64 (fillG (List.replicate 3 0) L i).flatten) true)) ?_ (L.length - 0) _ _ ⟨0, rfl, by omega, (by first | rfl | (simp [upd_apply]; done)), (by first | rfl | (simp [upd_apply]; done)), (by first | rfl | (simp [upd_apply]; done)), p0, ⟨_, by rw [fillG_zero]; exact hb0⟩⟩
  rintro m f K1 ⟨i, rfl, hi, f0, f3, f4, pp, hb⟩
  have he1 := hv.pre pp
  by_cases hlt : (i : Int) < L.length
  · have hi' : i < L.length := by omega
    obtain ⟨n, off, hix, hrn⟩ := he1.rdw hi'
    ((try simp (maxSteps := 3000000) (dsimp := false) (disch := first | omega | (simp only [len_new, len_put, len_kill]; omega)) only [↓ypre, ypost, ↓reduceIte, Nat.reduceEqDiff, Nat.reduceAdd, Nat.reduceSub, Nat.reduceLeDiff, Nat.zero_add, Nat.sub_zero, ynew, f0, f3, f4, he1.len, decide_eq_true hlt, hix, hrn]); try simp only [yback])
    refine l_toStep (he1.wid hi') fun h2 p2 => ?_
    have wf := fillG_wid (z := List.replicate 3 0) (i := i) (w := 3) (by simp) hw
    have fl := fillG_len (z := List.replicate 3 0) (L := L) (i := i) (by omega)
    have ffl := flat_len wf
    rw [fl] at ffl
    have hrow := mul_row (w := 3) hi'
    obtain ⟨e, hb⟩ := hb
    have hb2 := pre_get p2 hb
    have lt2 := get_lt hb2
    have ixd : ixsV 3 (.slice (some ⟨h.length, 0, none⟩) L.length 3) (I64 i) = some (.pointer (some ⟨h.length, i * 3, none⟩)) := by
      rw [ixsV_some, if_pos (by omega)]
      simp
    have sp : splice (cel .i64 (fillG (List.replicate 3 0) L i).flatten) (i * 3) (cel .i64 (L.getD i [])) = cel .i64 (fillG (List.replicate 3 0) L (i + 1)).flatten := by
      rw [cel_splice, he1.wid hi', flat_set wf (by omega), fillG_set hi']
    ((try simp (maxSteps := 3000000) (dsimp := false) (disch := first | omega | (simp only [len_new, len_put, len_kill]; omega)) only [↓ypre, ypost, ↓reduceIte, Nat.reduceEqDiff, Nat.reduceAdd, Nat.reduceSub, Nat.reduceLeDiff, Nat.zero_add, Nat.sub_zero, ynew, f0, f3, f4, aggV, cel_all, cel_len, he1.wid hi', ixd, wr_of hb2, sp, ffl, wrap64_in]); try simp only [yback])
    refine ⟨by omega, ?_⟩
    refine InvQ_go (L.length - (i + 1)) (by omega) ⟨(i + 1), rfl, by omega, (by first | rfl | exact f0 | (simp only [upd_apply]; rfl) | (show I64 _ = _; congr 1; omega)), (by first | rfl | exact f3 | (simp only [upd_apply]; rfl) | (show I64 _ = _; congr 1; omega)), (by first | rfl | exact f4 | (simp only [upd_apply]; rfl) | (show I64 _ = _; congr 1; omega)), (pre_put (pp.trans p2) (Nat.le_refl _)), ⟨_, get_put_same lt2⟩⟩
  · have ei : i = L.length := by omega
    subst ei
    obtain ⟨e, hb⟩ := hb
    rw [fillG_all] at hb
    have lt := get_lt hb
    ((try simp (maxSteps := 3000000) (dsimp := false) (disch := first | omega | (simp only [len_new, len_put, len_kill]; omega)) only [↓ypre, ypost, ↓reduceIte, Nat.reduceEqDiff, Nat.reduceAdd, Nat.reduceSub, Nat.reduceLeDiff, Nat.zero_add, Nat.sub_zero, ynew, f0, f3, f4, he1.len, decide_eq_false hlt]); try simp only [yback])
    exact hQ _ _ pp (.inr ⟨h.length, e, true, ⟨Nat.le_refl _, lt⟩, rfl, hb, hw⟩)
theorem l_szStepS {v : Value} {L : List (List Int)} {n : Int} {h : AH} {Q : Value → AH → Prop} (hv : Els .i64 3 h v L) (h0 : 0 ≤ n ∧ n ≤ 1048576) (hl : (L.length : Int) ≤ 9223372036854775807)
    (hQ : ∀ m : Int, m ≤ n → (0 ≤ m → SmallE L) → Q (I64 m) h) : WF S 73 [v, I64 n] h Q := by
  refine WF_fn (fn := c73) rfl rfl ?_
  unfold c73
  ((try simp (maxSteps := 3000000) (dsimp := false) (disch := first | omega | (simp only [len_new, len_put, len_kill]; omega)) only [↓ypre, ypost, ↓reduceIte, Nat.reduceEqDiff, Nat.reduceAdd, Nat.reduceSub, Nat.reduceLeDiff, Nat.zero_add, Nat.sub_zero, ynew, hv.len, wrap64_in]); try simp only [yback])
  by_cases h1 : n - ↑L.length < 0
  · ((try simp (maxSteps := 3000000) (dsimp := false) (disch := first | omega | (simp only [len_new, len_put, len_kill]; omega)) only [↓ypre, ypost, ↓reduceIte, Nat.reduceEqDiff, Nat.reduceAdd, Nat.reduceSub, Nat.reduceLeDiff, Nat.zero_add, Nat.sub_zero, ynew, decide_eq_true h1]); try simp only [yback])
    exact hQ _ (by omega) (by omega)
  · ((try simp (maxSteps := 3000000) (dsimp := false) (disch := first | omega | (simp only [len_new, len_put, len_kill]; omega)) only [↓ypre, ypost, ↓reduceIte, Nat.reduceEqDiff, Nat.reduceAdd, Nat.reduceSub, Nat.reduceLeDiff, Nat.zero_add, Nat.sub_zero, ynew, decide_eq_false h1]); try simp only [yback])
    exact hQ _ (by omega) (fun _ => by unfold SmallE; omega)
theorem l_eqStep {q : List Int} {h : AH} {Q : Value → AH → Prop} (hq : q.length = 3) (hQ : ∀ h', h <+: h' → Q (.bool true) h') : WF S 124 [aggV .i64 q, aggV .i64 q] h Q := by
  obtain ⟨a, b, c, rfl⟩ := all3 hq
  refine WF_fn (fn := c124) rfl rfl ?_
  unfold c124
  ((try simp (maxSteps := 3000000) (dsimp := false) (disch := first | omega | (simp only [len_new, len_put, len_kill]; omega)) only [↓ypre, ypost, ↓reduceIte, Nat.reduceEqDiff, Nat.reduceAdd, Nat.reduceSub, Nat.reduceLeDiff, Nat.zero_add, Nat.sub_zero, ynew, aggV, cel_3, ne_eq, not_true_eq_false]); try simp only [yback])
  exact hQ _ (pre_new (pre_new (List.prefix_refl _)))
theorem l_eqStepS {v v' : Value} {L : List (List Int)} {h : AH} {Q : Value → AH → Prop} (hv : Els .i64 3 h v L) (hv' : Els .i64 3 h v' L) (hl : SmallE L)
    (hQ : ∀ h', h <+: h' → Q (.bool true) h') : WF S 79 [v, v'] h Q := by
  refine WF_fn (fn := c79) rfl rfl ?_
  unfold c79
  unfold SmallE at hl
  ((try simp (maxSteps := 3000000) (dsimp := false) (disch := first | omega | (simp only [len_new, len_put, len_kill]; omega)) only [↓ypre, ypost, ↓reduceIte, Nat.reduceEqDiff, Nat.reduceAdd, Nat.reduceSub, Nat.reduceLeDiff, Nat.zero_add, Nat.sub_zero, ynew, hv.len, hv'.len, ne_eq, not_true_eq_false]); try simp only [yback])
  refine WC_loop_inv (fun m f K1 => ∃ (i : Nat), m = L.length - i ∧ i ≤ L.length ∧ f 0 = v ∧ f 1 = v' ∧ f 5 = I64 i ∧ (h <+: K1)) ?_ (L.length - 0) _ _ ⟨0, rfl, by omega, (by first | rfl | (simp [upd_apply]; done)), (by first | rfl | (simp [upd_apply]; done)), (by first | rfl | (simp [upd_apply]; done)), List.prefix_refl _⟩
  rintro m f K1 ⟨i, rfl, hi, f0, f1, f5, pp⟩
  have e1 := hv.pre pp
  have e2 := hv'.pre pp
  by_cases hlt : (i : Int) < L.length
  · have hi' : i < L.length := by omega
    obtain ⟨n, off, hix, hrn⟩ := e1.rdw hi'
    obtain ⟨n', off', hix', hrn'⟩ := e2.rdw hi'
    ((try simp (maxSteps := 3000000) (dsimp := false) (disch := first | omega | (simp only [len_new, len_put, len_kill]; omega)) only [↓ypre, ypost, ↓reduceIte, Nat.reduceEqDiff, Nat.reduceAdd, Nat.reduceSub, Nat.reduceLeDiff, Nat.zero_add, Nat.sub_zero, ynew, f0, f1, f5, e1.len, decide_eq_true hlt, hix, hrn, hix', hrn']); try simp only [yback])
    refine l_eqStep (e1.wid hi') fun h2 p2 => ?_
    ((try simp (maxSteps := 3000000) (dsimp := false) (disch := first | omega | (simp only [len_new, len_put, len_kill]; omega)) only [↓ypre, ypost, ↓reduceIte, Nat.reduceEqDiff, Nat.reduceAdd, Nat.reduceSub, Nat.reduceLeDiff, Nat.zero_add, Nat.sub_zero, ynew, f0, f1, f5, wrap64_in]); try simp only [yback])
    refine InvQ_go (L.length - (i + 1)) (by omega) ⟨(i + 1), rfl, by omega, (by first | rfl | exact f0 | (simp only [upd_apply]; rfl) | (show I64 _ = _; congr 1; omega)), (by first | rfl | exact f1 | (simp only [upd_apply]; rfl) | (show I64 _ = _; congr 1; omega)), (by first | rfl | exact f5 | (simp only [upd_apply]; rfl) | (show I64 _ = _; congr 1; omega)), (pp.trans p2)⟩
  · ((try simp (maxSteps := 3000000) (dsimp := false) (disch := first | omega | (simp only [len_new, len_put, len_kill]; omega)) only [↓ypre, ypost, ↓reduceIte, Nat.reduceEqDiff, Nat.reduceAdd, Nat.reduceSub, Nat.reduceLeDiff, Nat.zero_add, Nat.sub_zero, ynew, f0, f1, f5, e1.len, decide_eq_false hlt]); try simp only [yback])
    exact hQ _ pp

theorem l_toOutput {q : List Int} {h : AH} {Q : Value → AH → Prop} (hq : q.length = 2) (hQ : ∀ h', h <+: h' → Q (aggV .i64 q) h') : WF S 123 [aggV .i64 q] h Q := by
  obtain ⟨a, b, rfl⟩ := all2 hq
  refine WF_fn (fn := c123) rfl rfl ?_
  unfold c123
  ((try simp (maxSteps := 3000000) (dsimp := false) (disch := first | omega | (simp only [len_new, len_put, len_kill]; omega)) only [↓ypre, ypost, ↓reduceIte, Nat.reduceEqDiff, Nat.reduceAdd, Nat.reduceSub, Nat.reduceLeDiff, Nat.zero_add, Nat.sub_zero, ynew, aggV, cel_2]); try simp only [yback])
  exact hQ _ (pre_new (pre_new (pre_new (List.prefix_refl _))))
theorem l_toOutputS {v : Value} {L : List (List Int)} {h : AH} {Q : Value → AH → Prop} (hv : Els .i64 2 h v L) (hl : SmallE L)
    (hQ : ∀ v' h', h <+: h' → InE .i64 2 h.length h'.length h' v' L → Q v' h') : WF S 77 [v] h Q := by
  refine WF_fn (fn := c77) rfl rfl ?_
  unfold c77
  have hw := hv.widL
  unfold SmallE at hl
  ((try simp (maxSteps := 3000000) (dsimp := false) (disch := first | omega | (simp only [len_new, len_put, len_kill]; omega)) only [↓ypre, ypost, ↓reduceIte, Nat.reduceEqDiff, Nat.reduceAdd, Nat.reduceSub, Nat.reduceLeDiff, Nat.zero_add, Nat.sub_zero, ynew, hv.len]); try simp only [yback])
  refine ⟨by omega, ?_⟩
  rw [Int.toNat_natCast, show ([.int .i64 0, .int .i64 0] : List Value) = cel .i64 (List.replicate 2 0) from rfl, zrep_cel]
  generalize hH : AH.new h _ = H
  obtain ⟨hb0, p0, n0⟩ := new_facts hH
  ((try simp (maxSteps := 3000000) (dsimp := false) (disch := first | omega | (simp only [len_new, len_put, len_kill]; omega)) only [↓ypre, ypost, ↓reduceIte, Nat.reduceEqDiff, Nat.reduceAdd, Nat.reduceSub, Nat.reduceLeDiff, Nat.zero_add, Nat.sub_zero, ynew]); try simp only [yback])
  refine WC_loop_inv (fun m f K1 => ∃ (i : Nat), m = L.length - i ∧ i ≤ L.length ∧ f 0 = v ∧ f 3 = .slice (some ⟨h.length, 0, none⟩) L.length 2 ∧ f 4 = I64 i ∧ (h <+: K1) ∧ (OwnB K1 h.length (cel .i64 (fillG (List.replicate 2 0) L i).flatten) true)) ?_ (L.length - 0) _ _ ⟨0, rfl, by omega, (by first | rfl | (simp [upd_apply]; done)), (by first | rfl | (simp [upd_apply]; done)), (by first | rfl | (simp [upd_apply]; done)), p0, ⟨_, by rw [fillG_zero]; exact hb0⟩⟩
  rintro m f K1 ⟨i, rfl, hi, f0, f3, f4, pp, hb⟩
  have he1 := hv.pre pp
  by_cases hlt : (i : Int) < L.length
  · have hi' : i < L.length := by omega
    obtain ⟨n, off, hix, hrn⟩ := he1.rdw hi'
    ((try simp (maxSteps := 3000000) (dsimp := false) (disch := first | omega | (simp only [len_new, len_put, len_kill]; omega)) only [↓ypre, ypost, ↓reduceIte, Nat.reduceEqDiff, Nat.reduceAdd, Nat.reduceSub, Nat.reduceLeDiff, Nat.zero_add, Nat.sub_zero, ynew, f0, f3, f4, he1.len, decide_eq_true hlt, hix, hrn]); try simp only [yback])
    refine l_toOutput (he1.wid hi') fun h2 p2 => ?_
    have wf := fillG_wid (z := List.replicate 2 0) (i := i) (w := 2) (by simp) hw
    have fl := fillG_len (z := List.replicate 2 0) (L := L) (i := i) (by omega)
    have ffl := flat_len wf
    rw [fl] at ffl
    have hrow := mul_row (w := 2) hi'
    obtain ⟨e, hb⟩ := hb
    have hb2 := pre_get p2 hb
    have lt2 := get_lt hb2
    have ixd : ixsV 2 (.slice (some ⟨h.length, 0, none⟩) L.length 2) (I64 i) = some (.pointer (some ⟨h.length, i * 2, none⟩)) := by
      rw [ixsV_some, if_pos (by omega)]
      simp
    have sp : splice (cel .i64 (fillG (List.replicate 2 0) L i).flatten) (i * 2) (cel .i64 (L.getD i [])) = cel .i64 (fillG (List.replicate 2 0) L (i + 1)).flatten := by
      rw [cel_splice, he1.wid hi', flat_set wf (by omega), fillG_set hi']
    ((try simp (maxSteps := 3000000) (dsimp := false) (disch := first | omega | (simp only [len_new, len_put, len_kill]; omega)) only [↓ypre, ypost, ↓reduceIte, Nat.reduceEqDiff, Nat.reduceAdd, Nat.reduceSub, Nat.reduceLeDiff, Nat.zero_add, Nat.sub_zero, ynew, f0, f3, f4, aggV, cel_all, cel_len, he1.wid hi', ixd, wr_of hb2, sp, ffl, wrap64_in]); try simp only [yback])
    refine ⟨by omega, ?_⟩
    refine InvQ_go (L.length - (i + 1)) (by omega) ⟨(i + 1), rfl, by omega, (by first | rfl | exact f0 | (simp only [upd_apply]; rfl) | (show I64 _ = _; congr 1; omega)), (by first | rfl | exact f3 | (simp only [upd_apply]; rfl) | (show I64 _ = _; congr 1; omega)), (by first | rfl | exact f4 | (simp only [upd_apply]; rfl) | (show I64 _ = _; congr 1; omega)), (pre_put (pp.trans p2) (Nat.le_refl _)), ⟨_, get_put_same lt2⟩⟩
  · have ei : i = L.length := by omega
    subst ei
    obtain ⟨e, hb⟩ := hb
    rw [fillG_all] at hb
    have lt := get_lt hb
    ((try simp (maxSteps := 3000000) (dsimp := false) (disch := first | omega | (simp only [len_new, len_put, len_kill]; omega)) only [↓ypre, ypost, ↓reduceIte, Nat.reduceEqDiff, Nat.reduceAdd, Nat.reduceSub, Nat.reduceLeDiff, Nat.zero_add, Nat.sub_zero, ynew, f0, f3, f4, he1.len, decide_eq_false hlt]); try simp only [yback])
    exact hQ _ _ pp (.inr ⟨h.length, e, true, ⟨Nat.le_refl _, lt⟩, rfl, hb, hw⟩)
theorem l_szOutputS {v : Value} {L : List (List Int)} {n : Int} {h : AH} {Q : Value → AH → Prop} (hv : Els .i64 2 h v L) (h0 : 0 ≤ n ∧ n ≤ 1048576) (hl : (L.length : Int) ≤ 9223372036854775807)
    (hQ : ∀ m : Int, m ≤ n → (0 ≤ m → SmallE L) → Q (I64 m) h) : WF S 74 [v, I64 n] h Q := by
  refine WF_fn (fn := c74) rfl rfl ?_
  unfold c74
  ((try simp (maxSteps := 3000000) (dsimp := false) (disch := first | omega | (simp only [len_new, len_put, len_kill]; omega)) only [↓ypre, ypost, ↓reduceIte, Nat.reduceEqDiff, Nat.reduceAdd, Nat.reduceSub, Nat.reduceLeDiff, Nat.zero_add, Nat.sub_zero, ynew, hv.len, wrap64_in]); try simp only [yback])
  by_cases h1 : n - ↑L.length < 0
  · ((try simp (maxSteps := 3000000) (dsimp := false) (disch := first | omega | (simp only [len_new, len_put, len_kill]; omega)) only [↓ypre, ypost, ↓reduceIte, Nat.reduceEqDiff, Nat.reduceAdd, Nat.reduceSub, Nat.reduceLeDiff, Nat.zero_add, Nat.sub_zero, ynew, decide_eq_true h1]); try simp only [yback])
    exact hQ _ (by omega) (by omega)
  · ((try simp (maxSteps := 3000000) (dsimp := false) (disch := first | omega | (simp only [len_new, len_put, len_kill]; omega)) only [↓ypre, ypost, ↓reduceIte, Nat.reduceEqDiff, Nat.reduceAdd, Nat.reduceSub, Nat.reduceLeDiff, Nat.zero_add, Nat.sub_zero, ynew, decide_eq_false h1]); try simp only [yback])
    exact hQ _ (by omega) (fun _ => by unfold SmallE; omega)
theorem l_eqOutput {q : List Int} {h : AH} {Q : Value → AH → Prop} (hq : q.length = 2) (hQ : ∀ h', h <+: h' → Q (.bool true) h') : WF S 125 [aggV .i64 q, aggV .i64 q] h Q := by
  obtain ⟨a, b, rfl⟩ := all2 hq
  refine WF_fn (fn := c125) rfl rfl ?_
  unfold c125
  ((try simp (maxSteps := 3000000) (dsimp := false) (disch := first | omega | (simp only [len_new, len_put, len_kill]; omega)) only [↓ypre, ypost, ↓reduceIte, Nat.reduceEqDiff, Nat.reduceAdd, Nat.reduceSub, Nat.reduceLeDiff, Nat.zero_add, Nat.sub_zero, ynew, aggV, cel_2, ne_eq, not_true_eq_false]); try simp only [yback])
  exact hQ _ (pre_new (pre_new (List.prefix_refl _)))
theorem l_eqOutputS {v v' : Value} {L : List (List Int)} {h : AH} {Q : Value → AH → Prop} (hv : Els .i64 2 h v L) (hv' : Els .i64 2 h v' L) (hl : SmallE L)
    (hQ : ∀ h', h <+: h' → Q (.bool true) h') : WF S 80 [v, v'] h Q := by
  refine WF_fn (fn := c80) rfl rfl ?_
  unfold c80
  unfold SmallE at hl
  ((try simp (maxSteps := 3000000) (dsimp := false) (disch := first | omega | (simp only [len_new, len_put, len_kill]; omega)) only [↓ypre, ypost, ↓reduceIte, Nat.reduceEqDiff, Nat.reduceAdd, Nat.reduceSub, Nat.reduceLeDiff, Nat.zero_add, Nat.sub_zero, ynew, hv.len, hv'.len, ne_eq, not_true_eq_false]); try simp only [yback])
  refine WC_loop_inv (fun m f K1 => ∃ (i : Nat), m = L.length - i ∧ i ≤ L.length ∧ f 0 = v ∧ f 1 = v' ∧ f 5 = I64 i ∧ (h <+: K1)) ?_ (L.length - 0) _ _ ⟨0, rfl, by omega, (by first | rfl | (simp [upd_apply]; done)), (by first | rfl | (simp [upd_apply]; done)), (by first | rfl | (simp [upd_apply]; done)), List.prefix_refl _⟩
  rintro m f K1 ⟨i, rfl, hi, f0, f1, f5, pp⟩
  have e1 := hv.pre pp
  have e2 := hv'.pre pp
  by_cases hlt : (i : Int) < L.length
  · have hi' : i < L.length := by omega
    obtain ⟨n, off, hix, hrn⟩ := e1.rdw hi'
    obtain ⟨n', off', hix', hrn'⟩ := e2.rdw hi'
    ((try simp (maxSteps := 3000000) (dsimp := false) (disch := first | omega | (simp only [len_new, len_put, len_kill]; omega)) only [↓ypre, ypost, ↓reduceIte, Nat.reduceEqDiff, Nat.reduceAdd, Nat.reduceSub, Nat.reduceLeDiff, Nat.zero_add, Nat.sub_zero, ynew, f0, f1, f5, e1.len, decide_eq_true hlt, hix, hrn, hix', hrn']); try simp only [yback])
    refine l_eqOutput (e1.wid hi') fun h2 p2 => ?_
    ((try simp (maxSteps := 3000000) (dsimp := false) (disch := first | omega | (simp only [len_new, len_put, len_kill]; omega)) only [↓ypre, ypost, ↓reduceIte, Nat.reduceEqDiff, Nat.reduceAdd, Nat.reduceSub, Nat.reduceLeDiff, Nat.zero_add, Nat.sub_zero, ynew, f0, f1, f5, wrap64_in]); try simp only [yback])
    refine InvQ_go (L.length - (i + 1)) (by omega) ⟨(i + 1), rfl, by omega, (by first | rfl | exact f0 | (simp only [upd_apply]; rfl) | (show I64 _ = _; congr 1; omega)), (by first | rfl | exact f1 | (simp only [upd_apply]; rfl) | (show I64 _ = _; congr 1; omega)), (by first | rfl | exact f5 | (simp only [upd_apply]; rfl) | (show I64 _ = _; congr 1; omega)), (pp.trans p2)⟩
  · ((try simp (maxSteps := 3000000) (dsimp := false) (disch := first | omega | (simp only [len_new, len_put, len_kill]; omega)) only [↓ypre, ypost, ↓reduceIte, Nat.reduceEqDiff, Nat.reduceAdd, Nat.reduceSub, Nat.reduceLeDiff, Nat.zero_add, Nat.sub_zero, ynew, f0, f1, f5, e1.len, decide_eq_false hlt]); try simp only [yback])
    exact hQ _ pp

/-- A program. -/
structure Prg where
  p : Int
  n : Int
  st : List (List Int)
  out : List (List Int)
def prgV (x : Prg) (v w : Value) : Value := .agg #[I64 x.p, I64 x.n, v, w]
def PrgR (h : AH) (v w : Value) (x : Prg) : Prop := Els .i64 3 h v x.st ∧ Els .i64 2 h w x.out
def SmallP (x : Prg) : Prop := SmallE x.st ∧ SmallE x.out
def cntP (x : Prg) : Int := (x.st.length : Int) * 3 + (x.out.length : Int) * 2
theorem cntP_le {x : Prg} (h : SmallP x) : 0 ≤ cntP x ∧ cntP x ≤ 5242880 := by
  obtain ⟨h1, h2⟩ := h
  unfold SmallE at h1 h2
  unfold cntP
  omega
def InP (a b : Nat) (h : AH) (v w : Value) (x : Prg) : Prop := ∃ c, a ≤ c ∧ c ≤ b ∧ InE .i64 3 a c h v x.st ∧ InE .i64 2 c b h w x.out
section
variable {a b c d : Nat} {h h' : AH} {v w : Value} {x : Prg}
theorem PrgR.pre (o : PrgR h v w x) (p : h <+: h') : PrgR h' v w x := ⟨o.1.pre p, o.2.pre p⟩
theorem InP.rd (o : InP a b h v w x) : PrgR h v w x := by
  obtain ⟨c, h1, h2, h3, h4⟩ := o
  exact ⟨h3.rd, h4.rd⟩
theorem InP.pre (o : InP a b h v w x) (p : h <+: h') : InP a b h' v w x := by
  obtain ⟨c, h1, h2, h3, h4⟩ := o
  exact ⟨c, h1, h2, h3.pre p, h4.pre p⟩
theorem InP.only (o : InP a b h v w x) (u : OnlyR c d h h') (hd : b ≤ c ∨ d ≤ a) : InP a b h' v w x := by
  obtain ⟨e, h1, h2, h3, h4⟩ := o
  exact ⟨e, h1, h2, h3.only u (by omega), h4.only u (by omega)⟩
theorem InP.putb {n : Nat} {bl : Blk} (o : InP a b h v w x) (hn : n < a) : InP a b (h.put n bl) v w x := by
  obtain ⟨e, h1, h2, h3, h4⟩ := o
  exact ⟨e, h1, h2, h3.putb (by omega), h4.putb (by omega)⟩
theorem InP.mono {a' b' : Nat} (o : InP a b h v w x) (ha : a' ≤ a) (hb : b ≤ b') : InP a' b' h v w x := by
  obtain ⟨e, h1, h2, h3, h4⟩ := o
  exact ⟨e, by omega, by omega, h3.mono ha (Nat.le_refl _), h4.mono (Nat.le_refl _) hb⟩
end
theorem gsz_P {v w : Value} {x : Prg} {n : Int} {h : AH} {Q : Value → AH → Prop} (hv : PrgR h v w x) (h0 : 0 ≤ n ∧ n ≤ 1048576) (hl : (x.st.length : Int) ≤ 9223372036854775807) (hm : (x.out.length : Int) ≤ 9223372036854775807)
    (hQ : ∀ (m : Int) h', h <+: h' → m ≤ n → (0 ≤ m → SmallP x) → Q (I64 m) h') : WF S 26 [prgV x v w, I64 n] h Q := by
  refine WF_fn (fn := c26) rfl rfl ?_
  unfold c26
  ((try simp (maxSteps := 3000000) (dsimp := false) (disch := first | omega | (simp only [len_new, len_put, len_kill]; omega)) only [↓ypre, ypost, ↓reduceIte, Nat.reduceEqDiff, Nat.reduceAdd, Nat.reduceSub, Nat.reduceLeDiff, Nat.zero_add, Nat.sub_zero, ynew, prgV, hv.1.one, hv.2.one]); try simp only [yback])
  generalize hH : AH.new h _ = H
  obtain ⟨hb, p0, n0⟩ := new_facts hH
  refine l_szStepS (hv.1.pre p0) h0 hl fun m h1 h2 => ?_
  by_cases c1 : m < 0
  · ((try simp (maxSteps := 3000000) (dsimp := false) (disch := first | omega | (simp only [len_new, len_put, len_kill]; omega)) only [↓ypre, ypost, ↓reduceIte, Nat.reduceEqDiff, Nat.reduceAdd, Nat.reduceSub, Nat.reduceLeDiff, Nat.zero_add, Nat.sub_zero, ynew, decide_eq_true c1]); try simp only [yback])
    exact hQ _ _ p0 (by omega) (by omega)
  ((try simp (maxSteps := 3000000) (dsimp := false) (disch := first | omega | (simp only [len_new, len_put, len_kill]; omega)) only [↓ypre, ypost, ↓reduceIte, Nat.reduceEqDiff, Nat.reduceAdd, Nat.reduceSub, Nat.reduceLeDiff, Nat.zero_add, Nat.sub_zero, ynew, decide_eq_false c1, rd1_of hb]); try simp only [yback])
  refine l_szOutputS (hv.2.pre p0) (by omega) hm fun m' h1' h2' => ?_
  by_cases c2 : m' < 0
  · ((try simp (maxSteps := 3000000) (dsimp := false) (disch := first | omega | (simp only [len_new, len_put, len_kill]; omega)) only [↓ypre, ypost, ↓reduceIte, Nat.reduceEqDiff, Nat.reduceAdd, Nat.reduceSub, Nat.reduceLeDiff, Nat.zero_add, Nat.sub_zero, ynew, decide_eq_true c2]); try simp only [yback])
    exact hQ _ _ p0 (by omega) (by omega)
  ((try simp (maxSteps := 3000000) (dsimp := false) (disch := first | omega | (simp only [len_new, len_put, len_kill]; omega)) only [↓ypre, ypost, ↓reduceIte, Nat.reduceEqDiff, Nat.reduceAdd, Nat.reduceSub, Nat.reduceLeDiff, Nat.zero_add, Nat.sub_zero, ynew, decide_eq_false c2]); try simp only [yback])
  exact hQ _ _ p0 (by omega) (fun _ => ⟨h2 (by omega), h2' (by omega)⟩)
theorem gto_P {v w : Value} {x : Prg} {h : AH} {Q : Value → AH → Prop} (hv : PrgR h v w x) (hl : SmallP x)
    (hQ : ∀ v' w' h', h <+: h' → InP h.length h'.length h' v' w' x → Q (prgV x v' w') h') : WF S 28 [prgV x v w] h Q := by
  refine WF_fn (fn := c28) rfl rfl ?_
  unfold c28
  ((try simp (maxSteps := 3000000) (dsimp := false) (disch := first | omega | (simp only [len_new, len_put, len_kill]; omega)) only [↓ypre, ypost, ↓reduceIte, Nat.reduceEqDiff, Nat.reduceAdd, Nat.reduceSub, Nat.reduceLeDiff, Nat.zero_add, Nat.sub_zero, ynew, prgV, hv.1.one, hv.2.one]); try simp only [yback])
  generalize hH1 : AH.new h _ = H1
  obtain ⟨hb1, p1, n1⟩ := new_facts hH1
  generalize hH2 : AH.new H1 _ = H2
  obtain ⟨hb2, p2, n2⟩ := new_facts hH2
  have hb1 := pre_get p2 hb1
  generalize hH3 : AH.new H2 _ = H3
  obtain ⟨hb3, p3, n3⟩ := new_facts hH3
  have hb1 := pre_get p3 hb1
  have hb2 := pre_get p3 hb2
  have p13 := (p1.trans p2).trans p3
  refine l_toStepS (hv.1.pre p13) hl.1 fun v' H4 p4 o4 => ?_
  have hb1 := pre_get p4 hb1
  have hb2 := pre_get p4 hb2
  have hb3 := pre_get p4 hb3
  have lt3 := get_lt hb3
  have l4 := pre_len p4
  ((try simp (maxSteps := 3000000) (dsimp := false) (disch := first | omega | (simp only [len_new, len_put, len_kill]; omega)) only [↓ypre, ypost, ↓reduceIte, Nat.reduceEqDiff, Nat.reduceAdd, Nat.reduceSub, Nat.reduceLeDiff, Nat.zero_add, Nat.sub_zero, ynew, o4.rd.one, o4.rd.cells, wr_of hb3, rd1_of hb1]); try simp only [yback])
  generalize hH5 : AH.put H4 _ _ = H5
  have hb5 := get_put_same (b := ⟨[I64 x.p, I64 x.n, v', .slice none 0 0], 48, false, true⟩) lt3
  rw [hH5] at hb5
  have hb1 := (get_put_ne (b := ⟨[I64 x.p, I64 x.n, v', .slice none 0 0], 48, false, true⟩) (show H2.length ≠ h.length by omega)).trans hb1
  have hb2 := (get_put_ne (b := ⟨[I64 x.p, I64 x.n, v', .slice none 0 0], 48, false, true⟩) (show H2.length ≠ H1.length by omega)).trans hb2
  rw [hH5] at hb1 hb2
  have l5 : H5.length = H4.length := by rw [← hH5, len_put]
  have p5 : h <+: H5 := by rw [← hH5]; exact pre_put (p13.trans p4) (by omega)
  have o5 : InE .i64 3 H3.length H4.length H5 v' x.st := by rw [← hH5]; exact o4.putb (by omega)
  refine l_toOutputS (hv.2.pre p5) hl.2 fun w' H6 p6 o6 => ?_
  have hb2 := pre_get p6 hb2
  have hb5 := pre_get p6 hb5
  have lt5 := get_lt hb5
  have lt2 := get_lt hb2
  have l6 := pre_len p6
  ((try simp (maxSteps := 3000000) (dsimp := false) (disch := first | omega | (simp only [len_new, len_put, len_kill]; omega)) only [↓ypre, ypost, ↓reduceIte, Nat.reduceEqDiff, Nat.reduceAdd, Nat.reduceSub, Nat.reduceLeDiff, Nat.zero_add, Nat.sub_zero, ynew, o6.rd.one, o6.rd.cells, wr_of hb5, rdn_put_same, o5.rd.one, wr_of hb2]); try simp only [yback])
  refine hQ v' w' _ (pre_put (pre_put (p5.trans p6) (by omega)) (by omega)) ⟨H5.length, by omega, by simp only [len_put]; omega, ?_, ?_⟩
  · refine (((o5.pre p6).putb ?_).putb ?_).mono ?_ ?_ <;> omega
  · refine ((o6.putb ?_).putb ?_).mono ?_ ?_ <;> first | omega | (simp only [len_put]; omega)
theorem geq_P {v w v' w' : Value} {x : Prg} {h : AH} {Q : Value → AH → Prop} (hv : PrgR h v w x) (hv' : PrgR h v' w' x) (hl : SmallP x)
    (hQ : ∀ h', h <+: h' → Q (.bool true) h') : WF S 31 [prgV x v w, prgV x v' w'] h Q := by
  refine WF_fn (fn := c31) rfl rfl ?_
  unfold c31
  ((try simp (maxSteps := 3000000) (dsimp := false) (disch := first | omega | (simp only [len_new, len_put, len_kill]; omega)) only [↓ypre, ypost, ↓reduceIte, Nat.reduceEqDiff, Nat.reduceAdd, Nat.reduceSub, Nat.reduceLeDiff, Nat.zero_add, Nat.sub_zero, ynew, prgV, hv.1.one, hv.2.one, hv'.1.one, hv'.2.one, ne_eq, not_true_eq_false]); try simp only [yback])
  generalize hH1 : AH.new h _ = H1
  obtain ⟨hb1, p1, n1⟩ := new_facts hH1
  generalize hH2 : AH.new H1 _ = H2
  obtain ⟨hb2, p2, n2⟩ := new_facts hH2
  have hb1 := pre_get p2 hb1
  have p12 := p1.trans p2
  refine l_eqStepS (hv.1.pre p12) (hv'.1.pre p12) hl.1 fun H3 p3 => ?_
  have hb1 := pre_get p3 hb1
  have hb2 := pre_get p3 hb2
  ((try simp (maxSteps := 3000000) (dsimp := false) (disch := first | omega | (simp only [len_new, len_put, len_kill]; omega)) only [↓ypre, ypost, ↓reduceIte, Nat.reduceEqDiff, Nat.reduceAdd, Nat.reduceSub, Nat.reduceLeDiff, Nat.zero_add, Nat.sub_zero, ynew, rd1_of hb1, rd1_of hb2]); try simp only [yback])
  refine l_eqOutputS (hv.2.pre (p12.trans p3)) (hv'.2.pre (p12.trans p3)) hl.2 fun H4 p4 => ?_
  ((try simp (maxSteps := 3000000) (dsimp := false) (disch := first | omega | (simp only [len_new, len_put, len_kill]; omega)) only [↓ypre, ypost, ↓reduceIte, Nat.reduceEqDiff, Nat.reduceAdd, Nat.reduceSub, Nat.reduceLeDiff, Nat.zero_add, Nat.sub_zero, ynew]); try simp only [yback])
  exact hQ _ (p12.trans (p3.trans p4))
end Go.Proofs.Ytilpnbejpndgpaa.X

/- What programs are, both sides (printed by wip/tools/mkP2.py). -/
set_option linter.unusedVariables false
set_option linter.unusedSimpArgs false
set_option maxRecDepth 20000
set_option maxHeartbeats 4000000
namespace Go.Proofs.Ytilpnbejpndgpaa.X
open Go Go.RowKit

def allN : Nat → (Nat → Bool) → Bool
  | 0, _ => true
  | n + 1, f => allN n f && f n
theorem allN_true {f : Nat → Bool} : ∀ {n : Nat}, (∀ j, j < n → f j = true) → allN n f = true
  | 0, _ => rfl
  | n + 1, h => by rw [allN, allN_true (n := n) (fun j hj => h j (by omega)), h n (by omega)]; rfl
theorem allN_false {f : Nat → Bool} {j : Nat} : ∀ {n : Nat}, j < n → f j = false → allN n f = false
  | 0, h, _ => by omega
  | n + 1, h, e => by
    rw [allN]
    by_cases hj : j = n
    · subst hj
      rw [e, Bool.and_false]
    · rw [allN_false (n := n) (by omega) e, Bool.false_and]
theorem allN_at {f : Nat → Bool} {j : Nat} : ∀ {n : Nat}, allN n f = true → j < n → f j = true
  | 0, _, h => by omega
  | n + 1, e, h => by
    rw [allN, Bool.and_eq_true] at e
    by_cases hj : j = n
    · subst hj
      exact e.2
    · exact allN_at (n := n) e.1 (by omega)
def okStep (p n : Int) (q : List Int) : Bool := decide (0 ≤ q.getD 0 0 ∧ q.getD 0 0 < n ∧ 0 ≤ q.getD 1 0 ∧ q.getD 1 0 < n ∧ q.getD 0 0 ≠ q.getD 1 0 ∧ 1 ≤ q.getD 2 0 ∧ q.getD 2 0 < p)
def okOut (p n : Int) (q : List Int) : Bool := decide (0 ≤ q.getD 0 0 ∧ q.getD 0 0 < n ∧ 0 ≤ q.getD 1 0 ∧ q.getD 1 0 < p ∧ ¬ (q.getD 1 0 = 0 ∧ q.getD 0 0 ≠ 0))
theorem okStep_3 {p n a b c : Int} : okStep p n [a, b, c] = decide (0 ≤ a ∧ a < n ∧ 0 ≤ b ∧ b < n ∧ a ≠ b ∧ 1 ≤ c ∧ c < p) := rfl
theorem okOut_2 {p n a b : Int} : okOut p n [a, b] = decide (0 ≤ a ∧ a < n ∧ 0 ≤ b ∧ b < p ∧ ¬ (b = 0 ∧ a ≠ 0)) := rfl
def headP (x : Prg) : Bool := isP x.p && decide (1 ≤ x.n ∧ x.n ≤ 30 ∧ x.st.length ≤ 900 ∧ 1 ≤ x.out.length ∧ x.out.length ≤ 30)
def isPrg (x : Prg) : Bool := headP x && allN x.st.length (fun i => okStep x.p (x.n + i) (x.st.getD i [])) && allN x.out.length (fun i => okOut x.p (x.n + x.st.length) (x.out.getD i []))
theorem isPrg_head {x : Prg} (h : headP x = false) : isPrg x = false := by unfold isPrg; rw [h]; rfl
theorem isPrg_st {x : Prg} {i : Nat} (hi : i < x.st.length) (h : okStep x.p (x.n + i) (x.st.getD i []) = false) : isPrg x = false := by
  unfold isPrg
  rw [allN_false (f := fun i : Nat => okStep x.p (x.n + i) (x.st.getD i [])) hi h, Bool.and_false, Bool.false_and]
theorem isPrg_out {x : Prg} {i : Nat} (hi : i < x.out.length) (h : okOut x.p (x.n + x.st.length) (x.out.getD i []) = false) : isPrg x = false := by
  unfold isPrg
  rw [allN_false (f := fun i : Nat => okOut x.p (x.n + x.st.length) (x.out.getD i [])) hi h, Bool.and_false]
theorem isPrg_all {x : Prg} (h : headP x = true) (h1 : ∀ i, i < x.st.length → okStep x.p (x.n + i) (x.st.getD i []) = true) (h2 : ∀ i, i < x.out.length → okOut x.p (x.n + x.st.length) (x.out.getD i []) = true) : isPrg x = true := by
  unfold isPrg
  rw [h, allN_true h1, allN_true h2]
  rfl
theorem s_IsPrg {v w : Value} {x : Prg} {h : AH} {Q : Value → AH → Prop} (hv : PrgR h v w x) (hl : SmallP x) (hQ : ∀ h', h <+: h' → Q (.bool (isPrg x)) h') : WF S 75 [prgV x v w] h Q := by
  refine WF_fn (fn := c75) rfl rfl ?_
  unfold c75
  obtain ⟨hl1, hl2⟩ := hl
  unfold SmallE at hl1 hl2
  ((try simp (maxSteps := 3000000) (dsimp := false) (disch := first | omega | (simp only [len_new, len_put, len_kill]; omega)) only [↓ypre, ypost, ↓reduceIte, Nat.reduceEqDiff, Nat.reduceAdd, Nat.reduceSub, Nat.reduceLeDiff, Nat.zero_add, Nat.sub_zero, ynew, prgV, hv.1.one, hv.2.one]); try simp only [yback])
  generalize hH1 : AH.new h _ = H1
  obtain ⟨hb1, p1, n1⟩ := new_facts hH1
  have hv1 := hv.pre p1
  refine s_l01Prime ?_
  have noH : headP x = false → ∀ h', h <+: h' → Q (.bool false) h' := fun e h' p => by
    have := hQ h' p
    rw [isPrg_head e] at this
    exact this
  cases c0 : isP x.p with
  | false =>
    ((try simp (maxSteps := 3000000) (dsimp := false) (disch := first | omega | (simp only [len_new, len_put, len_kill]; omega)) only [↓ypre, ypost, ↓reduceIte, Nat.reduceEqDiff, Nat.reduceAdd, Nat.reduceSub, Nat.reduceLeDiff, Nat.zero_add, Nat.sub_zero, ynew]); try simp only [yback])
    exact noH (by unfold headP; rw [c0]; rfl) _ p1
  | true =>
    have zp := isP_in c0
    ((try simp (maxSteps := 3000000) (dsimp := false) (disch := first | omega | (simp only [len_new, len_put, len_kill]; omega)) only [↓ypre, ypost, ↓reduceIte, Nat.reduceEqDiff, Nat.reduceAdd, Nat.reduceSub, Nat.reduceLeDiff, Nat.zero_add, Nat.sub_zero, ynew, rd1_of hb1]); try simp only [yback])
    refine s_l01In ?_
    by_cases bn : 1 ≤ x.n ∧ x.n ≤ 30
    case neg =>
      ((try simp (maxSteps := 3000000) (dsimp := false) (disch := first | omega | (simp only [len_new, len_put, len_kill]; omega)) only [↓ypre, ypost, ↓reduceIte, Nat.reduceEqDiff, Nat.reduceAdd, Nat.reduceSub, Nat.reduceLeDiff, Nat.zero_add, Nat.sub_zero, ynew, decide_eq_false bn]); try simp only [yback])
      exact noH (by unfold headP; rw [c0]; exact decide_eq_false (by omega)) _ p1
    by_cases b3 : (900 : Int) < x.st.length
    · ((try simp (maxSteps := 3000000) (dsimp := false) (disch := first | omega | (simp only [len_new, len_put, len_kill]; omega)) only [↓ypre, ypost, ↓reduceIte, Nat.reduceEqDiff, Nat.reduceAdd, Nat.reduceSub, Nat.reduceLeDiff, Nat.zero_add, Nat.sub_zero, ynew, decide_eq_true b3, decide_eq_true bn, rd1_of hb1, hv1.1.len, hv1.2.len]); try simp only [yback])
      exact noH (by unfold headP; rw [c0]; exact decide_eq_false (by omega)) _ p1
    by_cases b4 : (x.out.length : Int) < 1
    · ((try simp (maxSteps := 3000000) (dsimp := false) (disch := first | omega | (simp only [len_new, len_put, len_kill]; omega)) only [↓ypre, ypost, ↓reduceIte, Nat.reduceEqDiff, Nat.reduceAdd, Nat.reduceSub, Nat.reduceLeDiff, Nat.zero_add, Nat.sub_zero, ynew, decide_eq_false b3, decide_eq_true b4, decide_eq_true bn, rd1_of hb1, hv1.1.len, hv1.2.len]); try simp only [yback])
      exact noH (by unfold headP; rw [c0]; exact decide_eq_false (by omega)) _ p1
    by_cases b5 : (30 : Int) < x.out.length
    · ((try simp (maxSteps := 3000000) (dsimp := false) (disch := first | omega | (simp only [len_new, len_put, len_kill]; omega)) only [↓ypre, ypost, ↓reduceIte, Nat.reduceEqDiff, Nat.reduceAdd, Nat.reduceSub, Nat.reduceLeDiff, Nat.zero_add, Nat.sub_zero, ynew, decide_eq_false b3, decide_eq_false b4, decide_eq_true b5, decide_eq_true bn, rd1_of hb1, hv1.1.len, hv1.2.len]); try simp only [yback])
      exact noH (by unfold headP; rw [c0]; exact decide_eq_false (by omega)) _ p1
    ((try simp (maxSteps := 3000000) (dsimp := false) (disch := first | omega | (simp only [len_new, len_put, len_kill]; omega)) only [↓ypre, ypost, ↓reduceIte, Nat.reduceEqDiff, Nat.reduceAdd, Nat.reduceSub, Nat.reduceLeDiff, Nat.zero_add, Nat.sub_zero, ynew, decide_eq_false b3, decide_eq_false b4, decide_eq_false b5, decide_eq_true bn, rd1_of hb1, hv1.1.len, hv1.2.len]); try simp only [yback])
    skip
    have hH : headP x = true := by unfold headP; rw [c0]; exact decide_eq_true (by omega)
    refine WC_loop_inv (fun m f K1 => ∃ (i : Nat), m = x.st.length - i ∧ i ≤ x.st.length ∧ f 1 = .pointer (some ⟨h.length, 0, none⟩) ∧ f 3 = I64 i ∧ (H1 <+: K1) ∧ (∀ j, j < i → okStep x.p (x.n + (j : Nat)) (x.st.getD j []) = true)) ?_ (x.st.length - 0) _ _ ⟨0, rfl, by omega, (by first | rfl | (simp [upd_apply]; done)), (by first | rfl | (simp [upd_apply]; done)), List.prefix_refl _, (by omega)⟩
    rintro m f K1 ⟨i, rfl, hi, f1, f3, pp, hj⟩
    have hbK := pre_get pp hb1
    have ltK := get_lt hbK
    have hvK := hv1.pre pp
    by_cases hlt : (i : Int) < x.st.length
    · have hi' : i < x.st.length := by omega
      obtain ⟨n, off, hix, hrn⟩ := hvK.1.rdw hi'
      obtain ⟨a, b, d, hq⟩ := all3 (hvK.1.wid hi')
      rw [hq, cel_3] at hrn
      have noS : okStep x.p (x.n + (i : Int)) [a, b, d] = false → ∀ h', h <+: h' → Q (.bool false) h' := fun e h' p => by
        have := hQ h' p
        rw [isPrg_st hi' (by rw [hq]; exact e)] at this
        exact this
      have yes : okStep x.p (x.n + (i : Int)) [a, b, d] = true → ∀ j, j < i + 1 → okStep x.p (x.n + (j : Nat)) (x.st.getD j []) = true := fun e j hj' => by
        by_cases he : j = i
        · subst he
          rw [hq]
          exact e
        · exact hj j (by omega)
      rw [okStep_3] at noS yes
      ((try simp (maxSteps := 3000000) (dsimp := false) (disch := first | omega | (simp only [len_new, len_put, len_kill]; omega)) only [↓ypre, ypost, ↓reduceIte, Nat.reduceEqDiff, Nat.reduceAdd, Nat.reduceSub, Nat.reduceLeDiff, Nat.zero_add, Nat.sub_zero, ynew, f1, f3, decide_eq_true hlt, rd1_of hbK, hvK.1.len, hix, hrn, wrap64_in]); try simp only [yback])
      refine s_l01In ?_
      by_cases d1 : 0 ≤ a ∧ a ≤ x.n + i - 1
      case neg =>
        ((try simp (maxSteps := 3000000) (dsimp := false) (disch := first | omega | (simp only [len_new, len_put, len_kill]; omega)) only [↓ypre, ypost, ↓reduceIte, Nat.reduceEqDiff, Nat.reduceAdd, Nat.reduceSub, Nat.reduceLeDiff, Nat.zero_add, Nat.sub_zero, ynew, f1, f3, decide_eq_false d1]); try simp only [yback])
        exact noS (decide_eq_false (by omega)) _ (p1.trans (pp.trans (pre_new (List.prefix_refl _))))
      ((try simp (maxSteps := 3000000) (dsimp := false) (disch := first | omega | (simp only [len_new, len_put, len_kill]; omega)) only [↓ypre, ypost, ↓reduceIte, Nat.reduceEqDiff, Nat.reduceAdd, Nat.reduceSub, Nat.reduceLeDiff, Nat.zero_add, Nat.sub_zero, ynew, f1, f3, decide_eq_true d1]); try simp only [yback])
      refine s_l01In ?_
      by_cases d2 : 0 ≤ b ∧ b ≤ x.n + i - 1
      case neg =>
        ((try simp (maxSteps := 3000000) (dsimp := false) (disch := first | omega | (simp only [len_new, len_put, len_kill]; omega)) only [↓ypre, ypost, ↓reduceIte, Nat.reduceEqDiff, Nat.reduceAdd, Nat.reduceSub, Nat.reduceLeDiff, Nat.zero_add, Nat.sub_zero, ynew, f1, f3, decide_eq_false d2]); try simp only [yback])
        exact noS (decide_eq_false (by omega)) _ (p1.trans (pp.trans (pre_new (List.prefix_refl _))))
      by_cases d3 : a = b
      · ((try simp (maxSteps := 3000000) (dsimp := false) (disch := first | omega | (simp only [len_new, len_put, len_kill]; omega)) only [↓ypre, ypost, ↓reduceIte, Nat.reduceEqDiff, Nat.reduceAdd, Nat.reduceSub, Nat.reduceLeDiff, Nat.zero_add, Nat.sub_zero, ynew, f1, f3, decide_eq_true d2, decide_eq_true d3]); try simp only [yback])
        exact noS (decide_eq_false (by omega)) _ (p1.trans (pp.trans (pre_new (List.prefix_refl _))))
      ((try simp (maxSteps := 3000000) (dsimp := false) (disch := first | omega | (simp only [len_new, len_put, len_kill]; omega)) only [↓ypre, ypost, ↓reduceIte, Nat.reduceEqDiff, Nat.reduceAdd, Nat.reduceSub, Nat.reduceLeDiff, Nat.zero_add, Nat.sub_zero, ynew, f1, f3, decide_eq_true d2, decide_eq_false d3, rd1_of hbK, wrap64_in]); try simp only [yback])
      refine s_l01In ?_
      by_cases d4 : 1 ≤ d ∧ d ≤ x.p - 1
      case neg =>
        ((try simp (maxSteps := 3000000) (dsimp := false) (disch := first | omega | (simp only [len_new, len_put, len_kill]; omega)) only [↓ypre, ypost, ↓reduceIte, Nat.reduceEqDiff, Nat.reduceAdd, Nat.reduceSub, Nat.reduceLeDiff, Nat.zero_add, Nat.sub_zero, ynew, f1, f3, decide_eq_false d4]); try simp only [yback])
        exact noS (decide_eq_false (by omega)) _ (p1.trans (pp.trans (pre_new (List.prefix_refl _))))
      ((try simp (maxSteps := 3000000) (dsimp := false) (disch := first | omega | (simp only [len_new, len_put, len_kill]; omega)) only [↓ypre, ypost, ↓reduceIte, Nat.reduceEqDiff, Nat.reduceAdd, Nat.reduceSub, Nat.reduceLeDiff, Nat.zero_add, Nat.sub_zero, ynew, f1, f3, decide_eq_true d4, wrap64_in]); try simp only [yback])
      refine InvQ_go (x.st.length - (i + 1)) (by omega) ⟨(i + 1), rfl, by omega, (by first | rfl | exact f1 | (simp only [upd_apply]; rfl) | (show I64 _ = _; congr 1; omega)), (by first | rfl | exact f3 | (simp only [upd_apply]; rfl) | (show I64 _ = _; congr 1; omega)), (pp.trans (pre_new (List.prefix_refl _))), (yes (decide_eq_true (by omega)))⟩
    have ei : i = x.st.length := by omega
    subst ei
    ((try simp (maxSteps := 3000000) (dsimp := false) (disch := first | omega | (simp only [len_new, len_put, len_kill]; omega)) only [↓ypre, ypost, ↓reduceIte, Nat.reduceEqDiff, Nat.reduceAdd, Nat.reduceSub, Nat.reduceLeDiff, Nat.zero_add, Nat.sub_zero, ynew, f1, f3, decide_eq_false hlt, rd1_of hbK, hvK.1.len, hvK.2.len, wrap64_in]); try simp only [yback])
    refine WC_loop_inv (fun m f K2 => ∃ (i : Nat), m = x.out.length - i ∧ i ≤ x.out.length ∧ f 1 = .pointer (some ⟨h.length, 0, none⟩) ∧ f 6 = I64 i ∧ (H1 <+: K2) ∧ (∀ j, j < i → okOut x.p (x.n + x.st.length) (x.out.getD j []) = true)) ?_ (x.out.length - 0) _ _ ⟨0, rfl, by omega, (by first | rfl | exact f1 | (simp [upd_apply]; done)), (by first | rfl | (simp [upd_apply]; done)), pp, (by omega)⟩
    rintro m f K2 ⟨i, rfl, hi, f1, f6, pp, hj2⟩
    have hbK := pre_get pp hb1
    have ltK := get_lt hbK
    have hvK := hv1.pre pp
    by_cases hlt : (i : Int) < x.out.length
    · have hi' : i < x.out.length := by omega
      obtain ⟨n, off, hix, hrn⟩ := hvK.2.rdw hi'
      obtain ⟨a, b, hq⟩ := all2 (hvK.2.wid hi')
      rw [hq, cel_2] at hrn
      have noS : okOut x.p (x.n + x.st.length) [a, b] = false → ∀ h', h <+: h' → Q (.bool false) h' := fun e h' p => by
        have := hQ h' p
        rw [isPrg_out hi' (by rw [hq]; exact e)] at this
        exact this
      have yes : okOut x.p (x.n + x.st.length) [a, b] = true → ∀ j, j < i + 1 → okOut x.p (x.n + x.st.length) (x.out.getD j []) = true := fun e j hj' => by
        by_cases he : j = i
        · subst he
          rw [hq]
          exact e
        · exact hj2 j (by omega)
      rw [okOut_2] at noS yes
      ((try simp (maxSteps := 3000000) (dsimp := false) (disch := first | omega | (simp only [len_new, len_put, len_kill]; omega)) only [↓ypre, ypost, ↓reduceIte, Nat.reduceEqDiff, Nat.reduceAdd, Nat.reduceSub, Nat.reduceLeDiff, Nat.zero_add, Nat.sub_zero, ynew, f1, f6, decide_eq_true hlt, rd1_of hbK, hvK.2.len, hvK.1.len, hix, hrn, wrap64_in]); try simp only [yback])
      refine s_l01In ?_
      by_cases d1 : 0 ≤ a ∧ a ≤ x.n + x.st.length - 1
      case neg =>
        ((try simp (maxSteps := 3000000) (dsimp := false) (disch := first | omega | (simp only [len_new, len_put, len_kill]; omega)) only [↓ypre, ypost, ↓reduceIte, Nat.reduceEqDiff, Nat.reduceAdd, Nat.reduceSub, Nat.reduceLeDiff, Nat.zero_add, Nat.sub_zero, ynew, f1, f6, decide_eq_false d1]); try simp only [yback])
        exact noS (decide_eq_false (by omega)) _ (p1.trans (pp.trans (pre_new (List.prefix_refl _))))
      ((try simp (maxSteps := 3000000) (dsimp := false) (disch := first | omega | (simp only [len_new, len_put, len_kill]; omega)) only [↓ypre, ypost, ↓reduceIte, Nat.reduceEqDiff, Nat.reduceAdd, Nat.reduceSub, Nat.reduceLeDiff, Nat.zero_add, Nat.sub_zero, ynew, f1, f6, decide_eq_true d1, rd1_of hbK, wrap64_in]); try simp only [yback])
      refine s_l01In ?_
      by_cases d2 : 0 ≤ b ∧ b ≤ x.p - 1
      case neg =>
        ((try simp (maxSteps := 3000000) (dsimp := false) (disch := first | omega | (simp only [len_new, len_put, len_kill]; omega)) only [↓ypre, ypost, ↓reduceIte, Nat.reduceEqDiff, Nat.reduceAdd, Nat.reduceSub, Nat.reduceLeDiff, Nat.zero_add, Nat.sub_zero, ynew, f1, f6, decide_eq_false d2]); try simp only [yback])
        exact noS (decide_eq_false (by omega)) _ (p1.trans (pp.trans (pre_new (List.prefix_refl _))))
      by_cases d3 : b = 0
      · by_cases d4 : a = 0
        · ((try simp (maxSteps := 3000000) (dsimp := false) (disch := first | omega | (simp only [len_new, len_put, len_kill]; omega)) only [↓ypre, ypost, ↓reduceIte, Nat.reduceEqDiff, Nat.reduceAdd, Nat.reduceSub, Nat.reduceLeDiff, Nat.zero_add, Nat.sub_zero, ynew, f1, f6, decide_eq_true d2, decide_eq_true d3, decide_eq_false (show ¬ a ≠ 0 by omega), wrap64_in]); try simp only [yback])
          refine InvQ_go (x.out.length - (i + 1)) (by omega) ⟨(i + 1), rfl, by omega, (by first | rfl | exact f1 | (simp only [upd_apply]; rfl) | (show I64 _ = _; congr 1; omega)), (by first | rfl | exact f6 | (simp only [upd_apply]; rfl) | (show I64 _ = _; congr 1; omega)), (pp.trans (pre_new (List.prefix_refl _))), (yes (decide_eq_true (by omega)))⟩
        · ((try simp (maxSteps := 3000000) (dsimp := false) (disch := first | omega | (simp only [len_new, len_put, len_kill]; omega)) only [↓ypre, ypost, ↓reduceIte, Nat.reduceEqDiff, Nat.reduceAdd, Nat.reduceSub, Nat.reduceLeDiff, Nat.zero_add, Nat.sub_zero, ynew, f1, f6, decide_eq_true d2, decide_eq_true d3, decide_eq_true d4]); try simp only [yback])
          exact noS (decide_eq_false (by omega)) _ (p1.trans (pp.trans (pre_new (List.prefix_refl _))))
      ((try simp (maxSteps := 3000000) (dsimp := false) (disch := first | omega | (simp only [len_new, len_put, len_kill]; omega)) only [↓ypre, ypost, ↓reduceIte, Nat.reduceEqDiff, Nat.reduceAdd, Nat.reduceSub, Nat.reduceLeDiff, Nat.zero_add, Nat.sub_zero, ynew, f1, f6, decide_eq_true d2, decide_eq_false d3, wrap64_in]); try simp only [yback])
      refine InvQ_go (x.out.length - (i + 1)) (by omega) ⟨(i + 1), rfl, by omega, (by first | rfl | exact f1 | (simp only [upd_apply]; rfl) | (show I64 _ = _; congr 1; omega)), (by first | rfl | exact f6 | (simp only [upd_apply]; rfl) | (show I64 _ = _; congr 1; omega)), (pp.trans (pre_new (List.prefix_refl _))), (yes (decide_eq_true (by omega)))⟩
    have ei : i = x.out.length := by omega
    subst ei
    ((try simp (maxSteps := 3000000) (dsimp := false) (disch := first | omega | (simp only [len_new, len_put, len_kill]; omega)) only [↓ypre, ypost, ↓reduceIte, Nat.reduceEqDiff, Nat.reduceAdd, Nat.reduceSub, Nat.reduceLeDiff, Nat.zero_add, Nat.sub_zero, ynew, f1, f6, decide_eq_false hlt, rd1_of hbK, hvK.2.len]); try simp only [yback])
    have := hQ _ (p1.trans pp)
    rw [isPrg_all hH hj hj2] at this
    exact this
theorem i_IsPrg {v w : Value} {x : Prg} {h : AH} {Q : Value → AH → Prop} (hv : PrgR h v w x) (hl : SmallP x) (hQ : ∀ h', h <+: h' → Q (.bool (isPrg x)) h') : WF S 78 [prgV x v w] h Q := by
  refine WF_fn (fn := c78) rfl rfl ?_
  unfold c78
  obtain ⟨hl1, hl2⟩ := hl
  unfold SmallE at hl1 hl2
  ((try simp (maxSteps := 3000000) (dsimp := false) (disch := first | omega | (simp only [len_new, len_put, len_kill]; omega)) only [↓ypre, ypost, ↓reduceIte, Nat.reduceEqDiff, Nat.reduceAdd, Nat.reduceSub, Nat.reduceLeDiff, Nat.zero_add, Nat.sub_zero, ynew, prgV, hv.1.one, hv.2.one]); try simp only [yback])
  generalize hH1 : AH.new h _ = H1
  obtain ⟨hb1, p1, n1⟩ := new_facts hH1
  have hv1 := hv.pre p1
  refine i_isPrime ?_
  have noH : headP x = false → ∀ h', h <+: h' → Q (.bool false) h' := fun e h' p => by
    have := hQ h' p
    rw [isPrg_head e] at this
    exact this
  cases c0 : isP x.p with
  | false =>
    ((try simp (maxSteps := 3000000) (dsimp := false) (disch := first | omega | (simp only [len_new, len_put, len_kill]; omega)) only [↓ypre, ypost, ↓reduceIte, Nat.reduceEqDiff, Nat.reduceAdd, Nat.reduceSub, Nat.reduceLeDiff, Nat.zero_add, Nat.sub_zero, ynew]); try simp only [yback])
    exact noH (by unfold headP; rw [c0]; rfl) _ p1
  | true =>
    have zp := isP_in c0
    by_cases b1 : x.n < 1
    · ((try simp (maxSteps := 3000000) (dsimp := false) (disch := first | omega | (simp only [len_new, len_put, len_kill]; omega)) only [↓ypre, ypost, ↓reduceIte, Nat.reduceEqDiff, Nat.reduceAdd, Nat.reduceSub, Nat.reduceLeDiff, Nat.zero_add, Nat.sub_zero, ynew, decide_eq_true b1, rd1_of hb1, hv1.1.len, hv1.2.len]); try simp only [yback])
      exact noH (by unfold headP; rw [c0]; exact decide_eq_false (by omega)) _ p1
    by_cases b2 : (30 : Int) < x.n
    · ((try simp (maxSteps := 3000000) (dsimp := false) (disch := first | omega | (simp only [len_new, len_put, len_kill]; omega)) only [↓ypre, ypost, ↓reduceIte, Nat.reduceEqDiff, Nat.reduceAdd, Nat.reduceSub, Nat.reduceLeDiff, Nat.zero_add, Nat.sub_zero, ynew, decide_eq_false b1, decide_eq_true b2, rd1_of hb1, hv1.1.len, hv1.2.len]); try simp only [yback])
      exact noH (by unfold headP; rw [c0]; exact decide_eq_false (by omega)) _ p1
    by_cases b3 : (900 : Int) < x.st.length
    · ((try simp (maxSteps := 3000000) (dsimp := false) (disch := first | omega | (simp only [len_new, len_put, len_kill]; omega)) only [↓ypre, ypost, ↓reduceIte, Nat.reduceEqDiff, Nat.reduceAdd, Nat.reduceSub, Nat.reduceLeDiff, Nat.zero_add, Nat.sub_zero, ynew, decide_eq_false b1, decide_eq_false b2, decide_eq_true b3, rd1_of hb1, hv1.1.len, hv1.2.len]); try simp only [yback])
      exact noH (by unfold headP; rw [c0]; exact decide_eq_false (by omega)) _ p1
    by_cases b4 : (x.out.length : Int) < 1
    · ((try simp (maxSteps := 3000000) (dsimp := false) (disch := first | omega | (simp only [len_new, len_put, len_kill]; omega)) only [↓ypre, ypost, ↓reduceIte, Nat.reduceEqDiff, Nat.reduceAdd, Nat.reduceSub, Nat.reduceLeDiff, Nat.zero_add, Nat.sub_zero, ynew, decide_eq_false b1, decide_eq_false b2, decide_eq_false b3, decide_eq_true b4, rd1_of hb1, hv1.1.len, hv1.2.len]); try simp only [yback])
      exact noH (by unfold headP; rw [c0]; exact decide_eq_false (by omega)) _ p1
    by_cases b5 : (30 : Int) < x.out.length
    · ((try simp (maxSteps := 3000000) (dsimp := false) (disch := first | omega | (simp only [len_new, len_put, len_kill]; omega)) only [↓ypre, ypost, ↓reduceIte, Nat.reduceEqDiff, Nat.reduceAdd, Nat.reduceSub, Nat.reduceLeDiff, Nat.zero_add, Nat.sub_zero, ynew, decide_eq_false b1, decide_eq_false b2, decide_eq_false b3, decide_eq_false b4, decide_eq_true b5, rd1_of hb1, hv1.1.len, hv1.2.len]); try simp only [yback])
      exact noH (by unfold headP; rw [c0]; exact decide_eq_false (by omega)) _ p1
    ((try simp (maxSteps := 3000000) (dsimp := false) (disch := first | omega | (simp only [len_new, len_put, len_kill]; omega)) only [↓ypre, ypost, ↓reduceIte, Nat.reduceEqDiff, Nat.reduceAdd, Nat.reduceSub, Nat.reduceLeDiff, Nat.zero_add, Nat.sub_zero, ynew, decide_eq_false b1, decide_eq_false b2, decide_eq_false b3, decide_eq_false b4, decide_eq_false b5, rd1_of hb1, hv1.1.len, hv1.2.len]); try simp only [yback])
    skip
    have hH : headP x = true := by unfold headP; rw [c0]; exact decide_eq_true (by omega)
    refine WC_loop_inv (fun m f K1 => ∃ (i : Nat), m = x.st.length - i ∧ i ≤ x.st.length ∧ f 1 = .pointer (some ⟨h.length, 0, none⟩) ∧ f 42 = v ∧ f 43 = I64 x.st.length ∧ f 44 = I64 i ∧ (H1 <+: K1) ∧ (∀ j, j < i → okStep x.p (x.n + (j : Nat)) (x.st.getD j []) = true)) ?_ (x.st.length - 0) _ _ ⟨0, rfl, by omega, (by first | rfl | (simp [upd_apply]; done)), (by first | rfl | (simp [upd_apply]; done)), (by first | rfl | (simp [upd_apply]; done)), (by first | rfl | (simp [upd_apply]; done)), List.prefix_refl _, (by omega)⟩
    rintro m f K1 ⟨i, rfl, hi, f1, f42, f43, f44, pp, hj⟩
    have hbK := pre_get pp hb1
    have ltK := get_lt hbK
    have hvK := hv1.pre pp
    by_cases hlt : (i : Int) < x.st.length
    · have hi' : i < x.st.length := by omega
      obtain ⟨n, off, hix, hrn⟩ := hvK.1.rdw hi'
      obtain ⟨a, b, d, hq⟩ := all3 (hvK.1.wid hi')
      rw [hq, cel_3] at hrn
      have noS : okStep x.p (x.n + (i : Int)) [a, b, d] = false → ∀ h', h <+: h' → Q (.bool false) h' := fun e h' p => by
        have := hQ h' p
        rw [isPrg_st hi' (by rw [hq]; exact e)] at this
        exact this
      have yes : okStep x.p (x.n + (i : Int)) [a, b, d] = true → ∀ j, j < i + 1 → okStep x.p (x.n + (j : Nat)) (x.st.getD j []) = true := fun e j hj' => by
        by_cases he : j = i
        · subst he
          rw [hq]
          exact e
        · exact hj j (by omega)
      rw [okStep_3] at noS yes
      by_cases d1 : a < 0
      · ((try simp (maxSteps := 3000000) (dsimp := false) (disch := first | omega | (simp only [len_new, len_put, len_kill]; omega)) only [↓ypre, ypost, ↓reduceIte, Nat.reduceEqDiff, Nat.reduceAdd, Nat.reduceSub, Nat.reduceLeDiff, Nat.zero_add, Nat.sub_zero, ynew, f1, f42, f43, f44, decide_eq_true d1, decide_eq_true hlt, rd1_of hbK, hix, hrn, wrap64_in]); try simp only [yback])
        exact noS (decide_eq_false (by omega)) _ (p1.trans (pp.trans (pre_new (List.prefix_refl _))))
      by_cases d2 : x.n + (i : Int) ≤ a
      · ((try simp (maxSteps := 3000000) (dsimp := false) (disch := first | omega | (simp only [len_new, len_put, len_kill]; omega)) only [↓ypre, ypost, ↓reduceIte, Nat.reduceEqDiff, Nat.reduceAdd, Nat.reduceSub, Nat.reduceLeDiff, Nat.zero_add, Nat.sub_zero, ynew, f1, f42, f43, f44, decide_eq_false d1, decide_eq_true d2, decide_eq_true hlt, rd1_of hbK, hix, hrn, wrap64_in]); try simp only [yback])
        exact noS (decide_eq_false (by omega)) _ (p1.trans (pp.trans (pre_new (List.prefix_refl _))))
      by_cases d3 : b < 0
      · ((try simp (maxSteps := 3000000) (dsimp := false) (disch := first | omega | (simp only [len_new, len_put, len_kill]; omega)) only [↓ypre, ypost, ↓reduceIte, Nat.reduceEqDiff, Nat.reduceAdd, Nat.reduceSub, Nat.reduceLeDiff, Nat.zero_add, Nat.sub_zero, ynew, f1, f42, f43, f44, decide_eq_false d1, decide_eq_false d2, decide_eq_true d3, decide_eq_true hlt, rd1_of hbK, hix, hrn, wrap64_in]); try simp only [yback])
        exact noS (decide_eq_false (by omega)) _ (p1.trans (pp.trans (pre_new (List.prefix_refl _))))
      by_cases d4 : x.n + (i : Int) ≤ b
      · ((try simp (maxSteps := 3000000) (dsimp := false) (disch := first | omega | (simp only [len_new, len_put, len_kill]; omega)) only [↓ypre, ypost, ↓reduceIte, Nat.reduceEqDiff, Nat.reduceAdd, Nat.reduceSub, Nat.reduceLeDiff, Nat.zero_add, Nat.sub_zero, ynew, f1, f42, f43, f44, decide_eq_false d1, decide_eq_false d2, decide_eq_false d3, decide_eq_true d4, decide_eq_true hlt, rd1_of hbK, hix, hrn, wrap64_in]); try simp only [yback])
        exact noS (decide_eq_false (by omega)) _ (p1.trans (pp.trans (pre_new (List.prefix_refl _))))
      by_cases d5 : a = b
      · ((try simp (maxSteps := 3000000) (dsimp := false) (disch := first | omega | (simp only [len_new, len_put, len_kill]; omega)) only [↓ypre, ypost, ↓reduceIte, Nat.reduceEqDiff, Nat.reduceAdd, Nat.reduceSub, Nat.reduceLeDiff, Nat.zero_add, Nat.sub_zero, ynew, f1, f42, f43, f44, decide_eq_false d1, decide_eq_false d2, decide_eq_false d3, decide_eq_false d4, decide_eq_true d5, decide_eq_true hlt, rd1_of hbK, hix, hrn, wrap64_in]); try simp only [yback])
        exact noS (decide_eq_false (by omega)) _ (p1.trans (pp.trans (pre_new (List.prefix_refl _))))
      by_cases d6 : d < 1
      · ((try simp (maxSteps := 3000000) (dsimp := false) (disch := first | omega | (simp only [len_new, len_put, len_kill]; omega)) only [↓ypre, ypost, ↓reduceIte, Nat.reduceEqDiff, Nat.reduceAdd, Nat.reduceSub, Nat.reduceLeDiff, Nat.zero_add, Nat.sub_zero, ynew, f1, f42, f43, f44, decide_eq_false d1, decide_eq_false d2, decide_eq_false d3, decide_eq_false d4, decide_eq_false d5, decide_eq_true d6, decide_eq_true hlt, rd1_of hbK, hix, hrn, wrap64_in]); try simp only [yback])
        exact noS (decide_eq_false (by omega)) _ (p1.trans (pp.trans (pre_new (List.prefix_refl _))))
      by_cases d7 : x.p ≤ d
      · ((try simp (maxSteps := 3000000) (dsimp := false) (disch := first | omega | (simp only [len_new, len_put, len_kill]; omega)) only [↓ypre, ypost, ↓reduceIte, Nat.reduceEqDiff, Nat.reduceAdd, Nat.reduceSub, Nat.reduceLeDiff, Nat.zero_add, Nat.sub_zero, ynew, f1, f42, f43, f44, decide_eq_false d1, decide_eq_false d2, decide_eq_false d3, decide_eq_false d4, decide_eq_false d5, decide_eq_false d6, decide_eq_true d7, decide_eq_true hlt, rd1_of hbK, hix, hrn, wrap64_in]); try simp only [yback])
        exact noS (decide_eq_false (by omega)) _ (p1.trans (pp.trans (pre_new (List.prefix_refl _))))
      ((try simp (maxSteps := 3000000) (dsimp := false) (disch := first | omega | (simp only [len_new, len_put, len_kill]; omega)) only [↓ypre, ypost, ↓reduceIte, Nat.reduceEqDiff, Nat.reduceAdd, Nat.reduceSub, Nat.reduceLeDiff, Nat.zero_add, Nat.sub_zero, ynew, f1, f42, f43, f44, decide_eq_false d1, decide_eq_false d2, decide_eq_false d3, decide_eq_false d4, decide_eq_false d5, decide_eq_false d6, decide_eq_false d7, decide_eq_true hlt, rd1_of hbK, hix, hrn, wrap64_in]); try simp only [yback])
      skip
      refine InvQ_go (x.st.length - (i + 1)) (by omega) ⟨(i + 1), rfl, by omega, (by first | rfl | exact f1 | (simp only [upd_apply]; rfl) | (show I64 _ = _; congr 1; omega)), (by first | rfl | exact f42 | (simp only [upd_apply]; rfl) | (show I64 _ = _; congr 1; omega)), (by first | rfl | exact f43 | (simp only [upd_apply]; rfl) | (show I64 _ = _; congr 1; omega)), (by first | rfl | exact f44 | (simp only [upd_apply]; rfl) | (show I64 _ = _; congr 1; omega)), (pp.trans (pre_new (List.prefix_refl _))), (yes (decide_eq_true (by omega)))⟩
    have ei : i = x.st.length := by omega
    subst ei
    ((try simp (maxSteps := 3000000) (dsimp := false) (disch := first | omega | (simp only [len_new, len_put, len_kill]; omega)) only [↓ypre, ypost, ↓reduceIte, Nat.reduceEqDiff, Nat.reduceAdd, Nat.reduceSub, Nat.reduceLeDiff, Nat.zero_add, Nat.sub_zero, ynew, f1, f42, f43, f44, decide_eq_false hlt, rd1_of hbK, hvK.1.len, hvK.2.len, wrap64_in]); try simp only [yback])
    refine WC_loop_inv (fun m f K2 => ∃ (i : Nat), m = x.out.length - i ∧ i ≤ x.out.length ∧ f 1 = .pointer (some ⟨h.length, 0, none⟩) ∧ f 6 = I64 (x.n + x.st.length) ∧ f 100 = w ∧ f 101 = I64 x.out.length ∧ f 102 = I64 i ∧ (H1 <+: K2) ∧ (∀ j, j < i → okOut x.p (x.n + x.st.length) (x.out.getD j []) = true)) ?_ (x.out.length - 0) _ _ ⟨0, rfl, by omega, (by first | rfl | exact f1 | (simp [upd_apply]; done)), (by first | rfl | (simp [upd_apply]; done)), (by first | rfl | (simp [upd_apply]; done)), (by first | rfl | (simp [upd_apply]; done)), (by first | rfl | (simp [upd_apply]; done)), pp, (by omega)⟩
    rintro m f K2 ⟨i, rfl, hi, f1, f6, f100, f101, f102, pp, hj2⟩
    have hbK := pre_get pp hb1
    have ltK := get_lt hbK
    have hvK := hv1.pre pp
    by_cases hlt : (i : Int) < x.out.length
    · have hi' : i < x.out.length := by omega
      obtain ⟨n, off, hix, hrn⟩ := hvK.2.rdw hi'
      obtain ⟨a, b, hq⟩ := all2 (hvK.2.wid hi')
      rw [hq, cel_2] at hrn
      have noS : okOut x.p (x.n + x.st.length) [a, b] = false → ∀ h', h <+: h' → Q (.bool false) h' := fun e h' p => by
        have := hQ h' p
        rw [isPrg_out hi' (by rw [hq]; exact e)] at this
        exact this
      have yes : okOut x.p (x.n + x.st.length) [a, b] = true → ∀ j, j < i + 1 → okOut x.p (x.n + x.st.length) (x.out.getD j []) = true := fun e j hj' => by
        by_cases he : j = i
        · subst he
          rw [hq]
          exact e
        · exact hj2 j (by omega)
      rw [okOut_2] at noS yes
      by_cases d1 : a < 0
      · ((try simp (maxSteps := 3000000) (dsimp := false) (disch := first | omega | (simp only [len_new, len_put, len_kill]; omega)) only [↓ypre, ypost, ↓reduceIte, Nat.reduceEqDiff, Nat.reduceAdd, Nat.reduceSub, Nat.reduceLeDiff, Nat.zero_add, Nat.sub_zero, ynew, f1, f6, f100, f101, f102, decide_eq_true d1, decide_eq_true hlt, rd1_of hbK, hix, hrn, wrap64_in]); try simp only [yback])
        exact noS (decide_eq_false (by omega)) _ (p1.trans (pp.trans (pre_new (List.prefix_refl _))))
      by_cases d2 : x.n + (x.st.length : Int) ≤ a
      · ((try simp (maxSteps := 3000000) (dsimp := false) (disch := first | omega | (simp only [len_new, len_put, len_kill]; omega)) only [↓ypre, ypost, ↓reduceIte, Nat.reduceEqDiff, Nat.reduceAdd, Nat.reduceSub, Nat.reduceLeDiff, Nat.zero_add, Nat.sub_zero, ynew, f1, f6, f100, f101, f102, decide_eq_false d1, decide_eq_true d2, decide_eq_true hlt, rd1_of hbK, hix, hrn, wrap64_in]); try simp only [yback])
        exact noS (decide_eq_false (by omega)) _ (p1.trans (pp.trans (pre_new (List.prefix_refl _))))
      by_cases d3 : b < 0
      · ((try simp (maxSteps := 3000000) (dsimp := false) (disch := first | omega | (simp only [len_new, len_put, len_kill]; omega)) only [↓ypre, ypost, ↓reduceIte, Nat.reduceEqDiff, Nat.reduceAdd, Nat.reduceSub, Nat.reduceLeDiff, Nat.zero_add, Nat.sub_zero, ynew, f1, f6, f100, f101, f102, decide_eq_false d1, decide_eq_false d2, decide_eq_true d3, decide_eq_true hlt, rd1_of hbK, hix, hrn, wrap64_in]); try simp only [yback])
        exact noS (decide_eq_false (by omega)) _ (p1.trans (pp.trans (pre_new (List.prefix_refl _))))
      by_cases d4 : x.p ≤ b
      · ((try simp (maxSteps := 3000000) (dsimp := false) (disch := first | omega | (simp only [len_new, len_put, len_kill]; omega)) only [↓ypre, ypost, ↓reduceIte, Nat.reduceEqDiff, Nat.reduceAdd, Nat.reduceSub, Nat.reduceLeDiff, Nat.zero_add, Nat.sub_zero, ynew, f1, f6, f100, f101, f102, decide_eq_false d1, decide_eq_false d2, decide_eq_false d3, decide_eq_true d4, decide_eq_true hlt, rd1_of hbK, hix, hrn, wrap64_in]); try simp only [yback])
        exact noS (decide_eq_false (by omega)) _ (p1.trans (pp.trans (pre_new (List.prefix_refl _))))
      by_cases d5 : b = 0
      · by_cases d6 : a = 0
        · ((try simp (maxSteps := 3000000) (dsimp := false) (disch := first | omega | (simp only [len_new, len_put, len_kill]; omega)) only [↓ypre, ypost, ↓reduceIte, Nat.reduceEqDiff, Nat.reduceAdd, Nat.reduceSub, Nat.reduceLeDiff, Nat.zero_add, Nat.sub_zero, ynew, f1, f6, f100, f101, f102, decide_eq_false d1, decide_eq_false d2, decide_eq_false d3, decide_eq_false d4, decide_eq_true d5, decide_eq_false (show ¬ a ≠ 0 by omega), decide_eq_true hlt, rd1_of hbK, hix, hrn, wrap64_in]); try simp only [yback])
          refine InvQ_go (x.out.length - (i + 1)) (by omega) ⟨(i + 1), rfl, by omega, (by first | rfl | exact f1 | (simp only [upd_apply]; rfl) | (show I64 _ = _; congr 1; omega)), (by first | rfl | exact f6 | (simp only [upd_apply]; rfl) | (show I64 _ = _; congr 1; omega)), (by first | rfl | exact f100 | (simp only [upd_apply]; rfl) | (show I64 _ = _; congr 1; omega)), (by first | rfl | exact f101 | (simp only [upd_apply]; rfl) | (show I64 _ = _; congr 1; omega)), (by first | rfl | exact f102 | (simp only [upd_apply]; rfl) | (show I64 _ = _; congr 1; omega)), (pp.trans (pre_new (List.prefix_refl _))), (yes (decide_eq_true (by omega)))⟩
        · ((try simp (maxSteps := 3000000) (dsimp := false) (disch := first | omega | (simp only [len_new, len_put, len_kill]; omega)) only [↓ypre, ypost, ↓reduceIte, Nat.reduceEqDiff, Nat.reduceAdd, Nat.reduceSub, Nat.reduceLeDiff, Nat.zero_add, Nat.sub_zero, ynew, f1, f6, f100, f101, f102, decide_eq_false d1, decide_eq_false d2, decide_eq_false d3, decide_eq_false d4, decide_eq_true d5, decide_eq_true d6, decide_eq_true hlt, rd1_of hbK, hix, hrn, wrap64_in]); try simp only [yback])
          exact noS (decide_eq_false (by omega)) _ (p1.trans (pp.trans (pre_new (List.prefix_refl _))))
      ((try simp (maxSteps := 3000000) (dsimp := false) (disch := first | omega | (simp only [len_new, len_put, len_kill]; omega)) only [↓ypre, ypost, ↓reduceIte, Nat.reduceEqDiff, Nat.reduceAdd, Nat.reduceSub, Nat.reduceLeDiff, Nat.zero_add, Nat.sub_zero, ynew, f1, f6, f100, f101, f102, decide_eq_false d1, decide_eq_false d2, decide_eq_false d3, decide_eq_false d4, decide_eq_false d5, decide_eq_true hlt, rd1_of hbK, hix, hrn, wrap64_in]); try simp only [yback])
      refine InvQ_go (x.out.length - (i + 1)) (by omega) ⟨(i + 1), rfl, by omega, (by first | rfl | exact f1 | (simp only [upd_apply]; rfl) | (show I64 _ = _; congr 1; omega)), (by first | rfl | exact f6 | (simp only [upd_apply]; rfl) | (show I64 _ = _; congr 1; omega)), (by first | rfl | exact f100 | (simp only [upd_apply]; rfl) | (show I64 _ = _; congr 1; omega)), (by first | rfl | exact f101 | (simp only [upd_apply]; rfl) | (show I64 _ = _; congr 1; omega)), (by first | rfl | exact f102 | (simp only [upd_apply]; rfl) | (show I64 _ = _; congr 1; omega)), (pp.trans (pre_new (List.prefix_refl _))), (yes (decide_eq_true (by omega)))⟩
    have ei : i = x.out.length := by omega
    subst ei
    ((try simp (maxSteps := 3000000) (dsimp := false) (disch := first | omega | (simp only [len_new, len_put, len_kill]; omega)) only [↓ypre, ypost, ↓reduceIte, Nat.reduceEqDiff, Nat.reduceAdd, Nat.reduceSub, Nat.reduceLeDiff, Nat.zero_add, Nat.sub_zero, ynew, f1, f6, f100, f101, f102, decide_eq_false hlt, rd1_of hbK, hvK.2.len]); try simp only [yback])
    have := hQ _ (p1.trans pp)
    rw [isPrg_all hH hj hj2] at this
    exact this
end Go.Proofs.Ytilpnbejpndgpaa.X

/- From the readings of lists, and of lists of lists, to the first heap. -/
set_option linter.unusedVariables false
set_option linter.unusedSimpArgs false
namespace Go.Proofs.Ytilpnbejpndgpaa.X
open Go Go.RowKit Go.ChangeShapes Go.WideShapes Go.Deep

section
variable {H : Type} {enc : TypeId × Value → H} {P : Program} {W : World}

theorem cells_of_slice {t e : TypeId} {v : Value} {r : Reach} {base : Nat} (ht : P.underlying t = some (.slice e)) (hval : Value.okWide P W r base t v) : v.cells.toList = [v] := by
  cases v with
  | agg cs => simp [Value.okWide, ht, Cell.okWide, Cell.ok] at hval
  | _ => rfl

def isIntS (P : Program) (t e : TypeId) : Bool := tySlice P t e && tyInt P e && P.cellsOf e == 1
def isIntSS (P : Program) (t s e : TypeId) : Bool := tySlice P t s && P.cellsOf s == 1 && isIntS P s e

theorem adm_list {γ : List G} {h : AH} (A : Adm P W γ h) {t : TypeId} (e : TypeId) (hk : isIntS P t e = true) {v : Value} {d : DataW H} {ps : List MemPlace} {r : Reach} {base : Nat} (hval : Value.okWide P W r base t v)
    (hx : DataW.Trod enc P W 0 (fun _ => true) true t v d ps) :
    ∃ ns u γ' h', γ <+: γ' ∧ h <+: h' ∧ Adm P W γ' h' ∧ VR γ' u v ∧ Ints h' u ns ∧ ns.length ≤ maxLen := by
  simp only [isIntS, Bool.and_eq_true, beq_iff_eq] at hk
  obtain ⟨⟨k1, k2⟩, k3⟩ := hk
  obtain ⟨n, hx⟩ := hx
  obtain ⟨v', u, ns, γ', h', e1, q1, q2, q3, q4, q5, q6⟩ := adm_ints A (tySlice_eq k1) (tyInt_eq k2) k3 hx
  rw [cells_of_slice (tySlice_eq k1) hval] at e1
  have e1 : v = v' := by simpa using e1
  subst e1
  exact ⟨ns, u, γ', h', q1, q2, q3, q4, q5, q6⟩

theorem getD_snoc {α : Type} {l : List α} {x d : α} {j : Nat} : (l ++ [x]).getD j d = if j < l.length then l.getD j d else if j = l.length then x else d := by
  rw [List.getD_eq_getElem?_getD, List.getD_eq_getElem?_getD]
  by_cases h : j < l.length
  · rw [List.getElem?_append_left h, if_pos h]
  · rw [List.getElem?_append_right (by omega), if_neg h]
    split
    · rename_i e
      simp [e]
    · rw [List.getElem?_eq_none (by simp; omega)]
      rfl

theorem adm_many {γ : List G} {h : AH} (A : Adm P W γ h) {e e' : TypeId} (he : isIntS P e e' = true) {V : Nat → Value} {len n : Nat} (hr : ∀ i, i < len → ∃ x : DataW H × List MemPlace, DataW.trod enc P W 0 (fun _ => true) true n e [V i] = some x) :
    ∀ k, k ≤ len → ∃ (γ' : List G) (h' : AH) (cs : List Value) (rows : List (List Int)), γ <+: γ' ∧ h <+: h' ∧ Adm P W γ' h' ∧ cs.length = k ∧ rows.length = k ∧
      ∀ j, j < k → VR γ' (cs.getD j undef) (V j) ∧ Ints h' (cs.getD j undef) (rows.getD j []) ∧ (rows.getD j []).length ≤ maxLen
  | 0, _ => ⟨γ, h, [], [], List.prefix_refl _, List.prefix_refl _, A, rfl, rfl, fun j hj => by omega⟩
  | k + 1, hk => by
    obtain ⟨γ1, h1, cs, rows, q1, q2, q3, q4, q5, q6⟩ := adm_many A he hr k (by omega)
    have he' := he
    simp only [isIntS, Bool.and_eq_true, beq_iff_eq] at he'
    obtain ⟨⟨k1, k2⟩, k3⟩ := he'
    obtain ⟨x, hx⟩ := hr k (by omega)
    obtain ⟨v', u, ns, γ2, h2, e1, r1, r2, r3, r4, r5, r6⟩ := adm_ints q3 (tySlice_eq k1) (tyInt_eq k2) k3 hx
    have e1 : V k = v' := by simpa using e1
    subst e1
    refine ⟨γ2, h2, cs ++ [u], rows ++ [ns], q1.trans r1, q2.trans r2, r3, by simp [q4], by simp [q5], fun j hj => ?_⟩
    rw [getD_snoc, getD_snoc, q4, q5]
    by_cases hjk : j < k
    · rw [if_pos hjk, if_pos hjk]
      obtain ⟨a1, a2, a3⟩ := q6 j hjk
      exact ⟨a1.mono r1, a2.pre r2, a3⟩
    · have : j = k := by omega
      subst this
      rw [if_neg hjk, if_neg hjk, if_pos rfl, if_pos rfl]
      exact ⟨r4, r5, r6⟩

theorem adm_rows {γ : List G} {h : AH} (A : Adm P W γ h) {t : TypeId} (s e : TypeId) (hk : isIntSS P t s e = true) {v : Value} {d : DataW H} {ps : List MemPlace} {r : Reach} {base : Nat} (hval : Value.okWide P W r base t v)
    (hx : DataW.Trod enc P W 0 (fun _ => true) true t v d ps) :
    ∃ (rows : List (List Int)) (u : Value) (γ' : List G) (h' : AH), γ <+: γ' ∧ h <+: h' ∧ Adm P W γ' h' ∧ VR γ' u v ∧ Rows h' u rows ∧ rows.length ≤ maxLen ∧ ∀ i, i < rows.length → (rows.getD i []).length ≤ maxLen := by
  simp only [isIntSS, Bool.and_eq_true, beq_iff_eq] at hk
  obtain ⟨⟨k1, k2⟩, k3⟩ := hk
  obtain ⟨n, hx⟩ := hx
  have hcl := cells_of_slice (tySlice_eq k1) hval
  rcases open_slice1 (tySlice_eq k1) k2 hx with ⟨hv, _⟩ | ⟨a, len, cap, m, n', V, D, Pl, hv, hb, hl, hm, hmm, _, hcell⟩
  · rw [hcl] at hv
    have hv : v = .slice none 0 0 := by simpa using hv
    subst hv
    exact ⟨[], .slice none 0 0, γ, h, List.prefix_refl _, List.prefix_refl _, A, .nils, ⟨[], .inl ⟨rfl, 0, by omega, rfl⟩, rfl, fun i hi => by simp at hi⟩, Nat.zero_le _, fun i hi => by simp at hi⟩
  · rw [hcl] at hv
    have hv : v = .slice (some a) len cap := by simpa using hv
    subst hv
    by_cases h0 : len = 0
    · subst h0
      exact ⟨[], .slice none 0 1, γ, h, List.prefix_refl _, List.prefix_refl _, A, .emp _ _, ⟨[], .inl ⟨rfl, 1, by omega, rfl⟩, rfl, fun i hi => by simp at hi⟩, Nat.zero_le _, fun i hi => by simp at hi⟩
    · have hcell : ∀ i, i < cap → W.cell? (a.add i) = some (V i) ∧ DataW.trod enc P W 0 (fun _ => true) true n' s [V i] = some (D i, Pl i) := fun i hi => hcell i (by rw [show m = cap from hmm]; exact hi)
      have hz := (hcell 0 (by omega)).1
      have hsp : a.spot = none := by
        simp only [Addr.add, if_true] at hz
        unfold World.cell? at hz
        split at hz
        · split at hz
          · cases hz
          · rename_i hs
            simpa using hs
        · cases hz
      have hbl : a.block < W.heap.size := by
        have := World.block_lt_of_cell? W _ hz
        simpa [Addr.add] using this
      obtain ⟨γ1, h1, cs, rows, q1, q2, q3, q4, q5, q6⟩ := adm_many A k3 (V := V) (len := len) (n := n') (fun i hi => ⟨_, (hcell i (by omega)).2⟩) len (Nat.le_refl _)
      have hget : ∀ (j : Nat) (x : Value), cs[j]? = some x → j < len ∧ cs.getD j undef = x := fun j x hx => by
        refine ⟨by rw [← q4]; exact (List.getElem?_eq_some_iff.1 hx).1, ?_⟩
        rw [List.getD_eq_getElem?_getD, hx]
        rfl
      refine ⟨rows, .slice (some ⟨h1.length, 0, none⟩) cs.length 1, γ1 ++ [⟨a.block, a.off, cap⟩], h1.new ⟨cs, s, true, false⟩, q1.trans (List.prefix_append _ _), q2.trans (pre_new (List.prefix_refl _)), ?_, ?_, ?_, by rw [q5]; omega, fun i hi => (q6 i (by omega)).2.2⟩
      · refine q3.new hbl fun j x hx => ?_
        obtain ⟨hj, hxx⟩ := hget j x hx
        obtain ⟨a1, a2, _⟩ := q6 j hj
        rw [hxx] at a1 a2
        refine ⟨a2.one, V j, ?_, a1⟩
        have := (hcell j (by omega)).1
        rw [add_off a hsp] at this
        exact this
      · have := VR.slc (γ := γ1 ++ [⟨a.block, a.off, cap⟩]) h1.length 0 cs.length 1 ⟨a.block, a.off, cap⟩ (by rw [← q3.rel.len]; simp) (by omega) (by simp only; omega)
        have e1 : (some a : Option Addr) = some ⟨a.block, a.off + 0, none⟩ := by
          obtain ⟨b, o, s⟩ := a
          simp at hsp
          subst hsp
          rfl
        rw [e1]
        have e2 : (cap - 0) / 1 = cap := by simp
        rw [show (Value.slice (some ⟨a.block, a.off + 0, none⟩) len cap) = Value.slice (some ⟨a.block, a.off + 0, none⟩) cs.length ((cap - 0) / 1) by rw [e2, q4]]
        exact this
      · refine ⟨cs, .inr ⟨h1.length, 0, _, rfl, get_new_same, by simp, fun i hi => ?_⟩, by omega, fun i hi => ((q6 i (by omega)).2.1).pre (pre_new (List.prefix_refl _))⟩
        rw [Nat.zero_add, List.getD_eq_getElem?_getD, List.getElem?_eq_getElem hi]
        rfl
end
end Go.Proofs.Ytilpnbejpndgpaa.X

/- From the readings of slices of flat elements, and of schemes, to the first heap. -/
set_option linter.unusedVariables false
set_option linter.unusedSimpArgs false
namespace Go.Proofs.Ytilpnbejpndgpaa.X
open Go Go.RowKit Go.ChangeShapes Go.WideShapes Go.Deep

theorem u8_in {n : Int} (h : (Lit.int .u8 n).wf = true) : 0 ≤ n ∧ n ≤ 255 := by
  simp [Lit.wf, IntKind.min, IntKind.max, IntKind.signed, IntKind.bits] at h
  omega
/-- Fields side by side. -/
def sideBy (P : Program) : List Field → Nat → Nat → Bool
  | [], o, m => o == m
  | f :: fs, o, m => f.offset == o && sideBy P fs (o + P.cellsOf f.type) m
/-- A type of whole numbers of one kind alone. -/
def flatK (P : Program) (k : IntKind) : Nat → TypeId → Bool
  | 0, _ => false
  | f + 1, t => match P.underlying t with
    | some (.int k') => decide (k' = k) && P.cellsOf t == 1
    | some (.array n e) => flatK P k f e && P.cellsOf t == n * P.cellsOf e
    | some (.struct fs) => sideBy P fs.toList 0 (P.cellsOf t) && fs.toList.all fun x => flatK P k f x.type
    | _ => false
theorem sideBy_at {P : Program} : ∀ {fs : List Field} {o m j : Nat}, sideBy P fs o m = true → o ≤ j → j < m → ∃ (i : Nat) (f : Field), fs[i]? = some f ∧ f.offset ≤ j ∧ j < f.offset + P.cellsOf f.type
  | [], o, m, j, h, h1, h2 => by
    simp only [sideBy, beq_iff_eq] at h
    omega
  | f :: fs, o, m, j, h, h1, h2 => by
    simp only [sideBy, Bool.and_eq_true, beq_iff_eq] at h
    by_cases hj : j < o + P.cellsOf f.type
    · exact ⟨0, f, rfl, by omega, by omega⟩
    · obtain ⟨i, g, q1, q2, q3⟩ := sideBy_at h.2 (by omega) h2
      exact ⟨i + 1, g, by rw [List.getElem?_cons_succ]; exact q1, q2, q3⟩
section
variable {H : Type} {enc : TypeId × Value → H} {P : Program} {W : World} {k : IntKind}
theorem flat_trod : ∀ (f : Nat) (t : TypeId) (n : Nat) (cs : List Value) (x : DataW H × List MemPlace), flatK P k f t = true → DataW.trod enc P W 0 (fun _ => true) true n t cs = some x →
    cs.length = P.cellsOf t ∧ ∀ (j : Nat) (v : Value), cs[j]? = some v → ∃ m, v = .int k m ∧ (Lit.int k m).wf = true
  | 0, _, _, _, _, h, _ => by cases h
  | f + 1, t, n, cs, x, h, hx => by
    unfold flatK at h
    split at h
    · rename_i k' ht
      simp only [Bool.and_eq_true, decide_eq_true_eq, beq_iff_eq] at h
      obtain ⟨rfl, hc⟩ := h
      obtain ⟨m, rfl, _, hw⟩ := DataW.trod_int ht hx
      refine ⟨by simpa using hc.symm, fun j v hv => ?_⟩
      have : j = 0 := by
        have := (List.getElem?_eq_some_iff.1 hv).1
        simp at this
        exact this
      subst this
      simp at hv
      exact ⟨m, hv.symm, hw⟩
    · rename_i c e ht
      simp only [Bool.and_eq_true, beq_iff_eq] at h
      obtain ⟨xs, m, _, _, hl, hxs, hall⟩ := DataW.trod_array ht hx
      refine ⟨hl, fun j v hv => ?_⟩
      have hj := (List.getElem?_eq_some_iff.1 hv).1
      rw [hl, h.2] at hj
      have hc : 0 < P.cellsOf e := Nat.pos_of_ne_zero fun e0 => by rw [e0] at hj; simp at hj
      have hi : j / P.cellsOf e < c := Nat.div_lt_of_lt_mul (by rw [Nat.mul_comm]; exact hj)
      have hy := hall _ hi
      rw [List.getElem?_eq_getElem (by omega)] at hy
      have hdm := Nat.div_add_mod j (P.cellsOf e)
      rw [Nat.mul_comm] at hdm
      refine (flat_trod f e m _ _ h.1 hy).2 (j % P.cellsOf e) v ?_
      rw [List.getElem?_take, if_pos (Nat.mod_lt _ hc), List.getElem?_drop, hdm]
      exact hv
    · rename_i fs ht
      simp only [Bool.and_eq_true] at h
      obtain ⟨xs, m, _, _, hl, hxs, hall⟩ := DataW.trod_struct ht hx
      refine ⟨hl, fun j v hv => ?_⟩
      have hj := (List.getElem?_eq_some_iff.1 hv).1
      rw [hl] at hj
      obtain ⟨i, g, q1, q2, q3⟩ := sideBy_at h.1 (Nat.zero_le _) hj
      have q1' : fs[i]? = some g := by simpa using q1
      have hy := hall i g q1'
      have hi : i < xs.length := by
        rw [hxs]
        exact (Array.getElem?_eq_some_iff.1 q1').1
      rw [List.getElem?_eq_getElem hi] at hy
      have hg : flatK P k f g.type = true := List.all_eq_true.1 h.2 g (List.mem_of_getElem? q1)
      refine (flat_trod f g.type m _ _ hg hy).2 (j - g.offset) v ?_
      rw [List.getElem?_take, if_pos (by omega), List.getElem?_drop, show g.offset + (j - g.offset) = j by omega]
      exact hv
    · cases h

theorem adm_elems {γ : List G} {h : AH} (A : Adm P W γ h) {t e : TypeId} {n w f : Nat} {cs : List Value} {x : DataW H × List MemPlace} (ht : P.underlying t = some (.slice e)) (hf : flatK P k f e = true)
    (hw : P.cellsOf e = w) (hw0 : 0 < w) (hx : DataW.trod enc P W 0 (fun _ => true) true n t cs = some x) :
    ∃ v' v L γ' h', cs = [v'] ∧ γ <+: γ' ∧ h <+: h' ∧ Adm P W γ' h' ∧ VR γ' v v' ∧ Els k w h' v L ∧ L.length ≤ maxLen ∧ ∀ i, i < L.length → ∀ j, j < w → (Lit.int k ((L.getD i []).getD j 0)).wf = true := by
  rcases open_slice ht hx with ⟨rfl, _⟩ | ⟨a, len, cap, m, n', D, Pl, rfl, hb, hl, hm, hmm, _, hcell⟩
  · exact ⟨_, .slice none 0 0, [], γ, h, rfl, List.prefix_refl _, List.prefix_refl _, A, .nils, .inl ⟨rfl, 0, by omega, rfl⟩, Nat.zero_le _, fun i hi => by simp at hi⟩
  · by_cases h0 : len = 0
    · subst h0
      exact ⟨_, .slice none 0 1, [], γ, h, rfl, List.prefix_refl _, List.prefix_refl _, A, .emp _ _, .inl ⟨rfl, 1, by omega, rfl⟩, Nat.zero_le _, fun i hi => by simp at hi⟩
    · have hmc : m = cap := hmm
      have cell : ∀ i, i < cap → ∀ r, r < w → ∃ z, W.cell? ((a.add (i * w)).add r) = some (.int k z) ∧ (Lit.int k z).wf = true := fun i hi r hr => by
        obtain ⟨cs', h1, h2⟩ := hcell i (by omega)
        rw [hw] at h1
        obtain ⟨_, hlen, hc⟩ := World.cells?_some h1
        obtain ⟨_, hall⟩ := flat_trod f e n' cs' _ hf h2
        have hr' : r < cs'.length := by omega
        obtain ⟨z, hz, hwf⟩ := hall r _ (List.getElem?_eq_getElem hr')
        refine ⟨z, ?_, hwf⟩
        rw [hc r hr, List.getElem?_eq_getElem hr', hz]
      obtain ⟨z0, hz, _⟩ := cell 0 (by omega) 0 hw0
      rw [Nat.zero_mul] at hz
      have a0 : a.add 0 = a := by simp [Addr.add]
      rw [a0, a0] at hz
      have hsp : a.spot = none := by
        unfold World.cell? at hz
        split at hz
        · split at hz
          · cases hz
          · rename_i hs
            simpa using hs
        · cases hz
      have hbl : a.block < W.heap.size := World.block_lt_of_cell? W _ hz
      have cell' : ∀ j, j < len * w → ∃ z, W.cell? ⟨a.block, a.off + j, none⟩ = some (.int k z) ∧ (Lit.int k z).wf = true := fun j hj => by
        have hi : j / w < len := Nat.div_lt_of_lt_mul (by rw [Nat.mul_comm]; exact hj)
        obtain ⟨z, q1, q2⟩ := cell (j / w) (by omega) (j % w) (Nat.mod_lt _ hw0)
        refine ⟨z, ?_, q2⟩
        rw [add_off a hsp, add_off _ rfl] at q1
        have hdm := Nat.div_add_mod j w
        rw [Nat.mul_comm] at hdm
        rw [show a.off + j = a.off + j / w * w + j % w by omega]
        exact q1
      obtain ⟨N, hN⟩ : ∃ N : Nat → Int, ∀ j, j < len * w → W.cell? ⟨a.block, a.off + j, none⟩ = some (.int k (N j)) ∧ (Lit.int k (N j)).wf = true := by
        refine ⟨fun j => if hj : j < len * w then (cell' j hj).choose else 0, fun j hj => ?_⟩
        simp only [dif_pos hj]
        exact (cell' j hj).choose_spec
      let L : List (List Int) := (List.range len).map fun i => (List.range w).map fun r => N (i * w + r)
      have hLl : L.length = len := by simp [L]
      have hLg : ∀ i, i < len → L.getD i [] = (List.range w).map fun r => N (i * w + r) := fun i hi => by simp [L, List.getD_eq_getElem?_getD, List.getElem?_map, List.getElem?_range hi]
      let C : List Value := cel k ((List.range (len * w)).map N)
      have hCl : C.length = len * w := by simp [C, cel_len]
      refine ⟨_, .slice (some ⟨h.length, 0, none⟩) L.length w, L, γ ++ [⟨a.block, a.off, cap * w⟩], h.new ⟨C, e, true, false⟩, rfl, List.prefix_append _ _, pre_new (List.prefix_refl _), ?_, ?_,
        .inr ⟨h.length, 0, _, rfl, get_new_same, fun i hi => ?_⟩, by rw [hLl]; omega, fun i hi j hj => ?_⟩
      · refine A.new hbl fun j v hv => ?_
        have hj : j < len * w := by rw [← hCl]; exact (List.getElem?_eq_some_iff.1 hv).1
        have hv' : C[j]? = some (.int k (N j)) := by simp [C, cel, hj]
        rw [hv'] at hv
        obtain rfl := Option.some.inj hv
        exact ⟨rfl, _, (hN j hj).1, .int _ _⟩
      · have hcw : len * w ≤ cap * w := Nat.mul_le_mul_right _ hl
        have := VR.slc (γ := γ ++ [⟨a.block, a.off, cap * w⟩]) h.length 0 L.length w ⟨a.block, a.off, cap * w⟩ (by rw [← A.rel.len]; simp) hw0 (by rw [hLl]; simp only; omega)
        have e1 : (some a : Option Addr) = some ⟨a.block, a.off + 0, none⟩ := by
          obtain ⟨b, o, s⟩ := a
          simp at hsp
          subst hsp
          rfl
        rw [e1]
        have e2 : (cap * w - 0) / w = cap := by rw [Nat.sub_zero]; exact Nat.mul_div_cancel _ hw0
        simp only [e2, hLl] at this
        rw [hLl]
        exact this
      · rw [hLl] at hi
        have hr : i * w + w ≤ len * w := mul_row hi
        refine ⟨by simp only [hCl]; omega, ?_⟩
        rw [hLg i hi]
        simp only [C, cel_drop, cel_take, Nat.zero_add]
        congr 1
        refine List.ext_getElem? fun r => ?_
        rw [List.getElem?_take, List.getElem?_drop, List.getElem?_map, List.getElem?_map]
        by_cases hr' : r < w
        · rw [if_pos hr', List.getElem?_range hr', List.getElem?_range (by omega)]
          rfl
        · rw [if_neg hr', List.getElem?_eq_none (by simp; omega)]
          rfl
      · rw [hLl] at hi
        have hr : i * w + w ≤ len * w := mul_row hi
        rw [hLg i hi]
        have : ((List.range w).map fun r => N (i * w + r)).getD j 0 = N (i * w + j) := by simp [List.getD_eq_getElem?_getD, List.getElem?_map, List.getElem?_range hj]
        rw [this]
        exact (hN _ (by omega)).2

/-- Four whole numbers and a slice of elements, side by side. -/
def isSch (P : Program) (t e : TypeId) (k : IntKind) (f w : Nat) : Bool := match P.underlying t with
  | some (.struct fs) => match fs.toList with
    | [f0, f1, f2, f3, f4] => P.cellsOf t == 5 && f0.offset == 0 && f1.offset == 1 && f2.offset == 2 && f3.offset == 3 && f4.offset == 4 &&
        [f0, f1, f2, f3].all (fun f => tyInt P f.type && P.cellsOf f.type == 1) && P.cellsOf f4.type == 1 && tySlice P f4.type e &&
        flatK P k f e && P.cellsOf e == w && decide (0 < w)
    | _ => false
  | _ => false
theorem adm_sch {γ : List G} {h : AH} (A : Adm P W γ h) {t : TypeId} (e : TypeId) (f w : Nat) (hk : isSch P t e k f w = true) {v : Value} {d : DataW H} {ps : List MemPlace} (hx : DataW.Trod enc P W 0 (fun _ => true) true t v d ps) :
    ∃ a b c d L v' γ' h', γ <+: γ' ∧ h <+: h' ∧ Adm P W γ' h' ∧ VR γ' (.agg #[I64 a, I64 b, I64 c, I64 d, v']) v ∧ Els k w h' v' L ∧ L.length ≤ maxLen ∧
      ∀ i, i < L.length → ∀ j, j < w → (Lit.int k ((L.getD i []).getD j 0)).wf = true := by
  unfold isSch at hk
  split at hk
  · rename_i fs hs
    split at hk
    · rename_i f0 f1 f2 f3 f4 hf
      have hfs : fs = #[f0, f1, f2, f3, f4] := by
        rw [← hf]
      subst hfs
      simp only [List.all_cons, List.all_nil, Bool.and_true, Bool.and_eq_true, beq_iff_eq, decide_eq_true_eq] at hk
      obtain ⟨⟨⟨⟨⟨⟨⟨⟨⟨⟨⟨hct, o0⟩, o1⟩, o2⟩, o3⟩, o4⟩, ⟨i0, c0⟩, ⟨i1, c1⟩, ⟨i2, c2⟩, ⟨i3, c3⟩⟩, c4⟩, s4⟩, fl⟩, ce⟩, cw⟩ := hk
      obtain ⟨n, hx⟩ := hx
      have hl := trod_cells hs hx
      rw [hct] at hl
      obtain ⟨a, ha, _⟩ := trod_field_int hs hx (i := 0) (f := f0) rfl (tyInt_eq i0)
      obtain ⟨b, hb, _⟩ := trod_field_int hs hx (i := 1) (f := f1) rfl (tyInt_eq i1)
      obtain ⟨c, hcc, _⟩ := trod_field_int hs hx (i := 2) (f := f2) rfl (tyInt_eq i2)
      obtain ⟨d, hd, _⟩ := trod_field_int hs hx (i := 3) (f := f3) rfl (tyInt_eq i3)
      obtain ⟨m, y, hy⟩ := trod_field hs hx (i := 4) (f := f4) rfl
      obtain ⟨v', u, L, γ', h', e1, q1, q2, q3, q4, q5, q6, q7⟩ := adm_elems A (tySlice_eq s4) fl ce cw hy
      generalize hcs : v.cells.toList = cs at *
      rw [o0, c0] at ha
      rw [o1, c1] at hb
      rw [o2, c2] at hcc
      rw [o3, c3] at hd
      rw [o4, c4] at e1
      obtain ⟨z0, z1, z2, z3, z4, rfl⟩ : ∃ z0 z1 z2 z3 z4, cs = [z0, z1, z2, z3, z4] := by
        match cs, hl with
        | [z0, z1, z2, z3, z4], _ => exact ⟨_, _, _, _, _, rfl⟩
      simp at ha hb hcc hd e1
      subst ha hb hcc hd e1
      refine ⟨a, b, c, d, L, u, γ', h', q1, q2, q3, ?_, q5, q6, q7⟩
      rw [agg_of_cells hcs (by simp)]
      exact VR.aggL (VRL.cons (.int _ _) (VRL.cons (.int _ _) (VRL.cons (.int _ _) (VRL.cons (.int _ _) (VRL.cons q4 (VRL.nil _))))))
    · cases hk
  · cases hk
end
end Go.Proofs.Ytilpnbejpndgpaa.X

/- From the reading of a program (two whole numbers and two slices of flat elements) to the first heap. -/
set_option linter.unusedVariables false
set_option linter.unusedSimpArgs false
namespace Go.Proofs.Ytilpnbejpndgpaa.X
open Go Go.RowKit Go.ChangeShapes Go.WideShapes Go.Deep

section
variable {H : Type} {enc : TypeId × Value → H} {P : Program} {W : World} {k : IntKind}
/-- Two whole numbers and two slices of elements, side by side. -/
def isPrgT (P : Program) (t e e' : TypeId) (k : IntKind) (f w w' : Nat) : Bool := match P.underlying t with
  | some (.struct fs) => match fs.toList with
    | [f0, f1, f2, f3] => P.cellsOf t == 4 && f0.offset == 0 && f1.offset == 1 && f2.offset == 2 && f3.offset == 3 &&
        [f0, f1].all (fun f => tyInt P f.type && P.cellsOf f.type == 1) && (P.cellsOf f2.type == 1 && tySlice P f2.type e &&
        flatK P k f e && P.cellsOf e == w && decide (0 < w)) && (P.cellsOf f3.type == 1 && tySlice P f3.type e' &&
        flatK P k f e' && P.cellsOf e' == w' && decide (0 < w'))
    | _ => false
  | _ => false
theorem adm_prg {γ : List G} {h : AH} (A : Adm P W γ h) {t : TypeId} (e e' : TypeId) (f w w2 : Nat) (hk : isPrgT P t e e' k f w w2 = true) {v : Value} {d : DataW H} {ps : List MemPlace} (hx : DataW.Trod enc P W 0 (fun _ => true) true t v d ps) :
    ∃ a b L M v' w' γ' h', γ <+: γ' ∧ h <+: h' ∧ Adm P W γ' h' ∧ VR γ' (.agg #[I64 a, I64 b, v', w']) v ∧ Els k w h' v' L ∧ Els k w2 h' w' M ∧ L.length ≤ maxLen ∧ M.length ≤ maxLen := by
  unfold isPrgT at hk
  split at hk
  · rename_i fs hs
    split at hk
    · rename_i f0 f1 f2 f3 hf
      have hfs : fs = #[f0, f1, f2, f3] := by
        rw [← hf]
      subst hfs
      simp only [List.all_cons, List.all_nil, Bool.and_true, Bool.and_eq_true, beq_iff_eq, decide_eq_true_eq] at hk
      obtain ⟨⟨⟨⟨⟨⟨⟨hct, o0⟩, o1⟩, o2⟩, o3⟩, ⟨i0, c0⟩, ⟨i1, c1⟩⟩, ⟨⟨⟨⟨c2, s2⟩, fl2⟩, ce2⟩, cw2⟩⟩, ⟨⟨⟨⟨c3, s3⟩, fl3⟩, ce3⟩, cw3⟩⟩ := hk
      obtain ⟨n, hx⟩ := hx
      have hl := trod_cells hs hx
      rw [hct] at hl
      obtain ⟨a, ha, _⟩ := trod_field_int hs hx (i := 0) (f := f0) rfl (tyInt_eq i0)
      obtain ⟨b, hb, _⟩ := trod_field_int hs hx (i := 1) (f := f1) rfl (tyInt_eq i1)
      obtain ⟨m, y, hy⟩ := trod_field hs hx (i := 2) (f := f2) rfl
      obtain ⟨m', y', hy'⟩ := trod_field hs hx (i := 3) (f := f3) rfl
      obtain ⟨v', u, L, γ', h', e1, q1, q2, q3, q4, q5, q6, q7⟩ := adm_elems A (tySlice_eq s2) fl2 ce2 cw2 hy
      obtain ⟨w', u', M, γ2, h2, e2, r1, r2, r3, r4, r5, r6, r7⟩ := adm_elems q3 (tySlice_eq s3) fl3 ce3 cw3 hy'
      generalize hcs : v.cells.toList = cs at *
      rw [o0, c0] at ha
      rw [o1, c1] at hb
      rw [o2, c2] at e1
      rw [o3, c3] at e2
      obtain ⟨z0, z1, z2, z3, rfl⟩ : ∃ z0 z1 z2 z3, cs = [z0, z1, z2, z3] := by
        match cs, hl with
        | [z0, z1, z2, z3], _ => exact ⟨_, _, _, _, rfl⟩
      simp at ha hb e1 e2
      subst ha hb e1 e2
      refine ⟨a, b, L, M, u, u', γ2, h2, q1.trans r1, q2.trans r2, r3, ?_, q5.pre r2, r5, q6, r6⟩
      rw [agg_of_cells hcs (by simp)]
      exact VR.aggL (VRL.cons (.int _ _) (VRL.cons (.int _ _) (VRL.cons (q4.mono r1) (VRL.cons r4 (VRL.nil _)))))
    · cases hk
  · cases hk
end
end Go.Proofs.Ytilpnbejpndgpaa.X
