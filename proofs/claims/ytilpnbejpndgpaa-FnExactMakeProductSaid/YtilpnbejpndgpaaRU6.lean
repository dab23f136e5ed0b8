/- Texts of one claim, put together by merge.py: XS2, XS3, XF32, XF10, XF33, XS4, XS5, XY, XT1, XE2, XP1, XP2, XP3, XP8, XP4, XP6. -/
import Derived.Test.YtilpnbejpndgpaaRU5
/- Slices of products, schemes: sizes, copies, comparisons, marks. -/
set_option linter.unusedVariables false
set_option linter.unusedSimpArgs false
set_option maxRecDepth 20000
set_option maxHeartbeats 4000000
namespace Go.Proofs.Ytilpnbejpndgpaa.X
open Go Go.RowKit

def Wid (w : Nat) (L : List (List Int)) : Prop := ∀ q, q ∈ L → q.length = w
theorem flat_len {w : Nat} : ∀ {L : List (List Int)}, Wid w L → L.flatten.length = L.length * w
  | [], _ => by simp
  | q :: L, h => by
    rw [List.flatten_cons, List.length_append, flat_len (fun r hr => h r (List.mem_cons_of_mem _ hr)), h q List.mem_cons_self, List.length_cons, Nat.succ_mul]
    omega
theorem flat_get {w : Nat} : ∀ {L : List (List Int)} {i : Nat}, Wid w L → i < L.length → (L.flatten.drop (i * w)).take w = L.getD i []
  | [], i, _, hi => by simp at hi
  | q :: L, 0, h, _ => by
    have hq := h q List.mem_cons_self
    rw [Nat.zero_mul, List.drop_zero, List.flatten_cons, List.take_append_of_le_length (by omega), List.take_of_length_le (by omega)]
    rfl
  | q :: L, i + 1, h, hi => by
    have hq := h q List.mem_cons_self
    have e : (q ++ L.flatten).drop w = L.flatten := by rw [← hq]; exact List.drop_left
    rw [List.flatten_cons, Nat.succ_mul, Nat.add_comm, ← List.drop_drop, e, flat_get (fun r hr => h r (List.mem_cons_of_mem _ hr)) (by simpa using hi)]
    rfl
theorem flat_set {w : Nat} {r : List Int} : ∀ {L : List (List Int)} {i : Nat}, Wid w L → i < L.length → L.flatten.take (i * w) ++ r ++ L.flatten.drop (i * w + w) = (L.set i r).flatten
  | [], i, _, hi => by simp at hi
  | q :: L, 0, h, _ => by
    have hq := h q List.mem_cons_self
    rw [Nat.zero_mul, List.take_zero, List.nil_append, Nat.zero_add, List.flatten_cons, List.drop_append_of_le_length (by omega), List.drop_of_length_le (by omega), List.nil_append]
    rfl
  | q :: L, i + 1, h, hi => by
    have hq := h q List.mem_cons_self
    have ih := flat_set (r := r) (fun r hr => h r (List.mem_cons_of_mem _ hr)) (show i < L.length by simpa using hi)
    rw [List.set_cons_succ, List.flatten_cons, List.flatten_cons, ← ih, show (i + 1) * w = q.length + i * w by rw [Nat.succ_mul, hq]; omega, List.take_append, List.drop_append]
    rw [List.take_of_length_le (l := q) (by omega), List.drop_of_length_le (l := q) (by omega), show q.length + i * w - q.length = i * w by omega, show q.length + i * w + w - q.length = i * w + w by omega]
    simp
def fillG (z : List Int) (L : List (List Int)) (i : Nat) : List (List Int) := L.take i ++ List.replicate (L.length - i) z
section
variable {z : List Int} {L : List (List Int)} {i w : Nat}
theorem fillG_len (hi : i ≤ L.length) : (fillG z L i).length = L.length := by simp [fillG]; omega
theorem fillG_zero : fillG z L 0 = List.replicate L.length z := by simp [fillG]
theorem fillG_all : fillG z L L.length = L := by simp [fillG]
theorem fillG_set (hi : i < L.length) : (fillG z L i).set i (L.getD i []) = fillG z L (i + 1) := by
  unfold fillG
  rw [List.set_append_right _ _ (by rw [List.length_take]; omega)]
  have e1 : L.length - i = (L.length - (i + 1)) + 1 := by omega
  have e2 : i - (L.take i).length = 0 := by rw [List.length_take]; exact Nat.sub_eq_zero_of_le (by omega)
  rw [e1, e2, List.replicate_succ, List.set_cons_zero, List.take_succ_eq_append_getElem hi]
  simp only [List.getD_eq_getElem?_getD, List.getElem?_eq_getElem hi, Option.getD_some, List.append_assoc, List.singleton_append]
theorem fillG_wid (hz : z.length = w) (hL : Wid w L) : Wid w (fillG z L i) := by
  intro q hq
  rcases List.mem_append.1 hq with hq | hq
  · exact hL q (List.mem_of_mem_take hq)
  · rw [(List.mem_replicate.1 hq).2, hz]
end
theorem zrep_cel {k : IntKind} {z : List Int} : ∀ n, zrep n (cel k z) = cel k (List.replicate n z).flatten
  | 0 => rfl
  | n + 1 => by rw [zrep, zrep_cel n, List.replicate_succ, List.flatten_cons, ← cel_app]
theorem wid_of {w : Nat} {L : List (List Int)} (h : ∀ i, i < L.length → (L.getD i []).length = w) : Wid w L := by
  intro q hq
  obtain ⟨i, hi, rfl⟩ := List.mem_iff_getElem.1 hq
  have := h i hi
  rw [List.getD_eq_getElem?_getD, List.getElem?_eq_getElem hi] at this
  exact this
theorem Els.widL {k : IntKind} {w : Nat} {h : AH} {v : Value} {L : List (List Int)} (e : Els k w h v L) : Wid w L := wid_of fun _ hi => e.wid hi

/-- Elements of one's own, in one block within a range. -/
def InE (k : IntKind) (w a b : Nat) (h : AH) (v : Value) (L : List (List Int)) : Prop :=
  (v = .slice none 0 0 ∧ L = []) ∨ ∃ n e full, (a ≤ n ∧ n < b) ∧ v = .slice (some ⟨n, 0, none⟩) L.length w ∧ h.get n = some ⟨cel k L.flatten, e, false, full⟩ ∧ Wid w L
section
variable {k : IntKind} {w a b c d : Nat} {h h' : AH} {v : Value} {L : List (List Int)}
theorem InE.rd (o : InE k w a b h v L) : Els k w h v L := by
  rcases o with ⟨rfl, rfl⟩ | ⟨n, e, full, h1, rfl, h2, h3⟩
  · exact .inl ⟨rfl, 0, by omega, rfl⟩
  · refine .inr ⟨n, 0, _, rfl, h2, fun i hi => ?_⟩
    have := mul_row (w := w) hi
    simp only [cel_len, flat_len h3, Nat.zero_add, cel_drop, cel_take, flat_get h3 hi]
    exact ⟨by omega, trivial⟩
theorem InE.pre (o : InE k w a b h v L) (p : h <+: h') : InE k w a b h' v L := by
  rcases o with ⟨rfl, rfl⟩ | ⟨n, e, full, h1, rfl, h2, h3⟩
  · exact .inl ⟨rfl, rfl⟩
  · exact .inr ⟨n, e, full, h1, rfl, pre_get p h2, h3⟩
theorem InE.only (o : InE k w a b h v L) (u : OnlyR c d h h') (hd : b ≤ c ∨ d ≤ a) : InE k w a b h' v L := by
  rcases o with ⟨rfl, rfl⟩ | ⟨n, e, full, h1, rfl, h2, h3⟩
  · exact .inl ⟨rfl, rfl⟩
  · exact .inr ⟨n, e, full, h1, rfl, u.get' h2 (by omega), h3⟩
end
/-- Bytes. -/
def Byt (w : Nat) (L : List (List Int)) : Prop := ∀ i, i < L.length → ∀ j, j < w → 0 ≤ (L.getD i []).getD j 0 ∧ (L.getD i []).getD j 0 ≤ 255
structure Sch where
  p : Int
  n : Int
  m : Int
  k : Int
  ps : List (List Int)
def schV (x : Sch) (v : Value) : Value := .agg #[I64 x.p, I64 x.n, I64 x.m, I64 x.k, v]
def Prods (h : AH) (v : Value) (L : List (List Int)) : Prop := Els .u8 27 h v L ∧ Byt 27 L
def InX (a b : Nat) (h : AH) (v : Value) (L : List (List Int)) : Prop := InE .u8 27 a b h v L ∧ Byt 27 L
section
variable {a b c d : Nat} {h h' : AH} {v : Value} {L : List (List Int)}
theorem Prods.pre (o : Prods h v L) (p : h <+: h') : Prods h' v L := ⟨o.1.pre p, o.2⟩
theorem Prods.one (o : Prods h v L) : isOne v = true := o.1.one
theorem InX.rd (o : InX a b h v L) : Prods h v L := ⟨o.1.rd, o.2⟩
theorem InX.pre (o : InX a b h v L) (p : h <+: h') : InX a b h' v L := ⟨o.1.pre p, o.2⟩
theorem InX.only (o : InX a b h v L) (u : OnlyR c d h h') (hd : b ≤ c ∨ d ≤ a) : InX a b h' v L := ⟨o.1.only u hd, o.2⟩
end
def SmallX (L : List (List Int)) : Prop := (L.length : Int) ≤ 1048576
def cntX (L : List (List Int)) : Int := (L.length : Int) * 27
theorem cntX_le {L : List (List Int)} (h : SmallX L) : 0 ≤ cntX L ∧ cntX L ≤ 28311552 := by unfold SmallX at h; unfold cntX; omega

theorem l_toProductS {v : Value} {L : List (List Int)} {h : AH} {Q : Value → AH → Prop} (hv : Prods h v L) (hl : SmallX L)
    (hQ : ∀ v' h', h <+: h' → InX h.length h'.length h' v' L → Q v' h') : WF S 101 [v] h Q := by
  refine WF_fn (fn := c101) rfl rfl ?_
  unfold c101
  obtain ⟨he, hby⟩ := hv
  have hw := he.widL
  unfold SmallX at hl
  try simp (maxSteps := 3000000) (disch := first | omega | (simp only [len_new, len_put, len_kill]; omega)) only [↓xpre, xpost, ↓reduceIte, Nat.reduceEqDiff, Nat.reduceAdd, Nat.reduceSub, Nat.reduceLeDiff, Nat.zero_add, Nat.sub_zero, he.len, zeros27]
  refine ⟨by omega, ?_⟩
  rw [Int.toNat_natCast, zrep_cel]
  generalize hH : AH.new h _ = H
  obtain ⟨hb0, p0, n0⟩ := new_facts hH
  refine WC_loop_inv (fun m f K1 => ∃ (i : Nat), m = L.length - i ∧ i ≤ L.length ∧ f 0 = v ∧ f 3 = .slice (some ⟨h.length, 0, none⟩) L.length 27 ∧ f 4 = I64 i ∧ (h <+: K1) ∧ (OwnB K1 h.length (cel .u8 (fillG (List.replicate 27 0) L i).flatten) true)) ?_ (L.length - 0) _ _ ⟨0, rfl, by omega, (by first | rfl | (simp [upd_apply]; done)), (by first | rfl | (simp [upd_apply]; done)), (by first | rfl | (simp [upd_apply]; done)), p0, ⟨_, by rw [fillG_zero]; exact hb0⟩⟩
  rintro m f K1 ⟨i, rfl, hi, f0, f3, f4, pp, hb⟩
  have he1 := he.pre pp
  try simp (maxSteps := 3000000) (disch := first | omega | (simp only [len_new, len_put, len_kill]; omega)) only [↓xpre, xpost, ↓reduceIte, Nat.reduceEqDiff, Nat.reduceAdd, Nat.reduceSub, Nat.reduceLeDiff, Nat.zero_add, Nat.sub_zero, f0, f3, f4, he1.len, IfW_dec]
  refine ⟨fun hlt => ?_, fun hge => ?_⟩
  · have hi' : i < L.length := by omega
    obtain ⟨n, off, hix, hrn, hr1⟩ := he1.at hi'
    have r27 := hrn 0 27 (by omega)
    rw [List.drop_zero, List.take_of_length_le (by rw [he1.wid hi']; exact Nat.le_refl _), Nat.add_zero] at r27
    try simp (maxSteps := 3000000) (disch := first | omega | (simp only [len_new, len_put, len_kill]; omega)) only [↓xpre, xpost, ↓reduceIte, Nat.reduceEqDiff, Nat.reduceAdd, Nat.reduceSub, Nat.reduceLeDiff, Nat.zero_add, Nat.sub_zero, f0, f3, f4, hix, r27]
    refine l_toProduct (he1.wid hi') fun h2 p2 => ?_
    have wf := fillG_wid (z := List.replicate 27 0) (i := i) (w := 27) (by simp) hw
    have fl := fillG_len (z := List.replicate 27 0) (L := L) (i := i) (by omega)
    have ffl := flat_len wf
    rw [fl] at ffl
    have hrow := mul_row (w := 27) hi'
    obtain ⟨e, hb⟩ := hb
    have hb2 := pre_get p2 hb
    have lt2 := get_lt hb2
    have ixd : ixsV 27 (.slice (some ⟨h.length, 0, none⟩) L.length 27) (I64 i) = some (.pointer (some ⟨h.length, i * 27, none⟩)) := by
      rw [ixsV_some, if_pos (by omega)]
      simp
    have sp : splice (cel .u8 (fillG (List.replicate 27 0) L i).flatten) (i * 27) (cel .u8 (L.getD i [])) = cel .u8 (fillG (List.replicate 27 0) L (i + 1)).flatten := by
      rw [cel_splice, he1.wid hi', flat_set wf (by omega), fillG_set hi']
    try simp (maxSteps := 3000000) (disch := first | omega | (simp only [len_new, len_put, len_kill]; omega)) only [↓xpre, xpost, ↓reduceIte, Nat.reduceEqDiff, Nat.reduceAdd, Nat.reduceSub, Nat.reduceLeDiff, Nat.zero_add, Nat.sub_zero, f0, f3, f4, aggV, cel_all, cel_len, he1.wid hi', ixd, wr_of hb2, sp, ffl]
    refine ⟨by omega, ?_⟩
    try simp (maxSteps := 3000000) (disch := first | omega | (simp only [len_new, len_put, len_kill]; omega)) only [↓xpre, xpost, ↓reduceIte, Nat.reduceEqDiff, Nat.reduceAdd, Nat.reduceSub, Nat.reduceLeDiff, Nat.zero_add, Nat.sub_zero, f0, f3, f4, wrap64_in]
    refine InvQ_go (L.length - (i + 1)) (by omega) ⟨(i + 1), rfl, by omega, (by first | rfl | exact f0 | (simp only [upd_apply]; rfl) | (show I64 _ = _; congr 1; omega)), (by first | rfl | exact f3 | (simp only [upd_apply]; rfl) | (show I64 _ = _; congr 1; omega)), (by first | rfl | exact f4 | (simp only [upd_apply]; rfl) | (show I64 _ = _; congr 1; omega)), (pre_put (pp.trans p2) (Nat.le_refl _)), ⟨_, get_put_same lt2⟩⟩
  · have ei : i = L.length := by omega
    subst ei
    obtain ⟨e, hb⟩ := hb
    rw [fillG_all] at hb
    have lt := get_lt hb
    try simp (maxSteps := 3000000) (disch := first | omega | (simp only [len_new, len_put, len_kill]; omega)) only [↓xpre, xpost, ↓reduceIte, Nat.reduceEqDiff, Nat.reduceAdd, Nat.reduceSub, Nat.reduceLeDiff, Nat.zero_add, Nat.sub_zero, f0, f3, f4]
    exact hQ _ _ pp ⟨.inr ⟨h.length, e, true, ⟨Nat.le_refl _, lt⟩, rfl, hb, hw⟩, hby⟩
end Go.Proofs.Ytilpnbejpndgpaa.X

/- Schemes: sizes, copies, comparisons, marks. -/
set_option linter.unusedVariables false
set_option linter.unusedSimpArgs false
set_option maxRecDepth 20000
set_option maxHeartbeats 4000000
namespace Go.Proofs.Ytilpnbejpndgpaa.X
open Go Go.RowKit

theorem l_szProductS {v : Value} {L : List (List Int)} {n : Int} {h : AH} {Q : Value → AH → Prop} (hv : Prods h v L) (h0 : 0 ≤ n ∧ n ≤ 1048576) (hl : (L.length : Int) ≤ 9223372036854775807)
    (hQ : ∀ m : Int, m ≤ n → (0 ≤ m → SmallX L) → Q (I64 m) h) : WF S 97 [v, I64 n] h Q := by
  refine WF_fn (fn := c97) rfl rfl ?_
  unfold c97
  try simp (maxSteps := 3000000) (disch := first | omega | (simp only [len_new, len_put, len_kill]; omega)) only [↓xpre, xpost, ↓reduceIte, Nat.reduceEqDiff, Nat.reduceAdd, Nat.reduceSub, Nat.reduceLeDiff, Nat.zero_add, Nat.sub_zero, hv.1.len, wrap64_in]
  by_cases h1 : n - ↑L.length < 0
  · try simp (maxSteps := 3000000) (disch := first | omega | (simp only [len_new, len_put, len_kill]; omega)) only [↓xpre, xpost, ↓reduceIte, Nat.reduceEqDiff, Nat.reduceAdd, Nat.reduceSub, Nat.reduceLeDiff, Nat.zero_add, Nat.sub_zero, h1]
    exact hQ _ (by omega) (by omega)
  · try simp (maxSteps := 3000000) (disch := first | omega | (simp only [len_new, len_put, len_kill]; omega)) only [↓xpre, xpost, ↓reduceIte, Nat.reduceEqDiff, Nat.reduceAdd, Nat.reduceSub, Nat.reduceLeDiff, Nat.zero_add, Nat.sub_zero, h1]
    exact hQ _ (by omega) (fun _ => by unfold SmallX; omega)
theorem gsz_X {v : Value} {x : Sch} {n : Int} {h : AH} {Q : Value → AH → Prop} (hv : Prods h v x.ps) (h0 : 0 ≤ n ∧ n ≤ 1048576) (hl : (x.ps.length : Int) ≤ 9223372036854775807)
    (hQ : ∀ (m : Int) h', h <+: h' → m ≤ n → (0 ≤ m → SmallX x.ps) → Q (I64 m) h') : WF S 49 [schV x v, I64 n] h Q := by
  refine WF_fn (fn := c49) rfl rfl ?_
  unfold c49
  try simp (maxSteps := 3000000) (disch := first | omega | (simp only [len_new, len_put, len_kill]; omega)) only [↓xpre, xpost, ↓reduceIte, Nat.reduceEqDiff, Nat.reduceAdd, Nat.reduceSub, Nat.reduceLeDiff, Nat.zero_add, Nat.sub_zero, schV, hv.one]
  refine l_szProductS (hv.pre (pre_new (List.prefix_refl _))) h0 hl fun m h1 h2 => ?_
  try simp (maxSteps := 3000000) (disch := first | omega | (simp only [len_new, len_put, len_kill]; omega)) only [↓xpre, xpost, ↓reduceIte, Nat.reduceEqDiff, Nat.reduceAdd, Nat.reduceSub, Nat.reduceLeDiff, Nat.zero_add, Nat.sub_zero, IfW_dec]
  exact ⟨fun hm => hQ _ _ (pre_new (List.prefix_refl _)) (by omega) (by omega), fun hm => hQ _ _ (pre_new (List.prefix_refl _)) h1 h2⟩
theorem InX.put_ne {a b n : Nat} {h : AH} {v : Value} {L : List (List Int)} {c : Blk} (o : InX a b h v L) (hn : n < a) : InX a b (h.put n c) v L :=
  ⟨o.1.only (c := n) (d := n + 1) ⟨len_put, fun m hm => by unfold AH.put; rw [List.getElem?_set_ne (by omega)]⟩ (by omega), o.2⟩
theorem InX.wide {a b c d : Nat} {h : AH} {v : Value} {L : List (List Int)} (o : InX a b h v L) (h1 : c ≤ a) (h2 : b ≤ d) : InX c d h v L := by
  refine ⟨?_, o.2⟩
  rcases o.1 with q1 | ⟨n, e, full, r1, r2, r3, r4⟩
  · exact .inl q1
  · exact .inr ⟨n, e, full, by omega, r2, r3, r4⟩
theorem gto_X {v : Value} {x : Sch} {h : AH} {Q : Value → AH → Prop} (hv : Prods h v x.ps) (hl : SmallX x.ps)
    (hQ : ∀ v' h', h <+: h' → InX h.length h'.length h' v' x.ps → Q (schV x v') h') : WF S 51 [schV x v] h Q := by
  refine WF_fn (fn := c51) rfl rfl ?_
  unfold c51
  try simp (maxSteps := 3000000) (disch := first | omega | (simp only [len_new, len_put, len_kill]; omega)) only [↓xpre, xpost, ↓reduceIte, Nat.reduceEqDiff, Nat.reduceAdd, Nat.reduceSub, Nat.reduceLeDiff, Nat.zero_add, Nat.sub_zero, schV, hv.one]
  refine l_toProductS (hv.pre ?_) hl fun v' h' hp o => ?_
  · exact pre_new (pre_new (pre_new (List.prefix_refl _)))
  generalize hH1 : AH.new h _ = H1 at hp o ⊢
  obtain ⟨hb1, p1, n1⟩ := new_facts hH1
  generalize hH2 : AH.new H1 _ = H2 at hp o ⊢
  obtain ⟨hb2, p2, n2⟩ := new_facts hH2
  generalize hH3 : AH.new H2 _ = H3 at hp o ⊢
  obtain ⟨hb3, p3, n3⟩ := new_facts hH3
  have hb2 := pre_get hp (pre_get p3 hb2)
  have hb3 := pre_get hp hb3
  have nl := pre_len hp
  have hv' := o.rd
  try simp (maxSteps := 3000000) (disch := first | omega | (simp only [len_new, len_put, len_kill]; omega)) only [↓xpre, xpost, ↓reduceIte, Nat.reduceEqDiff, Nat.reduceAdd, Nat.reduceSub, Nat.reduceLeDiff, Nat.zero_add, Nat.sub_zero, hv'.one, hv'.1.cells, wr_of hb3, wr_of hb2]
  refine hQ _ _ (pre_put (pre_put (((p1.trans p2).trans p3).trans hp) ?_) ?_) ?_
  all_goals first | omega | skip
  · refine ((o.put_ne ?_).put_ne ?_).wide ?_ ?_
    all_goals first | omega | (simp only [len_put]; omega)

theorem l_eqForm {q : List Int} {h : AH} {Q : Value → AH → Prop} (hq : q.length = 9) (hQ : ∀ h', h <+: h' → Q (.bool true) h') : WF S 155 [aggV .u8 q, aggV .u8 q] h Q := by
  refine WF_fn (fn := c155) rfl rfl ?_
  unfold c155
  try simp (maxSteps := 3000000) (disch := first | omega | (simp only [len_new, len_put, len_kill]; omega)) only [↓xpre, xpost, ↓reduceIte, Nat.reduceEqDiff, Nat.reduceAdd, Nat.reduceSub, Nat.reduceLeDiff, Nat.zero_add, Nat.sub_zero, aggV, cel_all]
  generalize hH1 : AH.new h _ = H1
  obtain ⟨hb1, p1, n1⟩ := new_facts hH1
  generalize hH2 : AH.new H1 _ = H2
  obtain ⟨hb2, p2, n2⟩ := new_facts hH2
  have hb1 := pre_get p2 hb1
  refine WC_loop_inv (fun m f K1 => ∃ (i : Nat), m = 9 - i ∧ i ≤ 9 ∧ f 2 = .pointer (some ⟨h.length, 0, none⟩) ∧ f 3 = .pointer (some ⟨H1.length, 0, none⟩) ∧ f 5 = I64 i ∧ (K1 = H2)) ?_ (9 - 0) _ _ ⟨0, rfl, by omega, (by first | rfl | (simp [upd_apply]; done)), (by first | rfl | (simp [upd_apply]; done)), (by first | rfl | (simp [upd_apply]; done)), rfl⟩
  rintro m f K1 ⟨i, rfl, hi, f2, f3, f5, hK⟩
  subst hK
  try simp (maxSteps := 3000000) (disch := first | omega | (simp only [len_new, len_put, len_kill]; omega)) only [↓xpre, xpost, ↓reduceIte, Nat.reduceEqDiff, Nat.reduceAdd, Nat.reduceSub, Nat.reduceLeDiff, Nat.zero_add, Nat.sub_zero, f2, f3, f5, IfW_dec]
  refine ⟨fun hlt => ?_, fun hge => ?_⟩
  · have g1 := cel_get (k := .u8) (q := q) (j := i) (by omega)
    try simp (maxSteps := 3000000) (disch := first | omega | (simp only [len_new, len_put, len_kill]; omega)) only [↓xpre, xpost, ↓reduceIte, Nat.reduceEqDiff, Nat.reduceAdd, Nat.reduceSub, Nat.reduceLeDiff, Nat.zero_add, Nat.sub_zero, f2, f3, f5, ↓WX_ixa, ixaV_ptr, Int.toNat_natCast, Nat.mul_one, rd1_of hb1, rd1_of hb2, g1, ne_eq, not_true_eq_false, wrap64_in]
    refine InvQ_go (9 - (i + 1)) (by omega) ⟨(i + 1), rfl, by omega, (by first | rfl | exact f2 | (simp only [upd_apply]; rfl) | (show I64 _ = _; congr 1; omega)), (by first | rfl | exact f3 | (simp only [upd_apply]; rfl) | (show I64 _ = _; congr 1; omega)), (by first | rfl | exact f5 | (simp only [upd_apply]; rfl) | (show I64 _ = _; congr 1; omega)), rfl⟩
  · try simp (maxSteps := 3000000) (disch := first | omega | (simp only [len_new, len_put, len_kill]; omega)) only [↓xpre, xpost, ↓reduceIte, Nat.reduceEqDiff, Nat.reduceAdd, Nat.reduceSub, Nat.reduceLeDiff, Nat.zero_add, Nat.sub_zero, f2, f3, f5]
    exact hQ _ (p1.trans p2)
theorem l_eqProduct {q : List Int} {h : AH} {Q : Value → AH → Prop} (hq : q.length = 27) (hQ : ∀ h', h <+: h' → Q (.bool true) h') : WF S 139 [aggV .u8 q, aggV .u8 q] h Q := by
  refine WF_fn (fn := c139) rfl rfl ?_
  unfold c139
  try simp (maxSteps := 3000000) (disch := first | omega | (simp only [len_new, len_put, len_kill]; omega)) only [↓xpre, xpost, ↓reduceIte, Nat.reduceEqDiff, Nat.reduceAdd, Nat.reduceSub, Nat.reduceLeDiff, Nat.zero_add, Nat.sub_zero, aggV, cel_all]
  generalize hH1 : AH.new h _ = H1
  obtain ⟨hb1, p1, n1⟩ := new_facts hH1
  generalize hH2 : AH.new H1 _ = H2
  obtain ⟨hb2, p2, n2⟩ := new_facts hH2
  have hb1 := pre_get p2 hb1
  have a1 : (q.take 9).length = 9 := by simp; omega
  have a2 : ((q.drop 9).take 9).length = 9 := by simp; omega
  have a3 : ((q.drop 18).take 9).length = 9 := by simp; omega
  try simp (maxSteps := 3000000) (disch := first | omega | (simp only [len_new, len_put, len_kill]; omega)) only [↓xpre, xpost, ↓reduceIte, Nat.reduceEqDiff, Nat.reduceAdd, Nat.reduceSub, Nat.reduceLeDiff, Nat.zero_add, Nat.sub_zero, rdn_of hb1, rdn_of hb2, cel_len, hq, cel_take, cel_drop]
  refine l_eqForm a1 fun H4 p4 => ?_
  have hb1 := pre_get p4 hb1
  have hb2 := pre_get p4 hb2
  try simp (maxSteps := 3000000) (disch := first | omega | (simp only [len_new, len_put, len_kill]; omega)) only [↓xpre, xpost, ↓reduceIte, Nat.reduceEqDiff, Nat.reduceAdd, Nat.reduceSub, Nat.reduceLeDiff, Nat.zero_add, Nat.sub_zero, rdn_of hb1, rdn_of hb2, cel_len, hq, cel_take, cel_drop]
  refine l_eqForm a2 fun H5 p5 => ?_
  have hb1 := pre_get p5 hb1
  have hb2 := pre_get p5 hb2
  try simp (maxSteps := 3000000) (disch := first | omega | (simp only [len_new, len_put, len_kill]; omega)) only [↓xpre, xpost, ↓reduceIte, Nat.reduceEqDiff, Nat.reduceAdd, Nat.reduceSub, Nat.reduceLeDiff, Nat.zero_add, Nat.sub_zero, rdn_of hb1, rdn_of hb2, cel_len, hq, cel_take, cel_drop]
  refine l_eqForm a3 fun H6 p6 => ?_
  try simp (maxSteps := 3000000) (disch := first | omega | (simp only [len_new, len_put, len_kill]; omega)) only [↓xpre, xpost, ↓reduceIte, Nat.reduceEqDiff, Nat.reduceAdd, Nat.reduceSub, Nat.reduceLeDiff, Nat.zero_add, Nat.sub_zero]
  exact hQ _ ((p1.trans p2).trans (p4.trans (p5.trans p6)))
theorem l_eqProductS {v v' : Value} {L : List (List Int)} {h : AH} {Q : Value → AH → Prop} (hv : Prods h v L) (hv' : Prods h v' L) (hl : SmallX L)
    (hQ : ∀ h', h <+: h' → Q (.bool true) h') : WF S 106 [v, v'] h Q := by
  refine WF_fn (fn := c106) rfl rfl ?_
  unfold c106
  unfold SmallX at hl
  try simp (maxSteps := 3000000) (disch := first | omega | (simp only [len_new, len_put, len_kill]; omega)) only [↓xpre, xpost, ↓reduceIte, Nat.reduceEqDiff, Nat.reduceAdd, Nat.reduceSub, Nat.reduceLeDiff, Nat.zero_add, Nat.sub_zero, hv.1.len, hv'.1.len, ne_eq, not_true_eq_false]
  refine WC_loop_inv (fun m f K1 => ∃ (i : Nat), m = L.length - i ∧ i ≤ L.length ∧ f 0 = v ∧ f 1 = v' ∧ f 5 = I64 i ∧ (h <+: K1)) ?_ (L.length - 0) _ _ ⟨0, rfl, by omega, (by first | rfl | (simp [upd_apply]; done)), (by first | rfl | (simp [upd_apply]; done)), (by first | rfl | (simp [upd_apply]; done)), List.prefix_refl _⟩
  rintro m f K1 ⟨i, rfl, hi, f0, f1, f5, pp⟩
  have e1 := hv.1.pre pp
  have e2 := hv'.1.pre pp
  try simp (maxSteps := 3000000) (disch := first | omega | (simp only [len_new, len_put, len_kill]; omega)) only [↓xpre, xpost, ↓reduceIte, Nat.reduceEqDiff, Nat.reduceAdd, Nat.reduceSub, Nat.reduceLeDiff, Nat.zero_add, Nat.sub_zero, f0, f1, f5, e1.len, IfW_dec]
  refine ⟨fun hlt => ?_, fun hge => ?_⟩
  · have hi' : i < L.length := by omega
    obtain ⟨n, off, hix, hrn, hr1⟩ := e1.at hi'
    obtain ⟨n', off', hix', hrn', hr1'⟩ := e2.at hi'
    have r27 := hrn 0 27 (by omega)
    rw [List.drop_zero, List.take_of_length_le (by rw [e1.wid hi']; exact Nat.le_refl _), Nat.add_zero] at r27
    have r27' := hrn' 0 27 (by omega)
    rw [List.drop_zero, List.take_of_length_le (by rw [e1.wid hi']; exact Nat.le_refl _), Nat.add_zero] at r27'
    try simp (maxSteps := 3000000) (disch := first | omega | (simp only [len_new, len_put, len_kill]; omega)) only [↓xpre, xpost, ↓reduceIte, Nat.reduceEqDiff, Nat.reduceAdd, Nat.reduceSub, Nat.reduceLeDiff, Nat.zero_add, Nat.sub_zero, f0, f1, f5, hix, r27, hix', r27']
    refine l_eqProduct (e1.wid hi') fun h2 p2 => ?_
    try simp (maxSteps := 3000000) (disch := first | omega | (simp only [len_new, len_put, len_kill]; omega)) only [↓xpre, xpost, ↓reduceIte, Nat.reduceEqDiff, Nat.reduceAdd, Nat.reduceSub, Nat.reduceLeDiff, Nat.zero_add, Nat.sub_zero, f0, f1, f5, wrap64_in]
    refine InvQ_go (L.length - (i + 1)) (by omega) ⟨(i + 1), rfl, by omega, (by first | rfl | exact f0 | (simp only [upd_apply]; rfl) | (show I64 _ = _; congr 1; omega)), (by first | rfl | exact f1 | (simp only [upd_apply]; rfl) | (show I64 _ = _; congr 1; omega)), (by first | rfl | exact f5 | (simp only [upd_apply]; rfl) | (show I64 _ = _; congr 1; omega)), (pp.trans p2)⟩
  · try simp (maxSteps := 3000000) (disch := first | omega | (simp only [len_new, len_put, len_kill]; omega)) only [↓xpre, xpost, ↓reduceIte, Nat.reduceEqDiff, Nat.reduceAdd, Nat.reduceSub, Nat.reduceLeDiff, Nat.zero_add, Nat.sub_zero, f0, f1, f5]
    exact hQ _ pp
theorem geq_X {v v' : Value} {x : Sch} {h : AH} {Q : Value → AH → Prop} (hv : Prods h v x.ps) (hv' : Prods h v' x.ps) (hl : SmallX x.ps)
    (hQ : ∀ h', h <+: h' → Q (.bool true) h') : WF S 53 [schV x v, schV x v'] h Q := by
  refine WF_fn (fn := c53) rfl rfl ?_
  unfold c53
  try simp (maxSteps := 3000000) (disch := first | omega | (simp only [len_new, len_put, len_kill]; omega)) only [↓xpre, xpost, ↓reduceIte, Nat.reduceEqDiff, Nat.reduceAdd, Nat.reduceSub, Nat.reduceLeDiff, Nat.zero_add, Nat.sub_zero, schV, hv.one, hv'.one]
  generalize hH1 : AH.new h _ = H1
  obtain ⟨hb1, p1, n1⟩ := new_facts hH1
  generalize hH2 : AH.new H1 _ = H2
  obtain ⟨hb2, p2, n2⟩ := new_facts hH2
  have hb1 := pre_get p2 hb1
  try simp (maxSteps := 3000000) (disch := first | omega | (simp only [len_new, len_put, len_kill]; omega)) only [↓xpre, xpost, ↓reduceIte, Nat.reduceEqDiff, Nat.reduceAdd, Nat.reduceSub, Nat.reduceLeDiff, Nat.zero_add, Nat.sub_zero, rd1_of hb1, rd1_of hb2, ne_eq, not_true_eq_false]
  refine l_eqProductS (hv.pre (p1.trans p2)) (hv'.pre (p1.trans p2)) hl fun H3 p3 => ?_
  try simp (maxSteps := 3000000) (disch := first | omega | (simp only [len_new, len_put, len_kill]; omega)) only [↓xpre, xpost, ↓reduceIte, Nat.reduceEqDiff, Nat.reduceAdd, Nat.reduceSub, Nat.reduceLeDiff, Nat.zero_add, Nat.sub_zero]
  exact hQ _ ((p1.trans p2).trans p3)

/-- Marks: only blocks of one's own change. -/
theorem l_markProductS {v : Value} {L : List (List Int)} {k : Int} {a b : Nat} {h : AH} {Q : Value → AH → Prop} (o : InX a b h v L) (hl : SmallX L) (hk : 0 ≤ k ∧ k ≤ 549755813888)
    (hQ : ∀ h', OnlyR a b h h' → Q (I64 (k + cntX L)) h') : WF S 107 [v, I64 k] h Q := by
  refine WF_fn (fn := c107) rfl rfl ?_
  unfold c107
  unfold SmallX at hl
  obtain ⟨o, -⟩ := o
  rcases o with ⟨rfl, rfl⟩ | ⟨n, e, full, hab, rfl, hg, hw⟩
  · try simp (maxSteps := 3000000) (disch := first | omega | (simp only [len_new, len_put, len_kill]; omega)) only [↓xpre, xpost, ↓reduceIte, Nat.reduceEqDiff, Nat.reduceAdd, Nat.reduceSub, Nat.reduceLeDiff, Nat.zero_add, Nat.sub_zero]
    refine WC_loop ?_
    try simp (maxSteps := 3000000) (disch := first | omega | (simp only [len_new, len_put, len_kill]; omega)) only [↓xpre, xpost, ↓reduceIte, Nat.reduceEqDiff, Nat.reduceAdd, Nat.reduceSub, Nat.reduceLeDiff, Nat.zero_add, Nat.sub_zero, IfW_dec]
    refine ⟨fun hlt => by simp at hlt, fun _ => ?_⟩
    have := hQ h (OnlyR.refl _ _ _)
    simpa [cntX] using this
  · try simp (maxSteps := 3000000) (disch := first | omega | (simp only [len_new, len_put, len_kill]; omega)) only [↓xpre, xpost, ↓reduceIte, Nat.reduceEqDiff, Nat.reduceAdd, Nat.reduceSub, Nat.reduceLeDiff, Nat.zero_add, Nat.sub_zero]
    have c0 : (cel .u8 L.flatten).length = L.length * 27 := by rw [cel_len, flat_len hw]
    refine WC_loop_inv (fun m f K1 => ∃ (i : Nat) (c : List Value), m = L.length - i ∧ i ≤ L.length ∧ f 0 = .slice (some ⟨n, 0, none⟩) L.length 27 ∧ f 1 = I64 (k + ((i * 27 : Nat) : Int)) ∧ f 5 = I64 i ∧ (c.length = L.length * 27) ∧ (K1.get n = some ⟨c, e, false, full⟩) ∧ (OnlyR a b h K1)) ?_ (L.length - 0) _ _ ⟨0, cel .u8 L.flatten, rfl, by omega, (by first | rfl | (simp [upd_apply]; done)), (by first | rfl | (simp [upd_apply]; done)), (by first | rfl | (simp [upd_apply]; done)), c0, hg, OnlyR.refl _ _ _⟩
    rintro m f K1 ⟨i, c, rfl, hi, f0, f1, f5, hc, hgc, wc⟩
    try simp (maxSteps := 3000000) (disch := first | omega | (simp only [len_new, len_put, len_kill]; omega)) only [↓xpre, xpost, ↓reduceIte, Nat.reduceEqDiff, Nat.reduceAdd, Nat.reduceSub, Nat.reduceLeDiff, Nat.zero_add, Nat.sub_zero, f0, f1, f5, IfW_dec]
    refine ⟨fun hlt => ?_, fun hge => ?_⟩
    case refine_2 =>
      have ei : i = L.length := by omega
      subst ei
      try simp (maxSteps := 3000000) (disch := first | omega | (simp only [len_new, len_put, len_kill]; omega)) only [↓xpre, xpost, ↓reduceIte, Nat.reduceEqDiff, Nat.reduceAdd, Nat.reduceSub, Nat.reduceLeDiff, Nat.zero_add, Nat.sub_zero, f0, f1, f5]
      have := hQ _ wc
      unfold cntX at this
      have e1 : ((L.length * 27 : Nat) : Int) = (L.length : Int) * 27 := by omega
      rw [e1]
      exact this
    have hi' : i < L.length := by omega
    have hrow := mul_row (w := 27) hi'
    have ixd : ixsV 27 (.slice (some ⟨n, 0, none⟩) L.length 27) (I64 i) = some (.pointer (some ⟨n, i * 27, none⟩)) := by
      rw [ixsV_some, if_pos (by omega)]
      simp
    try simp (maxSteps := 3000000) (disch := first | omega | (simp only [len_new, len_put, len_kill]; omega)) only [↓xpre, xpost, ↓reduceIte, Nat.reduceEqDiff, Nat.reduceAdd, Nat.reduceSub, Nat.reduceLeDiff, Nat.zero_add, Nat.sub_zero, f0, f1, f5]
    refine WC_loop_inv (fun m f K2 => ∃ (ja : Nat) (ca : List Value), m = 9 - ja ∧ ja ≤ 9 ∧ f 0 = .slice (some ⟨n, 0, none⟩) L.length 27 ∧ f 1 = I64 (k + ((i * 27 + 0 + ja : Nat) : Int)) ∧ f 5 = I64 i ∧ f 6 = I64 ja ∧ (ca.length = L.length * 27) ∧ (K2.get n = some ⟨ca, e, false, full⟩) ∧ (OnlyR a b h K2)) ?_ (9 - 0) _ _ ⟨0, c, rfl, by omega, (by first | rfl | exact f0 | (simp [upd_apply]; done)), (by first | rfl | exact f1 | (simp [upd_apply]; done)), (by first | rfl | exact f5 | (simp [upd_apply]; done)), (by first | rfl | (simp [upd_apply]; done)), hc, hgc, wc⟩
    rintro m f K2 ⟨ja, ca, rfl, hja, f0, f1, f5, f6, hca, hga, wa⟩
    try simp (maxSteps := 3000000) (disch := first | omega | (simp only [len_new, len_put, len_kill]; omega)) only [↓xpre, xpost, ↓reduceIte, Nat.reduceEqDiff, Nat.reduceAdd, Nat.reduceSub, Nat.reduceLeDiff, Nat.zero_add, Nat.sub_zero, f0, f1, f5, f6, IfW_dec]
    refine ⟨fun hlta => ?_, fun hgea => ?_⟩
    · have hja' : ja < 9 := by omega
      have lta := get_lt hga
      try simp (maxSteps := 3000000) (disch := first | omega | (simp only [len_new, len_put, len_kill]; omega)) only [↓xpre, xpost, ↓reduceIte, Nat.reduceEqDiff, Nat.reduceAdd, Nat.reduceSub, Nat.reduceLeDiff, Nat.zero_add, Nat.sub_zero, f0, f1, f5, f6, ixd, ↓WX_ixa, ixaV_ptr, Int.toNat_natCast, Nat.mul_one, wr_of hga, wrap64_in]
      refine ⟨by omega, ?_⟩
      have sla : ∀ x : Value, (splice ca (i * 27 + 0 + ja) [x]).length = L.length * 27 := fun x => by rw [splice_set (by omega), List.length_set, hca]
      refine InvQ_go (9 - (ja + 1)) (by omega) ⟨(ja + 1), _, rfl, by omega, (by first | rfl | exact f0 | (simp only [upd_apply]; rfl) | (show I64 _ = _; congr 1; omega)), (by show I64 _ = I64 _; congr 1; omega), (by first | rfl | exact f5 | (simp only [upd_apply]; rfl) | (show I64 _ = _; congr 1; omega)), (by first | rfl | exact f6 | (simp only [upd_apply]; rfl) | (show I64 _ = _; congr 1; omega)), (sla _), (get_put_same lta), ⟨by rw [len_put]; exact wa.len, fun m hm => by unfold AH.put; rw [List.getElem?_set_ne (fun e => hm (by omega))]; exact wa.same m hm⟩⟩
    have eja : ja = 9 := by omega
    subst eja
    try simp (maxSteps := 3000000) (disch := first | omega | (simp only [len_new, len_put, len_kill]; omega)) only [↓xpre, xpost, ↓reduceIte, Nat.reduceEqDiff, Nat.reduceAdd, Nat.reduceSub, Nat.reduceLeDiff, Nat.zero_add, Nat.sub_zero, f0, f1, f5, f6]
    refine WC_loop_inv (fun m f K3 => ∃ (jb : Nat) (cb : List Value), m = 9 - jb ∧ jb ≤ 9 ∧ f 0 = .slice (some ⟨n, 0, none⟩) L.length 27 ∧ f 1 = I64 (k + ((i * 27 + 9 + jb : Nat) : Int)) ∧ f 5 = I64 i ∧ f 7 = I64 jb ∧ (cb.length = L.length * 27) ∧ (K3.get n = some ⟨cb, e, false, full⟩) ∧ (OnlyR a b h K3)) ?_ (9 - 0) _ _ ⟨0, ca, rfl, by omega, (by first | rfl | exact f0 | (simp [upd_apply]; done)), (by first | rfl | exact f1 | (simp [upd_apply]; done)), (by first | rfl | exact f5 | (simp [upd_apply]; done)), (by first | rfl | (simp [upd_apply]; done)), hca, hga, wa⟩
    rintro m f K3 ⟨jb, cb, rfl, hjb, f0, f1, f5, f7, hcb, hgb, wb⟩
    try simp (maxSteps := 3000000) (disch := first | omega | (simp only [len_new, len_put, len_kill]; omega)) only [↓xpre, xpost, ↓reduceIte, Nat.reduceEqDiff, Nat.reduceAdd, Nat.reduceSub, Nat.reduceLeDiff, Nat.zero_add, Nat.sub_zero, f0, f1, f5, f7, IfW_dec]
    refine ⟨fun hltb => ?_, fun hgeb => ?_⟩
    · have hjb' : jb < 9 := by omega
      have ltb := get_lt hgb
      try simp (maxSteps := 3000000) (disch := first | omega | (simp only [len_new, len_put, len_kill]; omega)) only [↓xpre, xpost, ↓reduceIte, Nat.reduceEqDiff, Nat.reduceAdd, Nat.reduceSub, Nat.reduceLeDiff, Nat.zero_add, Nat.sub_zero, f0, f1, f5, f7, ixd, ↓WX_ixa, ixaV_ptr, Int.toNat_natCast, Nat.mul_one, wr_of hgb, wrap64_in]
      refine ⟨by omega, ?_⟩
      have slb : ∀ x : Value, (splice cb (i * 27 + 9 + jb) [x]).length = L.length * 27 := fun x => by rw [splice_set (by omega), List.length_set, hcb]
      refine InvQ_go (9 - (jb + 1)) (by omega) ⟨(jb + 1), _, rfl, by omega, (by first | rfl | exact f0 | (simp only [upd_apply]; rfl) | (show I64 _ = _; congr 1; omega)), (by show I64 _ = I64 _; congr 1; omega), (by first | rfl | exact f5 | (simp only [upd_apply]; rfl) | (show I64 _ = _; congr 1; omega)), (by first | rfl | exact f7 | (simp only [upd_apply]; rfl) | (show I64 _ = _; congr 1; omega)), (slb _), (get_put_same ltb), ⟨by rw [len_put]; exact wb.len, fun m hm => by unfold AH.put; rw [List.getElem?_set_ne (fun e => hm (by omega))]; exact wb.same m hm⟩⟩
    have ejb : jb = 9 := by omega
    subst ejb
    try simp (maxSteps := 3000000) (disch := first | omega | (simp only [len_new, len_put, len_kill]; omega)) only [↓xpre, xpost, ↓reduceIte, Nat.reduceEqDiff, Nat.reduceAdd, Nat.reduceSub, Nat.reduceLeDiff, Nat.zero_add, Nat.sub_zero, f0, f1, f5, f7]
    refine WC_loop_inv (fun m f K4 => ∃ (jd : Nat) (cd : List Value), m = 9 - jd ∧ jd ≤ 9 ∧ f 0 = .slice (some ⟨n, 0, none⟩) L.length 27 ∧ f 1 = I64 (k + ((i * 27 + 18 + jd : Nat) : Int)) ∧ f 5 = I64 i ∧ f 8 = I64 jd ∧ (cd.length = L.length * 27) ∧ (K4.get n = some ⟨cd, e, false, full⟩) ∧ (OnlyR a b h K4)) ?_ (9 - 0) _ _ ⟨0, cb, rfl, by omega, (by first | rfl | exact f0 | (simp [upd_apply]; done)), (by first | rfl | exact f1 | (simp [upd_apply]; done)), (by first | rfl | exact f5 | (simp [upd_apply]; done)), (by first | rfl | (simp [upd_apply]; done)), hcb, hgb, wb⟩
    rintro m f K4 ⟨jd, cd, rfl, hjd, f0, f1, f5, f8, hcd, hgd, wd⟩
    try simp (maxSteps := 3000000) (disch := first | omega | (simp only [len_new, len_put, len_kill]; omega)) only [↓xpre, xpost, ↓reduceIte, Nat.reduceEqDiff, Nat.reduceAdd, Nat.reduceSub, Nat.reduceLeDiff, Nat.zero_add, Nat.sub_zero, f0, f1, f5, f8, IfW_dec]
    refine ⟨fun hltd => ?_, fun hged => ?_⟩
    · have hjd' : jd < 9 := by omega
      have ltd := get_lt hgd
      try simp (maxSteps := 3000000) (disch := first | omega | (simp only [len_new, len_put, len_kill]; omega)) only [↓xpre, xpost, ↓reduceIte, Nat.reduceEqDiff, Nat.reduceAdd, Nat.reduceSub, Nat.reduceLeDiff, Nat.zero_add, Nat.sub_zero, f0, f1, f5, f8, ixd, ↓WX_ixa, ixaV_ptr, Int.toNat_natCast, Nat.mul_one, wr_of hgd, wrap64_in]
      refine ⟨by omega, ?_⟩
      have sld : ∀ x : Value, (splice cd (i * 27 + 18 + jd) [x]).length = L.length * 27 := fun x => by rw [splice_set (by omega), List.length_set, hcd]
      refine InvQ_go (9 - (jd + 1)) (by omega) ⟨(jd + 1), _, rfl, by omega, (by first | rfl | exact f0 | (simp only [upd_apply]; rfl) | (show I64 _ = _; congr 1; omega)), (by show I64 _ = I64 _; congr 1; omega), (by first | rfl | exact f5 | (simp only [upd_apply]; rfl) | (show I64 _ = _; congr 1; omega)), (by first | rfl | exact f8 | (simp only [upd_apply]; rfl) | (show I64 _ = _; congr 1; omega)), (sld _), (get_put_same ltd), ⟨by rw [len_put]; exact wd.len, fun m hm => by unfold AH.put; rw [List.getElem?_set_ne (fun e => hm (by omega))]; exact wd.same m hm⟩⟩
    have ejd : jd = 9 := by omega
    subst ejd
    try simp (maxSteps := 3000000) (disch := first | omega | (simp only [len_new, len_put, len_kill]; omega)) only [↓xpre, xpost, ↓reduceIte, Nat.reduceEqDiff, Nat.reduceAdd, Nat.reduceSub, Nat.reduceLeDiff, Nat.zero_add, Nat.sub_zero, f0, f1, f5, f8, wrap64_in]
    refine InvQ_go (L.length - (i + 1)) (by omega) ⟨(i + 1), cd, rfl, by omega, (by first | rfl | exact f0 | (simp only [upd_apply]; rfl) | (show I64 _ = _; congr 1; omega)), (by have e1 := f1; show f 1 = _; rw [e1]; congr 2; omega), (by first | rfl | exact f5 | (simp only [upd_apply]; rfl) | (show I64 _ = _; congr 1; omega)), hcd, hgd, wd⟩
theorem gmark_X {v : Value} {x : Sch} {k : Int} {a b : Nat} {h : AH} {Q : Value → AH → Prop} (o : InX a b h v x.ps) (hl : SmallX x.ps) (hk : 0 ≤ k ∧ k ≤ 549755813888)
    (hQ : ∀ J h', h <+: J → OnlyR a b J h' → True → Q (I64 (k + cntX x.ps)) h') : WF S 54 [schV x v, I64 k] h Q := by
  refine WF_fn (fn := c54) rfl rfl ?_
  unfold c54
  try simp (maxSteps := 3000000) (disch := first | omega | (simp only [len_new, len_put, len_kill]; omega)) only [↓xpre, xpost, ↓reduceIte, Nat.reduceEqDiff, Nat.reduceAdd, Nat.reduceSub, Nat.reduceLeDiff, Nat.zero_add, Nat.sub_zero, schV, o.rd.one]
  have p1 := pre_new (b := ⟨[I64 x.p, I64 x.n, I64 x.m, I64 x.k, v], 71, false, true⟩) (List.prefix_refl h)
  refine l_markProductS (o.pre p1) hl hk fun h' w => ?_
  try simp (maxSteps := 3000000) (disch := first | omega | (simp only [len_new, len_put, len_kill]; omega)) only [↓xpre, xpost, ↓reduceIte, Nat.reduceEqDiff, Nat.reduceAdd, Nat.reduceSub, Nat.reduceLeDiff, Nat.zero_add, Nat.sub_zero]
  exact hQ _ _ p1 w trivial
end Go.Proofs.Ytilpnbejpndgpaa.X

/- Slices and flattenings of tensors. -/
set_option linter.unusedVariables false
set_option linter.unusedSimpArgs false
set_option maxRecDepth 20000
set_option maxHeartbeats 4000000
namespace Go.Proofs.Ytilpnbejpndgpaa.X
open Go Go.RowKit

theorem Keeps.trans {lo : Nat} {h h' h'' : AH} (k : Keeps lo h h') (k' : Keeps lo h' h'') : Keeps lo h h'' := ⟨Nat.le_trans k.1 k'.1, fun n b hn hb => k'.2 n b hn (k.2 n b hn hb)⟩
theorem WayF.pre {h h' : AH} {lo : Nat} {sv : Value} {l : List Int} (w : WayF h lo sv l) (p : h <+: h') : WayF h' lo sv l := by
  obtain ⟨kb, full, e, h1, h2⟩ := w
  exact ⟨kb, full, e, h1, pre_get p h2⟩
end Go.Proofs.Ytilpnbejpndgpaa.X

/- Two tensors; their sum. -/
set_option linter.unusedVariables false
set_option linter.unusedSimpArgs false
set_option maxRecDepth 20000
set_option maxHeartbeats 4000000
namespace Go.Proofs.Ytilpnbejpndgpaa.X
open Go Go.RowKit

end Go.Proofs.Ytilpnbejpndgpaa.X

/- SliceOf, both sides. -/
set_option linter.unusedVariables false
set_option linter.unusedSimpArgs false
set_option maxRecDepth 20000
set_option maxHeartbeats 4000000
namespace Go.Proofs.Ytilpnbejpndgpaa.X
open Go Go.RowKit

theorem cut_get {α : Type} {d : α} {l : List α} {a n k : Nat} (h : k < n) : ((l.drop a).take n).getD k d = l.getD (a + k) d := by
  simp [List.getD_eq_getElem?_getD, List.getElem?_take, List.getElem?_drop, h]
def sideN (t : Ten) (s : Nat) : Int := if s = 0 then t.i else if s = 1 then t.j else t.k
def slOK (t : Ten) (s a : Int) : Prop := (0 ≤ s ∧ s ≤ 2) ∧ 0 ≤ a ∧ a < sideN t s.toNat
instance {t : Ten} {s a : Int} : Decidable (slOK t s a) := by unfold slOK; infer_instance
end Go.Proofs.Ytilpnbejpndgpaa.X

/- What schemes are: forms, products. -/
set_option linter.unusedVariables false
set_option linter.unusedSimpArgs false
set_option maxRecDepth 20000
set_option maxHeartbeats 4000000
namespace Go.Proofs.Ytilpnbejpndgpaa.X
open Go Go.RowKit

theorem WG_un {S : XS} {b : Bool} {i : XI} {rest : List XI} {f : Fr} {h : AH} {Q : Fr → AH → Prop} : WG S undef b i rest f h Q = WO S rest (updo f i.d undef) h Q := rfl
theorem step_all {P : Nat → Prop} {i : Nat} (h : ∀ j, j < i → P j) (hi : P i) : ∀ j, j < i + 1 → P j := fun j hj => by
  rcases Nat.lt_succ_iff_lt_or_eq.1 hj with hj | rfl
  · exact h j hj
  · exact hi
def By (w : Nat) (q : List Int) : Prop := q.length = w ∧ ∀ j, j < w → 0 ≤ q.getD j 0 ∧ q.getD j 0 ≤ 255
def okAt (p n : Int) (q : List Int) (j : Nat) : Bool := decide (q.getD j 0 < p ∧ (n ≤ (j : Int) → q.getD j 0 = 0))
def okForm (p n : Int) (q : List Int) : Bool := (List.range 9).all (okAt p n q)
theorem okForm_t {p n : Int} {q : List Int} (h : ∀ j, j < 9 → okAt p n q j = true) : okForm p n q = true := by
  unfold okForm
  rw [List.all_eq_true]
  exact fun j hj => h j (List.mem_range.1 hj)
theorem okForm_f {p n : Int} {q : List Int} {j : Nat} (hj : j < 9) (h : okAt p n q j = false) : okForm p n q = false := by
  cases e : okForm p n q with
  | false => rfl
  | true =>
    unfold okForm at e
    rw [List.all_eq_true] at e
    rw [e j (List.mem_range.2 hj)] at h
    cases h
theorem s_l01Form {p n : Int} {q : List Int} {h : AH} {Q : Value → AH → Prop} (hq : By 9 q) (hQ : ∀ h', h <+: h' → Q (.bool (okForm p n q)) h') : WF S 150 [I64 p, aggV .u8 q, I64 n] h Q := by
  refine WF_fn (fn := c150) rfl rfl ?_
  unfold c150
  try simp (maxSteps := 3000000) (disch := first | omega | (simp only [len_new, len_put, len_kill]; omega)) only [↓xpre, xpost, ↓reduceIte, Nat.reduceEqDiff, Nat.reduceAdd, Nat.reduceSub, Nat.reduceLeDiff, Nat.zero_add, Nat.sub_zero, aggV, cel_all]
  generalize hH1 : AH.new h _ = H1
  obtain ⟨hb1, p1, n1⟩ := new_facts hH1
  refine WC_loop_inv (fun m f K1 => ∃ (i : Nat), m = 9 - i ∧ i ≤ 9 ∧ f 0 = I64 p ∧ f 2 = I64 n ∧ f 4 = .pointer (some ⟨h.length, 0, none⟩) ∧ f 7 = I64 i ∧ (K1 = H1) ∧ (∀ j, j < i → okAt p n q j = true)) ?_ (9 - 0) _ _ ⟨0, rfl, by omega, (by first | rfl | (simp [upd_apply]; done)), (by first | rfl | (simp [upd_apply]; done)), (by first | rfl | (simp [upd_apply]; done)), (by first | rfl | (simp [upd_apply]; done)), rfl, (by omega)⟩
  rintro m f K1 ⟨i, rfl, hi, f0, f2, f4, f7, hK, hj⟩
  subst hK
  try simp (maxSteps := 3000000) (disch := first | omega | (simp only [len_new, len_put, len_kill]; omega)) only [↓xpre, xpost, ↓reduceIte, Nat.reduceEqDiff, Nat.reduceAdd, Nat.reduceSub, Nat.reduceLeDiff, Nat.zero_add, Nat.sub_zero, f0, f2, f4, f7, IfW_dec]
  refine ⟨fun hlt => ?_, fun hge => ?_⟩
  · have hi' : i < 9 := by omega
    have g1 := cel_get (k := .u8) (q := q) (j := i) (by rw [hq.1]; exact hi')
    have b1 := hq.2 i hi'
    have no : okAt p n q i = false → Q (.bool false) K1 := fun e => by have := hQ _ p1; rw [okForm_f hi' e] at this; exact this
    by_cases c1 : p ≤ q.getD i 0
    · try simp (maxSteps := 3000000) (disch := first | omega | (simp only [len_new, len_put, len_kill]; omega)) only [↓xpre, xpost, ↓reduceIte, Nat.reduceEqDiff, Nat.reduceAdd, Nat.reduceSub, Nat.reduceLeDiff, Nat.zero_add, Nat.sub_zero, f0, f2, f4, f7, ↓WX_ixa, ixaV_ptr, Int.toNat_natCast, Nat.mul_one, rd1_of hb1, g1, wrap64_in, decide_eq_true c1, WG_un]
      exact no (by unfold okAt; exact decide_eq_false (by omega))
    by_cases c2 : n ≤ (i : Int)
    · by_cases c3 : q.getD i 0 = 0
      · try simp (maxSteps := 3000000) (disch := first | omega | (simp only [len_new, len_put, len_kill]; omega)) only [↓xpre, xpost, ↓reduceIte, Nat.reduceEqDiff, Nat.reduceAdd, Nat.reduceSub, Nat.reduceLeDiff, Nat.zero_add, Nat.sub_zero, f0, f2, f4, f7, ↓WX_ixa, ixaV_ptr, Int.toNat_natCast, Nat.mul_one, rd1_of hb1, g1, wrap64_in, decide_eq_false c1, decide_eq_true c2, decide_eq_false (show ¬ (q.getD i 0 ≠ 0) from fun e => e c3)]
        refine InvQ_go (9 - (i + 1)) (by omega) ⟨(i + 1), rfl, by omega, (by first | rfl | exact f0 | (simp only [upd_apply]; rfl) | (show I64 _ = _; congr 1; omega)), (by first | rfl | exact f2 | (simp only [upd_apply]; rfl) | (show I64 _ = _; congr 1; omega)), (by first | rfl | exact f4 | (simp only [upd_apply]; rfl) | (show I64 _ = _; congr 1; omega)), (by first | rfl | exact f7 | (simp only [upd_apply]; rfl) | (show I64 _ = _; congr 1; omega)), rfl, (step_all hj (by unfold okAt; exact decide_eq_true ⟨by omega, fun _ => c3⟩))⟩
      · try simp (maxSteps := 3000000) (disch := first | omega | (simp only [len_new, len_put, len_kill]; omega)) only [↓xpre, xpost, ↓reduceIte, Nat.reduceEqDiff, Nat.reduceAdd, Nat.reduceSub, Nat.reduceLeDiff, Nat.zero_add, Nat.sub_zero, f0, f2, f4, f7, ↓WX_ixa, ixaV_ptr, Int.toNat_natCast, Nat.mul_one, rd1_of hb1, g1, wrap64_in, decide_eq_false c1, decide_eq_true c2, decide_eq_true (show q.getD i 0 ≠ 0 from c3)]
        exact no (by unfold okAt; exact decide_eq_false (fun e => c3 (e.2 c2)))
    · try simp (maxSteps := 3000000) (disch := first | omega | (simp only [len_new, len_put, len_kill]; omega)) only [↓xpre, xpost, ↓reduceIte, Nat.reduceEqDiff, Nat.reduceAdd, Nat.reduceSub, Nat.reduceLeDiff, Nat.zero_add, Nat.sub_zero, f0, f2, f4, f7, ↓WX_ixa, ixaV_ptr, Int.toNat_natCast, Nat.mul_one, rd1_of hb1, g1, wrap64_in, decide_eq_false c1, decide_eq_false c2, WG_un]
      refine InvQ_go (9 - (i + 1)) (by omega) ⟨(i + 1), rfl, by omega, (by first | rfl | exact f0 | (simp only [upd_apply]; rfl) | (show I64 _ = _; congr 1; omega)), (by first | rfl | exact f2 | (simp only [upd_apply]; rfl) | (show I64 _ = _; congr 1; omega)), (by first | rfl | exact f4 | (simp only [upd_apply]; rfl) | (show I64 _ = _; congr 1; omega)), (by first | rfl | exact f7 | (simp only [upd_apply]; rfl) | (show I64 _ = _; congr 1; omega)), rfl, (step_all hj (by unfold okAt; exact decide_eq_true ⟨by omega, fun e => absurd e c2⟩))⟩
  · try simp (maxSteps := 3000000) (disch := first | omega | (simp only [len_new, len_put, len_kill]; omega)) only [↓xpre, xpost, ↓reduceIte, Nat.reduceEqDiff, Nat.reduceAdd, Nat.reduceSub, Nat.reduceLeDiff, Nat.zero_add, Nat.sub_zero, f0, f2, f4, f7]
    have := hQ _ p1
    rw [okForm_t fun j hj' => hj j (by omega)] at this
    exact this
theorem idx1V_cel {k : IntKind} {q : List Int} {n j : Nat} {kk : IntKind} (hj : j < n) (hq : j < q.length) : idx1V n (.agg (cel k q).toArray) (.int kk j) = some (.int k (q.getD j 0)) := by
  simp only [idx1V, Int.toNat_natCast]
  rw [if_pos (by omega), cel_get hq]
theorem i_isForm {p n : Int} {q : List Int} {h : AH} {Q : Value → AH → Prop} (hq : By 9 q) (hQ : ∀ h', h <+: h' → Q (.bool (okForm p n q)) h') : WF S 161 [I64 p, I64 n, aggV .u8 q] h Q := by
  refine WF_fn (fn := c161) rfl rfl ?_
  unfold c161
  have tk : q.take 9 = q := List.take_of_length_le (by rw [hq.1]; exact Nat.le_refl _)
  try simp (maxSteps := 3000000) (disch := first | omega | (simp only [len_new, len_put, len_kill]; omega)) only [↓xpre, xpost, ↓reduceIte, Nat.reduceEqDiff, Nat.reduceAdd, Nat.reduceSub, Nat.reduceLeDiff, Nat.zero_add, Nat.sub_zero, aggV, cel_all]
  generalize hH1 : AH.new h _ = H1
  obtain ⟨hb1, p1, n1⟩ := new_facts hH1
  try simp (maxSteps := 3000000) (disch := first | omega | (simp only [len_new, len_put, len_kill]; omega)) only [↓xpre, xpost, ↓reduceIte, Nat.reduceEqDiff, Nat.reduceAdd, Nat.reduceSub, Nat.reduceLeDiff, Nat.zero_add, Nat.sub_zero, rdn_of hb1, cel_len, hq.1, cel_take, tk]
  refine WC_loop_inv (fun m f K1 => ∃ (i : Nat), m = 9 - i ∧ i ≤ 9 ∧ f 0 = I64 p ∧ f 1 = I64 n ∧ f 9 = .agg (cel .u8 q).toArray ∧ f 10 = I64 i ∧ (K1 = H1) ∧ (∀ j, j < i → okAt p n q j = true)) ?_ (9 - 0) _ _ ⟨0, rfl, by omega, (by first | rfl | (simp [upd_apply]; done)), (by first | rfl | (simp [upd_apply]; done)), (by first | rfl | (simp [upd_apply]; done)), (by first | rfl | (simp [upd_apply]; done)), rfl, (by omega)⟩
  rintro m f K1 ⟨i, rfl, hi, f0, f1, f9, f10, hK, hj⟩
  subst hK
  try simp (maxSteps := 3000000) (disch := first | omega | (simp only [len_new, len_put, len_kill]; omega)) only [↓xpre, xpost, ↓reduceIte, Nat.reduceEqDiff, Nat.reduceAdd, Nat.reduceSub, Nat.reduceLeDiff, Nat.zero_add, Nat.sub_zero, f0, f1, f9, f10, IfW_dec]
  refine ⟨fun hlt => ?_, fun hge => ?_⟩
  · have hi' : i < 9 := by omega
    have g1 := idx1V_cel (k := .u8) (q := q) (n := 9) (j := i) (kk := .i64) hi' (by rw [hq.1]; exact hi')
    have b1 := hq.2 i hi'
    have no : okAt p n q i = false → Q (.bool false) K1 := fun e => by have := hQ _ p1; rw [okForm_f hi' e] at this; exact this
    by_cases c1 : p ≤ q.getD i 0
    · try simp (maxSteps := 3000000) (disch := first | omega | (simp only [len_new, len_put, len_kill]; omega)) only [↓xpre, xpost, ↓reduceIte, Nat.reduceEqDiff, Nat.reduceAdd, Nat.reduceSub, Nat.reduceLeDiff, Nat.zero_add, Nat.sub_zero, f0, f1, f9, f10, ↓WX_idx1, g1, wrap64_in, decide_eq_true c1, WG_un]
      exact no (by unfold okAt; exact decide_eq_false (by omega))
    by_cases c3 : q.getD i 0 = 0
    · try simp (maxSteps := 3000000) (disch := first | omega | (simp only [len_new, len_put, len_kill]; omega)) only [↓xpre, xpost, ↓reduceIte, Nat.reduceEqDiff, Nat.reduceAdd, Nat.reduceSub, Nat.reduceLeDiff, Nat.zero_add, Nat.sub_zero, f0, f1, f9, f10, ↓WX_idx1, g1, wrap64_in, decide_eq_false c1, decide_eq_false (show ¬ (q.getD i 0 ≠ 0) from fun e => e c3)]
      refine InvQ_go (9 - (i + 1)) (by omega) ⟨(i + 1), rfl, by omega, (by first | rfl | exact f0 | (simp only [upd_apply]; rfl) | (show I64 _ = _; congr 1; omega)), (by first | rfl | exact f1 | (simp only [upd_apply]; rfl) | (show I64 _ = _; congr 1; omega)), (by first | rfl | exact f9 | (simp only [upd_apply]; rfl) | (show I64 _ = _; congr 1; omega)), (by first | rfl | exact f10 | (simp only [upd_apply]; rfl) | (show I64 _ = _; congr 1; omega)), rfl, (step_all hj (by unfold okAt; exact decide_eq_true ⟨by omega, fun _ => c3⟩))⟩
    · by_cases c2 : n ≤ (i : Int)
      · try simp (maxSteps := 3000000) (disch := first | omega | (simp only [len_new, len_put, len_kill]; omega)) only [↓xpre, xpost, ↓reduceIte, Nat.reduceEqDiff, Nat.reduceAdd, Nat.reduceSub, Nat.reduceLeDiff, Nat.zero_add, Nat.sub_zero, f0, f1, f9, f10, ↓WX_idx1, g1, wrap64_in, decide_eq_false c1, decide_eq_true c2, decide_eq_true (show q.getD i 0 ≠ 0 from c3)]
        exact no (by unfold okAt; exact decide_eq_false (fun e => c3 (e.2 c2)))
      · try simp (maxSteps := 3000000) (disch := first | omega | (simp only [len_new, len_put, len_kill]; omega)) only [↓xpre, xpost, ↓reduceIte, Nat.reduceEqDiff, Nat.reduceAdd, Nat.reduceSub, Nat.reduceLeDiff, Nat.zero_add, Nat.sub_zero, f0, f1, f9, f10, ↓WX_idx1, g1, wrap64_in, decide_eq_false c1, decide_eq_false c2, decide_eq_true (show q.getD i 0 ≠ 0 from c3)]
        refine InvQ_go (9 - (i + 1)) (by omega) ⟨(i + 1), rfl, by omega, (by first | rfl | exact f0 | (simp only [upd_apply]; rfl) | (show I64 _ = _; congr 1; omega)), (by first | rfl | exact f1 | (simp only [upd_apply]; rfl) | (show I64 _ = _; congr 1; omega)), (by first | rfl | exact f9 | (simp only [upd_apply]; rfl) | (show I64 _ = _; congr 1; omega)), (by first | rfl | exact f10 | (simp only [upd_apply]; rfl) | (show I64 _ = _; congr 1; omega)), rfl, (step_all hj (by unfold okAt; exact decide_eq_true ⟨by omega, fun e => absurd e c2⟩))⟩
  · try simp (maxSteps := 3000000) (disch := first | omega | (simp only [len_new, len_put, len_kill]; omega)) only [↓xpre, xpost, ↓reduceIte, Nat.reduceEqDiff, Nat.reduceAdd, Nat.reduceSub, Nat.reduceLeDiff, Nat.zero_add, Nat.sub_zero, f0, f1, f9, f10]
    have := hQ _ p1
    rw [okForm_t fun j hj' => hj j (by omega)] at this
    exact this

def z9 : List Int := [0, 0, 0, 0, 0, 0, 0, 0, 0]
theorem zeros9' : ([.int .u8 0, .int .u8 0, .int .u8 0, .int .u8 0, .int .u8 0, .int .u8 0, .int .u8 0, .int .u8 0, .int .u8 0] : List Value) = cel .u8 z9 := rfl
def isZ (q : List Int) : Bool := q == z9
theorem intsOf_cel {k : IntKind} : ∀ {q : List Int}, q ≠ [] → intsOf (cel k q) = some (k, q)
  | [], h => absurd rfl h
  | [a], _ => rfl
  | a :: b :: l, _ => by
    have ih := intsOf_cel (k := k) (q := b :: l) (by simp)
    have e : cel k (a :: b :: l) = .int k a :: cel k (b :: l) := rfl
    have e2 : cel k (b :: l) = .int k b :: cel k l := rfl
    rw [e2] at ih
    rw [e, e2]
    simp only [intsOf, ih, if_true]
theorem eqaV_cel {n : Nat} {k : IntKind} {q r : List Int} (hq : q.length = n) (hr : r.length = n) (h0 : 0 < n) : eqaV false n (.agg (cel k q).toArray) (.agg (cel k r).toArray) = some (.bool (q == r)) := by
  have e1 := intsOf_cel (k := k) (q := q) (by intro e; rw [e] at hq; simp at hq; omega)
  have e2 := intsOf_cel (k := k) (q := r) (by intro e; rw [e] at hr; simp at hr; omega)
  simp only [eqaV, e1, e2]
  rw [if_pos ⟨trivial, hq, hr⟩]
  simp
theorem s_l01Zero {q : List Int} {h : AH} {Q : Value → AH → Prop} (hq : q.length = 9) (hQ : ∀ h', h <+: h' → Q (.bool (isZ q)) h') : WF S 151 [aggV .u8 q] h Q := by
  refine WF_fn (fn := c151) rfl rfl ?_
  unfold c151
  have tk : q.take 9 = q := List.take_of_length_le (by rw [hq]; exact Nat.le_refl _)
  have e := eqaV_cel (k := .u8) hq (show z9.length = 9 from rfl) (by omega)
  try simp (maxSteps := 3000000) (disch := first | omega | (simp only [len_new, len_put, len_kill]; omega)) only [↓xpre, xpost, ↓reduceIte, Nat.reduceEqDiff, Nat.reduceAdd, Nat.reduceSub, Nat.reduceLeDiff, Nat.zero_add, Nat.sub_zero, aggV, cel_all, cel_len, hq, cel_take, tk, fillL, zeros9', e]
  have := hQ _ (pre_new (b := ⟨cel .u8 q, 153, false, true⟩) (List.prefix_refl h))
  unfold isZ at this
  simpa using this
def seg (q : List Int) (i : Nat) : List Int := (q.drop (i * 9)).take 9
theorem By.seg {q : List Int} (hq : By 27 q) {i : Nat} (hi : i < 3) : By 9 (seg q i) := by
  have h1 := hq.1
  refine ⟨by unfold X.seg; simp; omega, fun j hj => ?_⟩
  unfold X.seg
  rw [cut_get hj]
  exact hq.2 _ (by omega)
def hasZ (q : List Int) : Bool := isZ (seg q 0) || isZ (seg q 1) || isZ (seg q 2)
theorem i_hasZero {q : List Int} {h : AH} {Q : Value → AH → Prop} (hq : By 27 q) (hQ : ∀ h', h <+: h' → Q (.bool (hasZ q)) h') : WF S 162 [aggV .u8 q] h Q := by
  refine WF_fn (fn := c162) rfl rfl ?_
  unfold c162
  have hQ' := hQ _ (pre_new (b := ⟨cel .u8 q, 155, false, true⟩) (List.prefix_refl h))
  have hz9 : z9.length = 9 := rfl
  have e0 := eqaV_cel (k := .u8) (hq.seg (i := 0) (by omega)).1 hz9 (by omega)
  have e1 := eqaV_cel (k := .u8) (hq.seg (i := 1) (by omega)).1 hz9 (by omega)
  have e2 := eqaV_cel (k := .u8) (hq.seg (i := 2) (by omega)).1 hz9 (by omega)
  have s0 : seg q 0 = q.take 9 := by unfold seg; simp
  have s1 : seg q 1 = (q.drop 9).take 9 := rfl
  have s2 : seg q 2 = (q.drop 18).take 9 := rfl
  unfold hasZ isZ at hQ'
  rw [s0] at e0 hQ'
  rw [s1] at e1 hQ'
  rw [s2] at e2 hQ'
  generalize hc0 : (q.take 9 == z9) = c0 at *
  generalize hc1 : ((q.drop 9).take 9 == z9) = c1 at *
  generalize hc2 : ((q.drop 18).take 9 == z9) = c2 at *
  try simp (maxSteps := 3000000) (disch := first | omega | (simp only [len_new, len_put, len_kill]; omega)) only [↓xpre, xpost, ↓reduceIte, Nat.reduceEqDiff, Nat.reduceAdd, Nat.reduceSub, Nat.reduceLeDiff, Nat.zero_add, Nat.sub_zero, aggV, cel_all, cel_len, hq.1, cel_take, cel_drop, List.drop_zero, fillL, zeros9', e0]
  cases c0 with
  | true =>
    try simp (maxSteps := 3000000) (disch := first | omega | (simp only [len_new, len_put, len_kill]; omega)) only [↓xpre, xpost, ↓reduceIte, Nat.reduceEqDiff, Nat.reduceAdd, Nat.reduceSub, Nat.reduceLeDiff, Nat.zero_add, Nat.sub_zero]
    exact hQ'
  | false =>
    try simp (maxSteps := 3000000) (disch := first | omega | (simp only [len_new, len_put, len_kill]; omega)) only [↓xpre, xpost, ↓reduceIte, Nat.reduceEqDiff, Nat.reduceAdd, Nat.reduceSub, Nat.reduceLeDiff, Nat.zero_add, Nat.sub_zero, cel_all, cel_len, hq.1, cel_take, cel_drop, fillL, zeros9', e1]
    cases c1 with
    | true =>
      try simp (maxSteps := 3000000) (disch := first | omega | (simp only [len_new, len_put, len_kill]; omega)) only [↓xpre, xpost, ↓reduceIte, Nat.reduceEqDiff, Nat.reduceAdd, Nat.reduceSub, Nat.reduceLeDiff, Nat.zero_add, Nat.sub_zero]
      exact hQ'
    | false =>
      try simp (maxSteps := 3000000) (disch := first | omega | (simp only [len_new, len_put, len_kill]; omega)) only [↓xpre, xpost, ↓reduceIte, Nat.reduceEqDiff, Nat.reduceAdd, Nat.reduceSub, Nat.reduceLeDiff, Nat.zero_add, Nat.sub_zero, cel_all, cel_len, hq.1, cel_take, cel_drop, fillL, zeros9', e2]
      exact hQ'
end Go.Proofs.Ytilpnbejpndgpaa.X

/- What schemes are: sizes, places, products, the whole. -/
set_option linter.unusedVariables false
set_option linter.unusedSimpArgs false
set_option maxRecDepth 20000
set_option maxHeartbeats 4000000
namespace Go.Proofs.Ytilpnbejpndgpaa.X
open Go Go.RowKit

def sz (n : Int) : Bool := decide (1 ≤ n ∧ n ≤ 3)
theorem s_l01Sizes {p n m k : Int} {h : AH} {Q : Value → AH → Prop} (hQ : Q (.bool (isP p && sz n && sz m && sz k)) h) : WF S 132 [I64 p, I64 n, I64 m, I64 k] h Q := by
  refine WF_fn (fn := c132) rfl rfl ?_
  unfold c132
  try simp (maxSteps := 3000000) (disch := first | omega | (simp only [len_new, len_put, len_kill]; omega)) only [↓xpre, xpost, ↓reduceIte, Nat.reduceEqDiff, Nat.reduceAdd, Nat.reduceSub, Nat.reduceLeDiff, Nat.zero_add, Nat.sub_zero]
  refine s_l01Prime ?_
  cases c0 : isP p with
  | false =>
    rw [c0] at hQ
    try simp (maxSteps := 3000000) (disch := first | omega | (simp only [len_new, len_put, len_kill]; omega)) only [↓xpre, xpost, ↓reduceIte, Nat.reduceEqDiff, Nat.reduceAdd, Nat.reduceSub, Nat.reduceLeDiff, Nat.zero_add, Nat.sub_zero, WG_un]
    exact hQ
  | true =>
    rw [c0] at hQ
    try simp (maxSteps := 3000000) (disch := first | omega | (simp only [len_new, len_put, len_kill]; omega)) only [↓xpre, xpost, ↓reduceIte, Nat.reduceEqDiff, Nat.reduceAdd, Nat.reduceSub, Nat.reduceLeDiff, Nat.zero_add, Nat.sub_zero]
    refine s_l01In ?_
    have e1 : decide (1 ≤ n ∧ n ≤ 3) = sz n := rfl
    have e2 : decide (1 ≤ m ∧ m ≤ 3) = sz m := rfl
    have e3 : decide (1 ≤ k ∧ k ≤ 3) = sz k := rfl
    rw [e1]
    cases c1 : sz n with
    | false =>
      rw [c1] at hQ
      try simp (maxSteps := 3000000) (disch := first | omega | (simp only [len_new, len_put, len_kill]; omega)) only [↓xpre, xpost, ↓reduceIte, Nat.reduceEqDiff, Nat.reduceAdd, Nat.reduceSub, Nat.reduceLeDiff, Nat.zero_add, Nat.sub_zero, WG_un]
      exact hQ
    | true =>
      rw [c1] at hQ
      try simp (maxSteps := 3000000) (disch := first | omega | (simp only [len_new, len_put, len_kill]; omega)) only [↓xpre, xpost, ↓reduceIte, Nat.reduceEqDiff, Nat.reduceAdd, Nat.reduceSub, Nat.reduceLeDiff, Nat.zero_add, Nat.sub_zero]
      refine s_l01In ?_
      rw [e2]
      cases c2 : sz m with
      | false =>
        rw [c2] at hQ
        try simp (maxSteps := 3000000) (disch := first | omega | (simp only [len_new, len_put, len_kill]; omega)) only [↓xpre, xpost, ↓reduceIte, Nat.reduceEqDiff, Nat.reduceAdd, Nat.reduceSub, Nat.reduceLeDiff, Nat.zero_add, Nat.sub_zero, WG_un]
        exact hQ
      | true =>
        rw [c2] at hQ
        try simp (maxSteps := 3000000) (disch := first | omega | (simp only [len_new, len_put, len_kill]; omega)) only [↓xpre, xpost, ↓reduceIte, Nat.reduceEqDiff, Nat.reduceAdd, Nat.reduceSub, Nat.reduceLeDiff, Nat.zero_add, Nat.sub_zero]
        refine s_l01In ?_
        rw [e3]
        try simp (maxSteps := 3000000) (disch := first | omega | (simp only [len_new, len_put, len_kill]; omega)) only [↓xpre, xpost, ↓reduceIte, Nat.reduceEqDiff, Nat.reduceAdd, Nat.reduceSub, Nat.reduceLeDiff, Nat.zero_add, Nat.sub_zero]
        exact hQ
theorem i_isSize {v : Value} {ns : List Int} {h : AH} {Q : Value → AH → Prop} (hv : Ints h v ns) (hl : (ns.length : Int) ≤ 1048576) (hQ : Q (.bool (ns.all sz)) h) : WF S 153 [v] h Q := by
  refine WF_fn (fn := c153) rfl rfl ?_
  unfold c153
  try simp (maxSteps := 3000000) (disch := first | omega | (simp only [len_new, len_put, len_kill]; omega)) only [↓xpre, xpost, ↓reduceIte, Nat.reduceEqDiff, Nat.reduceAdd, Nat.reduceSub, Nat.reduceLeDiff, Nat.zero_add, Nat.sub_zero, hv.len]
  refine WC_loop_inv (fun m f K1 => ∃ (i : Nat), m = ns.length - i ∧ i ≤ ns.length ∧ f 5 = v ∧ f 6 = I64 ns.length ∧ f 7 = I64 i ∧ (K1 = h) ∧ (∀ j, j < i → sz (ns.getD j 0) = true)) ?_ (ns.length - 0) _ _ ⟨0, rfl, by omega, (by first | rfl | (simp [upd_apply]; done)), (by first | rfl | (simp [upd_apply]; done)), (by first | rfl | (simp [upd_apply]; done)), rfl, (by omega)⟩
  rintro m f K1 ⟨i, rfl, hi, f5, f6, f7, hK, hj⟩
  subst hK
  try simp (maxSteps := 3000000) (disch := first | omega | (simp only [len_new, len_put, len_kill]; omega)) only [↓xpre, xpost, ↓reduceIte, Nat.reduceEqDiff, Nat.reduceAdd, Nat.reduceSub, Nat.reduceLeDiff, Nat.zero_add, Nat.sub_zero, f5, f6, f7, IfW_dec]
  refine ⟨fun hlt => ?_, fun hge => ?_⟩
  · have hi' : i < ns.length := by omega
    have hix := hv.ix (k := .i64) (j := i) (by omega) (by omega)
    have hrd := hv.rd (j := i) (by omega) (by omega)
    simp only [nth, Int.toNat_natCast] at hrd
    have no : sz (ns.getD i 0) = false → Q (.bool false) K1 := fun e => by
      have : ns.all sz = false := by
        rw [List.all_eq_false]
        refine ⟨ns.getD i 0, ?_, by rw [e]; simp⟩
        rw [List.getD_eq_getElem?_getD, List.getElem?_eq_getElem hi']
        exact List.getElem_mem hi'
      rw [this] at hQ
      exact hQ
    by_cases c1 : ns.getD i 0 < 1
    · try simp (maxSteps := 3000000) (disch := first | omega | (simp only [len_new, len_put, len_kill]; omega)) only [↓xpre, xpost, ↓reduceIte, Nat.reduceEqDiff, Nat.reduceAdd, Nat.reduceSub, Nat.reduceLeDiff, Nat.zero_add, Nat.sub_zero, f5, f6, f7, hix, hrd, decide_eq_true c1, WG_un]
      exact no (by unfold sz; exact decide_eq_false (by omega))
    by_cases c2 : 3 < ns.getD i 0
    · try simp (maxSteps := 3000000) (disch := first | omega | (simp only [len_new, len_put, len_kill]; omega)) only [↓xpre, xpost, ↓reduceIte, Nat.reduceEqDiff, Nat.reduceAdd, Nat.reduceSub, Nat.reduceLeDiff, Nat.zero_add, Nat.sub_zero, f5, f6, f7, hix, hrd, decide_eq_false c1, decide_eq_true c2]
      exact no (by unfold sz; exact decide_eq_false (by omega))
    try simp (maxSteps := 3000000) (disch := first | omega | (simp only [len_new, len_put, len_kill]; omega)) only [↓xpre, xpost, ↓reduceIte, Nat.reduceEqDiff, Nat.reduceAdd, Nat.reduceSub, Nat.reduceLeDiff, Nat.zero_add, Nat.sub_zero, f5, f6, f7, hix, hrd, decide_eq_false c1, decide_eq_false c2, wrap64_in]
    refine InvQ_go (ns.length - (i + 1)) (by omega) ⟨(i + 1), rfl, by omega, (by first | rfl | exact f5 | (simp only [upd_apply]; rfl) | (show I64 _ = _; congr 1; omega)), (by first | rfl | exact f6 | (simp only [upd_apply]; rfl) | (show I64 _ = _; congr 1; omega)), (by first | rfl | exact f7 | (simp only [upd_apply]; rfl) | (show I64 _ = _; congr 1; omega)), rfl, (step_all hj (by unfold sz; exact decide_eq_true (by omega)))⟩
  · try simp (maxSteps := 3000000) (disch := first | omega | (simp only [len_new, len_put, len_kill]; omega)) only [↓xpre, xpost, ↓reduceIte, Nat.reduceEqDiff, Nat.reduceAdd, Nat.reduceSub, Nat.reduceLeDiff, Nat.zero_add, Nat.sub_zero, f5, f6, f7]
    have : ns.all sz = true := by
      rw [List.all_eq_true]
      intro x hx
      obtain ⟨j, hj', rfl⟩ := List.mem_iff_getElem.1 hx
      have := hj j (by omega)
      rw [List.getD_eq_getElem?_getD, List.getElem?_eq_getElem hj'] at this
      exact this
    rw [this] at hQ
    exact hQ
/-- Sizes and prime as told. -/
def szX (x : Sch) : Bool := isP x.p && sz x.n && sz x.m && sz x.k
structure SZ (x : Sch) : Prop where
  p : 2 ≤ x.p ∧ x.p ≤ 5
  n : 1 ≤ x.n ∧ x.n ≤ 3
  m : 1 ≤ x.m ∧ x.m ≤ 3
  k : 1 ≤ x.k ∧ x.k ≤ 3
  nm : 1 ≤ x.n * x.m ∧ x.n * x.m ≤ 9
  mk2 : 1 ≤ x.m * x.k ∧ x.m * x.k ≤ 9
  nk : 1 ≤ x.n * x.k ∧ x.n * x.k ≤ 9
theorem szX_facts {x : Sch} (h : szX x = true) : SZ x := by
  simp only [szX, sz, Bool.and_eq_true, decide_eq_true_eq] at h
  obtain ⟨⟨⟨h1, h2⟩, h3⟩, h4⟩ := h
  exact ⟨isP_in h1, h2, h3, h4, mul_in1 (A := 3) (B := 3) h2 h3, mul_in1 (A := 3) (B := 3) h3 h4, mul_in1 (A := 3) (B := 3) h2 h4⟩
theorem xres_tmp3 {f : Fr} {h : AH} {t u w : Nat} : xres f h [.tmp t, .tmp u, .tmp w] = some (.tuple #[f t, f u, f w]) := rfl
theorem s_l01Lengths {x : Sch} {v : Value} {h : AH} {Q : Value → AH → Prop} (hv : isOne v = true) (z : SZ x) (hQ : ∀ h', h <+: h' → Q (.tuple #[I64 (x.n * x.m), I64 (x.m * x.k), I64 (x.n * x.k)]) h') : WF S 140 [schV x v] h Q := by
  refine WF_fn (fn := c140) rfl rfl ?_
  unfold c140
  have := z.nm
  have := z.mk2
  have := z.nk
  try simp (maxSteps := 3000000) (disch := first | omega | (simp only [len_new, len_put, len_kill]; omega)) only [↓xpre, xpost, ↓reduceIte, Nat.reduceEqDiff, Nat.reduceAdd, Nat.reduceSub, Nat.reduceLeDiff, Nat.zero_add, Nat.sub_zero, schV, hv, wrap64_in, xres_tmp3]
  exact hQ _ (pre_new (List.prefix_refl _))
theorem i_placesOf {x : Sch} {v : Value} {h : AH} {Q : Value → AH → Prop} (hv : isOne v = true) (z : SZ x) (hQ : ∀ h', h <+: h' → Q (.agg #[I64 (x.n * x.m), I64 (x.m * x.k), I64 (x.n * x.k)]) h') : WF S 143 [schV x v] h Q := by
  refine WF_fn (fn := c143) rfl rfl ?_
  unfold c143
  have := z.nm
  have := z.mk2
  have := z.nk
  try simp (maxSteps := 3000000) (disch := first | omega | (simp only [len_new, len_put, len_kill]; omega)) only [↓xpre, xpost, ↓reduceIte, Nat.reduceEqDiff, Nat.reduceAdd, Nat.reduceSub, Nat.reduceLeDiff, Nat.zero_add, Nat.sub_zero, schV, hv, wrap64_in, fillL]
  exact hQ _ (pre_new (pre_new (List.prefix_refl _)))
def pl (x : Sch) (i : Nat) : Int := if i = 0 then x.n * x.m else if i = 1 then x.m * x.k else x.n * x.k
def okProd (x : Sch) (q : List Int) : Bool := okForm x.p (pl x 0) (seg q 0) && okForm x.p (pl x 1) (seg q 1) && okForm x.p (pl x 2) (seg q 2) && !hasZ q
theorem s_l01Product {x : Sch} {v : Value} {q : List Int} {h : AH} {Q : Value → AH → Prop} (hv : isOne v = true) (z : SZ x) (hq : By 27 q) (hQ : ∀ h', h <+: h' → Q (.bool (okProd x q)) h') :
    WF S 133 [schV x v, aggV .u8 q] h Q := by
  refine WF_fn (fn := c133) rfl rfl ?_
  unfold c133
  have s0 : q.take 9 = seg q 0 := by unfold seg; simp
  have s1 : (q.drop 9).take 9 = seg q 1 := rfl
  have s2 : (q.drop 18).take 9 = seg q 2 := rfl
  try simp (maxSteps := 3000000) (disch := first | omega | (simp only [len_new, len_put, len_kill]; omega)) only [↓xpre, xpost, ↓reduceIte, Nat.reduceEqDiff, Nat.reduceAdd, Nat.reduceSub, Nat.reduceLeDiff, Nat.zero_add, Nat.sub_zero, schV, hv, aggV, cel_all]
  generalize hH1 : AH.new h _ = H1
  obtain ⟨hb1, p1, n1⟩ := new_facts hH1
  generalize hH2 : AH.new H1 _ = H2
  obtain ⟨hb2, p2, n2⟩ := new_facts hH2
  have hb1 := pre_get p2 hb1
  try simp (maxSteps := 3000000) (disch := first | omega | (simp only [len_new, len_put, len_kill]; omega)) only [↓xpre, xpost, ↓reduceIte, Nat.reduceEqDiff, Nat.reduceAdd, Nat.reduceSub, Nat.reduceLeDiff, Nat.zero_add, Nat.sub_zero, rdn_of hb1]
  refine s_l01Lengths hv z fun H3 p3 => ?_
  have hb1 := pre_get p3 hb1
  have hb2 := pre_get p3 hb2
  try simp (maxSteps := 3000000) (disch := first | omega | (simp only [len_new, len_put, len_kill]; omega)) only [↓xpre, xpost, ↓reduceIte, Nat.reduceEqDiff, Nat.reduceAdd, Nat.reduceSub, Nat.reduceLeDiff, Nat.zero_add, Nat.sub_zero, rd1_of hb1, rdn_of hb2, cel_len, hq.1, cel_take, cel_drop, List.drop_zero, s0, s1, s2]
  refine s_l01Form (hq.seg (by omega)) fun H4 p4 => ?_
  have hb1 := pre_get p4 hb1
  have hb2 := pre_get p4 hb2
  unfold okProd hasZ at hQ
  have e0 : pl x 0 = x.n * x.m := rfl
  have e1 : pl x 1 = x.m * x.k := rfl
  have e2 : pl x 2 = x.n * x.k := rfl
  rw [e0, e1, e2] at hQ
  have ph := (p1.trans p2).trans (p3.trans p4)
  cases c0 : okForm x.p (x.n * x.m) (seg q 0) with
  | false =>
    try simp (maxSteps := 3000000) (disch := first | omega | (simp only [len_new, len_put, len_kill]; omega)) only [↓xpre, xpost, ↓reduceIte, Nat.reduceEqDiff, Nat.reduceAdd, Nat.reduceSub, Nat.reduceLeDiff, Nat.zero_add, Nat.sub_zero, WG_un]
    have := hQ _ ph
    rw [c0] at this
    exact this
  | true =>
    rw [c0] at hQ
    try simp (maxSteps := 3000000) (disch := first | omega | (simp only [len_new, len_put, len_kill]; omega)) only [↓xpre, xpost, ↓reduceIte, Nat.reduceEqDiff, Nat.reduceAdd, Nat.reduceSub, Nat.reduceLeDiff, Nat.zero_add, Nat.sub_zero, rd1_of hb1, rdn_of hb2, cel_len, hq.1, cel_take, cel_drop, s0, s1, s2]
    refine s_l01Form (hq.seg (by omega)) fun H5 p5 => ?_
    have hb1 := pre_get p5 hb1
    have hb2 := pre_get p5 hb2
    have ph := ph.trans p5
    cases c1 : okForm x.p (x.m * x.k) (seg q 1) with
    | false =>
      try simp (maxSteps := 3000000) (disch := first | omega | (simp only [len_new, len_put, len_kill]; omega)) only [↓xpre, xpost, ↓reduceIte, Nat.reduceEqDiff, Nat.reduceAdd, Nat.reduceSub, Nat.reduceLeDiff, Nat.zero_add, Nat.sub_zero, WG_un]
      have := hQ _ ph
      rw [c1] at this
      exact this
    | true =>
      rw [c1] at hQ
      try simp (maxSteps := 3000000) (disch := first | omega | (simp only [len_new, len_put, len_kill]; omega)) only [↓xpre, xpost, ↓reduceIte, Nat.reduceEqDiff, Nat.reduceAdd, Nat.reduceSub, Nat.reduceLeDiff, Nat.zero_add, Nat.sub_zero, rd1_of hb1, rdn_of hb2, cel_len, hq.1, cel_take, cel_drop, s0, s1, s2]
      refine s_l01Form (hq.seg (by omega)) fun H6 p6 => ?_
      have hb1 := pre_get p6 hb1
      have hb2 := pre_get p6 hb2
      have ph := ph.trans p6
      cases c2 : okForm x.p (x.n * x.k) (seg q 2) with
      | false =>
        try simp (maxSteps := 3000000) (disch := first | omega | (simp only [len_new, len_put, len_kill]; omega)) only [↓xpre, xpost, ↓reduceIte, Nat.reduceEqDiff, Nat.reduceAdd, Nat.reduceSub, Nat.reduceLeDiff, Nat.zero_add, Nat.sub_zero, WG_un]
        have := hQ _ ph
        rw [c2] at this
        exact this
      | true =>
        rw [c2] at hQ
        try simp (maxSteps := 3000000) (disch := first | omega | (simp only [len_new, len_put, len_kill]; omega)) only [↓xpre, xpost, ↓reduceIte, Nat.reduceEqDiff, Nat.reduceAdd, Nat.reduceSub, Nat.reduceLeDiff, Nat.zero_add, Nat.sub_zero, rdn_of hb2, cel_len, hq.1, cel_take, cel_drop, List.drop_zero, s0, s1, s2]
        refine s_l01Zero (hq.seg (by omega)).1 fun H7 p7 => ?_
        have hb2 := pre_get p7 hb2
        have ph := ph.trans p7
        cases d0 : isZ (seg q 0) with
        | true =>
          try simp (maxSteps := 3000000) (disch := first | omega | (simp only [len_new, len_put, len_kill]; omega)) only [↓xpre, xpost, ↓reduceIte, Nat.reduceEqDiff, Nat.reduceAdd, Nat.reduceSub, Nat.reduceLeDiff, Nat.zero_add, Nat.sub_zero, WG_un]
          have := hQ _ ph
          rw [d0] at this
          exact this
        | false =>
          rw [d0] at hQ
          try simp (maxSteps := 3000000) (disch := first | omega | (simp only [len_new, len_put, len_kill]; omega)) only [↓xpre, xpost, ↓reduceIte, Nat.reduceEqDiff, Nat.reduceAdd, Nat.reduceSub, Nat.reduceLeDiff, Nat.zero_add, Nat.sub_zero, rdn_of hb2, cel_len, hq.1, cel_take, cel_drop, s0, s1, s2]
          refine s_l01Zero (hq.seg (by omega)).1 fun H8 p8 => ?_
          have hb2 := pre_get p8 hb2
          have ph := ph.trans p8
          cases d1 : isZ (seg q 1) with
          | true =>
            try simp (maxSteps := 3000000) (disch := first | omega | (simp only [len_new, len_put, len_kill]; omega)) only [↓xpre, xpost, ↓reduceIte, Nat.reduceEqDiff, Nat.reduceAdd, Nat.reduceSub, Nat.reduceLeDiff, Nat.zero_add, Nat.sub_zero, WG_un]
            have := hQ _ ph
            rw [d1] at this
            exact this
          | false =>
            rw [d1] at hQ
            try simp (maxSteps := 3000000) (disch := first | omega | (simp only [len_new, len_put, len_kill]; omega)) only [↓xpre, xpost, ↓reduceIte, Nat.reduceEqDiff, Nat.reduceAdd, Nat.reduceSub, Nat.reduceLeDiff, Nat.zero_add, Nat.sub_zero, rdn_of hb2, cel_len, hq.1, cel_take, cel_drop, s0, s1, s2]
            refine s_l01Zero (hq.seg (by omega)).1 fun H9 p9 => ?_
            have ph := ph.trans p9
            try simp (maxSteps := 3000000) (disch := first | omega | (simp only [len_new, len_put, len_kill]; omega)) only [↓xpre, xpost, ↓reduceIte, Nat.reduceEqDiff, Nat.reduceAdd, Nat.reduceSub, Nat.reduceLeDiff, Nat.zero_add, Nat.sub_zero]
            exact hQ _ ph
theorem i_factors {q : List Int} {h : AH} {Q : Value → AH → Prop} (hq : q.length = 27) (hQ : ∀ h', h <+: h' → Q (aggV .u8 q) h') : WF S 157 [aggV .u8 q] h Q := by
  refine WF_fn (fn := c157) rfl rfl ?_
  unfold c157
  have z27 : (List.replicate 27 (0 : Int)).length = 27 := by simp
  have a1 : (q.take 9).length = 9 := by simp; omega
  have a2 : ((q.drop 9).take 9).length = 9 := by simp; omega
  have a3 : ((q.drop 18).take 9).length = 9 := by simp; omega
  have fl : fillL ([.int .u8 0, .int .u8 0, .int .u8 0, .int .u8 0, .int .u8 0, .int .u8 0, .int .u8 0, .int .u8 0, .int .u8 0, .int .u8 0, .int .u8 0, .int .u8 0, .int .u8 0, .int .u8 0, .int .u8 0, .int .u8 0, .int .u8 0, .int .u8 0, .int .u8 0, .int .u8 0, .int .u8 0, .int .u8 0, .int .u8 0, .int .u8 0, .int .u8 0, .int .u8 0, .int .u8 0]) [(0, 9, .agg (cel .u8 (q.take 9)).toArray), (9, 9, .agg (cel .u8 ((q.drop 9).take 9)).toArray), (18, 9, .agg (cel .u8 ((q.drop 18).take 9)).toArray)] = some (cel .u8 q) := by
    have f0 : List.replicate 27 0 = fillN q 0 := by rw [fillN_zero, hq]
    have f3 : fillN q 27 = q := by have := fillN_all (ns := q); rw [hq] at this; exact this
    have s1 := cel_fill (k := .u8) (q := q) (i := 0) (n := 9) (by omega)
    have s2 := cel_fill (k := .u8) (q := q) (i := 9) (n := 9) (by omega)
    have s3 := cel_fill (k := .u8) (q := q) (i := 18) (n := 9) (by omega)
    rw [List.drop_zero, ← f0] at s1
    rw [f3] at s3
    have fl : ∀ i, i ≤ 27 → (fillN q i).length = 27 := fun i hi => by rw [fillN_len (by omega), hq]
    rw [zeros27]
    simp only [fillL, cellsL_cel, cel_len, a1, a2, a3, z27, fl 9 (by omega), fl 18 (by omega), s1, s2, s3, cel_all, and_self, if_true, Nat.reduceAdd, Nat.reduceLeDiff, Nat.zero_add]
  have tk : q.take 27 = q := List.take_of_length_le (by omega)
  have w1 : ∀ (h1 : AH) (e : TypeId), (h1.new ⟨[.int .u8 0, .int .u8 0, .int .u8 0, .int .u8 0, .int .u8 0, .int .u8 0, .int .u8 0, .int .u8 0, .int .u8 0, .int .u8 0, .int .u8 0, .int .u8 0, .int .u8 0, .int .u8 0, .int .u8 0, .int .u8 0, .int .u8 0, .int .u8 0, .int .u8 0, .int .u8 0, .int .u8 0, .int .u8 0, .int .u8 0, .int .u8 0, .int .u8 0, .int .u8 0, .int .u8 0], e, false, true⟩).wr h1.length 0 (cel .u8 q) = some (h1.new ⟨cel .u8 q, e, false, true⟩) := fun h1 e => wr_all (by rw [cel_len, hq]; rfl)
  try simp (maxSteps := 3000000) (disch := first | omega | (simp only [len_new, len_put, len_kill]; omega)) only [↓xpre, xpost, ↓reduceIte, Nat.reduceEqDiff, Nat.reduceAdd, Nat.reduceSub, Nat.reduceLeDiff, Nat.zero_add, Nat.sub_zero, aggV, cel_all, cel_len, hq, cel_take, cel_drop, List.drop_zero, fl, ↓w1, tk]
  exact hQ _ (pre_new (pre_new (List.prefix_refl _)))
theorem pl_get {x : Sch} {i : Nat} (hi : i < 3) : ([I64 (x.n * x.m), I64 (x.m * x.k), I64 (x.n * x.k)] : List Value)[i]? = some (I64 (pl x i)) := by
  have : i = 0 ∨ i = 1 ∨ i = 2 := by omega
  rcases this with rfl | rfl | rfl <;> rfl
theorem i_isProduct {x : Sch} {q : List Int} {h : AH} {Q : Value → AH → Prop} (z : SZ x) (hq : By 27 q) (hQ : ∀ h', h <+: h' → Q (.bool (okProd x q)) h') :
    WF S 154 [I64 x.p, .agg #[I64 (x.n * x.m), I64 (x.m * x.k), I64 (x.n * x.k)], aggV .u8 q] h Q := by
  refine WF_fn (fn := c154) rfl rfl ?_
  unfold c154
  try simp (maxSteps := 3000000) (disch := first | omega | (simp only [len_new, len_put, len_kill]; omega)) only [↓xpre, xpost, ↓reduceIte, Nat.reduceEqDiff, Nat.reduceAdd, Nat.reduceSub, Nat.reduceLeDiff, Nat.zero_add, Nat.sub_zero, aggV, cel_all]
  generalize hH1 : AH.new h _ = H1
  obtain ⟨hb1, p1, n1⟩ := new_facts hH1
  generalize hH2 : AH.new H1 _ = H2
  obtain ⟨hb2, p2, n2⟩ := new_facts hH2
  have hb1 := pre_get p2 hb1
  have tk : q.take 27 = q := List.take_of_length_le (by rw [hq.1]; exact Nat.le_refl _)
  try simp (maxSteps := 3000000) (disch := first | omega | (simp only [len_new, len_put, len_kill]; omega)) only [↓xpre, xpost, ↓reduceIte, Nat.reduceEqDiff, Nat.reduceAdd, Nat.reduceSub, Nat.reduceLeDiff, Nat.zero_add, Nat.sub_zero, rdn_of hb2, cel_len, hq.1, cel_take, tk]
  refine i_factors hq.1 fun H3 p3 => ?_
  try simp (maxSteps := 3000000) (disch := first | omega | (simp only [len_new, len_put, len_kill]; omega)) only [↓xpre, xpost, ↓reduceIte, Nat.reduceEqDiff, Nat.reduceAdd, Nat.reduceSub, Nat.reduceLeDiff, Nat.zero_add, Nat.sub_zero]
  refine WC_loop_inv (fun m f K1 => ∃ (i : Nat), m = 3 - i ∧ i ≤ 3 ∧ f 0 = I64 x.p ∧ f 4 = .pointer (some ⟨h.length, 0, none⟩) ∧ f 5 = .pointer (some ⟨H1.length, 0, none⟩) ∧ f 10 = aggV .u8 q ∧ f 11 = I64 i ∧ (H3 <+: K1) ∧ (∀ j, j < i → okForm x.p (pl x j) (seg q j) = true)) ?_ (3 - 0) _ _ ⟨0, rfl, by omega, (by first | rfl | (simp [upd_apply]; done)), (by first | rfl | (simp [upd_apply]; done)), (by first | rfl | (simp [upd_apply]; done)), (by first | rfl | (simp [upd_apply]; done)), (by first | rfl | (simp [upd_apply]; done)), List.prefix_refl _, (by omega)⟩
  rintro m f K1 ⟨i, rfl, hi, f0, f4, f5, f10, f11, pp, hj⟩
  have hb1 := pre_get (p3.trans pp) hb1
  have hb2 := pre_get (p3.trans pp) hb2
  by_cases hlt : (i : Int) < 3
  · have hi' : i < 3 := by omega
    have e1 : idxnV 3 9 (aggV .u8 q) (I64 i) = some (.agg (cel .u8 (seg q i)).toArray) := by
      simp only [idxnV, aggV, toL, Int.toNat_natCast, cel_len, hq.1]
      rw [if_pos ⟨by omega, by omega, by omega⟩]
      simp only [cel_drop, cel_take]
      rfl
    have sl := (hq.seg hi').1
    have w1 : ∀ (h1 : AH) (e : TypeId), (h1.new ⟨[.int .u8 0, .int .u8 0, .int .u8 0, .int .u8 0, .int .u8 0, .int .u8 0, .int .u8 0, .int .u8 0, .int .u8 0], e, false, true⟩).wr h1.length 0 (cel .u8 (seg q i)) = some (h1.new ⟨cel .u8 (seg q i), e, false, true⟩) := fun h1 e => wr_all (by rw [cel_len, sl]; rfl)
    have ts : (seg q i).take 9 = seg q i := List.take_of_length_le (by omega)
    have lt1 := get_lt hb1
    try simp (maxSteps := 3000000) (disch := first | omega | (simp only [len_new, len_put, len_kill]; omega)) only [↓xpre, xpost, ↓reduceIte, Nat.reduceEqDiff, Nat.reduceAdd, Nat.reduceSub, Nat.reduceLeDiff, Nat.zero_add, Nat.sub_zero, f0, f4, f5, f10, f11, decide_eq_true hlt, ↓WX_idxn, e1, cel_all, cel_len, sl, ↓w1, ↓WX_ixa, ixaV_ptr, Int.toNat_natCast, Nat.mul_one, rd1_of hb1, pl_get hi', cel_take, ts]
    refine i_isForm (hq.seg hi') fun H4 p4 => ?_
    cases c0 : okForm x.p (pl x i) (seg q i) with
    | false =>
      try simp (maxSteps := 3000000) (disch := first | omega | (simp only [len_new, len_put, len_kill]; omega)) only [↓xpre, xpost, ↓reduceIte, Nat.reduceEqDiff, Nat.reduceAdd, Nat.reduceSub, Nat.reduceLeDiff, Nat.zero_add, Nat.sub_zero, f0, f4, f5, f10, f11]
      have := hQ _ ((p1.trans p2).trans ((p3.trans pp).trans ((pre_new (List.prefix_refl _)).trans p4)))
      have e2 : okProd x q = false := by
        unfold okProd
        have : i = 0 ∨ i = 1 ∨ i = 2 := by omega
        rcases this with rfl | rfl | rfl <;> simp [c0]
      rw [e2] at this
      exact this
    | true =>
      try simp (maxSteps := 3000000) (disch := first | omega | (simp only [len_new, len_put, len_kill]; omega)) only [↓xpre, xpost, ↓reduceIte, Nat.reduceEqDiff, Nat.reduceAdd, Nat.reduceSub, Nat.reduceLeDiff, Nat.zero_add, Nat.sub_zero, f0, f4, f5, f10, f11, wrap64_in]
      refine InvQ_go (3 - (i + 1)) (by omega) ⟨(i + 1), rfl, by omega, (by first | rfl | exact f0 | (simp only [upd_apply]; rfl) | (show I64 _ = _; congr 1; omega)), (by first | rfl | exact f4 | (simp only [upd_apply]; rfl) | (show I64 _ = _; congr 1; omega)), (by first | rfl | exact f5 | (simp only [upd_apply]; rfl) | (show I64 _ = _; congr 1; omega)), (by first | rfl | exact f10 | (simp only [upd_apply]; rfl) | (show I64 _ = _; congr 1; omega)), (by first | rfl | exact f11 | (simp only [upd_apply]; rfl) | (show I64 _ = _; congr 1; omega)), (pp.trans ((pre_new (List.prefix_refl _)).trans p4)), (step_all hj c0)⟩
  · try simp (maxSteps := 3000000) (disch := first | omega | (simp only [len_new, len_put, len_kill]; omega)) only [↓xpre, xpost, ↓reduceIte, Nat.reduceEqDiff, Nat.reduceAdd, Nat.reduceSub, Nat.reduceLeDiff, Nat.zero_add, Nat.sub_zero, f0, f4, f5, f10, f11, decide_eq_false hlt, rdn_of hb2, cel_len, hq.1, cel_take, tk]
    refine i_hasZero hq fun H4 p4 => ?_
    try simp (maxSteps := 3000000) (disch := first | omega | (simp only [len_new, len_put, len_kill]; omega)) only [↓xpre, xpost, ↓reduceIte, Nat.reduceEqDiff, Nat.reduceAdd, Nat.reduceSub, Nat.reduceLeDiff, Nat.zero_add, Nat.sub_zero, f0, f4, f5, f10, f11]
    have := hQ _ ((p1.trans p2).trans ((p3.trans pp).trans p4))
    have e2 : okProd x q = !hasZ q := by
      unfold okProd
      rw [hj 0 (by omega), hj 1 (by omega), hj 2 (by omega)]
      simp
    rw [e2] at this
    exact this
def isX (x : Sch) : Bool := szX x && decide (x.ps.length ≤ 30) && x.ps.all (okProd x)
theorem Prods.by {h : AH} {v : Value} {L : List (List Int)} (hv : Prods h v L) {i : Nat} (hi : i < L.length) : By 27 (L.getD i []) := ⟨hv.1.wid hi, hv.2 i hi⟩
theorem all_getD {α : Type} {d : α} {f : α → Bool} {L : List α} (h : ∀ j, j < L.length → f (L.getD j d) = true) : L.all f = true := by
  rw [List.all_eq_true]
  intro x hx
  obtain ⟨j, hj, rfl⟩ := List.mem_iff_getElem.1 hx
  have := h j hj
  rw [List.getD_eq_getElem?_getD, List.getElem?_eq_getElem hj] at this
  exact this
theorem all_getD_f {α : Type} {d : α} {f : α → Bool} {L : List α} {j : Nat} (hj : j < L.length) (h : f (L.getD j d) = false) : L.all f = false := by
  rw [List.all_eq_false]
  refine ⟨L.getD j d, ?_, by rw [h]; simp⟩
  rw [List.getD_eq_getElem?_getD, List.getElem?_eq_getElem hj]
  exact List.getElem_mem hj
theorem s_l01Is {v : Value} {x : Sch} {h : AH} {Q : Value → AH → Prop} (hv : Prods h v x.ps) (hl : SmallX x.ps) (hQ : ∀ h', h <+: h' → Q (.bool (isX x)) h') : WF S 98 [schV x v] h Q := by
  refine WF_fn (fn := c98) rfl rfl ?_
  unfold c98
  unfold SmallX at hl
  try simp (maxSteps := 3000000) (disch := first | omega | (simp only [len_new, len_put, len_kill]; omega)) only [↓xpre, xpost, ↓reduceIte, Nat.reduceEqDiff, Nat.reduceAdd, Nat.reduceSub, Nat.reduceLeDiff, Nat.zero_add, Nat.sub_zero, schV, hv.one]
  generalize hH1 : AH.new h _ = H1
  obtain ⟨hb1, p1, n1⟩ := new_facts hH1
  try simp (maxSteps := 3000000) (disch := first | omega | (simp only [len_new, len_put, len_kill]; omega)) only [↓xpre, xpost, ↓reduceIte, Nat.reduceEqDiff, Nat.reduceAdd, Nat.reduceSub, Nat.reduceLeDiff, Nat.zero_add, Nat.sub_zero, rd1_of hb1]
  refine s_l01Sizes ?_
  have hQ1 := hQ _ p1
  unfold isX at hQ hQ1
  have e0 : (isP x.p && sz x.n && sz x.m && sz x.k) = szX x := rfl
  rw [e0]
  cases c0 : szX x with
  | false =>
    try simp (maxSteps := 3000000) (disch := first | omega | (simp only [len_new, len_put, len_kill]; omega)) only [↓xpre, xpost, ↓reduceIte, Nat.reduceEqDiff, Nat.reduceAdd, Nat.reduceSub, Nat.reduceLeDiff, Nat.zero_add, Nat.sub_zero, WG_un]
    rw [c0] at hQ1
    exact hQ1
  | true =>
    rw [c0] at hQ hQ1
    have z := szX_facts c0
    by_cases c1 : (30 : Int) < x.ps.length
    · try simp (maxSteps := 3000000) (disch := first | omega | (simp only [len_new, len_put, len_kill]; omega)) only [↓xpre, xpost, ↓reduceIte, Nat.reduceEqDiff, Nat.reduceAdd, Nat.reduceSub, Nat.reduceLeDiff, Nat.zero_add, Nat.sub_zero, rd1_of hb1, (hv.pre p1).1.len, decide_eq_true c1]
      rw [decide_eq_false (show ¬ x.ps.length ≤ 30 by omega)] at hQ1
      exact hQ1
    rw [decide_eq_true (show x.ps.length ≤ 30 by omega)] at hQ
    try simp (maxSteps := 3000000) (disch := first | omega | (simp only [len_new, len_put, len_kill]; omega)) only [↓xpre, xpost, ↓reduceIte, Nat.reduceEqDiff, Nat.reduceAdd, Nat.reduceSub, Nat.reduceLeDiff, Nat.zero_add, Nat.sub_zero, rd1_of hb1, (hv.pre p1).1.len, decide_eq_false c1]
    refine WC_loop_inv (fun m f K1 => ∃ (i : Nat), m = x.ps.length - i ∧ i ≤ x.ps.length ∧ f 1 = .pointer (some ⟨h.length, 0, none⟩) ∧ f 3 = I64 i ∧ (H1 <+: K1) ∧ (∀ j, j < i → okProd x (x.ps.getD j []) = true)) ?_ (x.ps.length - 0) _ _ ⟨0, rfl, by omega, (by first | rfl | (simp [upd_apply]; done)), (by first | rfl | (simp [upd_apply]; done)), List.prefix_refl _, (by omega)⟩
    rintro m f K1 ⟨i, rfl, hi, f1, f3, pp, hj⟩
    have hb1 := pre_get pp hb1
    have hvK := hv.pre (p1.trans pp)
    try simp (maxSteps := 3000000) (disch := first | omega | (simp only [len_new, len_put, len_kill]; omega)) only [↓xpre, xpost, ↓reduceIte, Nat.reduceEqDiff, Nat.reduceAdd, Nat.reduceSub, Nat.reduceLeDiff, Nat.zero_add, Nat.sub_zero, f1, f3, rd1_of hb1, hvK.1.len, IfW_dec]
    refine ⟨fun hlt => ?_, fun hge => ?_⟩
    · have hi' : i < x.ps.length := by omega
      obtain ⟨n, off, hix, hrn, hr1⟩ := hvK.1.at hi'
      have r27 := hrn 0 27 (by omega)
      rw [List.drop_zero, List.take_of_length_le (by rw [hvK.1.wid hi']; exact Nat.le_refl _), Nat.add_zero] at r27
      try simp (maxSteps := 3000000) (disch := first | omega | (simp only [len_new, len_put, len_kill]; omega)) only [↓xpre, xpost, ↓reduceIte, Nat.reduceEqDiff, Nat.reduceAdd, Nat.reduceSub, Nat.reduceLeDiff, Nat.zero_add, Nat.sub_zero, f1, f3, rdn_of hb1, rd1_of hb1, hix, r27]
      refine s_l01Product hvK.one z (hvK.by hi') fun H2 p2 => ?_
      cases c2 : okProd x (x.ps.getD i []) with
      | false =>
        try simp (maxSteps := 3000000) (disch := first | omega | (simp only [len_new, len_put, len_kill]; omega)) only [↓xpre, xpost, ↓reduceIte, Nat.reduceEqDiff, Nat.reduceAdd, Nat.reduceSub, Nat.reduceLeDiff, Nat.zero_add, Nat.sub_zero, f1, f3]
        have := hQ _ ((p1.trans pp).trans p2)
        rw [all_getD_f hi' c2] at this
        exact this
      | true =>
        try simp (maxSteps := 3000000) (disch := first | omega | (simp only [len_new, len_put, len_kill]; omega)) only [↓xpre, xpost, ↓reduceIte, Nat.reduceEqDiff, Nat.reduceAdd, Nat.reduceSub, Nat.reduceLeDiff, Nat.zero_add, Nat.sub_zero, f1, f3, wrap64_in]
        refine InvQ_go (x.ps.length - (i + 1)) (by omega) ⟨(i + 1), rfl, by omega, (by first | rfl | exact f1 | (simp only [upd_apply]; rfl) | (show I64 _ = _; congr 1; omega)), (by first | rfl | exact f3 | (simp only [upd_apply]; rfl) | (show I64 _ = _; congr 1; omega)), (pp.trans p2), (step_all hj c2)⟩
    · try simp (maxSteps := 3000000) (disch := first | omega | (simp only [len_new, len_put, len_kill]; omega)) only [↓xpre, xpost, ↓reduceIte, Nat.reduceEqDiff, Nat.reduceAdd, Nat.reduceSub, Nat.reduceLeDiff, Nat.zero_add, Nat.sub_zero, f1, f3]
      have := hQ _ (p1.trans pp)
      rw [all_getD (d := []) fun j hj' => hj j (by omega)] at this
      exact this
theorem i_IsScheme {v : Value} {x : Sch} {h : AH} {Q : Value → AH → Prop} (hv : Prods h v x.ps) (hl : SmallX x.ps) (hQ : ∀ h', h <+: h' → Q (.bool (isX x)) h') : WF S 136 [schV x v] h Q := by
  refine WF_fn (fn := c136) rfl rfl ?_
  unfold c136
  unfold SmallX at hl
  try simp (maxSteps := 3000000) (disch := first | omega | (simp only [len_new, len_put, len_kill]; omega)) only [↓xpre, xpost, ↓reduceIte, Nat.reduceEqDiff, Nat.reduceAdd, Nat.reduceSub, Nat.reduceLeDiff, Nat.zero_add, Nat.sub_zero, schV, hv.one]
  generalize hH1 : AH.new h _ = H1
  obtain ⟨hb1, p1, n1⟩ := new_facts hH1
  try simp (maxSteps := 3000000) (disch := first | omega | (simp only [len_new, len_put, len_kill]; omega)) only [↓xpre, xpost, ↓reduceIte, Nat.reduceEqDiff, Nat.reduceAdd, Nat.reduceSub, Nat.reduceLeDiff, Nat.zero_add, Nat.sub_zero, rd1_of hb1]
  refine i_isPrime ?_
  have hQ1 := hQ _ p1
  unfold isX at hQ hQ1
  cases c0 : isP x.p with
  | false =>
    try simp (maxSteps := 3000000) (disch := first | omega | (simp only [len_new, len_put, len_kill]; omega)) only [↓xpre, xpost, ↓reduceIte, Nat.reduceEqDiff, Nat.reduceAdd, Nat.reduceSub, Nat.reduceLeDiff, Nat.zero_add, Nat.sub_zero, WG_un]
    have : szX x = false := by unfold szX; rw [c0]; rfl
    rw [this] at hQ1
    exact hQ1
  | true =>
    try simp (maxSteps := 3000000) (disch := first | omega | (simp only [len_new, len_put, len_kill]; omega)) only [↓xpre, xpost, ↓reduceIte, Nat.reduceEqDiff, Nat.reduceAdd, Nat.reduceSub, Nat.reduceLeDiff, Nat.zero_add, Nat.sub_zero, rd1_of hb1, fillL, zrep]
    generalize hH2 : AH.new H1 _ = H2
    obtain ⟨hb2, p2, n2⟩ := new_facts hH2
    have hb1 := pre_get p2 hb1
    refine i_isSize (ns := [x.n, x.m, x.k]) (Ints.own (ns := [x.n, x.m, x.k]) hb2 rfl) (by simp) ?_
    have e0 : ([x.n, x.m, x.k] : List Int).all sz = szX x := by unfold szX; rw [c0]; simp [Bool.and_assoc]
    rw [e0]
    have hQ2 := hQ _ (p1.trans p2)
    cases c1 : szX x with
    | false =>
      try simp (maxSteps := 3000000) (disch := first | omega | (simp only [len_new, len_put, len_kill]; omega)) only [↓xpre, xpost, ↓reduceIte, Nat.reduceEqDiff, Nat.reduceAdd, Nat.reduceSub, Nat.reduceLeDiff, Nat.zero_add, Nat.sub_zero, WG_un]
      rw [c1] at hQ2
      exact hQ2
    | true =>
      rw [c1] at hQ hQ2
      have z := szX_facts c1
      by_cases c2 : (30 : Int) < x.ps.length
      · try simp (maxSteps := 3000000) (disch := first | omega | (simp only [len_new, len_put, len_kill]; omega)) only [↓xpre, xpost, ↓reduceIte, Nat.reduceEqDiff, Nat.reduceAdd, Nat.reduceSub, Nat.reduceLeDiff, Nat.zero_add, Nat.sub_zero, rd1_of hb1, (hv.pre (p1.trans p2)).1.len, decide_eq_true c2]
        rw [decide_eq_false (show ¬ x.ps.length ≤ 30 by omega)] at hQ2
        exact hQ2
      rw [decide_eq_true (show x.ps.length ≤ 30 by omega)] at hQ
      try simp (maxSteps := 3000000) (disch := first | omega | (simp only [len_new, len_put, len_kill]; omega)) only [↓xpre, xpost, ↓reduceIte, Nat.reduceEqDiff, Nat.reduceAdd, Nat.reduceSub, Nat.reduceLeDiff, Nat.zero_add, Nat.sub_zero, rd1_of hb1, (hv.pre (p1.trans p2)).1.len, decide_eq_false c2]
      refine WC_loop_inv (fun m f K1 => ∃ (i : Nat), m = x.ps.length - i ∧ i ≤ x.ps.length ∧ f 1 = .pointer (some ⟨h.length, 0, none⟩) ∧ f 27 = v ∧ f 28 = I64 x.ps.length ∧ f 29 = I64 i ∧ (H2 <+: K1) ∧ (∀ j, j < i → okProd x (x.ps.getD j []) = true)) ?_ (x.ps.length - 0) _ _ ⟨0, rfl, by omega, (by first | rfl | (simp [upd_apply]; done)), (by first | rfl | (simp [upd_apply]; done)), (by first | rfl | (simp [upd_apply]; done)), (by first | rfl | (simp [upd_apply]; done)), List.prefix_refl _, (by omega)⟩
      rintro m f K1 ⟨i, rfl, hi, f1, f27, f28, f29, pp, hj⟩
      have hb1 := pre_get pp hb1
      have hvK := hv.pre ((p1.trans p2).trans pp)
      by_cases hlt : (i : Int) < x.ps.length
      · have hi' : i < x.ps.length := by omega
        obtain ⟨n, off, hix, hrn, hr1⟩ := hvK.1.at hi'
        have r27 := hrn 0 27 (by omega)
        have wi := hvK.1.wid hi'
        have tk : (x.ps.getD i []).take 27 = x.ps.getD i [] := List.take_of_length_le (by omega)
        rw [List.drop_zero, tk, Nat.add_zero] at r27
        have w1 : ∀ (h1 : AH) (e : TypeId), (h1.new ⟨[.int .u8 0, .int .u8 0, .int .u8 0, .int .u8 0, .int .u8 0, .int .u8 0, .int .u8 0, .int .u8 0, .int .u8 0, .int .u8 0, .int .u8 0, .int .u8 0, .int .u8 0, .int .u8 0, .int .u8 0, .int .u8 0, .int .u8 0, .int .u8 0, .int .u8 0, .int .u8 0, .int .u8 0, .int .u8 0, .int .u8 0, .int .u8 0, .int .u8 0, .int .u8 0, .int .u8 0], e, false, true⟩).wr h1.length 0 (cel .u8 (x.ps.getD i [])) = some (h1.new ⟨cel .u8 (x.ps.getD i []), e, false, true⟩) := fun h1 e => wr_all (by rw [cel_len, wi]; rfl)
        try simp (maxSteps := 3000000) (disch := first | omega | (simp only [len_new, len_put, len_kill]; omega)) only [↓xpre, xpost, ↓reduceIte, Nat.reduceEqDiff, Nat.reduceAdd, Nat.reduceSub, Nat.reduceLeDiff, Nat.zero_add, Nat.sub_zero, f1, f27, f28, f29, decide_eq_true hlt, hix, r27, cel_all, cel_len, wi, ↓w1]
        generalize hH3 : AH.new K1 _ = H3
        obtain ⟨hb3, p3, n3⟩ := new_facts hH3
        have hb1 := pre_get p3 hb1
        try simp (maxSteps := 3000000) (disch := first | omega | (simp only [len_new, len_put, len_kill]; omega)) only [↓xpre, xpost, ↓reduceIte, Nat.reduceEqDiff, Nat.reduceAdd, Nat.reduceSub, Nat.reduceLeDiff, Nat.zero_add, Nat.sub_zero, f1, f27, f28, f29, rd1_of hb1, rdn_of hb1]
        refine i_placesOf hvK.one z fun H4 p4 => ?_
        have hb1 := pre_get p4 hb1
        have hb3 := pre_get p4 hb3
        try simp (maxSteps := 3000000) (disch := first | omega | (simp only [len_new, len_put, len_kill]; omega)) only [↓xpre, xpost, ↓reduceIte, Nat.reduceEqDiff, Nat.reduceAdd, Nat.reduceSub, Nat.reduceLeDiff, Nat.zero_add, Nat.sub_zero, f1, f27, f28, f29, rdn_of hb3, cel_len, wi, cel_take, tk]
        refine ⟨p4, ?_⟩
        refine i_isProduct z (hvK.by hi') fun H5 p5 => ?_
        cases c3 : okProd x (x.ps.getD i []) with
        | false =>
          try simp (maxSteps := 3000000) (disch := first | omega | (simp only [len_new, len_put, len_kill]; omega)) only [↓xpre, xpost, ↓reduceIte, Nat.reduceEqDiff, Nat.reduceAdd, Nat.reduceSub, Nat.reduceLeDiff, Nat.zero_add, Nat.sub_zero, f1, f27, f28, f29]
          have := hQ _ (((p1.trans p2).trans pp).trans ((p3.trans p4).trans p5))
          rw [all_getD_f hi' c3] at this
          exact this
        | true =>
          try simp (maxSteps := 3000000) (disch := first | omega | (simp only [len_new, len_put, len_kill]; omega)) only [↓xpre, xpost, ↓reduceIte, Nat.reduceEqDiff, Nat.reduceAdd, Nat.reduceSub, Nat.reduceLeDiff, Nat.zero_add, Nat.sub_zero, f1, f27, f28, f29, wrap64_in]
          refine InvQ_go (x.ps.length - (i + 1)) (by omega) ⟨(i + 1), rfl, by omega, (by first | rfl | exact f1 | (simp only [upd_apply]; rfl) | (show I64 _ = _; congr 1; omega)), (by first | rfl | exact f27 | (simp only [upd_apply]; rfl) | (show I64 _ = _; congr 1; omega)), (by first | rfl | exact f28 | (simp only [upd_apply]; rfl) | (show I64 _ = _; congr 1; omega)), (by first | rfl | exact f29 | (simp only [upd_apply]; rfl) | (show I64 _ = _; congr 1; omega)), (pp.trans ((p3.trans p4).trans p5)), (step_all hj c3)⟩
      · try simp (maxSteps := 3000000) (disch := first | omega | (simp only [len_new, len_put, len_kill]; omega)) only [↓xpre, xpost, ↓reduceIte, Nat.reduceEqDiff, Nat.reduceAdd, Nat.reduceSub, Nat.reduceLeDiff, Nat.zero_add, Nat.sub_zero, f1, f27, f28, f29, decide_eq_false hlt]
        have := hQ _ ((p1.trans p2).trans pp)
        rw [all_getD (d := []) fun j hj' => hj j (by omega)] at this
        exact this
end Go.Proofs.Ytilpnbejpndgpaa.X

/- The rules once more, with continuations that the rewriting leaves alone until their turn: printed by wip/tools/mkY.py. -/
set_option linter.unusedVariables false
set_option linter.unusedSimpArgs false
set_option linter.defProp false
namespace Go.Proofs.Ytilpnbejpndgpaa.X
open Go Go.RowKit

/-- A dummy that depends on what is to be left alone. -/
inductive Dum {α : Type} (a : α) : Type
 | mk

def yQV (v : Value) (Q : Value → Prop) (_ : Dum Q) : Prop := QV v Q
@[congr] theorem yQV_congr {v : Value} {Q : Value → Prop} {w : Value} {d0 : Dum Q} (e : v = w) : yQV v Q d0 = yQV w Q d0 := by rw [e]
theorem yQV_forth {v : Value} {Q : Value → Prop} : QV v Q = yQV v Q .mk := rfl
theorem yQV_back {v : Value} {Q : Value → Prop} {d0 : Dum Q} : yQV v Q d0 = QV v Q := rfl
def yWV (r : Option Value) (Q : Value → Prop) (_ : Dum Q) : Prop := WV r Q
@[congr] theorem yWV_congr {r : Option Value} {Q : Value → Prop} {w : Option Value} {d0 : Dum Q} (e : r = w) : yWV r Q d0 = yWV w Q d0 := by rw [e]
theorem yWV_forth {r : Option Value} {Q : Value → Prop} : WV r Q = yWV r Q .mk := rfl
theorem yWV_back {r : Option Value} {Q : Value → Prop} {d0 : Dum Q} : yWV r Q d0 = WV r Q := rfl
def yHQ (r : Option AH) (Q : AH → Prop) (_ : Dum Q) : Prop := HQ r Q
@[congr] theorem yHQ_congr {r : Option AH} {Q : AH → Prop} {w : Option AH} {d0 : Dum Q} (e : r = w) : yHQ r Q d0 = yHQ w Q d0 := by rw [e]
theorem yHQ_forth {r : Option AH} {Q : AH → Prop} : HQ r Q = yHQ r Q .mk := rfl
theorem yHQ_back {r : Option AH} {Q : AH → Prop} {d0 : Dum Q} : yHQ r Q d0 = HQ r Q := rfl
def yPQ (v : Value) (Q : Nat → Nat → Prop) (_ : Dum Q) : Prop := PQ v Q
@[congr] theorem yPQ_congr {v : Value} {Q : Nat → Nat → Prop} {w : Value} {d0 : Dum Q} (e : v = w) : yPQ v Q d0 = yPQ w Q d0 := by rw [e]
theorem yPQ_forth {v : Value} {Q : Nat → Nat → Prop} : PQ v Q = yPQ v Q .mk := rfl
theorem yPQ_back {v : Value} {Q : Nat → Nat → Prop} {d0 : Dum Q} : yPQ v Q d0 = PQ v Q := rfl
def yLQ (v : List Value) (Q : List Value → Prop) (_ : Dum Q) : Prop := LQ v Q
@[congr] theorem yLQ_congr {v : List Value} {Q : List Value → Prop} {w : List Value} {d0 : Dum Q} (e : v = w) : yLQ v Q d0 = yLQ w Q d0 := by rw [e]
theorem yLQ_forth {v : List Value} {Q : List Value → Prop} : LQ v Q = yLQ v Q .mk := rfl
theorem yLQ_back {v : List Value} {Q : List Value → Prop} {d0 : Dum Q} : yLQ v Q d0 = LQ v Q := rfl
def yVQ (r : Option (List Value)) (Q : List Value → Prop) (_ : Dum Q) : Prop := VQ r Q
@[congr] theorem yVQ_congr {r : Option (List Value)} {Q : List Value → Prop} {w : Option (List Value)} {d0 : Dum Q} (e : r = w) : yVQ r Q d0 = yVQ w Q d0 := by rw [e]
theorem yVQ_forth {r : Option (List Value)} {Q : List Value → Prop} : VQ r Q = yVQ r Q .mk := rfl
theorem yVQ_back {r : Option (List Value)} {Q : List Value → Prop} {d0 : Dum Q} : yVQ r Q d0 = VQ r Q := rfl
def yOQ (r : Option (Value × AH)) (Q : Value → AH → Prop) (_ : Dum Q) : Prop := OQ r Q
@[congr] theorem yOQ_congr {r : Option (Value × AH)} {Q : Value → AH → Prop} {w : Option (Value × AH)} {d0 : Dum Q} (e : r = w) : yOQ r Q d0 = yOQ w Q d0 := by rw [e]
theorem yOQ_forth {r : Option (Value × AH)} {Q : Value → AH → Prop} : OQ r Q = yOQ r Q .mk := rfl
theorem yOQ_back {r : Option (Value × AH)} {Q : Value → AH → Prop} {d0 : Dum Q} : yOQ r Q d0 = OQ r Q := rfl
def yIfW (v : Value) (A : Prop) (B : Prop) (_ : Dum A) (_ : Dum B) : Prop := IfW v A B
@[congr] theorem yIfW_congr {v : Value} {A : Prop} {B : Prop} {w : Value} {d0 : Dum A} {d1 : Dum B} (e : v = w) : yIfW v A B d0 d1 = yIfW w A B d0 d1 := by rw [e]
theorem yIfW_forth {v : Value} {A : Prop} {B : Prop} : IfW v A B = yIfW v A B .mk .mk := rfl
theorem yIfW_back {v : Value} {A : Prop} {B : Prop} {d0 : Dum A} {d1 : Dum B} : yIfW v A B d0 d1 = IfW v A B := rfl
def yWF (S : XS) (g : FuncId) (args : List Value) (h : AH) (Q : Value → AH → Prop) (_ : Dum h) (_ : Dum Q) : Prop := WF S g args h Q
@[congr] theorem yWF_congr {S : XS} {g : FuncId} {args args1 : List Value} {h : AH} {Q : Value → AH → Prop} {d0 : Dum h} {d1 : Dum Q} (e : args = args1) : yWF S g args h Q d0 d1 = yWF S g args1 h Q d0 d1 := by rw [e]
theorem yWF_back {S : XS} {g : FuncId} {args : List Value} {h : AH} {Q : Value → AH → Prop} {d0 : Dum h} {d1 : Dum Q} : yWF S g args h Q d0 d1 = WF S g args h Q := rfl
def yWK (S : XS) (v : Value) (args : List Value) (h : AH) (Q : Value → AH → Prop) (_ : Dum h) (_ : Dum Q) : Prop := WK S v args h Q
@[congr] theorem yWK_congr {S : XS} {v v1 : Value} {args args1 : List Value} {h : AH} {Q : Value → AH → Prop} {d0 : Dum h} {d1 : Dum Q} (e : v = v1) (e1 : args = args1) : yWK S v args h Q d0 d1 = yWK S v1 args1 h Q d0 d1 := by rw [e, e1]
theorem yWK_back {S : XS} {v : Value} {args : List Value} {h : AH} {Q : Value → AH → Prop} {d0 : Dum h} {d1 : Dum Q} : yWK S v args h Q d0 d1 = WK S v args h Q := rfl
theorem yWK_func {S : XS} {g : FuncId} {cap : Array Value} {args : List Value} {h : AH} {Q : Value → AH → Prop} {d0 : Dum h} {d1 : Dum Q} : yWK S (.func (.func g) #[] cap) args h Q d0 d1 = yWF S g (args ++ cap.toList) h Q .mk .mk := rfl
def yWG (S : XS) (v : Value) (b : Bool) (i : XI) (rest : List XI) (f : Fr) (h : AH) (Q : Fr → AH → Prop) (_ : Dum i) (_ : Dum rest) (_ : Dum f) (_ : Dum h) (_ : Dum Q) : Prop := WG S v b i rest f h Q
@[congr] theorem yWG_congr {v v1 : Value} {b : Bool} {S : XS} {i : XI} {rest : List XI} {f : Fr} {h : AH} {Q : Fr → AH → Prop} {d0 : Dum i} {d1 : Dum rest} {d2 : Dum f} {d3 : Dum h} {d4 : Dum Q} (e : v = v1) : yWG S v b i rest f h Q d0 d1 d2 d3 d4 = yWG S v1 b i rest f h Q d0 d1 d2 d3 d4 := by rw [e]
theorem yWG_back {v : Value} {b : Bool} {S : XS} {i : XI} {rest : List XI} {f : Fr} {h : AH} {Q : Fr → AH → Prop} {d0 : Dum i} {d1 : Dum rest} {d2 : Dum f} {d3 : Dum h} {d4 : Dum Q} : yWG S v b i rest f h Q d0 d1 d2 d3 d4 = WG S v b i rest f h Q := rfl
theorem yWG_tt {S : XS} {i : XI} {rest : List XI} {f : Fr} {h : AH} {Q : Fr → AH → Prop} {d0 : Dum i} {d1 : Dum rest} {d2 : Dum f} {d3 : Dum h} {d4 : Dum Q} : yWG S (.bool true) true i rest f h Q d0 d1 d2 d3 d4 = WO S (⟨i.d, i.o, none, i.q⟩ :: rest) f h Q := rfl
theorem yWG_ff {S : XS} {i : XI} {rest : List XI} {f : Fr} {h : AH} {Q : Fr → AH → Prop} {d0 : Dum i} {d1 : Dum rest} {d2 : Dum f} {d3 : Dum h} {d4 : Dum Q} : yWG S (.bool false) false i rest f h Q d0 d1 d2 d3 d4 = WO S (⟨i.d, i.o, none, i.q⟩ :: rest) f h Q := rfl
theorem yWG_tf {S : XS} {i : XI} {rest : List XI} {f : Fr} {h : AH} {Q : Fr → AH → Prop} {d0 : Dum i} {d1 : Dum rest} {d2 : Dum f} {d3 : Dum h} {d4 : Dum Q} : yWG S (.bool true) false i rest f h Q d0 d1 d2 d3 d4 = WO S rest (updo f i.d undef) h Q := rfl
theorem yWG_ft {S : XS} {i : XI} {rest : List XI} {f : Fr} {h : AH} {Q : Fr → AH → Prop} {d0 : Dum i} {d1 : Dum rest} {d2 : Dum f} {d3 : Dum h} {d4 : Dum Q} : yWG S (.bool false) true i rest f h Q d0 d1 d2 d3 d4 = WO S rest (updo f i.d undef) h Q := rfl
theorem yWG_un {b : Bool} {S : XS} {i : XI} {rest : List XI} {f : Fr} {h : AH} {Q : Fr → AH → Prop} {d0 : Dum i} {d1 : Dum rest} {d2 : Dum f} {d3 : Dum h} {d4 : Dum Q} : yWG S undef b i rest f h Q d0 d1 d2 d3 d4 = WO S rest (updo f i.d undef) h Q := rfl
theorem yQV_eq {v : Value} {Q : Value → Prop} {d : Dum Q} : yQV v Q d = Q v := rfl
theorem yWV_some {v : Value} {Q : Value → Prop} {d : Dum Q} : yWV (some v) Q d = Q v := WV_some
theorem yWV_ite {c : Prop} [Decidable c] {v : Value} {Q : Value → Prop} {d : Dum Q} : yWV (if c then some v else none) Q d = (c ∧ Q v) := WV_ite
theorem yHQ_some {v : AH} {Q : AH → Prop} {d : Dum Q} : yHQ (some v) Q d = Q v := HQ_some
theorem yHQ_ite {c : Prop} [Decidable c] {v : AH} {Q : AH → Prop} {d : Dum Q} : yHQ (if c then some v else none) Q d = (c ∧ Q v) := HQ_ite
theorem yPQ_ptr {p : Addr} {Q : Nat → Nat → Prop} {d : Dum Q} : yPQ (.pointer (some p)) Q d = Q p.block p.off := rfl
theorem yLQ_eq {v : List Value} {Q : List Value → Prop} {d : Dum Q} : yLQ v Q d = Q v := rfl
theorem yVQ_some {v : List Value} {Q : List Value → Prop} {d : Dum Q} : yVQ (some v) Q d = Q v := VQ_some
theorem yOQ_some {v : Value} {h : AH} {Q : Value → AH → Prop} {d : Dum Q} : yOQ (some (v, h)) Q d = Q v h := OQ_some
theorem yOQ_ite {c : Prop} [Decidable c] {v : Value} {h : AH} {Q : Value → AH → Prop} {d : Dum Q} : yOQ (if c then some (v, h) else none) Q d = (c ∧ Q v h) := OQ_ite
theorem yIfW_t {A B : Prop} {d : Dum A} {e : Dum B} : yIfW (.bool true) A B d e = A := rfl
theorem yIfW_f {A B : Prop} {d : Dum A} {e : Dum B} : yIfW (.bool false) A B d e = B := rfl

theorem yWX_mkz {S : XS} {f : Fr} {h : AH} {Q : Value → AH → Prop}  : WX S .mkz f h Q = yQV (.slice none 0 2) (fun v => Q v h) .mk := WX_mkz
theorem yWX_mv {S : XS} {f : Fr} {h : AH} {Q : Value → AH → Prop} {x : Operand} : WX S (.mv x) f h Q = yQV (ev f x) (fun v => Q v h) .mk := WX_mv
theorem yWX_pick {S : XS} {f : Fr} {h : AH} {Q : Value → AH → Prop} {a b c : Operand} : WX S (.pick c a b) f h Q = yWV (pickV (ev f c) (ev f a) (ev f b)) (fun v => Q v h) .mk := WX_pick
theorem yWX_box {S : XS} {f : Fr} {h : AH} {Q : Value → AH → Prop} {x : Operand} {e : TypeId} : WX S (.box e x) f h Q = yLQ (cellsL (ev f x)) (fun c => c.all isOne = true ∧ Q (.pointer (some ⟨h.length, 0, none⟩)) (h.new ⟨c, e, false, true⟩)) .mk := WX_box
theorem yWX_boxn {S : XS} {f : Fr} {h : AH} {Q : Value → AH → Prop} {x : Operand} {e : TypeId} {n : Nat} : WX S (.boxn e n x) f h Q = yLQ (cellsL (ev f x)) (fun c => (c.length = n ∧ c.all isOne = true) ∧ Q (.pointer (some ⟨h.length, 0, none⟩)) (h.new ⟨c, e, false, true⟩)) .mk := WX_boxn
theorem yWX_load1 {S : XS} {f : Fr} {h : AH} {Q : Value → AH → Prop} {a : Operand} : WX S (.load1 a) f h Q = yPQ (ev f a) (fun n off => yWV (h.rd1 n off) (fun v => Q v h) .mk) .mk := WX_load1
theorem yWX_loadn {S : XS} {f : Fr} {h : AH} {Q : Value → AH → Prop} {a : Operand} {n : Nat} : WX S (.loadn n a) f h Q = yPQ (ev f a) (fun m off => yWV ((h.rdn m off n).map fun c => .agg c.toArray) (fun v => Q v h) .mk) .mk := WX_loadn
theorem yWX_store {S : XS} {f : Fr} {h : AH} {Q : Value → AH → Prop} {a x : Operand} {n : Nat} : WX S (.store n a x) f h Q = yPQ (ev f a) (fun m off => yLQ (cellsL (ev f x)) (fun c => (c.length = n ∧ c.all isOne = true) ∧ yHQ (h.wr m off c) (fun h1 => Q undef h1) .mk) .mk) .mk := WX_store
theorem yWX_bin {S : XS} {f : Fr} {h : AH} {Q : Value → AH → Prop} {x y : Operand} {op : BinOp} : WX S (.bin op x y) f h Q = yWV (xbin op (ev f x) (ev f y)) (fun v => Q v h) .mk := WX_bin
theorem yWX_un {S : XS} {f : Fr} {h : AH} {Q : Value → AH → Prop} {x : Operand} {op : UnOp} : WX S (.un op x) f h Q = yWV (xun op (ev f x)) (fun v => Q v h) .mk := WX_un
theorem yWX_conv {S : XS} {f : Fr} {h : AH} {Q : Value → AH → Prop} {x : Operand} {k : IntKind} : WX S (.conv k x) f h Q = yWV (convV k (ev f x)) (fun v => Q v h) .mk := WX_conv
theorem yWX_fadr {S : XS} {f : Fr} {h : AH} {Q : Value → AH → Prop} {x : Operand} {off : Nat} : WX S (.fadr off x) f h Q = yPQ (ev f x) (fun n o => Q (.pointer (some ⟨n, o + off, none⟩)) h) .mk := WX_fadr
theorem yWX_fld1 {S : XS} {f : Fr} {h : AH} {Q : Value → AH → Prop} {x : Operand} {off : Nat} : WX S (.fld1 off x) f h Q = yWV (fstV (ev f x) off) (fun v => Q v h) .mk := WX_fld1
theorem yWX_ext {S : XS} {f : Fr} {h : AH} {Q : Value → AH → Prop} {x : Operand} {i : Nat} : WX S (.ext x i) f h Q = yWV (extV (ev f x) i) (fun v => Q v h) .mk := WX_ext
theorem yWX_len {S : XS} {f : Fr} {h : AH} {Q : Value → AH → Prop} {x : Operand} : WX S (.len x) f h Q = yWV (lenV (ev f x)) (fun v => Q v h) .mk := WX_len
theorem yWX_ixs {S : XS} {f : Fr} {h : AH} {Q : Value → AH → Prop} {x y : Operand} {sz : Nat} : WX S (.ixs sz x y) f h Q = yWV (ixsV sz (ev f x) (ev f y)) (fun v => Q v h) .mk := WX_ixs
theorem yWX_ixa {S : XS} {f : Fr} {h : AH} {Q : Value → AH → Prop} {x y : Operand} {n sz : Nat} : WX S (.ixa n sz x y) f h Q = yWV (ixaV n sz (ev f x) (ev f y)) (fun v => Q v h) .mk := WX_ixa
theorem yWX_idx1 {S : XS} {f : Fr} {h : AH} {Q : Value → AH → Prop} {x y : Operand} {n : Nat} : WX S (.idx1 n x y) f h Q = yWV (idx1V n (ev f x) (ev f y)) (fun v => Q v h) .mk := WX_idx1
theorem yWX_idxn {S : XS} {f : Fr} {h : AH} {Q : Value → AH → Prop} {x y : Operand} {n sz : Nat} : WX S (.idxn n sz x y) f h Q = yWV (idxnV n sz (ev f x) (ev f y)) (fun v => Q v h) .mk := WX_idxn
theorem yWX_slc {S : XS} {f : Fr} {h : AH} {Q : Value → AH → Prop} {x : Operand} {sz : Nat} {lo hi : Option Operand} : WX S (.slc sz x lo hi) f h Q = yWV (slcV sz (ev f x) (omapF f lo) (omapF f hi)) (fun v => Q v h) .mk := WX_slc
theorem yWX_cap {S : XS} {f : Fr} {h : AH} {Q : Value → AH → Prop} {x : Operand} : WX S (.cap x) f h Q = yWV (capV (ev f x)) (fun v => Q v h) .mk := WX_cap
theorem yWX_isnil {S : XS} {f : Fr} {h : AH} {Q : Value → AH → Prop} {x : Operand} {neg : Bool} : WX S (.isnil neg x) f h Q = yWV (isnilV neg (ev f x)) (fun v => Q v h) .mk := WX_isnil
theorem yWX_eqb {S : XS} {f : Fr} {h : AH} {Q : Value → AH → Prop} {x y : Operand} {neg : Bool} : WX S (.eqb neg x y) f h Q = yWV (eqbV neg (ev f x) (ev f y)) (fun v => Q v h) .mk := WX_eqb
theorem yWX_eqa {S : XS} {f : Fr} {h : AH} {Q : Value → AH → Prop} {x y : Operand} {neg : Bool} {n : Nat} : WX S (.eqa neg n x y) f h Q = yWV (eqaV neg n (ev f x) (ev f y)) (fun v => Q v h) .mk := WX_eqa
theorem yWX_mks {S : XS} {f : Fr} {h : AH} {Q : Value → AH → Prop} {x : Operand} {e : TypeId} {sz bytes : Nat} {z : List Value} : WX S (.mks e sz bytes z x) f h Q = yOQ (mksV e sz bytes z (ev f x) h) Q .mk := WX_mks
theorem yWX_app {S : XS} {f : Fr} {h : AH} {Q : Value → AH → Prop} {x y : Operand} {e : TypeId} {sz bytes : Nat} : WX S (.app e sz bytes x y) f h Q = yOQ (appV e sz bytes (ev f x) (ev f y) h) Q .mk := WX_app
theorem yWX_appz {S : XS} {f : Fr} {h : AH} {Q : Value → AH → Prop} {x y : Operand} {e : TypeId} {sz bytes : Nat} : WX S (.appz e sz bytes x y) f h Q = yOQ (appzV e sz bytes (ev f x) (ev f y) h) Q .mk := WX_appz
theorem yWX_mkf {S : XS} {f : Fr} {h : AH} {Q : Value → AH → Prop} {g : FuncId} {l : List Operand} : WX S (.mkf g l) f h Q = yLQ (l.map (ev f)) (fun c => Q (.func (.func g) #[] c.toArray) h) .mk := WX_mkf
theorem yWX_build {S : XS} {f : Fr} {h : AH} {Q : Value → AH → Prop} {z : List Value} {l : List (Nat × Nat × Operand)} : WX S (.build z l) f h Q = yVQ (fillL z (l.map fun p => (p.1, p.2.1, ev f p.2.2))) (fun c => c.all isOne = true ∧ Q (.agg c.toArray) h) .mk := WX_build
theorem yWX_bslice {S : XS} {f : Fr} {h : AH} {Q : Value → AH → Prop} {e : TypeId} {sz n : Nat} {z : List Value} {l : List (Nat × Nat × Operand)} : WX S (.bslice e sz n z l) f h Q = yVQ (fillL (zrep n z) (l.map fun p => (p.1, p.2.1, ev f p.2.2))) (fun c => c.all isOne = true ∧ Q (.slice (some ⟨h.length, 0, none⟩) n sz) (h.new ⟨c, e, false, true⟩)) .mk := WX_bslice
theorem yWX_callf {S : XS} {f : Fr} {h : AH} {Q : Value → AH → Prop} {g : FuncId} {args : List Operand} : WX S (.call (.func g) args) f h Q = yWF S g (args.map (ev f)) h Q .mk .mk := WX_callf
theorem yWX_calls {S : XS} {f : Fr} {h : AH} {Q : Value → AH → Prop} {fo : Operand} {args : List Operand} : WX S (.call fo args) f h Q = yWK S (ev f fo) (args.map (ev f)) h Q .mk .mk := WX_calls
theorem yWO_guard {S : XS} {d : Option Nat} {o : XOp} {s : Nat} {b q : Bool} {rest : List XI} {f : Fr} {h : AH} {Q : Fr → AH → Prop} : WO S (⟨d, o, some (s, b), q⟩ :: rest) f h Q = yWG S (f s) b ⟨d, o, none, q⟩ rest f h Q .mk .mk .mk .mk .mk := WO_guard
theorem yWC_cond {S : XS} {c : Operand} {a b : IR} {f : Fr} {h : AH} {Q : XE → Fr → AH → Prop} : WC S (.cond c a b) f h Q = yIfW (ev f c) (WC S a f h Q) (WC S b f h Q) .mk .mk := WC_cond
theorem yRetQ_n {rs : List XRes} {f : Fr} {h : AH} {R : Value → AH → Prop} : RetQ rs R .normal f h = yOQ ((xres f h rs).map (·, h)) R .mk := rfl
theorem yRetQ_r {rs : List XRes} {f : Fr} {h : AH} {R : Value → AH → Prop} : RetQ rs R .ret f h = yOQ ((xres f h rs).map (·, h)) R .mk := rfl
theorem yfill_nil {z : List Value} : fillL z [] = some z := rfl
theorem yfill_cons {z : List Value} {off n : Nat} {x : Value} {rest : List (Nat × Nat × Value)} : fillL z ((off, n, x) :: rest) = if (cellsL x).length = n ∧ off + n ≤ z.length then fillL (splice z off (cellsL x)) rest else none := rfl
theorem yzrep_0 {z : List Value} : zrep 0 z = [] := by simp [zrep]
theorem yzrep_1 {z : List Value} : zrep 1 z = z := by simp [zrep]
theorem yzrep_2 {z : List Value} : zrep 2 z = z ++ z := by simp [zrep]
theorem yzrep_3 {z : List Value} : zrep 3 z = z ++ z ++ z := by simp [zrep]
theorem yzrep_4 {z : List Value} : zrep 4 z = z ++ z ++ z ++ z := by simp [zrep]
theorem yzrep_5 {z : List Value} : zrep 5 z = z ++ z ++ z ++ z ++ z := by simp [zrep]
theorem yzrep_6 {z : List Value} : zrep 6 z = z ++ z ++ z ++ z ++ z ++ z := by simp [zrep]
theorem yzrep_7 {z : List Value} : zrep 7 z = z ++ z ++ z ++ z ++ z ++ z ++ z := by simp [zrep]
theorem yzrep_8 {z : List Value} : zrep 8 z = z ++ z ++ z ++ z ++ z ++ z ++ z ++ z := by simp [zrep]
theorem yzrep_9 {z : List Value} : zrep 9 z = z ++ z ++ z ++ z ++ z ++ z ++ z ++ z ++ z := by simp [zrep]
theorem yWF_forth {S : XS} {g : FuncId} {args : List Value} {h : AH} {Q : Value → AH → Prop} : WF S g args h Q = yWF S g args h Q .mk .mk := rfl
theorem yWK_forth {S : XS} {v : Value} {args : List Value} {h : AH} {Q : Value → AH → Prop} : WK S v args h Q = yWK S v args h Q .mk .mk := rfl
theorem yWG_forth {S : XS} {v : Value} {b : Bool} {i : XI} {rest : List XI} {f : Fr} {h : AH} {Q : Fr → AH → Prop} : WG S v b i rest f h Q = yWG S v b i rest f h Q .mk .mk .mk .mk .mk := rfl
def ypre := And.intro @WC_skip (And.intro @WC_exit (And.intro @WC_ret (And.intro @WC_reg (And.intro @WC_seq (And.intro @yWC_cond (And.intro @WC_blk (And.intro @WO_free (And.intro @WO_calm (And.intro @yWO_guard (And.intro @yWX_mv (And.intro @yWX_pick (And.intro @WX_alloc (And.intro @yWX_box (And.intro @yWX_boxn (And.intro @yWX_load1 (And.intro @yWX_loadn (And.intro @yWX_store (And.intro @yWX_bin (And.intro @yWX_un (And.intro @yWX_conv (And.intro @yWX_fadr (And.intro @yWX_fld1 (And.intro @yWX_ext (And.intro @yWX_len (And.intro @yWX_cap (And.intro @yWX_ixa (And.intro @yWX_idx1 (And.intro @yWX_idxn (And.intro @yWX_slc (And.intro @yWX_cap (And.intro @yWX_isnil (And.intro @yWX_ixs (And.intro @yWX_eqb (And.intro @yWX_eqa (And.intro @yWX_mks (And.intro @yWX_app (And.intro @yWX_appz (And.intro @yWX_mkz (And.intro @yWX_mkf (And.intro @yWX_build (And.intro @yWX_bslice (And.intro @yWX_callf (And.intro @yWX_calls (And.intro @ev_tmp (And.intro @ev_const (And.intro @ev_func (And.intro @updo_some (And.intro @updo_none (And.intro @upd_apply (And.intro @SeqQ_n (And.intro @SeqQ_e (And.intro @SeqQ_r (And.intro @BlkQ_n (And.intro @BlkQ_e (And.intro @BlkQ_r (And.intro @RegQ_eq (And.intro @yRetQ_n (And.intro @yRetQ_r (And.intro @InvQ_e (And.intro @InvQ_r (And.intro @LoopQ_e (And.intro @LoopQ_r (And.intro @yQV_forth (And.intro @yWV_forth (And.intro @yHQ_forth (And.intro @yPQ_forth (And.intro @yLQ_forth (And.intro @yVQ_forth (And.intro @yOQ_forth (And.intro @yIfW_forth (And.intro @yWF_forth (And.intro @yWK_forth (@yWG_forth)))))))))))))))))))))))))))))))))))))))))))))))))))))))))))))))))))))))))
def ypost := And.intro @WO_nil (And.intro @yWG_tt (And.intro @yWG_ff (And.intro @yWG_tf (And.intro @yWG_un (And.intro @yWG_ft (And.intro @yQV_eq (And.intro @yWV_some (And.intro @yOQ_some (And.intro @yWK_func (And.intro @yHQ_some (And.intro @yPQ_ptr (And.intro @yLQ_eq (And.intro @yVQ_some (And.intro @yIfW_t (And.intro @yIfW_f (And.intro @pickV_t (And.intro @pickV_f (And.intro @bin_add (And.intro @bin_sub (And.intro @bin_mul (And.intro @bin_eql (And.intro @bin_neq (And.intro @bin_lss (And.intro @bin_leq (And.intro @bin_gtr (And.intro @bin_geq (And.intro @un_not (And.intro @un_minus (And.intro @lenV_slice (And.intro @convV_int (And.intro @fstV_agg (And.intro @extV_tuple (And.intro @eqa3 (And.intro @eqbV_b (And.intro @cellsL_agg (And.intro @cellsL_int (And.intro @cellsL_bool (And.intro @cellsL_slice (And.intro @cellsL_ptr (And.intro @cellsL_func (And.intro @mksV_int (And.intro @yOQ_ite (And.intro @yWV_ite (And.intro @rd1_new_same (And.intro @rd1_new_lt (And.intro @rdn_new_lt (And.intro @get_new_lt (And.intro @wr_new_lt (And.intro @yHQ_ite (And.intro @map_ite_v (And.intro @rd1_put_same (And.intro @rdn_put_same (And.intro @rd1_put_ne (And.intro @rdn_put_ne (And.intro @wr_put_same (And.intro @wr_put_ne (And.intro @xres_tmp (And.intro @xres_tmp2 (And.intro @xres_cell (And.intro @xres_cells (And.intro @xres_2 (And.intro @tup2_some (And.intro @rd1V_ptr (And.intro @rdnV_ptr (And.intro @xres1_tmp (And.intro @xres1_cell (And.intro @xres1_cells (And.intro @args_nil (And.intro @args_cons (And.intro @map_some_v (And.intro @bind_some_v (And.intro @map_cons_v (And.intro @map_nil_v (And.intro @lit_nil (And.intro @lit_cons (And.intro @toL (And.intro @all_cons_v (And.intro @all_nil_v (And.intro @one_int (And.intro @one_bool (And.intro @one_slice (And.intro @one_func (And.intro @one_ptr (And.intro @len_cons_v (And.intro @len_nil_v (And.intro @drop_zero_v (And.intro @drop_cons_v (And.intro @take_zero_v (And.intro @take_nil_v (And.intro @take_cons_v (And.intro @app_nil_v (And.intro @app_cons_v (And.intro @get_new_same (And.intro @Bool.and_true (And.intro @Bool.true_and (And.intro @Bool.not_true (And.intro @Bool.not_false (And.intro @true_and (And.intro @and_true (And.intro @and_self (And.intro @decide_true (And.intro @decide_false (And.intro @yfill_nil (And.intro @yfill_cons (And.intro @yzrep_0 (And.intro @yzrep_1 (And.intro @yzrep_2 (And.intro @yzrep_3 (And.intro @yzrep_4 (And.intro @yzrep_5 (And.intro @yzrep_6 (And.intro @yzrep_7 (And.intro @yzrep_8 (@yzrep_9))))))))))))))))))))))))))))))))))))))))))))))))))))))))))))))))))))))))))))))))))))))))))))))))))))))))))))))))))
def yback := And.intro @yQV_back (And.intro @yWV_back (And.intro @yHQ_back (And.intro @yPQ_back (And.intro @yLQ_back (And.intro @yVQ_back (And.intro @yOQ_back (And.intro @yIfW_back (And.intro @yWF_back (And.intro @yWK_back (@yWG_back))))))))))
def ynew := And.intro @wr_new_same (And.intro @rdn_new_same (@splice_cons))
end Go.Proofs.Ytilpnbejpndgpaa.X

/- Sets of rows as whole numbers of 32 bits; their counts. -/
set_option linter.unusedVariables false
set_option linter.unusedSimpArgs false
set_option maxRecDepth 20000
set_option maxHeartbeats 4000000
namespace Go.Proofs.Ytilpnbejpndgpaa.X
open Go Go.RowKit

/-- The set of the rows ahead of R with a mark. -/
def bs : Nat → (Nat → Bool) → Nat
  | 0, _ => 0
  | R + 1, f => bs R f + (if f R = true then 2 ^ R else 0)
def U32 (n : Nat) : Value := .int .u32 (n : Int)
section
variable {R : Nat} {f g : Nat → Bool}
end

/-! ### Counts -/
def cntB (f : Nat → Bool) : Nat → Nat
  | 0 => 0
  | R + 1 => cntB f R + (if f R = true then 1 else 0)
theorem cntB_congr {f g : Nat → Bool} : ∀ {R : Nat}, (∀ k, k < R → f k = g k) → cntB f R = cntB g R
  | 0, _ => rfl
  | R + 1, h => by
    unfold cntB
    rw [cntB_congr (R := R) fun k hk => h k (by omega), h R (by omega)]
end Go.Proofs.Ytilpnbejpndgpaa.X

/- Slices of elements of some whole numbers each: appends. -/
set_option linter.unusedVariables false
set_option linter.unusedSimpArgs false
set_option maxRecDepth 20000
set_option maxHeartbeats 4000000
namespace Go.Proofs.Ytilpnbejpndgpaa.X
open Go Go.RowKit

theorem getD_app_l {α : Type} {l r : List α} {i : Nat} {d : α} (hi : i < l.length) : (l ++ r).getD i d = l.getD i d := by
  rw [List.getD_eq_getElem?_getD, List.getD_eq_getElem?_getD, List.getElem?_append_left hi]
theorem getD_app_r {α : Type} {l r : List α} {i : Nat} {d : α} (hi : l.length ≤ i) : (l ++ r).getD i d = r.getD (i - l.length) d := by
  rw [List.getD_eq_getElem?_getD, List.getD_eq_getElem?_getD, List.getElem?_append_right hi]
theorem app_ownW {e : TypeId} {w bytes : Nat} {h : AH} {k n n' : Nat} {c vs : List Value} {full : Bool} (hk : h.get k = some ⟨c, e, false, full⟩) (hc : c.length = n * w) (hn : h.rdn n' 0 w = some vs)
    (hs : (n + 1 : Int) * bytes ≤ 140737488355328 ∧ (n + 1 : Int) ≤ 9223372036854775807) :
    appV e w bytes (.slice (some ⟨k, 0, none⟩) n w) (.slice (some ⟨n', 0, none⟩) 1 w) h = some (.slice (some ⟨h.length, 0, none⟩) (n + 1) w, (h.kill k).new ⟨c ++ vs, e, false, false⟩) := by
  simp only [appV, xop, ev, if_true, Nat.one_mul, hn, hk]
  rw [if_pos (by simpa using hs)]
  simp [hc]
theorem app_nilW {e : TypeId} {w bytes : Nat} {h : AH} {n' t : Nat} {vs : List Value} (ht : t = 0 ∨ t = 2) (hn : h.rdn n' 0 w = some vs) (hs : (1 : Int) * bytes ≤ 140737488355328) :
    appV e w bytes (.slice none 0 t) (.slice (some ⟨n', 0, none⟩) 1 w) h = some (.slice (some ⟨h.length, 0, none⟩) 1 w, h.new ⟨vs, e, false, false⟩) := by
  simp only [appV, xop, ev, if_true, Nat.one_mul, hn]
  rw [if_pos (by simpa using hs)]
  simp [ht]
/-- Elements under way: nil, or a block of one's own behind a place, other than the box that holds the slice. -/
def WayE (e : TypeId) (k : IntKind) (w : Nat) (h : AH) (lo bx : Nat) (sv : Value) (L : List (List Int)) : Prop :=
  Wid w L ∧ ((sv = .slice none 0 0 ∧ L = []) ∨ ∃ kb full, sv = .slice (some ⟨kb, 0, none⟩) L.length w ∧ lo ≤ kb ∧ kb ≠ bx ∧ h.get kb = some ⟨cel k L.flatten, e, false, full⟩)
section
variable {e : TypeId} {k : IntKind} {w : Nat} {h h' : AH} {lo bx : Nat} {sv : Value} {L : List (List Int)}
theorem WayE.pre (o : WayE e k w h lo bx sv L) (p : h <+: h') : WayE e k w h' lo bx sv L := by
  obtain ⟨hw, o | ⟨kb, full, h1, h2, h3, h4⟩⟩ := o
  · exact ⟨hw, .inl o⟩
  · exact ⟨hw, .inr ⟨kb, full, h1, h2, h3, pre_get p h4⟩⟩
theorem WayE.one (o : WayE e k w h lo bx sv L) : isOne sv = true := by
  obtain ⟨hw, ⟨rfl, _⟩ | ⟨kb, full, rfl, h2, h3, h4⟩⟩ := o <;> rfl
theorem WayE.cells (o : WayE e k w h lo bx sv L) : cellsL sv = [sv] := by
  obtain ⟨hw, ⟨rfl, _⟩ | ⟨kb, full, rfl, h2, h3, h4⟩⟩ := o <;> rfl
theorem WayE.put {b : Blk} (o : WayE e k w h lo bx sv L) : WayE e k w (h.put bx b) lo bx sv L := by
  obtain ⟨hw, o | ⟨kb, full, h1, h2, h3, h4⟩⟩ := o
  · exact ⟨hw, .inl o⟩
  · exact ⟨hw, .inr ⟨kb, full, h1, h2, h3, by rw [get_put_ne (fun x => h3 x.symm)]; exact h4⟩⟩
theorem WayE.inE (o : WayE e k w h lo bx sv L) : InE k w lo h.length h sv L := by
  obtain ⟨hw, o | ⟨kb, full, h1, h2, h3, h4⟩⟩ := o
  · exact .inl o
  · exact .inr ⟨kb, e, full, ⟨h2, get_lt h4⟩, h1, h4, hw⟩
/-- One element more. -/
theorem WayE.app {H : AH} {q : List Int} {e' : TypeId} {ro full : Bool} {bytes : Nat} (o : WayE e k w H lo bx sv L) (hq : q.length = w) (hl : ((L.length : Int) + 1) * bytes ≤ 140737488355328) (hn : (L.length : Int) < 1048576) (hlo : lo ≤ H.length) (hbx : bx < H.length)
    {Q : Value → AH → Prop} (hQ : ∀ sv' H', H'.length = H.length + 2 → (∀ h0 : AH, h0.length ≤ lo → h0 <+: H → h0 <+: H') → (∀ n c f, n < lo → OwnB H n c f → OwnB H' n c f) → (∀ c f, OwnB H bx c f → OwnB H' bx c f) → WayE e k w H' lo bx sv' (L ++ [q]) → Q sv' H') :
    OQ (appV e w bytes sv (.slice (some ⟨H.length, 0, none⟩) 1 w) (H.new ⟨cel k q, e', ro, full⟩)) Q := by
  have hr : (H.new ⟨cel k q, e', ro, full⟩).rdn H.length 0 w = some (cel k q) := by
    rw [rdn_of get_new_same]
    simp only
    rw [if_pos (by rw [cel_len, hq]; omega), List.drop_zero, List.take_of_length_le (by rw [cel_len, hq]; omega)]
  obtain ⟨hw, ⟨rfl, rfl⟩ | ⟨kb, fu, rfl, h2, h3, h4⟩⟩ := o
  · rw [app_nilW (.inl rfl) hr (by simp only [List.length_nil] at hl; omega), OQ_some]
    refine hQ _ _ (by rw [len_new, len_new]) (fun h0 _ p => pre_new (pre_new p)) (fun n c f hn o => (o.pre (pre_new (List.prefix_refl _))).pre (pre_new (List.prefix_refl _))) (fun c f o => (o.pre (pre_new (List.prefix_refl _))).pre (pre_new (List.prefix_refl _))) ⟨?_, .inr ⟨_, false, rfl, by rw [len_new]; omega, by rw [len_new]; omega, ?_⟩⟩
    · intro r hr
      rw [List.nil_append, List.mem_singleton] at hr
      rw [hr, hq]
    · rw [get_new_same]
      simp
  · have hk : (H.new ⟨cel k q, e', ro, full⟩).get kb = some ⟨cel k L.flatten, e, false, fu⟩ := get_new_any h4
    have hkb := get_lt h4
    rw [app_ownW hk (by rw [cel_len, flat_len hw]) hr ⟨hl, by omega⟩, OQ_some]
    refine hQ _ _ (by rw [len_new, len_kill, len_new]) (fun h0 q p => pre_new (pre_kill (pre_new p) (by omega))) (fun n c f hn o => ?_) (fun c f o => ?_) ⟨?_, .inr ⟨(H.new ⟨cel k q, e', ro, full⟩).length, false, by simp, by rw [len_new]; omega, by rw [len_new]; omega, ?_⟩⟩
    · obtain ⟨e', o⟩ := o
      exact ⟨e', get_new_any (by rw [get_kill_ne (by omega)]; exact get_new_any o)⟩
    · obtain ⟨e', o⟩ := o
      exact ⟨e', get_new_any (by rw [get_kill_ne h3]; exact get_new_any o)⟩
    · intro r hr
      rcases List.mem_append.1 hr with hr | hr
      · exact hw r hr
      · rw [List.mem_singleton.1 hr, hq]
    · rw [get_new_eq (by rw [len_kill])]
      simp [cel_app]
end
theorem InE.mono {k : IntKind} {w a b a' b' : Nat} {h : AH} {v : Value} {L : List (List Int)} (o : InE k w a b h v L) (ha : a' ≤ a) (hb : b ≤ b') : InE k w a' b' h v L := by
  rcases o with o | ⟨m, e, full, h1, rfl, h2, h3⟩
  · exact .inl o
  · exact .inr ⟨m, e, full, ⟨by omega, by omega⟩, rfl, h2, h3⟩
end Go.Proofs.Ytilpnbejpndgpaa.X

/- Programs of additions: sizes, copies, comparisons, marks (printed by wip/tools/mkP.py). -/
set_option linter.unusedVariables false
set_option linter.unusedSimpArgs false
set_option maxRecDepth 20000
set_option maxHeartbeats 4000000
namespace Go.Proofs.Ytilpnbejpndgpaa.X
open Go Go.RowKit

/-- A program. -/
structure Prg where
  p : Int
  n : Int
  st : List (List Int)
  out : List (List Int)
def PrgR (h : AH) (v w : Value) (x : Prg) : Prop := Els .i64 3 h v x.st ∧ Els .i64 2 h w x.out
def InP (a b : Nat) (h : AH) (v w : Value) (x : Prg) : Prop := ∃ c, a ≤ c ∧ c ≤ b ∧ InE .i64 3 a c h v x.st ∧ InE .i64 2 c b h w x.out
section
variable {a b c d : Nat} {h h' : AH} {v w : Value} {x : Prg}
theorem PrgR.pre (o : PrgR h v w x) (p : h <+: h') : PrgR h' v w x := ⟨o.1.pre p, o.2.pre p⟩
theorem InP.rd (o : InP a b h v w x) : PrgR h v w x := by
  obtain ⟨c, h1, h2, h3, h4⟩ := o
  exact ⟨h3.rd, h4.rd⟩
theorem InP.pre (o : InP a b h v w x) (p : h <+: h') : InP a b h' v w x := by
  obtain ⟨c, h1, h2, h3, h4⟩ := o
  exact ⟨c, h1, h2, h3.pre p, h4.pre p⟩
theorem InP.only (o : InP a b h v w x) (u : OnlyR c d h h') (hd : b ≤ c ∨ d ≤ a) : InP a b h' v w x := by
  obtain ⟨e, h1, h2, h3, h4⟩ := o
  exact ⟨e, h1, h2, h3.only u (by omega), h4.only u (by omega)⟩
theorem InP.mono {a' b' : Nat} (o : InP a b h v w x) (ha : a' ≤ a) (hb : b ≤ b') : InP a' b' h v w x := by
  obtain ⟨e, h1, h2, h3, h4⟩ := o
  exact ⟨e, by omega, by omega, h3.mono ha (Nat.le_refl _), h4.mono (Nat.le_refl _) hb⟩
end
end Go.Proofs.Ytilpnbejpndgpaa.X

/- What programs are, both sides (printed by wip/tools/mkP2.py). -/
set_option linter.unusedVariables false
set_option linter.unusedSimpArgs false
set_option maxRecDepth 20000
set_option maxHeartbeats 4000000
namespace Go.Proofs.Ytilpnbejpndgpaa.X
open Go Go.RowKit

end Go.Proofs.Ytilpnbejpndgpaa.X

/- Lists under way in known blocks; what programs make: RunProgram of both sides. -/
set_option linter.unusedVariables false
set_option linter.unusedSimpArgs false
set_option maxRecDepth 20000
set_option maxHeartbeats 4000000
namespace Go.Proofs.Ytilpnbejpndgpaa.X
open Go Go.RowKit

theorem map_get {l : List Int} {j : Nat} (hj : j < l.length) : (l.map (Value.int .i64))[j]? = some (I64 (l.getD j 0)) := by
  simp [List.getD_eq_getElem?_getD, hj]
theorem map_set {l : List Int} {j : Nat} {x : Int} (hj : j < l.length) : splice (l.map (Value.int .i64)) j [I64 x] = (l.set j x).map (Value.int .i64) := by
  rw [splice_set (by simpa using hj)]
  simp [List.map_set]
/-- A list in a block of one's own that is known. -/
def Lst (h : AH) (n : Nat) (l : List Int) (full : Bool) : Prop := h.get n = some ⟨l.map (Value.int .i64), 2, false, full⟩
def sl (n len : Nat) : Value := .slice (some ⟨n, 0, none⟩) len 1
section
variable {h h' : AH} {n : Nat} {l : List Int} {full : Bool}
theorem Lst.pre (o : Lst h n l full) (p : h <+: h') : Lst h' n l full := pre_get p o
theorem Lst.lt (o : Lst h n l full) : n < h.length := get_lt o
theorem Lst.own (o : Lst h n l full) : OwnB h n (l.map (Value.int .i64)) full := ⟨_, o⟩
theorem Lst.put_ne {m : Nat} {b : Blk} (o : Lst h n l full) (e : m ≠ n) : Lst (h.put m b) n l full := by
  unfold Lst
  rw [get_put_ne e]
  exact o
theorem Lst.ix {j : Int} {len : Nat} (h0 : 0 ≤ j ∧ j < len) : ixsV 1 (sl n len) (I64 j) = some (.pointer (some ⟨n, j.toNat, none⟩)) := by
  unfold sl
  rw [ixsV_some, if_pos ⟨h0.1, h0.2, rfl⟩]
  simp
theorem Lst.rd {j : Nat} (o : Lst h n l full) (hj : j < l.length) : h.rd1 n j = some (I64 (l.getD j 0)) := by
  rw [rd1_of o]
  exact map_get hj
theorem Lst.wr {j : Nat} {x : Int} (o : Lst h n l full) (hj : j < l.length) : ∃ h', h.wr n j [I64 x] = some h' ∧ h' = h.put n ⟨(l.set j x).map (Value.int .i64), 2, false, full⟩ ∧ Lst h' n (l.set j x) full := by
  refine ⟨_, ?_, rfl, get_put_same o.lt⟩
  rw [wr_of o, if_pos ⟨rfl, by simp only [List.length_map, List.length_singleton]; omega⟩, map_set hj]
theorem Lst.ints (o : Lst h n l full) : Ints h (sl n l.length) l := Ints.own o rfl
theorem Lst.ownR {h0 : AH} (o : Lst h n l full) (hn : h0.length ≤ n) : OwnR h0 h (sl n l.length) l := OwnR.of hn rfl o
theorem Lst.app {H : AH} {x : Int} {e' : TypeId} {ro fu : Bool} (o : Lst H n l full) (hl : (l.length : Int) ≤ 1048576) {Q : Value → AH → Prop}
    (hQ : ∀ H', H'.length = H.length + 2 → (∀ h0 : AH, h0.length ≤ n → h0 <+: H → h0 <+: H') → (∀ m c f, m ≠ n → OwnB H m c f → OwnB H' m c f) → (∀ m c f, m ≠ n → Lst H m c f → Lst H' m c f) → Lst H' (H.length + 1) (l ++ [x]) false → Q (sl (H.length + 1) (l ++ [x]).length) H') :
    OQ (appV 2 1 8 (sl n l.length) (.slice (some ⟨H.length, 0, none⟩) 1 1) (H.new ⟨[I64 x], e', ro, fu⟩)) Q := by
  have hn : (H.new ⟨[I64 x], e', ro, fu⟩).rdn H.length 0 1 = some [I64 x] := by rw [rdn_new_same]; rfl
  have hk : (H.new ⟨[I64 x], e', ro, fu⟩).get n = some ⟨l.map (Value.int .i64), 2, false, full⟩ := get_new_any o
  have hkb := o.lt
  unfold sl
  rw [app_own hk (by simp) hn (by omega), OQ_some]
  have := hQ (((H.new ⟨[I64 x], e', ro, fu⟩).kill n).new ⟨l.map (Value.int .i64) ++ [I64 x], 2, false, false⟩) (by rw [len_new, len_kill, len_new]) (fun h0 q p => pre_new (pre_kill (pre_new p) q))
    (fun m c f hm o => (o.new.kill_ne (fun e => hm e.symm)).new) (fun m c f hm o => get_new_any (by rw [get_kill_ne (fun e => hm e.symm)]; exact get_new_any o)) (by unfold Lst; rw [get_new_eq (by rw [len_kill, len_new])]; simp)
  unfold sl at this
  rw [len_new]
  rw [List.length_append, List.length_singleton] at this
  exact this
end
/-! ### What programs make -/
end Go.Proofs.Ytilpnbejpndgpaa.X

/- Elements under way beside other things under way; lists of truth values. -/
set_option linter.unusedVariables false
set_option linter.unusedSimpArgs false
set_option maxRecDepth 20000
set_option maxHeartbeats 4000000
namespace Go.Proofs.Ytilpnbejpndgpaa.X
open Go Go.RowKit

/-- Elements under way: nil, or a block of one's own behind a place and other than some blocks. -/
def WayX (e : TypeId) (k : IntKind) (w : Nat) (h : AH) (lo : Nat) (ex : List Nat) (sv : Value) (L : List (List Int)) : Prop :=
  Wid w L ∧ ((sv = .slice none 0 0 ∧ L = []) ∨ ∃ kb full, sv = .slice (some ⟨kb, 0, none⟩) L.length w ∧ lo ≤ kb ∧ kb ∉ ex ∧ h.get kb = some ⟨cel k L.flatten, e, false, full⟩)
section
variable {e : TypeId} {k : IntKind} {w : Nat} {h h' : AH} {lo : Nat} {ex : List Nat} {sv : Value} {L : List (List Int)}
theorem WayX.pre (o : WayX e k w h lo ex sv L) (p : h <+: h') : WayX e k w h' lo ex sv L := by
  obtain ⟨hw, o | ⟨kb, full, h1, h2, h3, h4⟩⟩ := o
  · exact ⟨hw, .inl o⟩
  · exact ⟨hw, .inr ⟨kb, full, h1, h2, h3, pre_get p h4⟩⟩
theorem WayX.one (o : WayX e k w h lo ex sv L) : isOne sv = true := by
  obtain ⟨hw, ⟨rfl, _⟩ | ⟨kb, full, rfl, h2, h3, h4⟩⟩ := o <;> rfl
theorem WayX.cells (o : WayX e k w h lo ex sv L) : cellsL sv = [sv] := by
  obtain ⟨hw, ⟨rfl, _⟩ | ⟨kb, full, rfl, h2, h3, h4⟩⟩ := o <;> rfl
theorem WayX.len (o : WayX e k w h lo ex sv L) : lenV sv = some (I64 L.length) := by
  obtain ⟨hw, ⟨rfl, rfl⟩ | ⟨kb, full, rfl, h2, h3, h4⟩⟩ := o <;> rfl
theorem WayX.put {n : Nat} {b : Blk} (o : WayX e k w h lo ex sv L) (hn : n < lo ∨ n ∈ ex) : WayX e k w (h.put n b) lo ex sv L := by
  obtain ⟨hw, o | ⟨kb, full, h1, h2, h3, h4⟩⟩ := o
  · exact ⟨hw, .inl o⟩
  · refine ⟨hw, .inr ⟨kb, full, h1, h2, h3, ?_⟩⟩
    rw [get_put_ne]
    · exact h4
    · rintro rfl
      rcases hn with hn | hn
      · omega
      · exact h3 hn
/-- What keeps all blocks but some excluded ones. -/
theorem WayX.keep (o : WayX e k w h lo ex sv L) (hk : ∀ m c f, m ∉ ex → lo ≤ m → h.get m = some ⟨c, e, false, f⟩ → h'.get m = some ⟨c, e, false, f⟩) : WayX e k w h' lo ex sv L := by
  obtain ⟨hw, o | ⟨kb, full, h1, h2, h3, h4⟩⟩ := o
  · exact ⟨hw, .inl o⟩
  · exact ⟨hw, .inr ⟨kb, full, h1, h2, h3, hk _ _ _ h3 h2 h4⟩⟩
/-- The blocks that hold it. -/
theorem WayX.hold (o : WayX e k w h lo ex sv L) : ∃ E : List Nat, (∀ m, m ∈ E → lo ≤ m ∧ m < h.length ∧ m ∉ ex) ∧ ∀ h' : AH, (∀ m b, m ∈ E → h.get m = some b → h'.get m = some b) → WayX e k w h' lo ex sv L ∧ InE k w lo h.length h' sv L := by
  obtain ⟨hw, o | ⟨kb, full, h1, h2, h3, h4⟩⟩ := o
  · exact ⟨[], fun m hm => by simp at hm, fun h' _ => ⟨⟨hw, .inl o⟩, .inl o⟩⟩
  · refine ⟨[kb], fun m hm => ?_, fun h' hk => ⟨⟨hw, .inr ⟨kb, full, h1, h2, h3, hk _ _ (by simp) h4⟩⟩, .inr ⟨kb, e, full, ⟨h2, get_lt h4⟩, h1, hk _ _ (by simp) h4, hw⟩⟩⟩
    rw [List.mem_singleton] at hm
    subst hm
    exact ⟨h2, get_lt h4, h3⟩
theorem WayX.inE (o : WayX e k w h lo ex sv L) : InE k w lo h.length h sv L := by
  obtain ⟨hw, o | ⟨kb, full, h1, h2, h3, h4⟩⟩ := o
  · exact .inl o
  · exact .inr ⟨kb, e, full, ⟨h2, get_lt h4⟩, h1, h4, hw⟩
theorem WayX.app {H : AH} {q : List Int} {e' : TypeId} {ro full : Bool} {bytes : Nat} (o : WayX e k w H lo ex sv L) (hq : q.length = w) (hl : ((L.length : Int) + 1) * bytes ≤ 140737488355328) (hn : (L.length : Int) < 1048576) (hlo : lo ≤ H.length) (hex : ∀ m, m ∈ ex → m < H.length)
    {Q : Value → AH → Prop} (hQ : ∀ (sv' : Value) (H' : AH), H'.length = H.length + 2 → (∀ h0 : AH, h0.length ≤ lo → h0 <+: H → h0 <+: H') → (∀ m b, m < lo ∨ m ∈ ex → H.get m = some b → H'.get m = some b) → WayX e k w H' H.length ex sv' (L ++ [q]) → Q sv' H') :
    OQ (appV e w bytes sv (.slice (some ⟨H.length, 0, none⟩) 1 w) (H.new ⟨cel k q, e', ro, full⟩)) Q := by
  have hr : (H.new ⟨cel k q, e', ro, full⟩).rdn H.length 0 w = some (cel k q) := by
    rw [rdn_of get_new_same]
    simp only
    rw [if_pos (by rw [cel_len, hq]; omega), List.drop_zero, List.take_of_length_le (by rw [cel_len, hq]; omega)]
  obtain ⟨hw, ⟨rfl, rfl⟩ | ⟨kb, fu, rfl, h2, h3, h4⟩⟩ := o
  · rw [app_nilW (.inl rfl) hr (by simp only [List.length_nil] at hl; omega), OQ_some]
    refine hQ _ _ (by rw [len_new, len_new]) (fun h0 _ p => pre_new (pre_new p)) (fun m b hm o => get_new_any (get_new_any o)) ⟨?_, .inr ⟨_, false, rfl, by rw [len_new]; omega, fun hm => by have := hex _ hm; rw [len_new] at this; omega, ?_⟩⟩
    · intro r hr
      rw [List.nil_append, List.mem_singleton] at hr
      rw [hr, hq]
    · rw [get_new_same]
      simp
  · have hk : (H.new ⟨cel k q, e', ro, full⟩).get kb = some ⟨cel k L.flatten, e, false, fu⟩ := get_new_any h4
    have hkb := get_lt h4
    rw [app_ownW hk (by rw [cel_len, flat_len hw]) hr ⟨hl, by omega⟩, OQ_some]
    refine hQ _ _ (by rw [len_new, len_kill, len_new]) (fun h0 q p => pre_new (pre_kill (pre_new p) (by omega))) (fun m b hm o => ?_) ⟨?_, .inr ⟨(H.new ⟨cel k q, e', ro, full⟩).length, false, by simp, by rw [len_new]; omega, fun hm => by have := hex _ hm; rw [len_new] at this; omega, ?_⟩⟩
    · refine get_new_any ?_
      rw [get_kill_ne]
      · exact get_new_any o
      · rintro rfl
        rcases hm with hm | hm
        · omega
        · exact h3 hm
    · intro r hr
      rcases List.mem_append.1 hr with hr | hr
      · exact hw r hr
      · rw [List.mem_singleton.1 hr, hq]
    · rw [get_new_eq (by rw [len_kill])]
      simp [cel_app]
end

/-! ### Lists of truth values -/
def Bls (h : AH) (n : Nat) (bs : List Bool) : Prop := h.get n = some ⟨bs.map Value.bool, 4, false, true⟩
section
variable {h h' : AH} {n : Nat} {bs : List Bool}
theorem Bls.pre (o : Bls h n bs) (p : h <+: h') : Bls h' n bs := pre_get p o
theorem Bls.lt (o : Bls h n bs) : n < h.length := get_lt o
theorem Bls.rd {j : Nat} (o : Bls h n bs) (hj : j < bs.length) : h.rd1 n j = some (.bool (bs.getD j false)) := by
  rw [rd1_of o]
  simp [List.getD_eq_getElem?_getD, hj]
theorem Bls.put_ne {m : Nat} {b : Blk} (o : Bls h n bs) (e : m ≠ n) : Bls (h.put m b) n bs := by
  unfold Bls
  rw [get_put_ne e]
  exact o
theorem Bls.wr {j : Nat} {x : Bool} (o : Bls h n bs) (hj : j < bs.length) : ∃ h', h.wr n j [.bool x] = some h' ∧ h' = h.put n ⟨(bs.set j x).map Value.bool, 4, false, true⟩ ∧ Bls h' n (bs.set j x) := by
  have e : splice (bs.map Value.bool) j [.bool x] = (bs.set j x).map Value.bool := by
    rw [splice_set (by simpa using hj)]
    simp [List.map_set]
  refine ⟨_, ?_, rfl, get_put_same o.lt⟩
  rw [wr_of o, if_pos ⟨rfl, by simp only [List.length_map, List.length_singleton]; omega⟩, e]
end
end Go.Proofs.Ytilpnbejpndgpaa.X

/- RunProgram and DepthsOf, both sides. -/
set_option linter.unusedVariables false
set_option linter.unusedSimpArgs false
set_option maxRecDepth 20000
set_option maxHeartbeats 4000000
namespace Go.Proofs.Ytilpnbejpndgpaa.X
open Go Go.RowKit

/-! ### RunProgram -/
def rpOK (x : Prg) (ns : List Int) : Prop := allIn x.p ns = true ∧ (ns.length : Int) = x.n
instance {x : Prg} {ns : List Int} : Decidable (rpOK x ns) := by unfold rpOK; infer_instance
/-! ### DepthsOf -/
end Go.Proofs.Ytilpnbejpndgpaa.X

/- Tables under way, tables turned over: FormsOf of both sides. -/
set_option linter.unusedVariables false
set_option linter.unusedSimpArgs false
set_option maxRecDepth 20000
set_option maxHeartbeats 4000000
namespace Go.Proofs.Ytilpnbejpndgpaa.X
open Go Go.RowKit

theorem Ints.cell {h : AH} {v : Value} {ns : List Int} (hv : Ints h v ns) {j : Nat} (hj : j < ns.length) : ∃ n off, (∀ kk : IntKind, ixsV 1 v (.int kk (j : Int)) = some (.pointer (some ⟨n, off, none⟩))) ∧ h.rd1 n off = some (I64 (ns.getD j 0)) := by
  rcases hv with ⟨rfl, t, _, rfl⟩ | ⟨b, off, blk, rfl, h2, h3, h4⟩
  · simp at hj
  · refine ⟨b, off + j, fun kk => ?_, ?_⟩
    · rw [ixsV_some, if_pos (by omega)]
      simp
    · rw [rd1_of h2]
      exact h4 j hj
theorem Rows.len {h : AH} {v : Value} {rows : List (List Int)} (hv : Rows h v rows) : lenV v = some (I64 rows.length) := by
  obtain ⟨cs, h1, h2, h3⟩ := hv
  rw [h1.len, h2]
theorem Rows.row {h : AH} {v : Value} {rows : List (List Int)} (hv : Rows h v rows) {i : Nat} (hi : i < rows.length) :
    ∃ n off x, (∀ kk : IntKind, ixsV 1 v (.int kk (i : Int)) = some (.pointer (some ⟨n, off, none⟩))) ∧ h.rd1 n off = some x ∧ Ints h x (rows.getD i []) := by
  obtain ⟨cs, hc, hl, hr⟩ := hv
  rcases hc with ⟨rfl, t, _, rfl⟩ | ⟨b, off, blk, rfl, h2, h3, h4⟩
  · simp at hl
    omega
  · refine ⟨b, off + i, cs.getD i undef, fun kk => ?_, ?_, hr i hi⟩
    · rw [ixsV_some, if_pos (by omega)]
      simp
    · rw [rd1_of h2]
      exact h4 i (by omega)
theorem sl_cells {n l : Nat} : cellsL (sl n l) = [sl n l] := rfl
theorem sl_one {n l : Nat} : isOne (sl n l) = true := rfl
/-- A row appended; other blocks stay. -/
theorem TabS.app2 {h0 h2 : AH} {nb n : Nat} {full fu fw : Bool} {L : List (Nat × List Int)} {r : List Int} {e : TypeId} (s : TabS h0 h2 nb full L) (hn : h0.length ≤ n ∧ n ≠ nb ∧ ∀ p, p ∈ L → p.1 ≠ n) (ob : OwnB h2 n (r.map (Value.int .i64)) fw)
    (hl : (L.length : Int) ≤ 1048576) {Q : Value → AH → Prop}
    (hQ : ∀ nb' H', TabS h0 H' nb' false (L ++ [(n, r)]) → H'.length = h2.length + 2 → nb' = h2.length + 1 → (∀ m c fl, m ≠ nb → OwnB h2 m c fl → OwnB H' m c fl) → (∀ h9 : AH, h9.length ≤ nb → h9 <+: h2 → h9 <+: H') → Q (sl nb' (L ++ [(n, r)]).length) H') :
    OQ (appV 22 1 24 (sl nb L.length) (.slice (some ⟨h2.length, 0, none⟩) 1 1) (h2.new ⟨[sl n r.length], e, false, fu⟩)) Q := by
  have hrd : (h2.new ⟨[.slice (some ⟨n, 0, none⟩) r.length 1], e, false, fu⟩).rdn h2.length 0 1 = some [.slice (some ⟨n, 0, none⟩) r.length 1] := by rw [rdn_new_same]; rfl
  have hk : (h2.new ⟨[.slice (some ⟨n, 0, none⟩) r.length 1], e, false, fu⟩).get nb = some ⟨L.map rowV, 22, false, full⟩ := get_new_any s.g
  have l1 := get_lt s.g
  have key := s.app (e := e) (fu := fu) hn ob hl (Q := fun v H' => ∃ nb', v = .slice (some ⟨nb', 0, none⟩) (L ++ [(n, r)]).length 1 ∧ TabS h0 H' nb' false (L ++ [(n, r)])) (fun nb' H' st => ⟨nb', rfl, st⟩)
  unfold sl at hQ ⊢
  rw [app_own hk (by simp) hrd (by omega), OQ_some] at key ⊢
  obtain ⟨nb', e1, st⟩ := key
  have e2 : nb' = h2.length + 1 := by
    simp only [Value.slice.injEq, Option.some.injEq, Addr.mk.injEq] at e1
    rw [← e1.1.1, len_new]
  have := hQ nb' _ st (by rw [len_new, len_kill, len_new]) e2 (fun m c fl hm o => (o.new.kill_ne (fun e => hm e.symm)).new) (fun h9 hh p => pre_new (pre_kill (pre_new p) hh))
  rw [← e1] at this
  exact this
/-- A number put into a row. -/
theorem TabS.cell {h0 h : AH} {nb i j : Nat} {full : Bool} {L : List (Nat × List Int)} {x : Int} {n : Nat} {r : List Int} (s : TabS h0 h nb full L) (hi : i < L.length) (hL : L[i] = (n, r)) (hj : j < r.length) :
    ∃ e fu, h.get n = some ⟨r.map (Value.int .i64), e, false, fu⟩ ∧ TabS h0 (h.put n ⟨(r.set j x).map (Value.int .i64), e, false, fu⟩) nb full (L.set i (n, r.set j x)) := by
  have a := s.rows _ (List.getElem_mem hi)
  rw [hL] at a
  obtain ⟨⟨a1, a2⟩, fu, e, o⟩ := a
  refine ⟨e, fu, o, pre_put s.hp a1, s.lo, ?_, fun q hq => ?_, ?_⟩
  · rw [get_put_ne a2, s.g]
    congr 2
    rw [List.map_set]
    have : rowV (n, r.set j x) = (L.map rowV)[i]'(by simpa using hi) := by
      rw [List.getElem_map, hL]
      simp [rowV]
    rw [this, List.set_getElem_self]
  · obtain ⟨m, hm, rfl⟩ := List.mem_iff_getElem.1 hq
    have hm' : m < L.length := by simpa using hm
    by_cases hmi : m = i
    · subst hmi
      rw [List.getElem_set_self]
      exact ⟨⟨a1, a2⟩, fu, e, get_put_same (get_lt o)⟩
    · rw [List.getElem_set_ne (fun q => hmi q.symm)]
      have b := s.rows _ (List.getElem_mem hm')
      obtain ⟨b1, fq, oq⟩ := b
      refine ⟨b1, fq, oq.put_ne ?_⟩
      have hd := List.pairwise_iff_getElem.1 s.dist
      rcases Nat.lt_or_gt_of_ne hmi with hlt | hgt
      · have := hd m i hm' hi hlt
        rw [hL] at this
        exact fun q => this q.symm
      · have := hd i m hi hm' hgt
        rw [hL] at this
        exact this
  · have e1 : (L.set i (n, r.set j x)).map Prod.fst = L.map Prod.fst := by
      rw [List.map_set]
      have : (n, r.set j x).1 = (L.map Prod.fst)[i]'(by simpa using hi) := by rw [List.getElem_map, hL]
      rw [this, List.set_getElem_self]
    have h1 := List.pairwise_map (f := Prod.fst) (R := fun a b : Nat => a ≠ b) (l := L)
    have h2 := List.pairwise_map (f := Prod.fst) (R := fun a b : Nat => a ≠ b) (l := L.set i (n, r.set j x))
    rw [← h2, e1, h1]
    exact s.dist

def trL (rows : List (List Int)) (w : Nat) : List (List Int) := (List.range w).map fun j => gen rows.length fun i => (rows.getD i []).getD j 0
end Go.Proofs.Ytilpnbejpndgpaa.X
