/- Texts of one claim, put together by merge.py: XS16, XS17. -/
import Derived.Test.YtphklalbkpohfaaM6
/- Sums of schemes, tensors of schemes: TensorOfScheme and HaveEqualSums, both sides. -/
set_option linter.unusedVariables false
set_option linter.unusedSimpArgs false
set_option maxRecDepth 20000
set_option maxHeartbeats 4000000
namespace Go.Proofs.Ytphklalbkpohfaa.X
open Go Go.RowKit

def smT (g : Nat → Int) : Nat → Int
  | 0 => 0
  | n + 1 => smT g n + g n
theorem smT_in {g : Nat → Int} {b : Int} : ∀ {n : Nat}, (∀ j, j < n → 0 ≤ g j ∧ g j ≤ b) → 0 ≤ smT g n ∧ smT g n ≤ b * n
  | 0, _ => by simp [smT]
  | n + 1, h => by
    have h1 := smT_in (n := n) (fun j hj => h j (by omega))
    have h2 := h n (by omega)
    simp only [smT]
    rw [show ((n + 1 : Nat) : Int) = (n : Int) + 1 by omega, Int.mul_add, Int.mul_one]
    omega
def tm (q : List Int) (a b c : Nat) : Int := q.getD a 0 * q.getD (9 + b) 0 * q.getD (18 + c) 0
def lsS (L : List (List Int)) (a b c i : Nat) : Int := smT (fun j => tm (L.getD j []) a b c) i
def lsX (x : Sch) (a b c : Nat) : Int := (lsS x.ps a b c x.ps.length).tmod x.p
theorem tm_in {q : List Int} (hq : By 27 q) {a b c : Nat} (ha : a < 9) (hb : b < 9) (hc : c < 9) : (0 ≤ q.getD a 0 * q.getD (9 + b) 0 ∧ q.getD a 0 * q.getD (9 + b) 0 ≤ 65025) ∧ 0 ≤ tm q a b c ∧ tm q a b c ≤ 16581375 := by
  have h1 := hq.2 a (by omega)
  have h2 := hq.2 (9 + b) (by omega)
  have h3 := hq.2 (18 + c) (by omega)
  have m1 := mul_in (A := 255) (B := 255) h1 h2
  exact ⟨m1, mul_in (A := 65025) (B := 255) m1 h3⟩
theorem lsX_in {x : Sch} {h : AH} {v : Value} (hv : Prods h v x.ps) (z : SZ x) {a b c : Nat} (ha : a < 9) (hb : b < 9) (hc : c < 9) : 0 ≤ lsX x a b c ∧ lsX x a b c < x.p := by
  have := smT_in (g := fun j => tm (x.ps.getD j []) a b c) (b := 16581375) (n := x.ps.length) (fun j hj => (tm_in (hv.by hj) ha hb hc).2)
  have zp := z.p
  exact tmod_nn this.1 (by omega)
theorem s_l01Sum {v : Value} {x : Sch} {a b c : Nat} {h : AH} {Q : Value → AH → Prop} (hv : Prods h v x.ps) (z : SZ x) (hl : x.ps.length ≤ 30) (ha : a < 9) (hb : b < 9) (hc : c < 9)
    (hQ : ∀ h', h <+: h' → Q (I64 (lsX x a b c)) h') : WF S 79 [schV x v, I64 a, I64 b, I64 c] h Q := by
  refine WF_fn (fn := c79) rfl rfl ?_
  unfold c79
  have zp := z.p
  try simp (maxSteps := 3000000) (disch := first | omega | (simp only [len_new, len_put, len_kill]; omega)) only [↓xpre, xpost, ↓reduceIte, Nat.reduceEqDiff, Nat.reduceAdd, Nat.reduceSub, Nat.reduceLeDiff, Nat.zero_add, Nat.sub_zero, schV, hv.one]
  generalize hH1 : AH.new h _ = H1
  obtain ⟨hb1, p1, n1⟩ := new_facts hH1
  refine WC_loop_inv (fun m f K1 => ∃ (i : Nat), m = x.ps.length - i ∧ i ≤ x.ps.length ∧ f 1 = I64 a ∧ f 2 = I64 b ∧ f 3 = I64 c ∧ f 4 = .pointer (some ⟨h.length, 0, none⟩) ∧ f 9 = I64 (lsS x.ps a b c i) ∧ f 10 = I64 i ∧ (H1 <+: K1)) ?_ (x.ps.length - 0) _ _ ⟨0, rfl, by omega, (by first | rfl | (simp [upd_apply]; done)), (by first | rfl | (simp [upd_apply]; done)), (by first | rfl | (simp [upd_apply]; done)), (by first | rfl | (simp [upd_apply]; done)), (by first | rfl | (simp [upd_apply]; done)), (by first | rfl | (simp [upd_apply]; done)), List.prefix_refl _⟩
  rintro m f K1 ⟨i, rfl, hi, f1, f2, f3, f4, f9, f10, pp⟩
  have hbK := pre_get pp hb1
  have hvK := hv.pre (p1.trans pp)
  by_cases hlt : (i : Int) < x.ps.length
  · have hi' : i < x.ps.length := by omega
    obtain ⟨n, off, hix, hrn, hr1⟩ := hvK.1.at hi'
    have r27 := hrn 0 27 (by omega)
    have wi := hvK.1.wid hi'
    rw [List.drop_zero, List.take_of_length_le (by omega), Nat.add_zero] at r27
    have byq := hvK.by hi'
    have bs := smT_in (g := fun j => tm (x.ps.getD j []) a b c) (b := 16581375) (n := i) (fun j hj => (tm_in (hv.by (by omega)) ha hb hc).2)
    have es : lsS x.ps a b c (i + 1) = lsS x.ps a b c i + tm (x.ps.getD i []) a b c := rfl
    have bs' : 0 ≤ lsS x.ps a b c i ∧ lsS x.ps a b c i ≤ 497441250 := ⟨bs.1, by have := bs.2; show smT _ i ≤ _; omega⟩
    generalize hq : x.ps.getD i [] = q at *
    have w1 : ∀ (h1 : AH) (e : TypeId), (h1.new ⟨[.int .u8 0, .int .u8 0, .int .u8 0, .int .u8 0, .int .u8 0, .int .u8 0, .int .u8 0, .int .u8 0, .int .u8 0, .int .u8 0, .int .u8 0, .int .u8 0, .int .u8 0, .int .u8 0, .int .u8 0, .int .u8 0, .int .u8 0, .int .u8 0, .int .u8 0, .int .u8 0, .int .u8 0, .int .u8 0, .int .u8 0, .int .u8 0, .int .u8 0, .int .u8 0, .int .u8 0], e, false, true⟩).wr h1.length 0 (cel .u8 q) = some (h1.new ⟨cel .u8 q, e, false, true⟩) := fun h1 e => wr_all (by rw [cel_len, wi]; rfl)
    have ga := cel_get (k := .u8) (q := q) (j := a) (by omega)
    have gb := cel_get (k := .u8) (q := q) (j := 9 + b) (by omega)
    have gc := cel_get (k := .u8) (q := q) (j := 18 + c) (by omega)
    have ba := byq.2 a (by omega)
    have bb := byq.2 (9 + b) (by omega)
    have bc := byq.2 (18 + c) (by omega)
    have bt := tm_in byq ha hb hc
    have et : q.getD a 0 * q.getD (9 + b) 0 * q.getD (18 + c) 0 = tm q a b c := rfl
    try simp (maxSteps := 3000000) (disch := first | omega | (simp only [len_new, len_put, len_kill]; omega)) only [↓xpre, xpost, ↓reduceIte, Nat.reduceEqDiff, Nat.reduceAdd, Nat.reduceSub, Nat.reduceLeDiff, Nat.zero_add, Nat.sub_zero, f1, f2, f3, f4, f9, f10, rd1_of hbK, hvK.1.len, decide_eq_true hlt, hix, r27, cel_all, cel_len, wi, ↓w1, ↓WX_ixa, ixaV_ptr, Int.toNat_natCast, Nat.mul_one, ga, gb, gc, wrap64_in, et]
    refine InvQ_go (x.ps.length - (i + 1)) (by omega) ⟨(i + 1), rfl, by omega, (by first | rfl | exact f1 | (simp only [upd_apply]; rfl) | (show I64 _ = _; congr 1; omega)), (by first | rfl | exact f2 | (simp only [upd_apply]; rfl) | (show I64 _ = _; congr 1; omega)), (by first | rfl | exact f3 | (simp only [upd_apply]; rfl) | (show I64 _ = _; congr 1; omega)), (by first | rfl | exact f4 | (simp only [upd_apply]; rfl) | (show I64 _ = _; congr 1; omega)), (by show I64 _ = I64 _; rw [es]), (by first | rfl | exact f10 | (simp only [upd_apply]; rfl) | (show I64 _ = _; congr 1; omega)), (pp.trans (pre_new (List.prefix_refl _)))⟩
  · have ei : i = x.ps.length := by omega
    subst ei
    try simp (maxSteps := 3000000) (disch := first | omega | (simp only [len_new, len_put, len_kill]; omega)) only [↓xpre, xpost, ↓reduceIte, Nat.reduceEqDiff, Nat.reduceAdd, Nat.reduceSub, Nat.reduceLeDiff, Nat.zero_add, Nat.sub_zero, f1, f2, f3, f4, f9, f10, rd1_of hbK, hvK.1.len, decide_eq_false hlt, bin_rem]
    exact hQ _ (p1.trans pp)
theorem i_leftSide {v : Value} {x : Sch} {a b c : Nat} {h : AH} {Q : Value → AH → Prop} (hv : Prods h v x.ps) (z : SZ x) (hl : x.ps.length ≤ 30) (ha : a < 9) (hb : b < 9) (hc : c < 9)
    (hQ : ∀ h', h <+: h' → Q (I64 (lsX x a b c)) h') : WF S 100 [schV x v, I64 a, I64 b, I64 c] h Q := by
  refine WF_fn (fn := c100) rfl rfl ?_
  unfold c100
  have zp := z.p
  try simp (maxSteps := 3000000) (disch := first | omega | (simp only [len_new, len_put, len_kill]; omega)) only [↓xpre, xpost, ↓reduceIte, Nat.reduceEqDiff, Nat.reduceAdd, Nat.reduceSub, Nat.reduceLeDiff, Nat.zero_add, Nat.sub_zero, schV, hv.one]
  generalize hH1 : AH.new h _ = H1
  obtain ⟨hb1, p1, n1⟩ := new_facts hH1
  try simp (maxSteps := 3000000) (disch := first | omega | (simp only [len_new, len_put, len_kill]; omega)) only [↓xpre, xpost, ↓reduceIte, Nat.reduceEqDiff, Nat.reduceAdd, Nat.reduceSub, Nat.reduceLeDiff, Nat.zero_add, Nat.sub_zero, rd1_of hb1, (hv.pre p1).1.len]
  refine WC_loop_inv (fun m f K1 => ∃ (i : Nat), m = x.ps.length - i ∧ i ≤ x.ps.length ∧ f 1 = I64 a ∧ f 2 = I64 b ∧ f 3 = I64 c ∧ f 4 = .pointer (some ⟨h.length, 0, none⟩) ∧ f 9 = I64 (lsS x.ps a b c i) ∧ f 13 = v ∧ f 14 = I64 x.ps.length ∧ f 15 = I64 i ∧ (H1 <+: K1)) ?_ (x.ps.length - 0) _ _ ⟨0, rfl, by omega, (by first | rfl | (simp [upd_apply]; done)), (by first | rfl | (simp [upd_apply]; done)), (by first | rfl | (simp [upd_apply]; done)), (by first | rfl | (simp [upd_apply]; done)), (by first | rfl | (simp [upd_apply]; done)), (by first | rfl | (simp [upd_apply]; done)), (by first | rfl | (simp [upd_apply]; done)), (by first | rfl | (simp [upd_apply]; done)), List.prefix_refl _⟩
  rintro m f K1 ⟨i, rfl, hi, f1, f2, f3, f4, f9, f13, f14, f15, pp⟩
  have hbK := pre_get pp hb1
  have hvK := hv.pre (p1.trans pp)
  by_cases hlt : (i : Int) < x.ps.length
  · have hi' : i < x.ps.length := by omega
    obtain ⟨n, off, hix, hrn, hr1⟩ := hvK.1.at hi'
    have r27 := hrn 0 27 (by omega)
    have wi := hvK.1.wid hi'
    rw [List.drop_zero, List.take_of_length_le (by omega), Nat.add_zero] at r27
    have byq := hvK.by hi'
    have bs := smT_in (g := fun j => tm (x.ps.getD j []) a b c) (b := 16581375) (n := i) (fun j hj => (tm_in (hv.by (by omega)) ha hb hc).2)
    have es : lsS x.ps a b c (i + 1) = lsS x.ps a b c i + tm (x.ps.getD i []) a b c := rfl
    have bs' : 0 ≤ lsS x.ps a b c i ∧ lsS x.ps a b c i ≤ 497441250 := ⟨bs.1, by have := bs.2; show smT _ i ≤ _; omega⟩
    generalize hq : x.ps.getD i [] = q at *
    have w1 : ∀ (h1 : AH) (e : TypeId), (h1.new ⟨[.int .u8 0, .int .u8 0, .int .u8 0, .int .u8 0, .int .u8 0, .int .u8 0, .int .u8 0, .int .u8 0, .int .u8 0, .int .u8 0, .int .u8 0, .int .u8 0, .int .u8 0, .int .u8 0, .int .u8 0, .int .u8 0, .int .u8 0, .int .u8 0, .int .u8 0, .int .u8 0, .int .u8 0, .int .u8 0, .int .u8 0, .int .u8 0, .int .u8 0, .int .u8 0, .int .u8 0], e, false, true⟩).wr h1.length 0 (cel .u8 q) = some (h1.new ⟨cel .u8 q, e, false, true⟩) := fun h1 e => wr_all (by rw [cel_len, wi]; rfl)
    have ga := cel_get (k := .u8) (q := q) (j := a) (by omega)
    have gb := cel_get (k := .u8) (q := q) (j := 9 + b) (by omega)
    have gc := cel_get (k := .u8) (q := q) (j := 18 + c) (by omega)
    have ba := byq.2 a (by omega)
    have bb := byq.2 (9 + b) (by omega)
    have bc := byq.2 (18 + c) (by omega)
    have bt := tm_in byq ha hb hc
    have et : q.getD a 0 * q.getD (9 + b) 0 * q.getD (18 + c) 0 = tm q a b c := rfl
    try simp (maxSteps := 3000000) (disch := first | omega | (simp only [len_new, len_put, len_kill]; omega)) only [↓xpre, xpost, ↓reduceIte, Nat.reduceEqDiff, Nat.reduceAdd, Nat.reduceSub, Nat.reduceLeDiff, Nat.zero_add, Nat.sub_zero, f1, f2, f3, f4, f9, f13, f14, f15, decide_eq_true hlt, hix, r27, cel_all, cel_len, wi, ↓w1, ↓WX_ixa, ixaV_ptr, Int.toNat_natCast, Nat.mul_one, ga, gb, gc, wrap64_in, et]
    refine InvQ_go (x.ps.length - (i + 1)) (by omega) ⟨(i + 1), rfl, by omega, (by first | rfl | exact f1 | (simp only [upd_apply]; rfl) | (show I64 _ = _; congr 1; omega)), (by first | rfl | exact f2 | (simp only [upd_apply]; rfl) | (show I64 _ = _; congr 1; omega)), (by first | rfl | exact f3 | (simp only [upd_apply]; rfl) | (show I64 _ = _; congr 1; omega)), (by first | rfl | exact f4 | (simp only [upd_apply]; rfl) | (show I64 _ = _; congr 1; omega)), (by show I64 _ = I64 _; rw [es]), (by first | rfl | exact f13 | (simp only [upd_apply]; rfl) | (show I64 _ = _; congr 1; omega)), (by first | rfl | exact f14 | (simp only [upd_apply]; rfl) | (show I64 _ = _; congr 1; omega)), (by first | rfl | exact f15 | (simp only [upd_apply]; rfl) | (show I64 _ = _; congr 1; omega)), (pp.trans (pre_new (List.prefix_refl _)))⟩
  · have ei : i = x.ps.length := by omega
    subst ei
    try simp (maxSteps := 3000000) (disch := first | omega | (simp only [len_new, len_put, len_kill]; omega)) only [↓xpre, xpost, ↓reduceIte, Nat.reduceEqDiff, Nat.reduceAdd, Nat.reduceSub, Nat.reduceLeDiff, Nat.zero_add, Nat.sub_zero, f1, f2, f3, f4, f9, f13, f14, f15, rd1_of hbK, decide_eq_false hlt, bin_rem]
    exact hQ _ (p1.trans pp)

/-! ### Tensors of schemes -/
def lsN (x : Sch) (a b c : Int) : Int := lsX x a.toNat b.toNat c.toNat
def tofX (x : Sch) : Ten := tenT x.p (x.n * x.m) (x.m * x.k) (x.n * x.k) (lsN x)
def fillTo (N : Nat) (G : Nat → Int) (m : Nat) : List Int := gen N fun n => if n < m then G n else 0
theorem fillTo_len {N m : Nat} {G : Nat → Int} : (fillTo N G m).length = N := gen_len
theorem fillTo_zero {N : Nat} {G : Nat → Int} : fillTo N G 0 = List.replicate N 0 := (gen_ext (by simp) fun i hi => by simp [hi, List.getD_eq_getElem?_getD]).symm
theorem fillTo_all {N : Nat} {G : Nat → Int} : fillTo N G N = gen N G := gen_congr fun i hi => if_pos hi
theorem fillTo_set {N m : Nat} {G : Nat → Int} (hm : m < N) : (fillTo N G m).set m (G m) = fillTo N G (m + 1) := by
  refine gen_ext (by rw [List.length_set, fillTo_len]) fun c hc => ?_
  rw [set_getD (by rw [fillTo_len]; exact hm)]
  by_cases h : c = m
  · subst h
    rw [if_pos rfl, if_pos (by omega)]
  · rw [if_neg h]
    unfold fillTo
    rw [gen_get hc]
    by_cases h2 : c < m
    · rw [if_pos h2, if_pos (by omega)]
    · rw [if_neg h2, if_neg (by omega)]
theorem tenG_at {p : Int} {I J K a b c : Nat} {num : Int → Int → Int → Int} (hb : b < J) (hc : c < K) : tenG p J K num ((a * J + b) * K + c) = (num a b c).tmod p := by
  unfold tenG
  have e1 : (((a * J + b) * K + c : Nat) : Int) = ((a * J + b : Nat) : Int) * (K : Int) + (c : Int) := by push_cast; rfl
  have e2 : ((a * J + b : Nat) : Int) = (a : Int) * (J : Int) + (b : Int) := by push_cast; rfl
  have d1 := dec (a := ((a * J + b : Nat) : Int)) (i := (c : Int)) (I := (K : Int)) (by omega)
  have d2 := dec (a := (a : Int)) (i := (b : Int)) (I := (J : Int)) (by omega)
  rw [e1, d1.1, d1.2, e2, d2.1, d2.2]
end Go.Proofs.Ytphklalbkpohfaa.X

/- Tensors of schemes, both sides. -/
set_option linter.unusedVariables false
set_option linter.unusedSimpArgs false
set_option maxRecDepth 20000
set_option maxHeartbeats 4000000
namespace Go.Proofs.Ytphklalbkpohfaa.X
open Go Go.RowKit

theorem lsN_in {x : Sch} {h : AH} {v : Value} (hv : Prods h v x.ps) (z : SZ x) {a b c : Nat} (ha : a < 9) (hb : b < 9) (hc : c < 9) : (lsN x a b c).tmod x.p = lsX x a b c := by
  have := lsX_in hv z ha hb hc
  unfold lsN
  rw [Int.toNat_natCast, Int.toNat_natCast, Int.toNat_natCast]
  exact Int.tmod_eq_of_lt this.1 this.2
theorem s_l05Of {v : Value} {x : Sch} {h : AH} {Q : Value → AH → Prop} (hv : Prods h v x.ps) (z : SZ x) (hl : x.ps.length ≤ 30)
    (hQ : ∀ v' h', h <+: h' → OwnI h h' v' (tofX x).ns → Q (tenV (tofX x) v') h') : WF S 53 [schV x v] h Q := by
  refine WF_fn (fn := c53) rfl rfl ?_
  unfold c53
  try simp (maxSteps := 3000000) (disch := first | omega | (simp only [len_new, len_put, len_kill]; omega)) only [↓xpre, xpost, ↓reduceIte, Nat.reduceEqDiff, Nat.reduceAdd, Nat.reduceSub, Nat.reduceLeDiff, Nat.zero_add, Nat.sub_zero, schV, hv.one]
  generalize hH1 : AH.new h _ = H1
  obtain ⟨hb1, p1, n1⟩ := new_facts hH1
  generalize hH2 : AH.new H1 _ = H2
  obtain ⟨hb2, p2, n2⟩ := new_facts hH2
  have hb1 := pre_get p2 hb1
  try simp (maxSteps := 3000000) (disch := first | omega | (simp only [len_new, len_put, len_kill]; omega)) only [↓xpre, xpost, ↓reduceIte, Nat.reduceEqDiff, Nat.reduceAdd, Nat.reduceSub, Nat.reduceLeDiff, Nat.zero_add, Nat.sub_zero, rdn_of hb1]
  refine s_l01Lengths hv.one z fun H3 p3 => ?_
  have hb1 := pre_get p3 hb1
  have hb2 := pre_get p3 hb2
  have zi := z.nm
  have zj := z.mk2
  have zk := z.nk
  have ij := mul_in1 (A := 9) (B := 9) zi zj
  have ijk := mul_in1 (A := 81) (B := 9) ij zk
  try simp (maxSteps := 3000000) (disch := first | omega | (simp only [len_new, len_put, len_kill]; omega)) only [↓xpre, xpost, ↓reduceIte, Nat.reduceEqDiff, Nat.reduceAdd, Nat.reduceSub, Nat.reduceLeDiff, Nat.zero_add, Nat.sub_zero, rd1_of hb1]
  refine s_l05Empty (by omega) (by omega) fun v' H4 p4 o => ?_
  try simp (maxSteps := 3000000) (disch := first | omega | (simp only [len_new, len_put, len_kill]; omega)) only [↓xpre, xpost, ↓reduceIte, Nat.reduceEqDiff, Nat.reduceAdd, Nat.reduceSub, Nat.reduceLeDiff, Nat.zero_add, Nat.sub_zero, tenV, o.ints.one]
  obtain ⟨nb, e, q1, rfl, q2⟩ := o
  generalize hH5 : AH.new H4 _ = H5
  obtain ⟨hb5, p5, n5⟩ := new_facts hH5
  have hgn := pre_get p5 q2
  have hb1 := pre_get (p4.trans p5) hb1
  have hb2 := pre_get (p4.trans p5) hb2
  have l2 := pre_len p2
  have l3 := pre_len p3
  have l4 := pre_len p4
  have lnb := get_lt q2
  have hQ' := hQ
  unfold tofX at hQ'
  have G1 : ∀ a b c : Nat, a < 9 → b < 9 → c < 9 → (lsN x a b c).tmod x.p = lsX x a b c := fun a b c ha hb hc => lsN_in hv z ha hb hc
  generalize hI : x.n * x.m = i1 at *
  generalize hJ : x.m * x.k = j1 at *
  generalize hK : x.n * x.k = k1 at *
  obtain ⟨I, rfl⟩ : ∃ I : Nat, i1 = I := ⟨i1.toNat, by omega⟩
  obtain ⟨J, rfl⟩ : ∃ J : Nat, j1 = J := ⟨j1.toNat, by omega⟩
  obtain ⟨K, rfl⟩ : ∃ K : Nat, k1 = K := ⟨k1.toNat, by omega⟩
  have eN : ((I : Int) * (J : Int) * (K : Int)).toNat = I * J * K := by
    rw [show (I : Int) * (J : Int) * (K : Int) = ((I * J * K : Nat) : Int) by push_cast; rfl, Int.toNat_natCast]
  have eNI : (I : Int) * (J : Int) * (K : Int) = ((I * J * K : Nat) : Int) := by push_cast; rfl
  rw [eNI] at ijk
  rw [eN, List.length_replicate] at *
  let G := tenG x.p J K (lsN x)
  have B2 : H2 <+: H5 := p3.trans (p4.trans p5)
  have hc0 : OwnB H5 nb ((fillTo (I * J * K) G 0).map (Value.int .i64)) true := by rw [fillTo_zero]; exact ⟨_, hgn⟩
  refine WC_loop_inv (fun m f K1 => ∃ (a : Nat), m = I - a ∧ a ≤ I ∧ f 1 = .pointer (some ⟨h.length, 0, none⟩) ∧ f 2 = .pointer (some ⟨H1.length, 0, none⟩) ∧ f 3 = I64 I ∧ f 4 = I64 J ∧ f 5 = I64 K ∧ f 6 = .pointer (some ⟨H4.length, 0, none⟩) ∧ f 7 = I64 a ∧ (H3 <+: K1) ∧ (OwnB K1 H4.length [I64 x.p, I64 I, I64 J, I64 K, .slice (some ⟨nb, 0, none⟩) (I * J * K) 1] true) ∧ (OwnB K1 nb ((fillTo (I * J * K) G (a * J * K)).map (Value.int .i64)) true)) ?_ (I - 0) _ _ ⟨0, rfl, by omega, (by first | rfl | (simp [upd_apply]; done)), (by first | rfl | (simp [upd_apply]; done)), (by first | rfl | (simp [upd_apply]; done)), (by first | rfl | (simp [upd_apply]; done)), (by first | rfl | (simp [upd_apply]; done)), (by first | rfl | (simp [upd_apply]; done)), (by first | rfl | (simp [upd_apply]; done)), p4.trans p5, ⟨_, hb5⟩, (by rw [Nat.zero_mul, Nat.zero_mul]; exact hc0)⟩
  rintro m f K1 ⟨a, rfl, ha, f1, f2, f3, f4, f5, f6, f7, pp, g6, gn⟩
  by_cases hla : (a : Int) < I
  · try simp (maxSteps := 3000000) (disch := first | omega | (simp only [len_new, len_put, len_kill]; omega)) only [↓xpre, xpost, ↓reduceIte, Nat.reduceEqDiff, Nat.reduceAdd, Nat.reduceSub, Nat.reduceLeDiff, Nat.zero_add, Nat.sub_zero, f1, f2, f3, f4, f5, f6, f7, decide_eq_true hla]
    refine WC_loop_inv (fun m f K2 => ∃ (b : Nat), m = J - b ∧ b ≤ J ∧ f 1 = .pointer (some ⟨h.length, 0, none⟩) ∧ f 2 = .pointer (some ⟨H1.length, 0, none⟩) ∧ f 3 = I64 I ∧ f 4 = I64 J ∧ f 5 = I64 K ∧ f 6 = .pointer (some ⟨H4.length, 0, none⟩) ∧ f 7 = I64 a ∧ f 8 = I64 b ∧ (H3 <+: K2) ∧ (OwnB K2 H4.length [I64 x.p, I64 I, I64 J, I64 K, .slice (some ⟨nb, 0, none⟩) (I * J * K) 1] true) ∧ (OwnB K2 nb ((fillTo (I * J * K) G ((a * J + b) * K)).map (Value.int .i64)) true)) ?_ (J - 0) _ _ ⟨0, rfl, by omega, (by first | rfl | exact f1 | (simp [upd_apply]; done)), (by first | rfl | exact f2 | (simp [upd_apply]; done)), (by first | rfl | exact f3 | (simp [upd_apply]; done)), (by first | rfl | exact f4 | (simp [upd_apply]; done)), (by first | rfl | exact f5 | (simp [upd_apply]; done)), (by first | rfl | exact f6 | (simp [upd_apply]; done)), (by first | rfl | exact f7 | (simp [upd_apply]; done)), (by first | rfl | (simp [upd_apply]; done)), pp, g6, (by rw [Nat.add_zero]; exact gn)⟩
    rintro m f K2 ⟨b, rfl, hb, f1, f2, f3, f4, f5, f6, f7, f8, pp, g6, gn⟩
    by_cases hlb : (b : Int) < J
    · try simp (maxSteps := 3000000) (disch := first | omega | (simp only [len_new, len_put, len_kill]; omega)) only [↓xpre, xpost, ↓reduceIte, Nat.reduceEqDiff, Nat.reduceAdd, Nat.reduceSub, Nat.reduceLeDiff, Nat.zero_add, Nat.sub_zero, f1, f2, f3, f4, f5, f6, f7, f8, decide_eq_true hlb]
      refine WC_loop_inv (fun m f K3 => ∃ (c : Nat), m = K - c ∧ c ≤ K ∧ f 1 = .pointer (some ⟨h.length, 0, none⟩) ∧ f 2 = .pointer (some ⟨H1.length, 0, none⟩) ∧ f 3 = I64 I ∧ f 4 = I64 J ∧ f 5 = I64 K ∧ f 6 = .pointer (some ⟨H4.length, 0, none⟩) ∧ f 7 = I64 a ∧ f 8 = I64 b ∧ f 9 = I64 c ∧ (H3 <+: K3) ∧ (OwnB K3 H4.length [I64 x.p, I64 I, I64 J, I64 K, .slice (some ⟨nb, 0, none⟩) (I * J * K) 1] true) ∧ (OwnB K3 nb ((fillTo (I * J * K) G ((a * J + b) * K + c)).map (Value.int .i64)) true)) ?_ (K - 0) _ _ ⟨0, rfl, by omega, (by first | rfl | exact f1 | (simp [upd_apply]; done)), (by first | rfl | exact f2 | (simp [upd_apply]; done)), (by first | rfl | exact f3 | (simp [upd_apply]; done)), (by first | rfl | exact f4 | (simp [upd_apply]; done)), (by first | rfl | exact f5 | (simp [upd_apply]; done)), (by first | rfl | exact f6 | (simp [upd_apply]; done)), (by first | rfl | exact f7 | (simp [upd_apply]; done)), (by first | rfl | exact f8 | (simp [upd_apply]; done)), (by first | rfl | (simp [upd_apply]; done)), pp, g6, gn⟩
      rintro m f K3 ⟨c, rfl, hc, f1, f2, f3, f4, f5, f6, f7, f8, f9, pp, g6, gn⟩
      obtain ⟨e6, g6⟩ := g6
      by_cases hlc : (c : Int) < K
      · have m1 : a * J + J ≤ I * J := mul_row (by omega)
        have m2 : (a * J + b) * K + K ≤ I * J * K := mul_row (by omega)
        have e1 : (a : Int) * (J : Int) = ((a * J : Nat) : Int) := by push_cast; rfl
        have e2 : ((a * J : Nat) : Int) + (b : Int) = ((a * J + b : Nat) : Int) := by push_cast; rfl
        have e3 : ((a * J + b : Nat) : Int) * (K : Int) = (((a * J + b) * K : Nat) : Int) := by push_cast; rfl
        have e4 : (((a * J + b) * K : Nat) : Int) + (c : Int) = (((a * J + b) * K + c : Nat) : Int) := by push_cast; rfl
        have b1 : I * J ≤ I * J * K := Nat.le_mul_of_pos_right _ (by omega)
        have hbK := pre_get (p3.trans pp) (show AH.get H2 h.length = _ from pre_get p2 (new_facts hH1).1)
        try simp (maxSteps := 3000000) (disch := first | omega | (simp only [len_new, len_put, len_kill]; omega)) only [↓xpre, xpost, ↓reduceIte, Nat.reduceEqDiff, Nat.reduceAdd, Nat.reduceSub, Nat.reduceLeDiff, Nat.zero_add, Nat.sub_zero, f1, f2, f3, f4, f5, f6, f7, f8, f9, decide_eq_true hlc, rd1_of g6, rdn_of hbK, e1, e2, e3, e4, wrap64_in]
        refine s_l01Sum (hv.pre ((p1.trans p2).trans (p3.trans pp))) z hl (by omega) (by omega) (by omega) fun H6 p6 => ?_
        obtain ⟨en, gn⟩ := gn
        have gn := pre_get p6 gn
        have ltn := get_lt gn
        have hG : G ((a * J + b) * K + c) = lsX x a b c := by
          show tenG _ _ _ _ _ = _
          rw [tenG_at (I := 0) (by omega) (by omega)]
          exact G1 a b c (by omega) (by omega) (by omega)
        have ixn : ixsV 1 (.slice (some ⟨nb, 0, none⟩) (I * J * K) 1) (I64 (((a * J + b) * K + c : Nat) : Int)) = some (.pointer (some ⟨nb, (a * J + b) * K + c, none⟩)) := by
          rw [ixsV_some, if_pos (by omega), Int.toNat_natCast, Nat.mul_one, Nat.zero_add]
        have sp : splice ((fillTo (I * J * K) G ((a * J + b) * K + c)).map (Value.int .i64)) ((a * J + b) * K + c) [I64 (lsX x a b c)] = (fillTo (I * J * K) G ((a * J + b) * K + (c + 1))).map (Value.int .i64) := by
          rw [splice_map (by rw [fillTo_len]; omega), ← hG, fillTo_set (by omega)]
          rfl
        try simp (maxSteps := 3000000) (disch := first | omega | (simp only [len_new, len_put, len_kill]; omega)) only [↓xpre, xpost, ↓reduceIte, Nat.reduceEqDiff, Nat.reduceAdd, Nat.reduceSub, Nat.reduceLeDiff, Nat.zero_add, Nat.sub_zero, f1, f2, f3, f4, f5, f6, f7, f8, f9, ixn, wr_of gn, sp, List.length_map, fillTo_len, wrap64_in]
        refine ⟨p6, by omega, ?_⟩
        refine InvQ_go (K - (c + 1)) (by omega) ⟨(c + 1), rfl, by omega, (by first | rfl | exact f1 | (simp only [upd_apply]; rfl) | (show I64 _ = _; congr 1; omega)), (by first | rfl | exact f2 | (simp only [upd_apply]; rfl) | (show I64 _ = _; congr 1; omega)), (by first | rfl | exact f3 | (simp only [upd_apply]; rfl) | (show I64 _ = _; congr 1; omega)), (by first | rfl | exact f4 | (simp only [upd_apply]; rfl) | (show I64 _ = _; congr 1; omega)), (by first | rfl | exact f5 | (simp only [upd_apply]; rfl) | (show I64 _ = _; congr 1; omega)), (by first | rfl | exact f6 | (simp only [upd_apply]; rfl) | (show I64 _ = _; congr 1; omega)), (by first | rfl | exact f7 | (simp only [upd_apply]; rfl) | (show I64 _ = _; congr 1; omega)), (by first | rfl | exact f8 | (simp only [upd_apply]; rfl) | (show I64 _ = _; congr 1; omega)), (by first | rfl | exact f9 | (simp only [upd_apply]; rfl) | (show I64 _ = _; congr 1; omega)), (pre_put (pp.trans p6) (by omega)), (OwnB.put_ne ⟨_, pre_get p6 g6⟩ (by omega)), ⟨_, get_put_same ltn⟩⟩
      · have ec : c = K := by omega
        subst ec
        try simp (maxSteps := 3000000) (disch := first | omega | (simp only [len_new, len_put, len_kill]; omega)) only [↓xpre, xpost, ↓reduceIte, Nat.reduceEqDiff, Nat.reduceAdd, Nat.reduceSub, Nat.reduceLeDiff, Nat.zero_add, Nat.sub_zero, f1, f2, f3, f4, f5, f6, f7, f8, f9, decide_eq_false hlc, wrap64_in]
        refine InvQ_go (J - (b + 1)) (by omega) ⟨(b + 1), rfl, by omega, (by first | rfl | exact f1 | (simp only [upd_apply]; rfl) | (show I64 _ = _; congr 1; omega)), (by first | rfl | exact f2 | (simp only [upd_apply]; rfl) | (show I64 _ = _; congr 1; omega)), (by first | rfl | exact f3 | (simp only [upd_apply]; rfl) | (show I64 _ = _; congr 1; omega)), (by first | rfl | exact f4 | (simp only [upd_apply]; rfl) | (show I64 _ = _; congr 1; omega)), (by first | rfl | exact f5 | (simp only [upd_apply]; rfl) | (show I64 _ = _; congr 1; omega)), (by first | rfl | exact f6 | (simp only [upd_apply]; rfl) | (show I64 _ = _; congr 1; omega)), (by first | rfl | exact f7 | (simp only [upd_apply]; rfl) | (show I64 _ = _; congr 1; omega)), (by first | rfl | exact f8 | (simp only [upd_apply]; rfl) | (show I64 _ = _; congr 1; omega)), pp, ⟨_, g6⟩, (by rw [show (a * J + (b + 1)) * c = (a * J + b) * c + c by rw [← Nat.add_assoc, Nat.succ_mul]]; exact gn)⟩
    · have eb : b = J := by omega
      subst eb
      try simp (maxSteps := 3000000) (disch := first | omega | (simp only [len_new, len_put, len_kill]; omega)) only [↓xpre, xpost, ↓reduceIte, Nat.reduceEqDiff, Nat.reduceAdd, Nat.reduceSub, Nat.reduceLeDiff, Nat.zero_add, Nat.sub_zero, f1, f2, f3, f4, f5, f6, f7, f8, decide_eq_false hlb, wrap64_in]
      refine InvQ_go (I - (a + 1)) (by omega) ⟨(a + 1), rfl, by omega, (by first | rfl | exact f1 | (simp only [upd_apply]; rfl) | (show I64 _ = _; congr 1; omega)), (by first | rfl | exact f2 | (simp only [upd_apply]; rfl) | (show I64 _ = _; congr 1; omega)), (by first | rfl | exact f3 | (simp only [upd_apply]; rfl) | (show I64 _ = _; congr 1; omega)), (by first | rfl | exact f4 | (simp only [upd_apply]; rfl) | (show I64 _ = _; congr 1; omega)), (by first | rfl | exact f5 | (simp only [upd_apply]; rfl) | (show I64 _ = _; congr 1; omega)), (by first | rfl | exact f6 | (simp only [upd_apply]; rfl) | (show I64 _ = _; congr 1; omega)), (by first | rfl | exact f7 | (simp only [upd_apply]; rfl) | (show I64 _ = _; congr 1; omega)), pp, g6, (by rw [Nat.succ_mul]; exact gn)⟩
  · have ea : a = I := by omega
    subst ea
    rw [fillTo_all] at gn
    obtain ⟨e6, g6⟩ := g6
    have hbK := pre_get (pp) (show AH.get H3 H1.length = _ from pre_get p3 (new_facts hH2).1)
    have lt2 := get_lt hbK
    try simp (maxSteps := 3000000) (disch := first | omega | (simp only [len_new, len_put, len_kill]; omega)) only [↓xpre, xpost, ↓reduceIte, Nat.reduceEqDiff, Nat.reduceAdd, Nat.reduceSub, Nat.reduceLeDiff, Nat.zero_add, Nat.sub_zero, f1, f2, f3, f4, f5, f6, f7, decide_eq_false hla, rdn_of g6, wr_of hbK]
    have lgn := gn.lt
    have eN2 : ((a : Int) * (J : Int) * (K : Int)).toNat = a * J * K := by
      rw [show (a : Int) * (J : Int) * (K : Int) = ((a * J * K : Nat) : Int) by push_cast; rfl, Int.toNat_natCast]
    refine hQ' _ _ (pre_put ((p1.trans p2).trans (p3.trans pp)) (show h.length ≤ H1.length by omega)) (OwnI.of (n := nb) (by omega) ?_ ?_)
    · simp only [tenT, gen_len]
      rw [eN2]
    · simp only [tenT]
      rw [eN2]
      exact gn.put_ne (by omega)
theorem i_tensorOf1 {v : Value} {x : Sch} {n : Nat} {e : TypeId} {ro full : Bool} {h0 : AH} (hv : Prods h0 v x.ps) (z : SZ x) (hl : x.ps.length ≤ 30) (hb : h0.get n = some ⟨[I64 x.p, I64 x.n, I64 x.m, I64 x.k, v], e, ro, full⟩) :
    Tells S h0 (.func (.func 99) #[] #[.pointer (some ⟨n, 0, none⟩)]) (x.n * x.m) (x.m * x.k) (x.n * x.k) (lsN x) := by
  intro a b c ha hb' hc h1 hp Q hQ
  rw [WK_func]
  have zi := z.nm
  have zj := z.mk2
  have zk := z.nk
  obtain ⟨A, rfl⟩ : ∃ A : Nat, a = A := ⟨a.toNat, by omega⟩
  obtain ⟨B, rfl⟩ : ∃ B : Nat, b = B := ⟨b.toNat, by omega⟩
  obtain ⟨C, rfl⟩ : ∃ C : Nat, c = C := ⟨c.toNat, by omega⟩
  have hb1 := pre_get hp hb
  refine WF_fn (fn := c99) rfl rfl ?_
  unfold c99
  try simp (maxSteps := 3000000) (disch := first | omega | (simp only [len_new, len_put, len_kill]; omega)) only [↓xpre, xpost, ↓reduceIte, Nat.reduceEqDiff, Nat.reduceAdd, Nat.reduceSub, Nat.reduceLeDiff, Nat.zero_add, Nat.sub_zero, rdn_of hb1]
  refine i_leftSide (hv.pre hp) z hl (by omega) (by omega) (by omega) fun h2 p2 => ?_
  try simp (maxSteps := 3000000) (disch := first | omega | (simp only [len_new, len_put, len_kill]; omega)) only [↓xpre, xpost, ↓reduceIte, Nat.reduceEqDiff, Nat.reduceAdd, Nat.reduceSub, Nat.reduceLeDiff, Nat.zero_add, Nat.sub_zero]
  have := hQ h2 p2
  unfold lsN at this
  rw [Int.toNat_natCast, Int.toNat_natCast, Int.toNat_natCast] at this
  exact this
theorem i_tensorOf {v : Value} {x : Sch} {h : AH} {Q : Value → AH → Prop} (hv : Prods h v x.ps) (z : SZ x) (hl : x.ps.length ≤ 30)
    (hQ : ∀ v' h', h <+: h' → OwnR h h' v' (tofX x).ns → Q (tenV (tofX x) v') h') : WF S 56 [schV x v] h Q := by
  refine WF_fn (fn := c56) rfl rfl ?_
  unfold c56
  try simp (maxSteps := 3000000) (disch := first | omega | (simp only [len_new, len_put, len_kill]; omega)) only [↓xpre, xpost, ↓reduceIte, Nat.reduceEqDiff, Nat.reduceAdd, Nat.reduceSub, Nat.reduceLeDiff, Nat.zero_add, Nat.sub_zero, schV, hv.one]
  generalize hH1 : AH.new h _ = H1
  obtain ⟨hb1, p1, n1⟩ := new_facts hH1
  generalize hH2 : AH.new H1 _ = H2
  obtain ⟨hb2, p2, n2⟩ := new_facts hH2
  have hb1 := pre_get p2 hb1
  try simp (maxSteps := 3000000) (disch := first | omega | (simp only [len_new, len_put, len_kill]; omega)) only [↓xpre, xpost, ↓reduceIte, Nat.reduceEqDiff, Nat.reduceAdd, Nat.reduceSub, Nat.reduceLeDiff, Nat.zero_add, Nat.sub_zero, rdn_of hb1]
  refine i_placesOf hv.one z fun H3 p3 => ?_
  have hb1 := pre_get p3 hb1
  have hb2 := pre_get p3 hb2
  have ix0 : ∀ n : Nat, ixaV 3 1 (.pointer (some ⟨n, 0, none⟩)) (I64 0) = some (.pointer (some ⟨n, 0, none⟩)) := fun n => rfl
  have ix1 : ∀ n : Nat, ixaV 3 1 (.pointer (some ⟨n, 0, none⟩)) (I64 1) = some (.pointer (some ⟨n, 1, none⟩)) := fun n => rfl
  have ix2 : ∀ n : Nat, ixaV 3 1 (.pointer (some ⟨n, 0, none⟩)) (I64 2) = some (.pointer (some ⟨n, 2, none⟩)) := fun n => rfl
  have lt1 := get_lt hb1
  try simp (maxSteps := 3000000) (disch := first | omega | (simp only [len_new, len_put, len_kill]; omega)) only [↓xpre, xpost, ↓reduceIte, Nat.reduceEqDiff, Nat.reduceAdd, Nat.reduceSub, Nat.reduceLeDiff, Nat.zero_add, Nat.sub_zero, ↓WX_ixa, ix0, ix1, ix2, rd1_of hb1]
  generalize hH4 : AH.new H3 _ = H4
  obtain ⟨hb4, p4, n4⟩ := new_facts hH4
  have hb1 := pre_get p4 hb1
  have hb2 := pre_get p4 hb2
  have zi := z.nm
  have zj := z.mk2
  have zk := z.nk
  have zp := z.p
  refine i_tensor (num := lsN x) (by omega) zi zj zk (i_tensorOf1 (hv.pre ((p1.trans p2).trans (p3.trans p4))) z hl hb1) fun v' H5 p5 o => ?_
  have hb2 := pre_get p5 hb2
  have lt2 := get_lt hb2
  try simp (maxSteps := 3000000) (disch := first | omega | (simp only [len_new, len_put, len_kill]; omega)) only [↓xpre, xpost, ↓reduceIte, Nat.reduceEqDiff, Nat.reduceAdd, Nat.reduceSub, Nat.reduceLeDiff, Nat.zero_add, Nat.sub_zero, tenV, o.ints.one, wr_of hb2]
  have l3 := pre_len p3
  exact hQ v' _ (pre_put (((p1.trans p2).trans (p3.trans p4)).trans p5) (show h.length ≤ H1.length by omega)) ((o.put_ne (by omega)).lo (by omega))
def tsR (x : Sch) : Ten × Int := if isX x = true then (tofX x, 0) else (noT, 1)
theorem tofX_small {x : Sch} (z : SZ x) : SmallS (tofX x).ns := by
  have ij := mul_in1 (A := 9) (B := 9) z.nm z.mk2
  have ijk := mul_in1 (A := 81) (B := 9) ij z.nk
  unfold SmallS tofX tenT
  rw [gen_len]
  omega
theorem tsR_small (x : Sch) : SmallS (tsR x).1.ns := by
  unfold tsR
  split
  · rename_i h
    exact tofX_small (isX_sz h).1
  · simp [noT, SmallS]
theorem s_TensorOfScheme {v : Value} {x : Sch} {h : AH} {Q : Value → AH → Prop} (hv : Prods h v x.ps) (hl : SmallX x.ps)
    (hQ : ∀ v' h', h <+: h' → OwnR h h' v' (tsR x).1.ns → Q (.tuple #[tenV (tsR x).1 v', I64 (tsR x).2]) h') : WF S 42 [schV x v] h Q := by
  refine WF_fn (fn := c42) rfl rfl ?_
  unfold c42
  try simp (maxSteps := 3000000) (disch := first | omega | (simp only [len_new, len_put, len_kill]; omega)) only [↓xpre, xpost, ↓reduceIte, Nat.reduceEqDiff, Nat.reduceAdd, Nat.reduceSub, Nat.reduceLeDiff, Nat.zero_add, Nat.sub_zero, schV, hv.one]
  generalize hH1 : AH.new h _ = H1
  obtain ⟨hb1, p1, n1⟩ := new_facts hH1
  generalize hH2 : AH.new H1 _ = H2
  obtain ⟨hb2, p2, n2⟩ := new_facts hH2
  have hb1 := pre_get p2 hb1
  try simp (maxSteps := 3000000) (disch := first | omega | (simp only [len_new, len_put, len_kill]; omega)) only [↓xpre, xpost, ↓reduceIte, Nat.reduceEqDiff, Nat.reduceAdd, Nat.reduceSub, Nat.reduceLeDiff, Nat.zero_add, Nat.sub_zero, rdn_of hb1]
  refine s_l01Is (hv.pre (p1.trans p2)) hl fun H3 p3 => ?_
  have hb1 := pre_get p3 hb1
  have hb2 := pre_get p3 hb2
  have l3 := get_lt hb2
  unfold tsR at hQ
  cases ht : isX x with
  | false =>
    rw [ht, if_neg (by decide)] at hQ
    try simp (maxSteps := 3000000) (disch := first | omega | (simp only [len_new, len_put, len_kill]; omega)) only [↓xpre, xpost, ↓reduceIte, Nat.reduceEqDiff, Nat.reduceAdd, Nat.reduceSub, Nat.reduceLeDiff, Nat.zero_add, Nat.sub_zero, fillL, wr_of hb2]
    exact hQ (.slice none 0 0) _ (pre_put ((p1.trans p2).trans p3) (by omega)) (.inl ⟨rfl, rfl⟩)
  | true =>
    rw [ht, if_pos rfl] at hQ
    try simp (maxSteps := 3000000) (disch := first | omega | (simp only [len_new, len_put, len_kill]; omega)) only [↓xpre, xpost, ↓reduceIte, Nat.reduceEqDiff, Nat.reduceAdd, Nat.reduceSub, Nat.reduceLeDiff, Nat.zero_add, Nat.sub_zero, rdn_of hb1]
    refine s_l05Of (hv.pre ((p1.trans p2).trans p3)) (isX_sz ht).1 (isX_sz ht).2 fun v' H4 p4 o => ?_
    have hb2 := pre_get p4 hb2
    have l4 := get_lt hb2
    try simp (maxSteps := 3000000) (disch := first | omega | (simp only [len_new, len_put, len_kill]; omega)) only [↓xpre, xpost, ↓reduceIte, Nat.reduceEqDiff, Nat.reduceAdd, Nat.reduceSub, Nat.reduceLeDiff, Nat.zero_add, Nat.sub_zero, tenV, o.ints.one, wr_of hb2]
    exact hQ v' _ (pre_put (((p1.trans p2).trans p3).trans p4) (by omega)) ((o.ownR.put_ne (by have := pre_len p3; omega)).lo (by have := pre_len p3; omega))
theorem i_TensorOfScheme {v : Value} {x : Sch} {h : AH} {Q : Value → AH → Prop} (hv : Prods h v x.ps) (hl : SmallX x.ps)
    (hQ : ∀ v' h', h <+: h' → OwnR h h' v' (tsR x).1.ns → Q (.tuple #[tenV (tsR x).1 v', I64 (tsR x).2]) h') : WF S 43 [schV x v] h Q := by
  refine WF_fn (fn := c43) rfl rfl ?_
  unfold c43
  try simp (maxSteps := 3000000) (disch := first | omega | (simp only [len_new, len_put, len_kill]; omega)) only [↓xpre, xpost, ↓reduceIte, Nat.reduceEqDiff, Nat.reduceAdd, Nat.reduceSub, Nat.reduceLeDiff, Nat.zero_add, Nat.sub_zero, schV, hv.one]
  generalize hH1 : AH.new h _ = H1
  obtain ⟨hb1, p1, n1⟩ := new_facts hH1
  generalize hH2 : AH.new H1 _ = H2
  obtain ⟨hb2, p2, n2⟩ := new_facts hH2
  have hb1 := pre_get p2 hb1
  try simp (maxSteps := 3000000) (disch := first | omega | (simp only [len_new, len_put, len_kill]; omega)) only [↓xpre, xpost, ↓reduceIte, Nat.reduceEqDiff, Nat.reduceAdd, Nat.reduceSub, Nat.reduceLeDiff, Nat.zero_add, Nat.sub_zero, rdn_of hb1]
  refine i_IsScheme (hv.pre (p1.trans p2)) hl fun H3 p3 => ?_
  have hb1 := pre_get p3 hb1
  have hb2 := pre_get p3 hb2
  have l3 := get_lt hb2
  unfold tsR at hQ
  cases ht : isX x with
  | false =>
    rw [ht, if_neg (by decide)] at hQ
    try simp (maxSteps := 3000000) (disch := first | omega | (simp only [len_new, len_put, len_kill]; omega)) only [↓xpre, xpost, ↓reduceIte, Nat.reduceEqDiff, Nat.reduceAdd, Nat.reduceSub, Nat.reduceLeDiff, Nat.zero_add, Nat.sub_zero, fillL, wr_of hb2]
    exact hQ (.slice none 0 0) _ (pre_put ((p1.trans p2).trans p3) (by omega)) (.inl ⟨rfl, rfl⟩)
  | true =>
    rw [ht, if_pos rfl] at hQ
    try simp (maxSteps := 3000000) (disch := first | omega | (simp only [len_new, len_put, len_kill]; omega)) only [↓xpre, xpost, ↓reduceIte, Nat.reduceEqDiff, Nat.reduceAdd, Nat.reduceSub, Nat.reduceLeDiff, Nat.zero_add, Nat.sub_zero, rdn_of hb1]
    refine i_tensorOf (hv.pre ((p1.trans p2).trans p3)) (isX_sz ht).1 (isX_sz ht).2 fun v' H4 p4 o => ?_
    have hb2 := pre_get p4 hb2
    have l4 := get_lt hb2
    try simp (maxSteps := 3000000) (disch := first | omega | (simp only [len_new, len_put, len_kill]; omega)) only [↓xpre, xpost, ↓reduceIte, Nat.reduceEqDiff, Nat.reduceAdd, Nat.reduceSub, Nat.reduceLeDiff, Nat.zero_add, Nat.sub_zero, tenV, o.ints.one, wr_of hb2]
    exact hQ v' _ (pre_put (((p1.trans p2).trans p3).trans p4) (by omega)) ((o.put_ne (by have := pre_len p3; omega)).lo (by have := pre_len p3; omega))
end Go.Proofs.Ytphklalbkpohfaa.X
