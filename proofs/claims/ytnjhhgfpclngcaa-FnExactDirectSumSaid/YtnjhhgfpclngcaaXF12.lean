/- The Kronecker product of the reference; codes for two tensors. -/
import Derived.Test.YtnjhhgfpclngcaaXF11
set_option linter.unusedVariables false
set_option linter.unusedSimpArgs false
set_option maxRecDepth 20000
set_option maxHeartbeats 4000000
namespace Go.Proofs.Ytnjhhgfpclngcaa.X
open Go Go.RowKit

def mmV (isMax : Bool) (x : Value) (l : List Value) : Option Value := match x with
  | .int k a => (xmm isMax a l).map fun b => .int k b
  | _ => none
theorem WX_mm {S : XS} {f : Fr} {h : AH} {Q : Value → AH → Prop} {b : Bool} {x : Operand} {l : List Operand} : WX S (.mm b x l) f h Q = WV (mmV b (ev f x) (l.map (ev f))) fun v => Q v h := by
  rw [WX_op (fun _ => rfl)]
  have : xop (.mm b x l) f h = (mmV b (ev f x) (l.map (ev f))).map (·, h) := by
    simp only [xop, mmV]
    generalize ev f x = vx
    cases vx <;> try rfl
    simp only
    generalize xmm b _ _ = r
    cases r <;> rfl
  rw [this]
  cases mmV b (ev f x) (l.map (ev f)) <;> simp [OQ_some, WV_some, OQ_none, WV_none]
theorem mmV_3 {a b c : Int} : mmV true (.int .i64 a) [.int .i64 b, .int .i64 c] = some (.int .i64 (if (if b > a then b else a) < c then c else (if b > a then b else a))) := by
  simp [mmV, xmm]
theorem max3 {a b c : Int} : (9 < (if (if b > a then b else a) < c then c else (if b > a then b else a))) ↔ ¬ (a ≤ 9 ∧ b ≤ 9 ∧ c ≤ 9) := by
  split <;> split <;> omega

def twoC (t u : Ten) : Int := if isT t = true ∧ isT u = true then (if t.p = u.p then 0 else 2) else 1
theorem s_l05Two {v w : Value} {t u : Ten} {h : AH} {Q : Value → AH → Prop} (hv : Ints h v t.ns) (hl : (t.ns.length : Int) ≤ 1048576) (hw : Ints h w u.ns) (hl' : (u.ns.length : Int) ≤ 1048576)
    (hQ : ∀ h', h <+: h' → Q (I64 (twoC t u)) h') : WF S 78 [tenV t v, tenV u w] h Q := by
  refine WF_fn (fn := c78) rfl rfl ?_
  unfold c78
  try simp (maxSteps := 3000000) (disch := first | omega | (simp only [len_new, len_put, len_kill]; omega)) only [↓xpre, xpost, ↓reduceIte, Nat.reduceEqDiff, Nat.reduceAdd, Nat.reduceSub, Nat.reduceLeDiff, Nat.zero_add, Nat.sub_zero, tenV, hv.one, hw.one]
  generalize hH1 : AH.new h _ = H1
  obtain ⟨hb1, p1, n1⟩ := new_facts hH1
  generalize hH2 : AH.new H1 _ = H2
  obtain ⟨hb2, p2, n2⟩ := new_facts hH2
  have hb1 := pre_get p2 hb1
  have ph := p1.trans p2
  refine s_l05Is (hv.pre ph) hl fun H3 p3 => ?_
  have hb1 := pre_get p3 hb1
  have hb2 := pre_get p3 hb2
  have ph := ph.trans p3
  unfold twoC at hQ
  cases ht : isT t with
  | false =>
    try simp (maxSteps := 3000000) (disch := first | omega | (simp only [len_new, len_put, len_kill]; omega)) only [↓xpre, xpost, ↓reduceIte, Nat.reduceEqDiff, Nat.reduceAdd, Nat.reduceSub, Nat.reduceLeDiff, Nat.zero_add, Nat.sub_zero]
    have := hQ _ ph
    simpa [ht] using this
  | true =>
    try simp (maxSteps := 3000000) (disch := first | omega | (simp only [len_new, len_put, len_kill]; omega)) only [↓xpre, xpost, ↓reduceIte, Nat.reduceEqDiff, Nat.reduceAdd, Nat.reduceSub, Nat.reduceLeDiff, Nat.zero_add, Nat.sub_zero, rdn_of hb2]
    refine s_l05Is (hw.pre ph) hl' fun H4 p4 => ?_
    have hb1 := pre_get p4 hb1
    have hb2 := pre_get p4 hb2
    have ph := ph.trans p4
    have hQ4 := hQ _ ph
    cases hu : isT u with
    | false =>
      try simp (maxSteps := 3000000) (disch := first | omega | (simp only [len_new, len_put, len_kill]; omega)) only [↓xpre, xpost, ↓reduceIte, Nat.reduceEqDiff, Nat.reduceAdd, Nat.reduceSub, Nat.reduceLeDiff, Nat.zero_add, Nat.sub_zero]
      simpa [hu] using hQ4
    | true =>
      try simp (maxSteps := 3000000) (disch := first | omega | (simp only [len_new, len_put, len_kill]; omega)) only [↓xpre, xpost, ↓reduceIte, Nat.reduceEqDiff, Nat.reduceAdd, Nat.reduceSub, Nat.reduceLeDiff, Nat.zero_add, Nat.sub_zero, rd1_of hb1, rd1_of hb2]
      by_cases e : t.p = u.p
      · try simp (maxSteps := 3000000) (disch := first | omega | (simp only [len_new, len_put, len_kill]; omega)) only [↓xpre, xpost, ↓reduceIte, Nat.reduceEqDiff, Nat.reduceAdd, Nat.reduceSub, Nat.reduceLeDiff, Nat.zero_add, Nat.sub_zero, decide_eq_false (show ¬ (t.p ≠ u.p) from fun h => h e)]
        simpa [ht, hu, e] using hQ4
      · try simp (maxSteps := 3000000) (disch := first | omega | (simp only [len_new, len_put, len_kill]; omega)) only [↓xpre, xpost, ↓reduceIte, Nat.reduceEqDiff, Nat.reduceAdd, Nat.reduceSub, Nat.reduceLeDiff, Nat.zero_add, Nat.sub_zero, decide_eq_true (show t.p ≠ u.p from e)]
        simpa [ht, hu, e] using hQ4

def twoS (t u : Ten) (ok : Bool) : Int := if isT t = true ∧ isT u = true then (if t.p = u.p then (if ok = true then 0 else 3) else 2) else 1
theorem i_twoTensors {v w z : Value} {t u : Ten} {ns : List Int} {h : AH} {Q : Value → AH → Prop} (hv : Ints h v t.ns) (hl : (t.ns.length : Int) ≤ 1048576) (hw : Ints h w u.ns) (hl' : (u.ns.length : Int) ≤ 1048576)
    (hz : Ints h z ns) (hlz : (ns.length : Int) ≤ 1048576)
    (hQ : ∀ h', h <+: h' → Q (I64 (twoS t u (ns.all side))) h') : WF S 80 [tenV t v, tenV u w, z] h Q := by
  refine WF_fn (fn := c80) rfl rfl ?_
  unfold c80
  try simp (maxSteps := 3000000) (disch := first | omega | (simp only [len_new, len_put, len_kill]; omega)) only [↓xpre, xpost, ↓reduceIte, Nat.reduceEqDiff, Nat.reduceAdd, Nat.reduceSub, Nat.reduceLeDiff, Nat.zero_add, Nat.sub_zero, tenV, hv.one, hw.one, fillL, zrep]
  generalize hH1 : AH.new h _ = H1
  obtain ⟨hb1, p1, n1⟩ := new_facts hH1
  generalize hH2 : AH.new H1 _ = H2
  obtain ⟨hb2, p2, n2⟩ := new_facts hH2
  generalize hH3 : AH.new H2 _ = H3
  obtain ⟨hb3, p3, n3⟩ := new_facts hH3
  have hb1 := pre_get (p2.trans p3) hb1
  have hb2 := pre_get p3 hb2
  have ph := (p1.trans p2).trans p3
  refine i_areTensors (hv.pre ph) (hw.pre ph) hl hl' hb3 fun H4 p4 => ?_
  have hb1 := pre_get p4 hb1
  have hb2 := pre_get p4 hb2
  have ph := ph.trans p4
  have hQ4 := hQ _ ph
  unfold twoS at hQ4
  by_cases hd : isT t = true ∧ isT u = true
  case neg =>
    have e : (isT t && isT u) = false := by
      cases h1 : isT t <;> cases h2 : isT u <;> simp_all
    try simp (maxSteps := 3000000) (disch := first | omega | (simp only [len_new, len_put, len_kill]; omega)) only [↓xpre, xpost, ↓reduceIte, Nat.reduceEqDiff, Nat.reduceAdd, Nat.reduceSub, Nat.reduceLeDiff, Nat.zero_add, Nat.sub_zero, e]
    rw [if_neg hd] at hQ4
    exact hQ4
  try simp (maxSteps := 3000000) (disch := first | omega | (simp only [len_new, len_put, len_kill]; omega)) only [↓xpre, xpost, ↓reduceIte, Nat.reduceEqDiff, Nat.reduceAdd, Nat.reduceSub, Nat.reduceLeDiff, Nat.zero_add, Nat.sub_zero, hd.1, hd.2, rd1_of hb1, rd1_of hb2]
  rw [if_pos hd] at hQ4
  by_cases e : t.p = u.p
  · try simp (maxSteps := 3000000) (disch := first | omega | (simp only [len_new, len_put, len_kill]; omega)) only [↓xpre, xpost, ↓reduceIte, Nat.reduceEqDiff, Nat.reduceAdd, Nat.reduceSub, Nat.reduceLeDiff, Nat.zero_add, Nat.sub_zero, decide_eq_false (show ¬ (t.p ≠ u.p) from fun h => h e)]
    rw [if_pos e] at hQ4
    refine i_isSide (hz.pre ph) hlz ?_
    cases hs : ns.all side with
    | true =>
      try simp (maxSteps := 3000000) (disch := first | omega | (simp only [len_new, len_put, len_kill]; omega)) only [↓xpre, xpost, ↓reduceIte, Nat.reduceEqDiff, Nat.reduceAdd, Nat.reduceSub, Nat.reduceLeDiff, Nat.zero_add, Nat.sub_zero]
      rw [hs] at hQ4
      exact hQ4
    | false =>
      try simp (maxSteps := 3000000) (disch := first | omega | (simp only [len_new, len_put, len_kill]; omega)) only [↓xpre, xpost, ↓reduceIte, Nat.reduceEqDiff, Nat.reduceAdd, Nat.reduceSub, Nat.reduceLeDiff, Nat.zero_add, Nat.sub_zero]
      rw [hs] at hQ4
      exact hQ4
  · try simp (maxSteps := 3000000) (disch := first | omega | (simp only [len_new, len_put, len_kill]; omega)) only [↓xpre, xpost, ↓reduceIte, Nat.reduceEqDiff, Nat.reduceAdd, Nat.reduceSub, Nat.reduceLeDiff, Nat.zero_add, Nat.sub_zero, decide_eq_true (show t.p ≠ u.p from e)]
    rw [if_neg e] at hQ4
    exact hQ4

theorem tdiv_in {a I J : Int} (ha : 0 ≤ a ∧ a < I * J) (hJ : 1 ≤ J) : 0 ≤ a.tdiv J ∧ a.tdiv J < I := by
  rw [Int.tdiv_eq_ediv_of_nonneg ha.1]
  exact ⟨Int.ediv_nonneg ha.1 (by omega), Int.ediv_lt_of_lt_mul (by omega) ha.2⟩
theorem tmod_in {a J : Int} (ha : 0 ≤ a) (hJ : 1 ≤ J) : 0 ≤ a.tmod J ∧ a.tmod J < J := by
  rw [Int.tmod_eq_emod_of_nonneg ha]
  exact ⟨Int.emod_nonneg _ (by omega), Int.emod_lt_of_pos _ (by omega)⟩

/-- Written in order. -/
def DoneS (N : Nat) (g : Nat → Int) (l : List Int) (m : Int) : Prop := l.length = N ∧ ∀ n : Nat, (n : Int) < m → l.getD n 0 = g n
theorem DoneS.step {N : Nat} {g : Nat → Int} {l : List Int} {m : Int} (d : DoneS N g l m) (hm : 0 ≤ m ∧ m < N) {x : Int} (hx : x = g m.toNat) : DoneS N g (l.set m.toNat x) (m + 1) := by
  refine ⟨by rw [List.length_set]; exact d.1, fun n hn => ?_⟩
  rw [set_getD (by rw [d.1]; omega)]
  split
  · rename_i e
    rw [e, hx]
  · exact d.2 n (by omega)
theorem DoneS.all {N : Nat} {g : Nat → Int} {l : List Int} {m : Int} (d : DoneS N g l m) (hm : m = N) : l = gen N g := gen_ext d.1 fun n hn => d.2 n (by omega)

def krN (t u : Ten) (a b c : Int) : Int := tat t (a.tdiv u.i) (b.tdiv u.j) (c.tdiv u.k) * tat u (a.tmod u.i) (b.tmod u.j) (c.tmod u.k)
def krT (t u : Ten) : Ten := tenT t.p (t.i * u.i) (t.j * u.j) (t.k * u.k) (krN t u)

/-- The state of the reference's product. -/
structure KrS (t u s : Ten) (v w : Value) (h0 h : AH) (b5 nb : Nat) (l : List Int) : Prop where
  hp : h0 <+: h
  lo : h0.length + 3 ≤ nb ∧ nb < b5
  g1 : OwnB h h0.length [I64 t.p, I64 t.i, I64 t.j, I64 t.k, v] true
  g2 : OwnB h (h0.length + 1) [I64 u.p, I64 u.i, I64 u.j, I64 u.k, w] true
  g3 : ∃ c, c.length = 5 ∧ OwnB h (h0.length + 2) c true
  g5 : OwnB h b5 [I64 s.p, I64 s.i, I64 s.j, I64 s.k, .slice (some ⟨nb, 0, none⟩) (s.i * s.j * s.k).toNat 1] true
  gn : OwnB h nb (l.map (Value.int .i64)) true
theorem KrS.pre {t u s : Ten} {v w : Value} {h0 h h' : AH} {b5 nb : Nat} {l : List Int} (a : KrS t u s v w h0 h b5 nb l) (p : h <+: h') : KrS t u s v w h0 h' b5 nb l := by
  obtain ⟨c, c1, c2⟩ := a.g3
  exact ⟨a.hp.trans p, a.lo, a.g1.pre p, a.g2.pre p, ⟨c, c1, c2.pre p⟩, a.g5.pre p, a.gn.pre p⟩

theorem s_l05Kronecker {v w : Value} {t u : Ten} {h : AH} {Q : Value → AH → Prop} (hv : Ints h v t.ns) (hw : Ints h w u.ns) (f : TF t) (fu : TF u) (ep : t.p = u.p)
    (ki : t.i * u.i ≤ 9) (kj : t.j * u.j ≤ 9) (kk : t.k * u.k ≤ 9)
    (hQ : ∀ v' h', h <+: h' → OwnR h h' v' (krT t u).ns → Q (tenV (krT t u) v') h') : WF S 79 [tenV t v, tenV u w] h Q := by
  refine WF_fn (fn := c79) rfl rfl ?_
  unfold c79
  have fi := f.i
  have fj := f.j
  have fk := f.k
  have ui := fu.i
  have uj := fu.j
  have uk := fu.k
  have mi := mul_in1 (A := 9) (B := 9) fi ui
  have mj := mul_in1 (A := 9) (B := 9) fj uj
  have mk := mul_in1 (A := 9) (B := 9) fk uk
  generalize hI : t.i * u.i = I at *
  generalize hJ : t.j * u.j = J at *
  generalize hK : t.k * u.k = K at *
  have ij := mul_in1 (a := I) (b := J) (A := 9) (B := 9) (by omega) (by omega)
  have ijk := mul_in1 (a := I * J) (b := K) (A := 81) (B := 9) (by omega) (by omega)
  have hs : krT t u = tenT t.p I J K (krN t u) := by unfold krT; rw [hI, hJ, hK]
  try simp (maxSteps := 3000000) (disch := first | omega | (simp only [len_new, len_put, len_kill]; omega)) only [↓xpre, xpost, ↓reduceIte, Nat.reduceEqDiff, Nat.reduceAdd, Nat.reduceSub, Nat.reduceLeDiff, Nat.zero_add, Nat.sub_zero, tenV, hv.one, hw.one, wrap64_in, hI, hJ, hK]
  refine s_l05Empty (by omega) (by omega) fun v' H3 hp o => ?_
  try simp (maxSteps := 3000000) (disch := first | omega | (simp only [len_new, len_put, len_kill]; omega)) only [↓xpre, xpost, ↓reduceIte, Nat.reduceEqDiff, Nat.reduceAdd, Nat.reduceSub, Nat.reduceLeDiff, Nat.zero_add, Nat.sub_zero, tenV, o.ints.one]
  obtain ⟨nb, e, q1, rfl, q2⟩ := o
  generalize hH1 : AH.new h _ = H1 at hp q1 ⊢
  obtain ⟨hb1, p1, n1⟩ := new_facts hH1
  generalize hH2 : AH.new H1 _ = H2 at hp q1
  obtain ⟨hb2, p2, n2⟩ := new_facts hH2
  generalize hH2' : AH.new H2 _ = H2' at hp q1
  obtain ⟨hb2', p2', n2'⟩ := new_facts hH2'
  generalize hH4 : AH.new H3 _ = H4
  obtain ⟨hb4, p4, n4⟩ := new_facts hH4
  have q3 := get_lt q2
  rw [List.length_replicate] at hb4
  have hN : (((I * J * K).toNat : Nat) : Int) = I * J * K := Int.toNat_of_nonneg (by omega)
  have st0 : KrS t u ⟨t.p, I, J, K, []⟩ v w h H4 H3.length nb (List.replicate (I * J * K).toNat 0) :=
    ⟨(((p1.trans p2).trans p2').trans hp).trans p4, by omega, ⟨_, pre_get p4 (pre_get hp (pre_get p2' (pre_get p2 hb1)))⟩, by rw [← n1]; exact ⟨_, pre_get p4 (pre_get hp (pre_get p2' hb2))⟩,
      ⟨_, rfl, by rw [show h.length + 2 = H2.length by omega]; exact ⟨_, pre_get p4 (pre_get hp hb2')⟩⟩, ⟨_, hb4⟩, ⟨_, pre_get p4 q2⟩⟩
  refine WC_loop_inv (fun n f h1 => ∃ (i : Int) (l : List Int), n = (I - i).toNat ∧ (0 ≤ i ∧ i ≤ I) ∧ f 2 = .pointer (some ⟨h.length, 0, none⟩) ∧ f 3 = .pointer (some ⟨H1.length, 0, none⟩) ∧ f 4 = .pointer (some ⟨H2.length, 0, none⟩) ∧ f 5 = .pointer (some ⟨H3.length, 0, none⟩) ∧
    f 6 = I64 i ∧ KrS t u ⟨t.p, I, J, K, []⟩ v w h h1 H3.length nb l ∧ DoneS (I * J * K).toNat (tenG t.p J K (krN t u)) l (i * J * K)) ?_ (I - 0).toNat _ _ ⟨0, _, rfl, by omega, rfl, rfl, rfl, rfl, rfl, st0, List.length_replicate, fun n hn => by simp at hn; omega⟩
  rintro n fr h1 ⟨i, l, rfl, hi, f2, f3, f4, f5, f6, st, dn⟩
  obtain ⟨t5, g5⟩ := st.g5
  try simp (maxSteps := 3000000) (disch := first | omega | (simp only [len_new, len_put, len_kill]; omega)) only [↓xpre, xpost, ↓reduceIte, Nat.reduceEqDiff, Nat.reduceAdd, Nat.reduceSub, Nat.reduceLeDiff, Nat.zero_add, Nat.sub_zero, f2, f3, f4, f5, f6, rd1_of g5, IfW_dec]
  refine ⟨fun hlt => ?_, fun hge => ?_⟩
  · clear g5
    refine WC_loop_inv (fun n f h1 => ∃ (j : Int) (l : List Int), n = (J - j).toNat ∧ (0 ≤ j ∧ j ≤ J) ∧ f 2 = .pointer (some ⟨h.length, 0, none⟩) ∧ f 3 = .pointer (some ⟨H1.length, 0, none⟩) ∧ f 4 = .pointer (some ⟨H2.length, 0, none⟩) ∧ f 5 = .pointer (some ⟨H3.length, 0, none⟩) ∧
      f 6 = I64 i ∧ f 7 = I64 j ∧ KrS t u ⟨t.p, I, J, K, []⟩ v w h h1 H3.length nb l ∧ DoneS (I * J * K).toNat (tenG t.p J K (krN t u)) l ((i * J + j) * K)) ?_ (J - 0).toNat _ _ ⟨0, l, rfl, by omega, f2, f3, f4, f5, f6, rfl, st, by rw [Int.add_zero]; exact dn⟩
    clear f2 f3 f4 f5 f6 st dn
    rintro n fr h1 ⟨j, l, rfl, hj, f2, f3, f4, f5, f6, f7, st, dn⟩
    obtain ⟨t5, g5⟩ := st.g5
    try simp (maxSteps := 3000000) (disch := first | omega | (simp only [len_new, len_put, len_kill]; omega)) only [↓xpre, xpost, ↓reduceIte, Nat.reduceEqDiff, Nat.reduceAdd, Nat.reduceSub, Nat.reduceLeDiff, Nat.zero_add, Nat.sub_zero, f2, f3, f4, f5, f6, f7, rd1_of g5, IfW_dec]
    refine ⟨fun hltj => ?_, fun hge => ?_⟩
    · clear g5
      refine WC_loop_inv (fun n f h1 => ∃ (k : Int) (l : List Int), n = (K - k).toNat ∧ (0 ≤ k ∧ k ≤ K) ∧ f 2 = .pointer (some ⟨h.length, 0, none⟩) ∧ f 3 = .pointer (some ⟨H1.length, 0, none⟩) ∧ f 4 = .pointer (some ⟨H2.length, 0, none⟩) ∧ f 5 = .pointer (some ⟨H3.length, 0, none⟩) ∧
        f 6 = I64 i ∧ f 7 = I64 j ∧ f 8 = I64 k ∧ KrS t u ⟨t.p, I, J, K, []⟩ v w h h1 H3.length nb l ∧ DoneS (I * J * K).toNat (tenG t.p J K (krN t u)) l ((i * J + j) * K + k)) ?_ (K - 0).toNat _ _ ⟨0, l, rfl, by omega, f2, f3, f4, f5, f6, f7, rfl, st, by rw [Int.add_zero]; exact dn⟩
      clear f2 f3 f4 f5 f6 f7 st dn
      rintro n fr h1 ⟨k, l, rfl, hk, f2, f3, f4, f5, f6, f7, f8, st, dn⟩
      obtain ⟨t1, g1⟩ := st.g1
      obtain ⟨t2, g2⟩ := st.g2
      obtain ⟨t5, g5⟩ := st.g5
      rw [← n1] at g2
      try simp (maxSteps := 3000000) (disch := first | omega | (simp only [len_new, len_put, len_kill]; omega)) only [↓xpre, xpost, ↓reduceIte, Nat.reduceEqDiff, Nat.reduceAdd, Nat.reduceSub, Nat.reduceLeDiff, Nat.zero_add, Nat.sub_zero, f2, f3, f4, f5, f6, f7, f8, rd1_of g5, IfW_dec]
      refine ⟨fun hltk => ?_, fun hge => ?_⟩
      · have b1 := lin_in (i := i) (I := I) (j := j) (J := J) (by omega) (by omega)
        have b2 := lin_in b1.2 (j := k) (J := K) (by omega)
        have d1 := tdiv_in (a := i) (I := t.i) (J := u.i) (by rw [hI]; omega) (by omega)
        have d2 := tdiv_in (a := j) (I := t.j) (J := u.j) (by rw [hJ]; omega) (by omega)
        have d3 := tdiv_in (a := k) (I := t.k) (J := u.k) (by rw [hK]; omega) (by omega)
        have m1 := tmod_in (a := i) (J := u.i) (by omega) (by omega)
        have m2 := tmod_in (a := j) (J := u.j) (by omega) (by omega)
        have m3 := tmod_in (a := k) (J := u.k) (by omega) (by omega)
        try simp (maxSteps := 3000000) (disch := first | omega | (simp only [len_new, len_put, len_kill]; omega)) only [↓xpre, xpost, ↓reduceIte, Nat.reduceEqDiff, Nat.reduceAdd, Nat.reduceSub, Nat.reduceLeDiff, Nat.zero_add, Nat.sub_zero, f2, f3, f4, f5, f6, f7, f8, rd1_of g1, rd1_of g2, rd1_of g5, rdn_of g1, wrap64_in, bin_quo]
        refine s_l05At (t := t) (hv.pre st.hp) f d1 d2 d3 fun h2 p5 => ?_
        have g1 := pre_get p5 g1
        have g2 := pre_get p5 g2
        try simp (maxSteps := 3000000) (disch := first | omega | (simp only [len_new, len_put, len_kill]; omega)) only [↓xpre, xpost, ↓reduceIte, Nat.reduceEqDiff, Nat.reduceAdd, Nat.reduceSub, Nat.reduceLeDiff, Nat.zero_add, Nat.sub_zero, f2, f3, f4, f5, f6, f7, f8, rd1_of g2, rdn_of g2, bin_rem]
        refine ⟨p5, ?_⟩
        refine s_l05At (t := u) (hw.pre (st.hp.trans p5)) fu m1 m2 m3 fun h3 p6 => ?_
        have st3 := st.pre (p5.trans p6)
        have g1 := pre_get p6 g1
        obtain ⟨tn, gn⟩ := st3.gn
        have hll := dn.1
        have a1 := tat_in f d1 d2 d3
        have a2 := tat_in fu m1 m2 m3
        have fp := f.p
        have fup := fu.p
        have a3 := mul_in (a := tat t (i.tdiv u.i) (j.tdiv u.j) (k.tdiv u.k)) (b := tat u (i.tmod u.i) (j.tmod u.j) (k.tmod u.k)) (A := 5) (B := 5) (by omega) (by omega)
        try simp (maxSteps := 3000000) (disch := first | omega | (simp only [len_new, len_put, len_kill]; omega)) only [↓xpre, xpost, ↓reduceIte, Nat.reduceEqDiff, Nat.reduceAdd, Nat.reduceSub, Nat.reduceLeDiff, Nat.zero_add, Nat.sub_zero, f2, f3, f4, f5, f6, f7, f8, rd1_of g1, wrap64_in, bin_rem, ixsV_some, wr_of gn]
        refine ⟨p6, ⟨by omega, by omega⟩, by simp [hll]; omega, ?_⟩
        refine InvQ_go (K - (k + 1)).toNat (by omega) ⟨k + 1, l.set ((i * J + j) * K + k).toNat ((krN t u i j k).tmod t.p), rfl, by omega, f2, f3, f4, f5, f6, f7, rfl, ?_, ?_⟩
        · have lo := st.lo
          obtain ⟨c2, c3, c4⟩ := st3.g3
          refine ⟨pre_put st3.hp (by omega), lo, st3.g1.put_ne (by omega), st3.g2.put_ne (by omega), ⟨c2, c3, c4.put_ne (by omega)⟩, st3.g5.put_ne (by omega), ⟨tn, ?_⟩⟩
          rw [get_put_same (get_lt gn)]
          simp only [Nat.zero_add, Nat.mul_one]
          rw [splice_map (by omega)]
          rfl
        · rw [← Int.add_assoc]
          refine dn.step (by omega) ?_
          have e1 := dec (a := i * J + j) (i := k) (I := K) (by omega)
          have e2 := dec (a := i) (i := j) (I := J) (by omega)
          unfold tenG
          rw [Int.toNat_of_nonneg (by omega), e1.1, e1.2, e2.1, e2.2]
      · try simp (maxSteps := 3000000) (disch := first | omega | (simp only [len_new, len_put, len_kill]; omega)) only [↓xpre, xpost, ↓reduceIte, Nat.reduceEqDiff, Nat.reduceAdd, Nat.reduceSub, Nat.reduceLeDiff, Nat.zero_add, Nat.sub_zero, f2, f3, f4, f5, f6, f7, wrap64_in]
        have : k = K := by omega
        subst this
        refine InvQ_go (J - (j + 1)).toNat (by omega) ⟨j + 1, l, rfl, by omega, f2, f3, f4, f5, f6, rfl, st, ?_⟩
        have e1 : (i * J + (j + 1)) * k = (i * J + j) * k + k := by rw [← Int.add_assoc, Int.add_mul (i * J + j), Int.one_mul]
        rw [e1]
        exact dn
    · try simp (maxSteps := 3000000) (disch := first | omega | (simp only [len_new, len_put, len_kill]; omega)) only [↓xpre, xpost, ↓reduceIte, Nat.reduceEqDiff, Nat.reduceAdd, Nat.reduceSub, Nat.reduceLeDiff, Nat.zero_add, Nat.sub_zero, f2, f3, f4, f5, f6, wrap64_in]
      have : j = J := by omega
      subst this
      refine InvQ_go (I - (i + 1)).toNat (by omega) ⟨i + 1, l, rfl, by omega, f2, f3, f4, f5, rfl, st, ?_⟩
      have e1 : (i + 1) * j * K = (i * j + j) * K := by rw [Int.add_mul i, Int.one_mul]
      rw [e1]
      exact dn
  · have : i = I := by omega
    subst this
    have hall := dn.all (by omega)
    have lo := st.lo
    obtain ⟨c, c3, t2, g2⟩ := st.g3
    obtain ⟨c0, c1, c2, c4, c5, rfl⟩ : ∃ a b d e g, c = [a, b, d, e, g] := by
      match c, c3 with
      | [a, b, d, e, g], _ => exact ⟨_, _, _, _, _, rfl⟩
    rw [show h.length + 2 = H2.length by omega] at g2
    have l2 := get_lt g2
    try simp (maxSteps := 3000000) (disch := first | omega | (simp only [len_new, len_put, len_kill]; omega)) only [↓xpre, xpost, ↓reduceIte, Nat.reduceEqDiff, Nat.reduceAdd, Nat.reduceSub, Nat.reduceLeDiff, Nat.zero_add, Nat.sub_zero, f2, f3, f4, f5, f6, rdn_of g5, wr_of g2]
    rw [hs] at hQ
    obtain ⟨tn, gn⟩ := st.gn
    refine hQ _ _ (pre_put (n := H2.length) st.hp (by omega)) (.inr ⟨nb, tn, true, by omega, ?_, ?_⟩)
    · simp only [tenT, gen_len]
    · rw [get_put_ne (by omega), gn, hall]
      rfl
end Go.Proofs.Ytnjhhgfpclngcaa.X
