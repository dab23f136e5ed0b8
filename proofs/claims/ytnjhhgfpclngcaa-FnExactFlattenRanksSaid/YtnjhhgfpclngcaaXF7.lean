/- Tensors made of a rule: the empty one, the turn of the reference. -/
import Derived.Test.YtnjhhgfpclngcaaXF6
set_option linter.unusedVariables false
set_option linter.unusedSimpArgs false
namespace Go.Proofs.Ytnjhhgfpclngcaa.X
open Go Go.RowKit

def gen (N : Nat) (g : Nat → Int) : List Int := (List.range N).map g
theorem gen_len {N : Nat} {g : Nat → Int} : (gen N g).length = N := by simp [gen]
theorem gen_get {N i : Nat} {g : Nat → Int} (hi : i < N) : (gen N g).getD i 0 = g i := by
  simp [gen, List.getD_eq_getElem?_getD, List.getElem?_map, List.getElem?_range hi]
theorem gen_ext {N : Nat} {g : Nat → Int} {l : List Int} (hl : l.length = N) (h : ∀ i, i < N → l.getD i 0 = g i) : l = gen N g := by
  refine List.ext_getElem? fun j => ?_
  by_cases hj : j < N
  · have h1 := h j hj
    rw [List.getD_eq_getElem?_getD, List.getElem?_eq_getElem (by omega)] at h1
    rw [List.getElem?_eq_getElem (by omega)]
    simp [gen, List.getElem?_map, List.getElem?_range hj] at h1 ⊢
    exact h1
  · rw [List.getElem?_eq_none (by omega), List.getElem?_eq_none (by rw [gen_len]; omega)]
theorem gen_succ {N : Nat} {g : Nat → Int} : gen (N + 1) g = gen N g ++ [g N] := by simp [gen, List.range_succ]
theorem gen_congr {N : Nat} {g g' : Nat → Int} (h : ∀ i, i < N → g i = g' i) : gen N g = gen N g' := by
  refine gen_ext gen_len fun i hi => ?_
  rw [gen_get hi, h i hi]
theorem set_getD {l : List Int} {i j : Nat} {x : Int} (hi : i < l.length) : (l.set i x).getD j 0 = if j = i then x else l.getD j 0 := by
  rw [List.getD_eq_getElem?_getD, List.getD_eq_getElem?_getD, List.getElem?_set]
  by_cases h : i = j
  · subst h
    simp [hi]
  · rw [if_neg h, if_neg (fun e => h e.symm)]
theorem dec {a i I : Int} (h : 0 ≤ i ∧ i < I) : (a * I + i) / I = a ∧ (a * I + i) % I = i := by
  have := (Int.ediv_emod_unique (a := a * I + i) (b := I) (q := a) (r := i) (by omega)).2 ⟨by rw [Int.mul_comm]; omega, h.1, h.2⟩
  exact this
theorem enc (n I : Int) : n / I * I + n % I = n := by
  have := Int.mul_ediv_add_emod n I
  rw [Int.mul_comm] at this
  exact this

theorem OwnI.of {h0 h : AH} {v : Value} {ns : List Int} {n : Nat} (h1 : h0.length ≤ n) (e : v = .slice (some ⟨n, 0, none⟩) ns.length 1) (b : OwnB h n (ns.map (Value.int .i64)) true) : OwnI h0 h v ns := by
  obtain ⟨e', hb⟩ := b
  exact ⟨n, e', h1, e, hb⟩
theorem ownB_new' {h : AH} {c : List Value} {e : TypeId} {full : Bool} {n : Nat} (hn : n = h.length) : OwnB (h.new ⟨c, e, false, full⟩) n c full := by subst hn; exact ownB_new
theorem OwnB.pre {h h' : AH} {c : List Value} {full : Bool} {n : Nat} (b : OwnB h n c full) (p : h <+: h') : OwnB h' n c full := by
  obtain ⟨e, hb⟩ := b
  exact ⟨e, pre_get p hb⟩
theorem OwnB.put_ne {h : AH} {c : List Value} {full : Bool} {n m : Nat} {b : Blk} (o : OwnB h n c full) (e : m ≠ n) : OwnB (h.put m b) n c full := by
  obtain ⟨e', hb⟩ := o
  exact ⟨e', by rw [get_put_ne e]; exact hb⟩
theorem OwnB.lt {h : AH} {c : List Value} {full : Bool} {n : Nat} (o : OwnB h n c full) : n < h.length := by
  obtain ⟨e', hb⟩ := o
  exact get_lt hb
theorem s_l05Empty {p i j k : Int} {h : AH} {Q : Value → AH → Prop} (h1 : 0 ≤ i * j ∧ i * j ≤ 1048576) (h2 : 0 ≤ i * j * k ∧ i * j * k ≤ 1048576)
    (hQ : ∀ v' h', h <+: h' → OwnI h h' v' (List.replicate (i * j * k).toNat 0) → Q (tenV ⟨p, i, j, k, List.replicate (i * j * k).toNat 0⟩ v') h') : WF S 73 [I64 p, I64 i, I64 j, I64 k] h Q := by
  refine WF_fn (fn := c73) rfl rfl ?_
  unfold c73
  try simp (maxSteps := 3000000) (disch := first | omega | (simp only [len_new, len_put, len_kill]; omega)) only [↓xpre, xpost, ↓reduceIte, Nat.reduceEqDiff, Nat.reduceAdd, Nat.reduceSub, Nat.reduceLeDiff, Nat.zero_add, Nat.sub_zero, wrap64_in]
  refine ⟨by omega, ?_⟩
  try simp (maxSteps := 3000000) (disch := first | omega | (simp only [len_new, len_put, len_kill]; omega)) only [↓xpre, xpost, ↓reduceIte, Nat.reduceEqDiff, Nat.reduceAdd, Nat.reduceSub, Nat.reduceLeDiff, Nat.zero_add, Nat.sub_zero, fillL, len_new]
  refine hQ _ _ (pre_new (pre_new (List.prefix_refl _))) (OwnI.of (n := h.length + 1) (by omega) ?_ ?_)
  · rw [List.length_replicate]
  · rw [← zrep_ints]
    exact ownB_new' (by rw [len_new])

theorem lex_step {x y z i j K : Int} (hz : 0 ≤ z ∧ z < K) (h : x < i ∨ (x = i ∧ (y < j + 1 ∨ (y = j + 1 ∧ z < 0)))) : x < i ∨ (x = i ∧ (y < j ∨ (y = j ∧ z < K))) := by omega

def turnG (t : Ten) (n : Nat) : Int := tat t ((n : Int) % t.i) ((n : Int) / t.i / t.k) ((n : Int) / t.i % t.k)
def turnT (t : Ten) : Ten := ⟨t.p, t.j, t.k, t.i, gen (t.j * t.k * t.i).toNat (turnG t)⟩
/-- What has been written ahead of i, j, k. -/
def Done (t : Ten) (l : List Int) (i j k : Int) : Prop := l.length = (t.j * t.k * t.i).toNat ∧ ∀ n : Nat, n < (t.j * t.k * t.i).toNat →
  ((n : Int) % t.i < i ∨ ((n : Int) % t.i = i ∧ ((n : Int) / t.i / t.k < j ∨ ((n : Int) / t.i / t.k = j ∧ (n : Int) / t.i % t.k < k)))) → l.getD n 0 = turnG t n

theorem Done.step {t : Ten} {l : List Int} {i j k : Int} (d : Done t l i j k) (f : TF t) (hi : 0 ≤ i ∧ i < t.i) (hj : 0 ≤ j ∧ j < t.j) (hk : 0 ≤ k ∧ k < t.k) :
    Done t (l.set ((j * t.k + k) * t.i + i).toNat (tat t i j k)) i j (k + 1) := by
  have b1 := lin_in hj hk
  have b2 := lin_in b1.2 hi
  obtain ⟨d1, d2⟩ := d
  refine ⟨by rw [List.length_set]; exact d1, fun n hn hlex => ?_⟩
  rw [set_getD (by omega)]
  have e1 := dec (a := j * t.k + k) hi
  have e2 := dec (a := j) hk
  split
  · rename_i he
    have he' : (n : Int) = (j * t.k + k) * t.i + i := by omega
    unfold turnG
    rw [he', e1.1, e1.2, e2.1, e2.2]
  · rename_i hne
    refine d2 n hn ?_
    refine Decidable.byContradiction fun hnl => hne ?_
    have q1 : (n : Int) % t.i = i := by omega
    have q2 : (n : Int) / t.i / t.k = j := by omega
    have q3 : (n : Int) / t.i % t.k = k := by omega
    have q4 := enc (n : Int) t.i
    have q5 := enc ((n : Int) / t.i) t.k
    rw [q2, q3] at q5
    rw [← q5, q1] at q4
    omega
theorem Done.next_j {t : Ten} {l : List Int} {i j : Int} (d : Done t l i j t.k) (f : TF t) : Done t l i (j + 1) 0 := by
  have fk := f.k
  refine ⟨d.1, fun n hn hlex => d.2 n hn ?_⟩
  have h1 := Int.emod_nonneg ((n : Int) / t.i) (show t.k ≠ 0 by omega)
  have h2 := Int.emod_lt_of_pos ((n : Int) / t.i) (show 0 < t.k by omega)
  omega
theorem Done.next_i {t : Ten} {l : List Int} {i : Int} (d : Done t l i t.j 0) (f : TF t) : Done t l (i + 1) 0 0 := by
  have fi := f.i
  have fk := f.k
  have fj := f.j
  refine ⟨d.1, fun n hn hlex => d.2 n hn ?_⟩
  have h0 : (n : Int) < t.j * t.k * t.i := by omega
  have h1 : (n : Int) / t.i < t.j * t.k := Int.ediv_lt_of_lt_mul (by omega) h0
  have h2 : (n : Int) / t.i / t.k < t.j := Int.ediv_lt_of_lt_mul (by omega) h1
  have h3 : 0 ≤ (n : Int) / t.i := Int.ediv_nonneg (by omega) (by omega)
  have h4 : 0 ≤ (n : Int) / t.i / t.k := Int.ediv_nonneg h3 (by omega)
  have h5 := Int.emod_nonneg ((n : Int) / t.i) (show t.k ≠ 0 by omega)
  omega
theorem Done.all {t : Ten} {l : List Int} (d : Done t l t.i 0 0) (f : TF t) : l = (turnT t).ns := by
  have fi := f.i
  refine gen_ext d.1 fun n hn => d.2 n hn (.inl ?_)
  exact Int.emod_lt_of_pos _ (by omega)
theorem Done.zero {t : Ten} (f : TF t) : Done t (List.replicate (t.j * t.k * t.i).toNat 0) 0 0 0 := by
  have fi := f.i
  have fk := f.k
  refine ⟨List.length_replicate, fun n hn hlex => ?_⟩
  have h1 := Int.emod_nonneg (n : Int) (show t.i ≠ 0 by omega)
  have h3 : 0 ≤ (n : Int) / t.i := Int.ediv_nonneg (by omega) (by omega)
  have h4 : 0 ≤ (n : Int) / t.i / t.k := Int.ediv_nonneg h3 (by omega)
  have h5 := Int.emod_nonneg ((n : Int) / t.i) (show t.k ≠ 0 by omega)
  omega

/-- The state of the reference's turn. -/
structure TurnS (t : Ten) (v : Value) (h0 h : AH) (b2 b3 nb : Nat) (l : List Int) : Prop where
  hp : h0 <+: h
  lo : h0.length < b2 ∧ b2 < nb ∧ nb < b3
  g1 : OwnB h h0.length [I64 t.p, I64 t.i, I64 t.j, I64 t.k, v] true
  g2 : ∃ c, c.length = 5 ∧ OwnB h b2 c true
  g3 : OwnB h b3 [I64 t.p, I64 t.j, I64 t.k, I64 t.i, .slice (some ⟨nb, 0, none⟩) (t.j * t.k * t.i).toNat 1] true
  gn : OwnB h nb (l.map (Value.int .i64)) true

theorem s_l05Turn {v : Value} {t : Ten} {h : AH} {Q : Value → AH → Prop} (hv : Ints h v t.ns) (f : TF t)
    (hQ : ∀ v' h', h <+: h' → OwnI h h' v' (turnT t).ns → Q (tenV (turnT t) v') h') : WF S 71 [tenV t v] h Q := by
  refine WF_fn (fn := c71) rfl rfl ?_
  unfold c71
  have fi := f.i
  have fj := f.j
  have fk := f.k
  have jk := mul_in1 (A := 9) (B := 9) fj fk
  have jki := mul_in1 (A := 81) (B := 9) jk fi
  try simp (maxSteps := 3000000) (disch := first | omega | (simp only [len_new, len_put, len_kill]; omega)) only [↓xpre, xpost, ↓reduceIte, Nat.reduceEqDiff, Nat.reduceAdd, Nat.reduceSub, Nat.reduceLeDiff, Nat.zero_add, Nat.sub_zero, tenV, hv.one]
  refine s_l05Empty (by omega) (by omega) fun v' H3 hp o => ?_
  try simp (maxSteps := 3000000) (disch := first | omega | (simp only [len_new, len_put, len_kill]; omega)) only [↓xpre, xpost, ↓reduceIte, Nat.reduceEqDiff, Nat.reduceAdd, Nat.reduceSub, Nat.reduceLeDiff, Nat.zero_add, Nat.sub_zero, tenV, o.ints.one]
  obtain ⟨nb, e, q1, rfl, q2⟩ := o
  generalize hH1 : AH.new h _ = H1 at hp q1 ⊢
  obtain ⟨hb1, p1, n1⟩ := new_facts hH1
  generalize hH2 : AH.new H1 _ = H2 at hp q1
  obtain ⟨hb2, p2, n2⟩ := new_facts hH2
  generalize hH4 : AH.new H3 _ = H4
  obtain ⟨hb4, p4, n4⟩ := new_facts hH4
  have q3 := get_lt q2
  rw [List.length_replicate] at hb4
  refine WC_loop_inv (fun n f h1 => ∃ (i : Int) (l : List Int), n = (t.i - i).toNat ∧ (0 ≤ i ∧ i ≤ t.i) ∧ f 1 = .pointer (some ⟨h.length, 0, none⟩) ∧ f 2 = .pointer (some ⟨H1.length, 0, none⟩) ∧ f 3 = .pointer (some ⟨H3.length, 0, none⟩) ∧
    f 4 = I64 i ∧ TurnS t v h h1 H1.length H3.length nb l ∧ Done t l i 0 0) ?_ (t.i - 0).toNat _ _ ⟨0, _, rfl, by omega, rfl, rfl, rfl, rfl, ⟨((p1.trans p2).trans hp).trans p4, by omega, ⟨_, pre_get p4 (pre_get hp (pre_get p2 hb1))⟩, ⟨_, rfl, _, pre_get p4 (pre_get hp hb2)⟩, ⟨_, hb4⟩, ⟨_, pre_get p4 q2⟩⟩, Done.zero f⟩
  rintro n fr h1 ⟨i, l, rfl, hi, f1, f2, f3, f4, st, dn⟩
  obtain ⟨t1, g1⟩ := st.g1
  try simp (maxSteps := 3000000) (disch := first | omega | (simp only [len_new, len_put, len_kill]; omega)) only [↓xpre, xpost, ↓reduceIte, Nat.reduceEqDiff, Nat.reduceAdd, Nat.reduceSub, Nat.reduceLeDiff, Nat.zero_add, Nat.sub_zero, f1, f2, f3, f4, rd1_of g1, IfW_dec]
  refine ⟨fun hlt => ?_, fun hge => ?_⟩
  · clear g1
    refine WC_loop_inv (fun n f h1 => ∃ (j : Int) (l : List Int), n = (t.j - j).toNat ∧ (0 ≤ j ∧ j ≤ t.j) ∧ f 1 = .pointer (some ⟨h.length, 0, none⟩) ∧ f 2 = .pointer (some ⟨H1.length, 0, none⟩) ∧ f 3 = .pointer (some ⟨H3.length, 0, none⟩) ∧
      f 4 = I64 i ∧ f 5 = I64 j ∧ TurnS t v h h1 H1.length H3.length nb l ∧ Done t l i j 0) ?_ (t.j - 0).toNat _ _ ⟨0, l, rfl, by omega, f1, f2, f3, f4, rfl, st, dn⟩
    clear f1 f2 f3 f4 st dn
    rintro n fr h1 ⟨j, l, rfl, hj, f1, f2, f3, f4, f5, st, dn⟩
    obtain ⟨t1, g1⟩ := st.g1
    try simp (maxSteps := 3000000) (disch := first | omega | (simp only [len_new, len_put, len_kill]; omega)) only [↓xpre, xpost, ↓reduceIte, Nat.reduceEqDiff, Nat.reduceAdd, Nat.reduceSub, Nat.reduceLeDiff, Nat.zero_add, Nat.sub_zero, f1, f2, f3, f4, f5, rd1_of g1, IfW_dec]
    refine ⟨fun hltj => ?_, fun hge => ?_⟩
    · clear g1
      refine WC_loop_inv (fun n f h1 => ∃ (k : Int) (l : List Int), n = (t.k - k).toNat ∧ (0 ≤ k ∧ k ≤ t.k) ∧ f 1 = .pointer (some ⟨h.length, 0, none⟩) ∧ f 2 = .pointer (some ⟨H1.length, 0, none⟩) ∧ f 3 = .pointer (some ⟨H3.length, 0, none⟩) ∧
        f 4 = I64 i ∧ f 5 = I64 j ∧ f 6 = I64 k ∧ TurnS t v h h1 H1.length H3.length nb l ∧ Done t l i j k) ?_ (t.k - 0).toNat _ _ ⟨0, l, rfl, by omega, f1, f2, f3, f4, f5, rfl, st, dn⟩
      clear f1 f2 f3 f4 f5 st dn
      rintro n fr h1 ⟨k, l, rfl, hk, f1, f2, f3, f4, f5, f6, st, dn⟩
      obtain ⟨t1, g1⟩ := st.g1
      obtain ⟨t3, g3⟩ := st.g3
      try simp (maxSteps := 3000000) (disch := first | omega | (simp only [len_new, len_put, len_kill]; omega)) only [↓xpre, xpost, ↓reduceIte, Nat.reduceEqDiff, Nat.reduceAdd, Nat.reduceSub, Nat.reduceLeDiff, Nat.zero_add, Nat.sub_zero, f1, f2, f3, f4, f5, f6, rd1_of g1, IfW_dec]
      refine ⟨fun hltk => ?_, fun hge => ?_⟩
      · have b1 := lin_in (i := j) (I := t.j) (j := k) (J := t.k) (by omega) (by omega)
        have b2 := lin_in b1.2 (j := i) (J := t.i) (by omega)
        try simp (maxSteps := 3000000) (disch := first | omega | (simp only [len_new, len_put, len_kill]; omega)) only [↓xpre, xpost, ↓reduceIte, Nat.reduceEqDiff, Nat.reduceAdd, Nat.reduceSub, Nat.reduceLeDiff, Nat.zero_add, Nat.sub_zero, f1, f2, f3, f4, f5, f6, rd1_of g1, rd1_of g3, rdn_of g1, wrap64_in]
        refine s_l05At (t := t) (hv.pre st.hp) f (by omega) (by omega) (by omega) fun h2 p5 => ?_
        obtain ⟨tn, gn⟩ := st.gn
        have gn := pre_get p5 gn
        have hll := dn.1
        try simp (maxSteps := 3000000) (disch := first | omega | (simp only [len_new, len_put, len_kill]; omega)) only [↓xpre, xpost, ↓reduceIte, Nat.reduceEqDiff, Nat.reduceAdd, Nat.reduceSub, Nat.reduceLeDiff, Nat.zero_add, Nat.sub_zero, f1, f2, f3, f4, f5, f6, ixsV_some, wr_of gn, wrap64_in]
        refine ⟨p5, ⟨by omega, by omega⟩, by simp [hll]; omega, ?_⟩
        refine InvQ_go (t.k - (k + 1)).toNat (by omega) ⟨k + 1, l.set ((j * t.k + k) * t.i + i).toNat (tat t i j k), rfl, by omega, f1, f2, f3, f4, f5, rfl, ?_, dn.step f (by omega) (by omega) (by omega)⟩
        have lo := st.lo
        obtain ⟨c2, c3, c4⟩ := st.g2
        refine ⟨pre_put (st.hp.trans p5) (by omega), lo, (st.g1.pre p5).put_ne (by omega), ⟨c2, c3, (c4.pre p5).put_ne (by omega)⟩, (st.g3.pre p5).put_ne (by omega), ⟨tn, ?_⟩⟩
        rw [get_put_same (get_lt gn)]
        simp only [Nat.zero_add, Nat.mul_one]
        rw [splice_map (by omega)]
      · try simp (maxSteps := 3000000) (disch := first | omega | (simp only [len_new, len_put, len_kill]; omega)) only [↓xpre, xpost, ↓reduceIte, Nat.reduceEqDiff, Nat.reduceAdd, Nat.reduceSub, Nat.reduceLeDiff, Nat.zero_add, Nat.sub_zero, f1, f2, f3, f4, f5, f6, wrap64_in]
        have : k = t.k := by omega
        subst this
        exact InvQ_go (t.j - (j + 1)).toNat (by omega) ⟨j + 1, l, rfl, by omega, f1, f2, f3, f4, rfl, st, dn.next_j f⟩
    · try simp (maxSteps := 3000000) (disch := first | omega | (simp only [len_new, len_put, len_kill]; omega)) only [↓xpre, xpost, ↓reduceIte, Nat.reduceEqDiff, Nat.reduceAdd, Nat.reduceSub, Nat.reduceLeDiff, Nat.zero_add, Nat.sub_zero, f1, f2, f3, f4, f5, wrap64_in]
      have : j = t.j := by omega
      subst this
      exact InvQ_go (t.i - (i + 1)).toNat (by omega) ⟨i + 1, l, rfl, by omega, f1, f2, f3, rfl, st, dn.next_i f⟩
  · have : i = t.i := by omega
    subst this
    have hall := dn.all f
    obtain ⟨t3, g3⟩ := st.g3
    obtain ⟨c, c3, t2, g2⟩ := st.g2
    have lo := st.lo
    obtain ⟨c0, c1, c2, c4, c5, rfl⟩ : ∃ a b d e g, c = [a, b, d, e, g] := by
      match c, c3 with
      | [a, b, d, e, g], _ => exact ⟨_, _, _, _, _, rfl⟩
    have l2 := get_lt g2
    try simp (maxSteps := 3000000) (disch := first | omega | (simp only [len_new, len_put, len_kill]; omega)) only [↓xpre, xpost, ↓reduceIte, Nat.reduceEqDiff, Nat.reduceAdd, Nat.reduceSub, Nat.reduceLeDiff, Nat.zero_add, Nat.sub_zero, f1, f2, f3, f4, rdn_of g3, wr_of g2]
    refine hQ _ _ (pre_put (n := H1.length) st.hp (by omega)) (OwnI.of (n := nb) (by omega) ?_ ?_)
    · simp only [turnT, gen_len]
    · rw [← hall]
      exact st.gn.put_ne (by omega)

end Go.Proofs.Ytnjhhgfpclngcaa.X
