/- Two tensors; their sum. -/
import Derived.Test.YtnjhhgfpclngcaaXF9
set_option linter.unusedVariables false
set_option linter.unusedSimpArgs false
set_option maxRecDepth 20000
set_option maxHeartbeats 4000000
namespace Go.Proofs.Ytnjhhgfpclngcaa.X
open Go Go.RowKit

theorem i_areTensors {v u : Value} {t s : Ten} {h : AH} {n : Nat} {e : TypeId} {ro full : Bool} {Q : Value → AH → Prop} (hv : Ints h v t.ns) (hu : Ints h u s.ns) (hl : (t.ns.length : Int) ≤ 1048576) (hl' : (s.ns.length : Int) ≤ 1048576)
    (hb : h.get n = some ⟨[I64 t.p, I64 t.i, I64 t.j, I64 t.k, v, I64 s.p, I64 s.i, I64 s.j, I64 s.k, u], e, ro, full⟩)
    (hQ : ∀ h', h <+: h' → Q (.bool (isT t && isT s)) h') : WF S 74 [.slice (some ⟨n, 0, none⟩) 2 5] h Q := by
  refine WF_fn (fn := c74) rfl rfl ?_
  unfold c74
  try simp (maxSteps := 3000000) (disch := first | omega | (simp only [len_new, len_put, len_kill]; omega)) only [↓xpre, xpost, ↓reduceIte, Nat.reduceEqDiff, Nat.reduceAdd, Nat.reduceSub, Nat.reduceLeDiff, Nat.zero_add, Nat.sub_zero]
  refine WC_loop ?_
  try simp (maxSteps := 3000000) (disch := first | omega | (simp only [len_new, len_put, len_kill]; omega)) only [↓xpre, xpost, ↓reduceIte, Nat.reduceEqDiff, Nat.reduceAdd, Nat.reduceSub, Nat.reduceLeDiff, Nat.zero_add, Nat.sub_zero, IfW_dec]
  refine ⟨fun _ => ?_, fun h => absurd h (by decide)⟩
  try simp (maxSteps := 3000000) (disch := first | omega | (simp only [len_new, len_put, len_kill]; omega)) only [↓xpre, xpost, ↓reduceIte, Nat.reduceEqDiff, Nat.reduceAdd, Nat.reduceSub, Nat.reduceLeDiff, Nat.zero_add, Nat.sub_zero, ixsV_some]
  refine ⟨by decide, ?_⟩
  try simp (maxSteps := 3000000) (disch := first | omega | (simp only [len_new, len_put, len_kill]; omega)) only [↓xpre, xpost, ↓reduceIte, Nat.reduceEqDiff, Nat.reduceAdd, Nat.reduceSub, Nat.reduceLeDiff, Nat.zero_add, Nat.sub_zero, rdn_of hb, Int.toNat_zero, Nat.zero_mul, hv.one]
  generalize hH1 : AH.new h _ = H1
  obtain ⟨hb1, p1, n1⟩ := new_facts hH1
  refine i_IsTensor (t := t) (hv.pre p1) hl fun H2 p2 => ?_
  cases h1 : isT t with
  | false =>
    try simp (maxSteps := 3000000) (disch := first | omega | (simp only [len_new, len_put, len_kill]; omega)) only [↓xpre, xpost, ↓reduceIte, Nat.reduceEqDiff, Nat.reduceAdd, Nat.reduceSub, Nat.reduceLeDiff, Nat.zero_add, Nat.sub_zero]
    have := hQ _ (p1.trans p2)
    rw [h1] at this
    exact this
  | true =>
    try simp (maxSteps := 3000000) (disch := first | omega | (simp only [len_new, len_put, len_kill]; omega)) only [↓xpre, xpost, ↓reduceIte, Nat.reduceEqDiff, Nat.reduceAdd, Nat.reduceSub, Nat.reduceLeDiff, Nat.zero_add, Nat.sub_zero, wrap64_in]
    rw [LoopQ_n]
    refine WC_loop ?_
    try simp (maxSteps := 3000000) (disch := first | omega | (simp only [len_new, len_put, len_kill]; omega)) only [↓xpre, xpost, ↓reduceIte, Nat.reduceEqDiff, Nat.reduceAdd, Nat.reduceSub, Nat.reduceLeDiff, Nat.zero_add, Nat.sub_zero, IfW_dec]
    refine ⟨fun _ => ?_, fun h => absurd h (by decide)⟩
    try simp (maxSteps := 3000000) (disch := first | omega | (simp only [len_new, len_put, len_kill]; omega)) only [↓xpre, xpost, ↓reduceIte, Nat.reduceEqDiff, Nat.reduceAdd, Nat.reduceSub, Nat.reduceLeDiff, Nat.zero_add, Nat.sub_zero, ixsV_some]
    refine ⟨by decide, ?_⟩
    have hb := pre_get (p1.trans p2) hb
    have e1 : ((0 + 1 : Int).toNat * 5) = 5 := by decide
    try simp (maxSteps := 3000000) (disch := first | omega | (simp only [len_new, len_put, len_kill]; omega)) only [↓xpre, xpost, ↓reduceIte, Nat.reduceEqDiff, Nat.reduceAdd, Nat.reduceSub, Nat.reduceLeDiff, Nat.zero_add, Nat.sub_zero, e1, rdn_of hb, hu.one]
    generalize hH3 : AH.new H2 _ = H3
    obtain ⟨hb3, p3, n3⟩ := new_facts hH3
    refine i_IsTensor (t := s) (hu.pre ((p1.trans p2).trans p3)) hl' fun H4 p4 => ?_
    cases h2 : isT s with
    | false =>
      try simp (maxSteps := 3000000) (disch := first | omega | (simp only [len_new, len_put, len_kill]; omega)) only [↓xpre, xpost, ↓reduceIte, Nat.reduceEqDiff, Nat.reduceAdd, Nat.reduceSub, Nat.reduceLeDiff, Nat.zero_add, Nat.sub_zero]
      have := hQ _ (((p1.trans p2).trans p3).trans p4)
      rw [h1, h2] at this
      exact this
    | true =>
      try simp (maxSteps := 3000000) (disch := first | omega | (simp only [len_new, len_put, len_kill]; omega)) only [↓xpre, xpost, ↓reduceIte, Nat.reduceEqDiff, Nat.reduceAdd, Nat.reduceSub, Nat.reduceLeDiff, Nat.zero_add, Nat.sub_zero, wrap64_in]
      rw [LoopQ_n]
      refine WC_loop ?_
      try simp (maxSteps := 3000000) (disch := first | omega | (simp only [len_new, len_put, len_kill]; omega)) only [↓xpre, xpost, ↓reduceIte, Nat.reduceEqDiff, Nat.reduceAdd, Nat.reduceSub, Nat.reduceLeDiff, Nat.zero_add, Nat.sub_zero, IfW_dec]
      refine ⟨fun h => absurd h (by decide), fun _ => ?_⟩
      try simp (maxSteps := 3000000) (disch := first | omega | (simp only [len_new, len_put, len_kill]; omega)) only [↓xpre, xpost, ↓reduceIte, Nat.reduceEqDiff, Nat.reduceAdd, Nat.reduceSub, Nat.reduceLeDiff, Nat.zero_add, Nat.sub_zero]
      have := hQ _ (((p1.trans p2).trans p3).trans p4)
      rw [h1, h2] at this
      exact this

theorem i_sides {v : Value} {t : Ten} {h : AH} {Q : Value → AH → Prop} (hv : isOne v = true) (hQ : ∀ h', h <+: h' → Q (.agg #[I64 t.i, I64 t.j, I64 t.k]) h') : WF S 75 [tenV t v] h Q := by
  refine WF_fn (fn := c75) rfl rfl ?_
  unfold c75
  try simp (maxSteps := 3000000) (disch := first | omega | (simp only [len_new, len_put, len_kill]; omega)) only [↓xpre, xpost, ↓reduceIte, Nat.reduceEqDiff, Nat.reduceAdd, Nat.reduceSub, Nat.reduceLeDiff, Nat.zero_add, Nat.sub_zero, tenV, hv, fillL]
  exact hQ _ (pre_new (pre_new (List.prefix_refl _)))

def addG (t u : Ten) (c : Int) (n : Nat) : Int := (nth t.ns n + c * nth u.ns n).tmod t.p
def addT (t u : Ten) (c : Int) : Ten := ⟨t.p, t.i, t.j, t.k, gen (t.i * t.j * t.k).toNat (addG t u c)⟩
def addR (t u : Ten) (c : Int) : Ten × Int :=
  if isT t = true ∧ isT u = true then (if t.p = u.p ∧ t.i = u.i ∧ t.j = u.j ∧ t.k = u.k ∧ 0 ≤ c ∧ c < t.p then (addT t u c, 0) else (noT, 2)) else (noT, 1)
theorem tenT_len {t : Ten} {g : Nat → Int} (f : TF t) : (((gen (t.i * t.j * t.k).toNat g).length : Nat) : Int) ≤ 1048576 := by
  have := f.ijk
  rw [gen_len]
  omega
theorem addR_len (t u : Ten) (c : Int) : (((addR t u c).1.ns.length : Nat) : Int) ≤ 1048576 := by
  unfold addR
  split
  · rename_i h
    split
    · exact tenT_len (isT_facts h.1)
    · simp [noT]
  · simp [noT]
theorem add_in {t u : Ten} {c : Int} (f : TF t) (fu : TF u) (e : t.p = u.p) (hc : 0 ≤ c ∧ c < t.p) {n m : Int} (hn : 0 ≤ n ∧ n < t.ns.length) (hm : 0 ≤ m ∧ m < u.ns.length) :
    (0 ≤ nth t.ns n ∧ nth t.ns n ≤ 5) ∧ (0 ≤ c * nth u.ns m ∧ c * nth u.ns m ≤ 25) := by
  have h1 := f.num n hn.1 hn.2
  have h2 := fu.num m hm.1 hm.2
  have h3 := f.p
  have h4 := mul_in (a := c) (b := nth u.ns m) (A := 5) (B := 5) (by omega) (by omega)
  omega

/-- The state of the reference's sum. -/
structure AddS (t u : Ten) (v w : Value) (h0 h : AH) (b8 nb : Nat) (l : List Int) : Prop where
  hp : h0 <+: h
  lo : h0.length + 3 ≤ nb ∧ nb < b8
  g1 : OwnB h h0.length [I64 t.p, I64 t.i, I64 t.j, I64 t.k, v] true
  g2 : OwnB h (h0.length + 1) [I64 u.p, I64 u.i, I64 u.j, I64 u.k, w] true
  g3 : ∃ c, c.length = 5 ∧ OwnB h (h0.length + 2) c true
  g8 : OwnB h b8 [I64 t.p, I64 t.i, I64 t.j, I64 t.k, .slice (some ⟨nb, 0, none⟩) (t.i * t.j * t.k).toNat 1] true
  gn : OwnB h nb (l.map (Value.int .i64)) true

theorem s_AddTensors {v w : Value} {t u : Ten} {c : Int} {h : AH} {Q : Value → AH → Prop} (hv : Ints h v t.ns) (hl : (t.ns.length : Int) ≤ 1048576) (hw : Ints h w u.ns) (hl' : (u.ns.length : Int) ≤ 1048576)
    (hQ : ∀ v' h', h <+: h' → OwnR h h' v' (addR t u c).1.ns → Q (.tuple #[tenV (addR t u c).1 v', I64 (addR t u c).2]) h') : WF S 33 [tenV t v, tenV u w, I64 c] h Q := by
  refine WF_fn (fn := c33) rfl rfl ?_
  unfold c33
  try simp (maxSteps := 3000000) (disch := first | omega | (simp only [len_new, len_put, len_kill]; omega)) only [↓xpre, xpost, ↓reduceIte, Nat.reduceEqDiff, Nat.reduceAdd, Nat.reduceSub, Nat.reduceLeDiff, Nat.zero_add, Nat.sub_zero, tenV, hv.one, hw.one]
  generalize hH1 : AH.new h _ = H1
  obtain ⟨hb1, p1, n1⟩ := new_facts hH1
  generalize hH2 : AH.new H1 _ = H2
  obtain ⟨hb2, p2, n2⟩ := new_facts hH2
  generalize hH3 : AH.new H2 _ = H3
  obtain ⟨hb3, p3, n3⟩ := new_facts hH3
  have hb1 := pre_get (p2.trans p3) hb1
  have hb2 := pre_get p3 hb2
  have ph := (p1.trans p2).trans p3
  refine s_l05Is (hv.pre ph) hl fun H4 p4 => ?_
  have hb1 := pre_get p4 hb1
  have hb2 := pre_get p4 hb2
  have hb3 := pre_get p4 hb3
  have ph := ph.trans p4
  have l4 := get_lt hb3
  have bad1 : ∀ H5, H4 <+: H5 → ¬ (isT t = true ∧ isT u = true) → ∀ b, Q (.tuple #[.agg #[I64 0, I64 0, I64 0, I64 0, .slice none 0 0], I64 1]) (AH.put H5 H2.length b) := fun H5 p5 hn b => by
    rw [show addR t u c = (noT, 1) by unfold addR; rw [if_neg hn]] at hQ
    exact hQ (.slice none 0 0) _ (pre_put (ph.trans p5) (by omega)) (.inl ⟨rfl, rfl⟩)
  cases ht : isT t with
  | false =>
    try simp (maxSteps := 3000000) (disch := first | omega | (simp only [len_new, len_put, len_kill]; omega)) only [↓xpre, xpost, ↓reduceIte, Nat.reduceEqDiff, Nat.reduceAdd, Nat.reduceSub, Nat.reduceLeDiff, Nat.zero_add, Nat.sub_zero, fillL, wr_of hb3]
    exact bad1 _ (List.prefix_refl _) (by simp [ht]) _
  | true =>
    try simp (maxSteps := 3000000) (disch := first | omega | (simp only [len_new, len_put, len_kill]; omega)) only [↓xpre, xpost, ↓reduceIte, Nat.reduceEqDiff, Nat.reduceAdd, Nat.reduceSub, Nat.reduceLeDiff, Nat.zero_add, Nat.sub_zero, rdn_of hb2]
    refine s_l05Is (hw.pre ph) hl' fun H5 p5 => ?_
    have hb1 := pre_get p5 hb1
    have hb2 := pre_get p5 hb2
    have hb3 := pre_get p5 hb3
    have ph := ph.trans p5
    have l5 := get_lt hb3
    cases hu : isT u with
    | false =>
      try simp (maxSteps := 3000000) (disch := first | omega | (simp only [len_new, len_put, len_kill]; omega)) only [↓xpre, xpost, ↓reduceIte, Nat.reduceEqDiff, Nat.reduceAdd, Nat.reduceSub, Nat.reduceLeDiff, Nat.zero_add, Nat.sub_zero, fillL, wr_of hb3]
      exact bad1 _ p5 (by simp [hu]) _
    | true =>
      have f := isT_facts ht
      have fu := isT_facts hu
      have fp := f.p
      have bad2 : ¬ (t.p = u.p ∧ t.i = u.i ∧ t.j = u.j ∧ t.k = u.k ∧ 0 ≤ c ∧ c < t.p) → ∀ b, Q (.tuple #[.agg #[I64 0, I64 0, I64 0, I64 0, .slice none 0 0], I64 2]) (AH.put H5 H2.length b) := fun hn b => by
        rw [show addR t u c = (noT, 2) by unfold addR; rw [if_pos ⟨ht, hu⟩, if_neg hn]] at hQ
        exact hQ (.slice none 0 0) _ (pre_put ph (by omega)) (.inl ⟨rfl, rfl⟩)
      try simp (maxSteps := 3000000) (disch := first | omega | (simp only [len_new, len_put, len_kill]; omega)) only [↓xpre, xpost, ↓reduceIte, Nat.reduceEqDiff, Nat.reduceAdd, Nat.reduceSub, Nat.reduceLeDiff, Nat.zero_add, Nat.sub_zero, rd1_of hb1, rd1_of hb2]
      by_cases e1 : t.p = u.p
      case neg =>
        try simp (maxSteps := 3000000) (disch := first | omega | (simp only [len_new, len_put, len_kill]; omega)) only [↓xpre, xpost, ↓reduceIte, Nat.reduceEqDiff, Nat.reduceAdd, Nat.reduceSub, Nat.reduceLeDiff, Nat.zero_add, Nat.sub_zero, e1, ne_eq, not_false_eq_true, fillL, wr_of hb3]
        exact bad2 (fun h => e1 h.1) _
      try simp (maxSteps := 3000000) (disch := first | omega | (simp only [len_new, len_put, len_kill]; omega)) only [↓xpre, xpost, ↓reduceIte, Nat.reduceEqDiff, Nat.reduceAdd, Nat.reduceSub, Nat.reduceLeDiff, Nat.zero_add, Nat.sub_zero, e1, ne_eq, not_true_eq_false, rd1_of hb1, rd1_of hb2]
      by_cases e2 : t.i = u.i
      case neg =>
        try simp (maxSteps := 3000000) (disch := first | omega | (simp only [len_new, len_put, len_kill]; omega)) only [↓xpre, xpost, ↓reduceIte, Nat.reduceEqDiff, Nat.reduceAdd, Nat.reduceSub, Nat.reduceLeDiff, Nat.zero_add, Nat.sub_zero, e2, ne_eq, not_false_eq_true, fillL, wr_of hb3]
        exact bad2 (fun h => e2 h.2.1) _
      try simp (maxSteps := 3000000) (disch := first | omega | (simp only [len_new, len_put, len_kill]; omega)) only [↓xpre, xpost, ↓reduceIte, Nat.reduceEqDiff, Nat.reduceAdd, Nat.reduceSub, Nat.reduceLeDiff, Nat.zero_add, Nat.sub_zero, e2, ne_eq, not_true_eq_false, rd1_of hb1, rd1_of hb2]
      by_cases e3 : t.j = u.j
      case neg =>
        try simp (maxSteps := 3000000) (disch := first | omega | (simp only [len_new, len_put, len_kill]; omega)) only [↓xpre, xpost, ↓reduceIte, Nat.reduceEqDiff, Nat.reduceAdd, Nat.reduceSub, Nat.reduceLeDiff, Nat.zero_add, Nat.sub_zero, e3, ne_eq, not_false_eq_true, fillL, wr_of hb3]
        exact bad2 (fun h => e3 h.2.2.1) _
      try simp (maxSteps := 3000000) (disch := first | omega | (simp only [len_new, len_put, len_kill]; omega)) only [↓xpre, xpost, ↓reduceIte, Nat.reduceEqDiff, Nat.reduceAdd, Nat.reduceSub, Nat.reduceLeDiff, Nat.zero_add, Nat.sub_zero, e3, ne_eq, not_true_eq_false, rd1_of hb1, rd1_of hb2]
      by_cases e4 : t.k = u.k
      case neg =>
        try simp (maxSteps := 3000000) (disch := first | omega | (simp only [len_new, len_put, len_kill]; omega)) only [↓xpre, xpost, ↓reduceIte, Nat.reduceEqDiff, Nat.reduceAdd, Nat.reduceSub, Nat.reduceLeDiff, Nat.zero_add, Nat.sub_zero, e4, ne_eq, not_false_eq_true, fillL, wr_of hb3]
        exact bad2 (fun h => e4 h.2.2.2.1) _
      try simp (maxSteps := 3000000) (disch := first | omega | (simp only [len_new, len_put, len_kill]; omega)) only [↓xpre, xpost, ↓reduceIte, Nat.reduceEqDiff, Nat.reduceAdd, Nat.reduceSub, Nat.reduceLeDiff, Nat.zero_add, Nat.sub_zero, e4, ne_eq, not_true_eq_false, rd1_of hb1, rd1_of hb2, wrap64_in]
      refine s_l01In ?_
      by_cases e5 : 0 ≤ c ∧ c ≤ t.p - 1
      case neg =>
        try simp (maxSteps := 3000000) (disch := first | omega | (simp only [len_new, len_put, len_kill]; omega)) only [↓xpre, xpost, ↓reduceIte, Nat.reduceEqDiff, Nat.reduceAdd, Nat.reduceSub, Nat.reduceLeDiff, Nat.zero_add, Nat.sub_zero, e5, fillL, wr_of hb3]
        exact bad2 (fun h => e5 (by omega)) _
      have hcc : 0 ≤ c ∧ c < t.p := by omega
      rw [show addR t u c = (addT t u c, 0) by unfold addR; rw [if_pos ⟨ht, hu⟩, if_pos ⟨e1, e2, e3, e4, hcc.1, hcc.2⟩]] at hQ
      have fij := f.ij
      have fijk := f.ijk
      have flen := f.len
      have fulen := fu.len
      rw [← e2, ← e3, ← e4] at fulen
      try simp (maxSteps := 3000000) (disch := first | omega | (simp only [len_new, len_put, len_kill]; omega)) only [↓xpre, xpost, ↓reduceIte, Nat.reduceEqDiff, Nat.reduceAdd, Nat.reduceSub, Nat.reduceLeDiff, Nat.zero_add, Nat.sub_zero, e5, rd1_of hb1]
      refine s_l05Empty (by omega) (by omega) fun v' H6 p6 o => ?_
      try simp (maxSteps := 3000000) (disch := first | omega | (simp only [len_new, len_put, len_kill]; omega)) only [↓xpre, xpost, ↓reduceIte, Nat.reduceEqDiff, Nat.reduceAdd, Nat.reduceSub, Nat.reduceLeDiff, Nat.zero_add, Nat.sub_zero, tenV, o.ints.one]
      obtain ⟨nb, e, q1, rfl, q2⟩ := o
      generalize hH7 : AH.new H6 _ = H7
      obtain ⟨hb7, p7, n7⟩ := new_facts hH7
      have q3 := get_lt q2
      rw [List.length_replicate] at hb7
      have l5' := pre_len p5
      have l6' := pre_len p6
      have up := p6.trans p7
      refine WC_loop_inv (fun n f h1 => ∃ (i : Nat) (l : List Int), n = t.ns.length - i ∧ i ≤ t.ns.length ∧ f 2 = I64 c ∧ f 3 = .pointer (some ⟨h.length, 0, none⟩) ∧ f 4 = .pointer (some ⟨H1.length, 0, none⟩) ∧
        f 6 = .pointer (some ⟨H2.length, 0, none⟩) ∧ f 8 = .pointer (some ⟨H6.length, 0, none⟩) ∧ f 9 = I64 i ∧ AddS t u v w h h1 H6.length nb l ∧ l.length = t.ns.length ∧ ∀ m, m < i → l.getD m 0 = addG t u c m) ?_ t.ns.length _ _
        ⟨0, List.replicate (t.i * t.j * t.k).toNat 0, rfl, Nat.zero_le _, rfl, rfl, rfl, rfl, rfl, rfl,
          ⟨ph.trans up, by omega, ⟨_, pre_get up hb1⟩, by rw [← n1]; exact ⟨_, pre_get up hb2⟩, ⟨_, rfl, by rw [show h.length + 2 = H2.length by omega]; exact ⟨_, pre_get up hb3⟩⟩, ⟨_, hb7⟩, ⟨_, pre_get p7 q2⟩⟩, by rw [List.length_replicate]; omega, fun m hm => by omega⟩
      rintro n fr h1 ⟨i, l, rfl, hi, f2, f3, f4, f6, f8, f9, st, hll, hdone⟩
      obtain ⟨t1, g1⟩ := st.g1
      obtain ⟨t2, g2⟩ := st.g2
      obtain ⟨t8, g8⟩ := st.g8
      obtain ⟨tn, gn⟩ := st.gn
      rw [← n1] at g2
      have hv1 := hv.pre st.hp
      have hw1 := hw.pre st.hp
      try simp (maxSteps := 3000000) (disch := first | omega | (simp only [len_new, len_put, len_kill]; omega)) only [↓xpre, xpost, ↓reduceIte, Nat.reduceEqDiff, Nat.reduceAdd, Nat.reduceSub, Nat.reduceLeDiff, Nat.zero_add, Nat.sub_zero, f2, f3, f4, f6, f8, f9, rd1_of g1, hv1.len, IfW_dec]
      refine ⟨fun hlt => ?_, fun hge => ?_⟩
      · have bd := add_in f fu e1 hcc (n := i) (m := i) (by omega) (by omega)
        try simp (maxSteps := 3000000) (disch := first | omega | (simp only [len_new, len_put, len_kill]; omega)) only [↓xpre, xpost, ↓reduceIte, Nat.reduceEqDiff, Nat.reduceAdd, Nat.reduceSub, Nat.reduceLeDiff, Nat.zero_add, Nat.sub_zero, f2, f3, f4, f6, f8, f9, rd1_of g1, rd1_of g2, rd1_of g8, hv1.ix, hv1.rd, hw1.ix, hw1.rd, wrap64_in, bin_rem, ixsV_some, wr_of gn]
        refine ⟨⟨by omega, by omega⟩, by simp [hll]; omega, ?_⟩
        refine InvQ_go (t.ns.length - (i + 1)) (by omega) ⟨i + 1, l.set i (addG t u c i), rfl, by omega, f2, f3, f4, f6, f8, rfl, ?_, by rw [List.length_set]; exact hll, fun m hm => ?_⟩
        · have lo := st.lo
          obtain ⟨c2, c3, c4⟩ := st.g3
          refine ⟨pre_put st.hp (by omega), lo, st.g1.put_ne (by omega), st.g2.put_ne (by omega), ⟨c2, c3, c4.put_ne (by omega)⟩, st.g8.put_ne (by omega), ⟨tn, ?_⟩⟩
          rw [get_put_same (get_lt gn)]
          simp only [Nat.zero_add, Nat.mul_one, Int.toNat_natCast]
          rw [splice_map (by omega)]
          rfl
        · rw [set_getD (by omega)]
          split
          · rename_i e
            rw [e]
          · exact hdone m (by omega)
      · have e : i = t.ns.length := by omega
        subst e
        have lo := st.lo
        obtain ⟨c, c3, t3, g3⟩ := st.g3
        obtain ⟨c0, c1, c2, c4, c5, rfl⟩ : ∃ a b d e g, c = [a, b, d, e, g] := by
          match c, c3 with
          | [a, b, d, e, g], _ => exact ⟨_, _, _, _, _, rfl⟩
        rw [show h.length + 2 = H2.length by omega] at g3
        have l2 := get_lt g3
        try simp (maxSteps := 3000000) (disch := first | omega | (simp only [len_new, len_put, len_kill]; omega)) only [↓xpre, xpost, ↓reduceIte, Nat.reduceEqDiff, Nat.reduceAdd, Nat.reduceSub, Nat.reduceLeDiff, Nat.zero_add, Nat.sub_zero, f2, f3, f4, f6, f8, f9, rdn_of g8, wr_of g3]
        refine hQ _ _ (pre_put st.hp (by omega)) (.inr ⟨nb, tn, true, by omega, ?_, ?_⟩)
        · simp only [addT, gen_len]
        · rw [get_put_ne (by omega), gn]
          have : l = (addT t u _).ns := gen_ext (by omega) (fun m hm => hdone m (by omega))
          rw [this]

theorem i_add1 {v w : Value} {t u : Ten} {i j k c : Int} {h : AH} {n m x : Nat} {e e' e2 : TypeId} {ro full ro' full' ro2 full2 : Bool} {Q : Value → AH → Prop} (hb : h.get n = some ⟨[I64 t.p, I64 t.i, I64 t.j, I64 t.k, v], e, ro, full⟩)
    (hb' : h.get m = some ⟨[I64 u.p, I64 u.i, I64 u.j, I64 u.k, w], e', ro', full'⟩) (hx : h.get x = some ⟨[I64 c], e2, ro2, full2⟩) (hv : Ints h v t.ns) (hw : Ints h w u.ns) (f : TF t) (fu : TF u)
    (e1 : t.p = u.p) (hc : 0 ≤ c ∧ c < t.p) (he : t.i = u.i ∧ t.j = u.j ∧ t.k = u.k)
    (hi : 0 ≤ i ∧ i < t.i) (hj : 0 ≤ j ∧ j < t.j) (hk : 0 ≤ k ∧ k < t.k) (hQ : ∀ h', h <+: h' → Q (I64 (tat t i j k + c * tat u i j k)) h') :
    WF S 77 [I64 i, I64 j, I64 k, .pointer (some ⟨n, 0, none⟩), .pointer (some ⟨x, 0, none⟩), .pointer (some ⟨m, 0, none⟩)] h Q := by
  refine WF_fn (fn := c77) rfl rfl ?_
  unfold c77
  try simp (maxSteps := 3000000) (disch := first | omega | (simp only [len_new, len_put, len_kill]; omega)) only [↓xpre, xpost, ↓reduceIte, Nat.reduceEqDiff, Nat.reduceAdd, Nat.reduceSub, Nat.reduceLeDiff, Nat.zero_add, Nat.sub_zero, rdn_of hb]
  refine i_at (t := t) hv f hi hj hk fun h1 p1 => ?_
  have hb' := pre_get p1 hb'
  have hx := pre_get p1 hx
  try simp (maxSteps := 3000000) (disch := first | omega | (simp only [len_new, len_put, len_kill]; omega)) only [↓xpre, xpost, ↓reduceIte, Nat.reduceEqDiff, Nat.reduceAdd, Nat.reduceSub, Nat.reduceLeDiff, Nat.zero_add, Nat.sub_zero, rdn_of hb', rd1_of hx]
  refine ⟨p1, ?_⟩
  refine i_at (t := u) (hw.pre p1) fu (by omega) (by omega) (by omega) fun h2 p2 => ?_
  have a1 := tat_in f hi hj hk
  have a2 := tat_in fu (i := i) (j := j) (k := k) (by omega) (by omega) (by omega)
  have a3 := f.p
  have a4 := mul_in (a := c) (b := tat u i j k) (A := 5) (B := 5) (by omega) (by omega)
  try simp (maxSteps := 3000000) (disch := first | omega | (simp only [len_new, len_put, len_kill]; omega)) only [↓xpre, xpost, ↓reduceIte, Nat.reduceEqDiff, Nat.reduceAdd, Nat.reduceSub, Nat.reduceLeDiff, Nat.zero_add, Nat.sub_zero, wrap64_in]
  exact ⟨p2, hQ _ (p1.trans p2)⟩

theorem tat_nth {t : Ten} {n : Int} : tat t (n / t.k / t.j) (n / t.k % t.j) (n % t.k) = nth t.ns n := by
  unfold tat
  rw [enc (n / t.k) t.j, enc n t.k]
theorem add_eq {t u : Ten} {c : Int} (he : t.i = u.i ∧ t.j = u.j ∧ t.k = u.k) : tenT t.p t.i t.j t.k (fun i j k => tat t i j k + c * tat u i j k) = addT t u c := by
  unfold tenT addT
  congr 1
  refine gen_congr fun n hn => ?_
  unfold tenG addG
  show (tat t _ _ _ + c * tat u _ _ _).tmod t.p = _
  rw [tat_nth]
  rw [he.2.1, he.2.2, tat_nth]

end Go.Proofs.Ytnjhhgfpclngcaa.X
