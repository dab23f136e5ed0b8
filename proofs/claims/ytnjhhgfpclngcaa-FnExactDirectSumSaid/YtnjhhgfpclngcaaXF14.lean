/- The direct sum, both sides. -/
import Derived.Test.YtnjhhgfpclngcaaXF13
set_option linter.unusedVariables false
set_option linter.unusedSimpArgs false
set_option maxRecDepth 20000
set_option maxHeartbeats 4000000
namespace Go.Proofs.Ytnjhhgfpclngcaa.X
open Go Go.RowKit

def dsN (t u : Ten) (a b c : Int) : Int := if a < t.i ∧ b < t.j ∧ c < t.k then tat t a b c else if t.i ≤ a ∧ t.j ≤ b ∧ t.k ≤ c then tat u (a - t.i) (b - t.j) (c - t.k) else 0
def dsT (t u : Ten) : Ten := tenT t.p (t.i + u.i) (t.j + u.j) (t.k + u.k) (dsN t u)
def dsR (t u : Ten) : Ten × Int :=
  if isT t = true ∧ isT u = true then (if t.p = u.p then (if t.i + u.i ≤ 9 ∧ t.j + u.j ≤ 9 ∧ t.k + u.k ≤ 9 then (dsT t u, 0) else (noT, 3)) else (noT, 2)) else (noT, 1)
theorem dsR_len (t u : Ten) : (((dsR t u).1.ns.length : Nat) : Int) ≤ 1048576 := by
  unfold dsR
  split
  · rename_i h
    have f := isT_facts h.1
    have fu := isT_facts h.2
    have q1 := f.i
    have q2 := f.j
    have q3 := f.k
    have r1 := fu.i
    have r2 := fu.j
    have r3 := fu.k
    split
    · split
      · rename_i h9
        exact gen_le (by omega) (by omega) (by omega)
      · simp [noT]
    · simp [noT]
  · simp [noT]
theorem dsN_in {t u : Ten} (f : TF t) (fu : TF u) (ep : t.p = u.p) {a b c : Int} (ha : 0 ≤ a ∧ a < t.i + u.i) (hb : 0 ≤ b ∧ b < t.j + u.j) (hc : 0 ≤ c ∧ c < t.k + u.k) : 0 ≤ dsN t u a b c ∧ dsN t u a b c < t.p := by
  unfold dsN
  split
  · rename_i h
    exact tat_in f (by omega) (by omega) (by omega)
  · split
    · rename_i h
      have := tat_in fu (i := a - t.i) (j := b - t.j) (k := c - t.k) (by omega) (by omega) (by omega)
      omega
    · have := f.p
      omega
/-- Written in order, zeros behind. -/
def DoneZ (N : Nat) (g : Nat → Int) (l : List Int) (m : Int) : Prop := DoneS N g l m ∧ ∀ n : Nat, m ≤ (n : Int) → l.getD n 0 = 0
theorem DoneZ.step {N : Nat} {g : Nat → Int} {l : List Int} {m : Int} (d : DoneZ N g l m) (hm : 0 ≤ m ∧ m < N) {x : Int} (hx : x = g m.toNat) : DoneZ N g (l.set m.toNat x) (m + 1) := by
  refine ⟨d.1.step hm hx, fun n hn => ?_⟩
  rw [set_getD (by rw [d.1.1]; omega), if_neg (by omega)]
  exact d.2 n (by omega)
theorem DoneZ.skip {N : Nat} {g : Nat → Int} {l : List Int} {m : Int} (d : DoneZ N g l m) (hm : 0 ≤ m ∧ m < N) (hx : g m.toNat = 0) : DoneZ N g l (m + 1) := by
  refine ⟨⟨d.1.1, fun n hn => ?_⟩, fun n hn => d.2 n (by omega)⟩
  by_cases h : (n : Int) < m
  · exact d.1.2 n h
  · have : n = m.toNat := by omega
    rw [d.2 n (by omega), this, hx]

theorem s_DirectSum {v w : Value} {t u : Ten} {h : AH} {Q : Value → AH → Prop} (hv : Ints h v t.ns) (hl : (t.ns.length : Int) ≤ 1048576) (hw : Ints h w u.ns) (hl' : (u.ns.length : Int) ≤ 1048576)
    (hQ : ∀ v' h', h <+: h' → OwnR h h' v' (dsR t u).1.ns → Q (.tuple #[tenV (dsR t u).1 v', I64 (dsR t u).2]) h') : WF S 37 [tenV t v, tenV u w] h Q := by
  refine WF_fn (fn := c37) rfl rfl ?_
  unfold c37
  try simp (maxSteps := 3000000) (disch := first | omega | (simp only [len_new, len_put, len_kill]; omega)) only [↓xpre, xpost, ↓reduceIte, Nat.reduceEqDiff, Nat.reduceAdd, Nat.reduceSub, Nat.reduceLeDiff, Nat.zero_add, Nat.sub_zero, tenV, hv.one, hw.one]
  generalize hH1 : AH.new h _ = H1
  obtain ⟨hb1, p1, n1⟩ := new_facts hH1
  generalize hH2 : AH.new H1 _ = H2
  obtain ⟨hb2, p2, n2⟩ := new_facts hH2
  generalize hH3 : AH.new H2 _ = H3
  obtain ⟨hb3, p3, n3⟩ := new_facts hH3
  have hb1 := pre_get (p2.trans p3) hb1
  have hb2 := pre_get p3 hb2
  have ph := (p1.trans p2).trans p3
  try simp (maxSteps := 3000000) (disch := first | omega | (simp only [len_new, len_put, len_kill]; omega)) only [↓xpre, xpost, ↓reduceIte, Nat.reduceEqDiff, Nat.reduceAdd, Nat.reduceSub, Nat.reduceLeDiff, Nat.zero_add, Nat.sub_zero, rdn_of hb1, rdn_of hb2]
  refine s_l05Two (hv.pre ph) hl (hw.pre ph) hl' fun H4 p4 => ?_
  have hb1 := pre_get p4 hb1
  have hb2 := pre_get p4 hb2
  have hb3 := pre_get p4 hb3
  have ph := ph.trans p4
  have l4 := get_lt hb3
  unfold dsR at hQ
  unfold twoC
  by_cases hd : isT t = true ∧ isT u = true
  case neg =>
    rw [if_neg hd] at hQ ⊢
    try simp (maxSteps := 3000000) (disch := first | omega | (simp only [len_new, len_put, len_kill]; omega)) only [↓xpre, xpost, ↓reduceIte, Nat.reduceEqDiff, Nat.reduceAdd, Nat.reduceSub, Nat.reduceLeDiff, Nat.zero_add, Nat.sub_zero, decide_eq_true (show (1 : Int) ≠ 0 by decide), fillL, wr_of hb3]
    exact hQ (.slice none 0 0) _ (pre_put ph (by omega)) (.inl ⟨rfl, rfl⟩)
  rw [if_pos hd] at hQ ⊢
  by_cases ep : t.p = u.p
  case neg =>
    rw [if_neg ep] at hQ ⊢
    try simp (maxSteps := 3000000) (disch := first | omega | (simp only [len_new, len_put, len_kill]; omega)) only [↓xpre, xpost, ↓reduceIte, Nat.reduceEqDiff, Nat.reduceAdd, Nat.reduceSub, Nat.reduceLeDiff, Nat.zero_add, Nat.sub_zero, decide_eq_true (show (2 : Int) ≠ 0 by decide), fillL, wr_of hb3]
    exact hQ (.slice none 0 0) _ (pre_put ph (by omega)) (.inl ⟨rfl, rfl⟩)
  rw [if_pos ep] at hQ ⊢
  have f := isT_facts hd.1
  have fu := isT_facts hd.2
  have fi := f.i
  have fj := f.j
  have fk := f.k
  have ui := fu.i
  have uj := fu.j
  have uk := fu.k
  try simp (maxSteps := 3000000) (disch := first | omega | (simp only [len_new, len_put, len_kill]; omega)) only [↓xpre, xpost, ↓reduceIte, Nat.reduceEqDiff, Nat.reduceAdd, Nat.reduceSub, Nat.reduceLeDiff, Nat.zero_add, Nat.sub_zero, decide_eq_false (show ¬ ((0 : Int) ≠ 0) by decide), rd1_of hb1, rd1_of hb2, ↓WX_mm, mmV_3, wrap64_in, max3]
  by_cases e2 : t.i + u.i ≤ 9 ∧ t.j + u.j ≤ 9 ∧ t.k + u.k ≤ 9
  case neg =>
    rw [if_neg e2] at hQ
    try simp (maxSteps := 3000000) (disch := first | omega | (simp only [len_new, len_put, len_kill]; omega)) only [↓xpre, xpost, ↓reduceIte, Nat.reduceEqDiff, Nat.reduceAdd, Nat.reduceSub, Nat.reduceLeDiff, Nat.zero_add, Nat.sub_zero, decide_eq_true e2, fillL, wr_of hb3]
    exact hQ (.slice none 0 0) _ (pre_put ph (by omega)) (.inl ⟨rfl, rfl⟩)
  rw [if_pos e2] at hQ
  try simp (maxSteps := 3000000) (disch := first | omega | (simp only [len_new, len_put, len_kill]; omega)) only [↓xpre, xpost, ↓reduceIte, Nat.reduceEqDiff, Nat.reduceAdd, Nat.reduceSub, Nat.reduceLeDiff, Nat.zero_add, Nat.sub_zero, decide_eq_false (show ¬ ¬ (t.i + u.i ≤ 9 ∧ t.j + u.j ≤ 9 ∧ t.k + u.k ≤ 9) from fun h => h e2), rd1_of hb1, rd1_of hb2, wrap64_in]
  have hs : dsT t u = tenT t.p (t.i + u.i) (t.j + u.j) (t.k + u.k) (dsN t u) := rfl
  have fp := f.p
  generalize hI : t.i + u.i = I at *
  generalize hJ : t.j + u.j = J at *
  generalize hK : t.k + u.k = K at *
  have ij := mul_in1 (a := I) (b := J) (A := 9) (B := 9) (by omega) (by omega)
  have ijk := mul_in1 (a := I * J) (b := K) (A := 81) (B := 9) (by omega) (by omega)
  refine s_l05Empty (by omega) (by omega) fun v' H5 p5 o => ?_
  try simp (maxSteps := 3000000) (disch := first | omega | (simp only [len_new, len_put, len_kill]; omega)) only [↓xpre, xpost, ↓reduceIte, Nat.reduceEqDiff, Nat.reduceAdd, Nat.reduceSub, Nat.reduceLeDiff, Nat.zero_add, Nat.sub_zero, tenV, o.ints.one]
  obtain ⟨nb, e, q1, rfl, q2⟩ := o
  generalize hH6 : AH.new H5 _ = H6
  obtain ⟨hb6, p6, n6⟩ := new_facts hH6
  have q3 := get_lt q2
  rw [List.length_replicate] at hb6
  have hN : (((I * J * K).toNat : Nat) : Int) = I * J * K := Int.toNat_of_nonneg (by omega)
  have up := p5.trans p6
  have st0 : KrS t u ⟨t.p, I, J, K, []⟩ v w h H6 H5.length nb (List.replicate (I * J * K).toNat 0) :=
    ⟨ph.trans up, by omega, ⟨_, pre_get up hb1⟩, by rw [← n1]; exact ⟨_, pre_get up hb2⟩,
      ⟨_, rfl, by rw [show h.length + 2 = H2.length by omega]; exact ⟨_, pre_get up hb3⟩⟩, ⟨_, hb6⟩, ⟨_, pre_get p6 q2⟩⟩
  refine WC_loop_inv (fun n f h1 => ∃ (i : Int) (l : List Int), n = (I - i).toNat ∧ (0 ≤ i ∧ i ≤ I) ∧ f 2 = .pointer (some ⟨h.length, 0, none⟩) ∧ f 3 = .pointer (some ⟨H1.length, 0, none⟩) ∧ f 4 = .pointer (some ⟨H2.length, 0, none⟩) ∧ f 7 = .pointer (some ⟨H5.length, 0, none⟩) ∧
    f 8 = I64 i ∧ KrS t u ⟨t.p, I, J, K, []⟩ v w h h1 H5.length nb l ∧ DoneZ (I * J * K).toNat (tenG t.p J K (dsN t u)) l (i * J * K)) ?_ (I - 0).toNat _ _ ⟨0, _, rfl, by omega, rfl, rfl, rfl, rfl, rfl, st0, ⟨List.length_replicate, fun n hn => by simp at hn; omega⟩, fun n hn => by
      rw [List.getD_eq_getElem?_getD, List.getElem?_replicate]
      split <;> rfl⟩
  rintro n fr h1 ⟨i, l, rfl, hi, f2, f3, f4, f7, f8, st, dn⟩
  obtain ⟨t5, g5⟩ := st.g5
  try simp (maxSteps := 3000000) (disch := first | omega | (simp only [len_new, len_put, len_kill]; omega)) only [↓xpre, xpost, ↓reduceIte, Nat.reduceEqDiff, Nat.reduceAdd, Nat.reduceSub, Nat.reduceLeDiff, Nat.zero_add, Nat.sub_zero, f2, f3, f4, f7, f8, rd1_of g5, IfW_dec]
  refine ⟨fun hlt => ?_, fun hge => ?_⟩
  · clear g5
    refine WC_loop_inv (fun n f h1 => ∃ (j : Int) (l : List Int), n = (J - j).toNat ∧ (0 ≤ j ∧ j ≤ J) ∧ f 2 = .pointer (some ⟨h.length, 0, none⟩) ∧ f 3 = .pointer (some ⟨H1.length, 0, none⟩) ∧ f 4 = .pointer (some ⟨H2.length, 0, none⟩) ∧ f 7 = .pointer (some ⟨H5.length, 0, none⟩) ∧
      f 8 = I64 i ∧ f 9 = I64 j ∧ KrS t u ⟨t.p, I, J, K, []⟩ v w h h1 H5.length nb l ∧ DoneZ (I * J * K).toNat (tenG t.p J K (dsN t u)) l ((i * J + j) * K)) ?_ (J - 0).toNat _ _ ⟨0, l, rfl, by omega, f2, f3, f4, f7, f8, rfl, st, by rw [Int.add_zero]; exact dn⟩
    clear f2 f3 f4 f7 f8 st dn
    rintro n fr h1 ⟨j, l, rfl, hj, f2, f3, f4, f7, f8, f9, st, dn⟩
    obtain ⟨t5, g5⟩ := st.g5
    try simp (maxSteps := 3000000) (disch := first | omega | (simp only [len_new, len_put, len_kill]; omega)) only [↓xpre, xpost, ↓reduceIte, Nat.reduceEqDiff, Nat.reduceAdd, Nat.reduceSub, Nat.reduceLeDiff, Nat.zero_add, Nat.sub_zero, f2, f3, f4, f7, f8, f9, rd1_of g5, IfW_dec]
    refine ⟨fun hltj => ?_, fun hge => ?_⟩
    · clear g5
      refine WC_loop_inv (fun n f h1 => ∃ (k : Int) (l : List Int), n = (K - k).toNat ∧ (0 ≤ k ∧ k ≤ K) ∧ f 2 = .pointer (some ⟨h.length, 0, none⟩) ∧ f 3 = .pointer (some ⟨H1.length, 0, none⟩) ∧ f 4 = .pointer (some ⟨H2.length, 0, none⟩) ∧ f 7 = .pointer (some ⟨H5.length, 0, none⟩) ∧
        f 8 = I64 i ∧ f 9 = I64 j ∧ f 10 = I64 k ∧ KrS t u ⟨t.p, I, J, K, []⟩ v w h h1 H5.length nb l ∧ DoneZ (I * J * K).toNat (tenG t.p J K (dsN t u)) l ((i * J + j) * K + k)) ?_ (K - 0).toNat _ _ ⟨0, l, rfl, by omega, f2, f3, f4, f7, f8, f9, rfl, st, by rw [Int.add_zero]; exact dn⟩
      clear f2 f3 f4 f7 f8 f9 st dn
      rintro n fr h1 ⟨k, l, rfl, hk, f2, f3, f4, f7, f8, f9, f10, st, dn⟩
      obtain ⟨t1, g1⟩ := st.g1
      obtain ⟨t2, g2⟩ := st.g2
      obtain ⟨t5, g5⟩ := st.g5
      rw [← n1] at g2
      try simp (maxSteps := 3000000) (disch := first | omega | (simp only [len_new, len_put, len_kill]; omega)) only [↓xpre, xpost, ↓reduceIte, Nat.reduceEqDiff, Nat.reduceAdd, Nat.reduceSub, Nat.reduceLeDiff, Nat.zero_add, Nat.sub_zero, f2, f3, f4, f7, f8, f9, f10, rd1_of g5, IfW_dec]
      refine ⟨fun hltk => ?_, fun hge => ?_⟩
      · have b1 := lin_in (i := i) (I := I) (j := j) (J := J) (by omega) (by omega)
        have b2 := lin_in b1.2 (j := k) (J := K) (by omega)
        have hg : tenG t.p J K (dsN t u) ((i * J + j) * K + k).toNat = dsN t u i j k := by
          have e1 := dec (a := i * J + j) (i := k) (I := K) (by omega)
          have e2 := dec (a := i) (i := j) (I := J) (by omega)
          have q := dsN_in f fu ep (a := i) (b := j) (c := k) (by omega) (by omega) (by omega)
          unfold tenG
          rw [Int.toNat_of_nonneg (by omega), e1.1, e1.2, e2.1, e2.2]
          exact Int.tmod_eq_of_lt q.1 q.2
        have lo := st.lo
        have hll := dn.1.1
        have skip : ¬ (i < t.i ∧ j < t.j ∧ k < t.k) → ¬ (t.i ≤ i ∧ t.j ≤ j ∧ t.k ≤ k) → DoneZ (I * J * K).toNat (tenG t.p J K (dsN t u)) l ((i * J + j) * K + (k + 1)) := fun a1 a2 => by
          rw [← Int.add_assoc]
          refine dn.skip (by omega) ?_
          rw [hg]
          unfold dsN
          rw [if_neg a1, if_neg a2]
        try simp (maxSteps := 3000000) (disch := first | omega | (simp only [len_new, len_put, len_kill]; omega)) only [↓xpre, xpost, ↓reduceIte, Nat.reduceEqDiff, Nat.reduceAdd, Nat.reduceSub, Nat.reduceLeDiff, Nat.zero_add, Nat.sub_zero, f2, f3, f4, f7, f8, f9, f10, rd1_of g1, rd1_of g5, wrap64_in]
        by_cases x1 : i < t.i
        · have y1 : ¬ t.i ≤ i := by omega
          by_cases x2 : j < t.j
          · by_cases x3 : k < t.k
            · try simp (maxSteps := 3000000) (disch := first | omega | (simp only [len_new, len_put, len_kill]; omega)) only [↓xpre, xpost, ↓reduceIte, Nat.reduceEqDiff, Nat.reduceAdd, Nat.reduceSub, Nat.reduceLeDiff, Nat.zero_add, Nat.sub_zero, f2, f3, f4, f7, f8, f9, f10, rd1_of g1, rd1_of g5, rdn_of g1, wrap64_in, x1, x2, x3]
              refine s_l05At (t := t) (hv.pre st.hp) f (by omega) (by omega) (by omega) fun h2 p5 => ?_
              have st3 := st.pre p5
              obtain ⟨tn, gn⟩ := st3.gn
              try simp (maxSteps := 3000000) (disch := first | omega | (simp only [len_new, len_put, len_kill]; omega)) only [↓xpre, xpost, ↓reduceIte, Nat.reduceEqDiff, Nat.reduceAdd, Nat.reduceSub, Nat.reduceLeDiff, Nat.zero_add, Nat.sub_zero, f2, f3, f4, f7, f8, f9, f10, ixsV_some, wr_of gn, wrap64_in]
              refine ⟨p5, ⟨by omega, by omega⟩, by simp [hll]; omega, ?_⟩
              refine InvQ_go (K - (k + 1)).toNat (by omega) ⟨k + 1, l.set ((i * J + j) * K + k).toNat (tat t i j k), rfl, by omega, f2, f3, f4, f7, f8, f9, rfl, ?_, ?_⟩
              · obtain ⟨c2, c3, c4⟩ := st3.g3
                refine ⟨pre_put st3.hp (by omega), lo, st3.g1.put_ne (by omega), st3.g2.put_ne (by omega), ⟨c2, c3, c4.put_ne (by omega)⟩, st3.g5.put_ne (by omega), ⟨tn, ?_⟩⟩
                rw [get_put_same (get_lt gn)]
                simp only [Nat.zero_add, Nat.mul_one]
                rw [splice_map (by omega)]
              · rw [← Int.add_assoc]
                refine dn.step (by omega) ?_
                rw [hg]
                unfold dsN
                rw [if_pos ⟨x1, x2, x3⟩]
            · try simp (maxSteps := 3000000) (disch := first | omega | (simp only [len_new, len_put, len_kill]; omega)) only [↓xpre, xpost, ↓reduceIte, Nat.reduceEqDiff, Nat.reduceAdd, Nat.reduceSub, Nat.reduceLeDiff, Nat.zero_add, Nat.sub_zero, f2, f3, f4, f7, f8, f9, f10, rd1_of g1, rd1_of g5, wrap64_in, x1, x2, x3, y1]
              exact InvQ_go (K - (k + 1)).toNat (by omega) ⟨k + 1, l, rfl, by omega, f2, f3, f4, f7, f8, f9, rfl, st, skip (by omega) (by omega)⟩
          · try simp (maxSteps := 3000000) (disch := first | omega | (simp only [len_new, len_put, len_kill]; omega)) only [↓xpre, xpost, ↓reduceIte, Nat.reduceEqDiff, Nat.reduceAdd, Nat.reduceSub, Nat.reduceLeDiff, Nat.zero_add, Nat.sub_zero, f2, f3, f4, f7, f8, f9, f10, rd1_of g1, rd1_of g5, wrap64_in, x1, x2, y1]
            exact InvQ_go (K - (k + 1)).toNat (by omega) ⟨k + 1, l, rfl, by omega, f2, f3, f4, f7, f8, f9, rfl, st, skip (by omega) (by omega)⟩
        · have y1 : t.i ≤ i := by omega
          by_cases y2 : t.j ≤ j
          · by_cases y3 : t.k ≤ k
            · try simp (maxSteps := 3000000) (disch := first | omega | (simp only [len_new, len_put, len_kill]; omega)) only [↓xpre, xpost, ↓reduceIte, Nat.reduceEqDiff, Nat.reduceAdd, Nat.reduceSub, Nat.reduceLeDiff, Nat.zero_add, Nat.sub_zero, f2, f3, f4, f7, f8, f9, f10, rd1_of g1, rd1_of g5, rdn_of g2, wrap64_in, x1, y1, y2, y3]
              refine s_l05At (t := u) (hw.pre st.hp) fu (by omega) (by omega) (by omega) fun h2 p5 => ?_
              have st3 := st.pre p5
              obtain ⟨tn, gn⟩ := st3.gn
              try simp (maxSteps := 3000000) (disch := first | omega | (simp only [len_new, len_put, len_kill]; omega)) only [↓xpre, xpost, ↓reduceIte, Nat.reduceEqDiff, Nat.reduceAdd, Nat.reduceSub, Nat.reduceLeDiff, Nat.zero_add, Nat.sub_zero, f2, f3, f4, f7, f8, f9, f10, ixsV_some, wr_of gn, wrap64_in]
              refine ⟨p5, ⟨by omega, by omega⟩, by simp [hll]; omega, ?_⟩
              refine InvQ_go (K - (k + 1)).toNat (by omega) ⟨k + 1, l.set ((i * J + j) * K + k).toNat (tat u (i - t.i) (j - t.j) (k - t.k)), rfl, by omega, f2, f3, f4, f7, f8, f9, rfl, ?_, ?_⟩
              · obtain ⟨c2, c3, c4⟩ := st3.g3
                refine ⟨pre_put st3.hp (by omega), lo, st3.g1.put_ne (by omega), st3.g2.put_ne (by omega), ⟨c2, c3, c4.put_ne (by omega)⟩, st3.g5.put_ne (by omega), ⟨tn, ?_⟩⟩
                rw [get_put_same (get_lt gn)]
                simp only [Nat.zero_add, Nat.mul_one]
                rw [splice_map (by omega)]
              · rw [← Int.add_assoc]
                refine dn.step (by omega) ?_
                rw [hg]
                unfold dsN
                rw [if_neg (by omega), if_pos ⟨y1, y2, y3⟩]
            · try simp (maxSteps := 3000000) (disch := first | omega | (simp only [len_new, len_put, len_kill]; omega)) only [↓xpre, xpost, ↓reduceIte, Nat.reduceEqDiff, Nat.reduceAdd, Nat.reduceSub, Nat.reduceLeDiff, Nat.zero_add, Nat.sub_zero, f2, f3, f4, f7, f8, f9, f10, rd1_of g1, rd1_of g5, wrap64_in, x1, y1, y2, y3]
              exact InvQ_go (K - (k + 1)).toNat (by omega) ⟨k + 1, l, rfl, by omega, f2, f3, f4, f7, f8, f9, rfl, st, skip (by omega) (by omega)⟩
          · try simp (maxSteps := 3000000) (disch := first | omega | (simp only [len_new, len_put, len_kill]; omega)) only [↓xpre, xpost, ↓reduceIte, Nat.reduceEqDiff, Nat.reduceAdd, Nat.reduceSub, Nat.reduceLeDiff, Nat.zero_add, Nat.sub_zero, f2, f3, f4, f7, f8, f9, f10, rd1_of g1, rd1_of g5, wrap64_in, x1, y1, y2]
            exact InvQ_go (K - (k + 1)).toNat (by omega) ⟨k + 1, l, rfl, by omega, f2, f3, f4, f7, f8, f9, rfl, st, skip (by omega) (by omega)⟩
      · try simp (maxSteps := 3000000) (disch := first | omega | (simp only [len_new, len_put, len_kill]; omega)) only [↓xpre, xpost, ↓reduceIte, Nat.reduceEqDiff, Nat.reduceAdd, Nat.reduceSub, Nat.reduceLeDiff, Nat.zero_add, Nat.sub_zero, f2, f3, f4, f7, f8, f9, wrap64_in]
        have : k = K := by omega
        subst this
        refine InvQ_go (J - (j + 1)).toNat (by omega) ⟨j + 1, l, rfl, by omega, f2, f3, f4, f7, f8, rfl, st, ?_⟩
        have e1 : (i * J + (j + 1)) * k = (i * J + j) * k + k := by rw [← Int.add_assoc, Int.add_mul (i * J + j), Int.one_mul]
        rw [e1]
        exact dn
    · try simp (maxSteps := 3000000) (disch := first | omega | (simp only [len_new, len_put, len_kill]; omega)) only [↓xpre, xpost, ↓reduceIte, Nat.reduceEqDiff, Nat.reduceAdd, Nat.reduceSub, Nat.reduceLeDiff, Nat.zero_add, Nat.sub_zero, f2, f3, f4, f7, f8, wrap64_in]
      have : j = J := by omega
      subst this
      refine InvQ_go (I - (i + 1)).toNat (by omega) ⟨i + 1, l, rfl, by omega, f2, f3, f4, f7, rfl, st, ?_⟩
      have e1 : (i + 1) * j * K = (i * j + j) * K := by rw [Int.add_mul i, Int.one_mul]
      rw [e1]
      exact dn
  · have : i = I := by omega
    subst this
    have hall := dn.1.all (by omega)
    have lo := st.lo
    obtain ⟨c, c3, t2, g2⟩ := st.g3
    obtain ⟨c0, c1, c2, c4, c5, rfl⟩ : ∃ a b d e g, c = [a, b, d, e, g] := by
      match c, c3 with
      | [a, b, d, e, g], _ => exact ⟨_, _, _, _, _, rfl⟩
    rw [show h.length + 2 = H2.length by omega] at g2
    have l2 := get_lt g2
    try simp (maxSteps := 3000000) (disch := first | omega | (simp only [len_new, len_put, len_kill]; omega)) only [↓xpre, xpost, ↓reduceIte, Nat.reduceEqDiff, Nat.reduceAdd, Nat.reduceSub, Nat.reduceLeDiff, Nat.zero_add, Nat.sub_zero, f2, f3, f4, f7, f8, rdn_of g5, wr_of g2]
    rw [hs] at hQ
    obtain ⟨tn, gn⟩ := st.gn
    refine hQ _ _ (pre_put (n := H2.length) st.hp (by omega)) (.inr ⟨nb, tn, true, by omega, ?_, ?_⟩)
    · simp only [tenT, gen_len]
    · rw [get_put_ne (by omega), gn, hall]
      rfl
end Go.Proofs.Ytnjhhgfpclngcaa.X
