/- The program's 'tensor': a list appended number by number out of a function value. -/
import Derived.Test.YtnjhhgfpclngcaaXF7
set_option linter.unusedVariables false
set_option linter.unusedSimpArgs false
namespace Go.Proofs.Ytnjhhgfpclngcaa.X
open Go Go.RowKit

/-- A list under way: nil, or a block of one's own behind a place. -/
def Way (h : AH) (lo : Nat) (sv : Value) (l : List Int) : Prop :=
  (sv = .slice none 0 0 ∧ l = []) ∨ ∃ kb, sv = .slice (some ⟨kb, 0, none⟩) l.length 1 ∧ lo ≤ kb ∧ h.get kb = some ⟨l.map (Value.int .i64), 2, false, false⟩
theorem Way.pre {h h' : AH} {lo : Nat} {sv : Value} {l : List Int} (w : Way h lo sv l) (p : h <+: h') : Way h' lo sv l := by
  rcases w with w | ⟨kb, h1, h2, h3⟩
  · exact .inl w
  · exact .inr ⟨kb, h1, h2, pre_get p h3⟩
theorem Way.one {h : AH} {lo : Nat} {sv : Value} {l : List Int} (w : Way h lo sv l) : isOne sv = true := by
  rcases w with ⟨rfl, _⟩ | ⟨kb, rfl, h2, h3⟩ <;> rfl
theorem Way.cells {h : AH} {lo : Nat} {sv : Value} {l : List Int} (w : Way h lo sv l) : cellsL sv = [sv] := by
  rcases w with ⟨rfl, _⟩ | ⟨kb, rfl, h2, h3⟩ <;> rfl
theorem Way.put {h : AH} {lo n : Nat} {b : Blk} {sv : Value} {l : List Int} (w : Way h lo sv l) (hn : n < lo) : Way (h.put n b) lo sv l := by
  rcases w with w | ⟨kb, h1, h2, h3⟩
  · exact .inl w
  · exact .inr ⟨kb, h1, h2, by rw [get_put_ne (by omega)]; exact h3⟩
theorem Way.ownR {h0 h : AH} {lo : Nat} {sv : Value} {l : List Int} (w : Way h lo sv l) (hl : h0.length ≤ lo) : OwnR h0 h sv l := by
  rcases w with w | ⟨kb, h1, h2, h3⟩
  · exact .inl w
  · exact .inr ⟨kb, _, _, by omega, h1, h3⟩

/-- One number more: what 'append' of a slice of one number does. -/
theorem Way.app {S : XS} {H : AH} {lo : Nat} {sv : Value} {l : List Int} {x : Int} {e : TypeId} {full : Bool} (w : Way H lo sv l) (hl : (l.length : Int) ≤ 1048576) (hlo : lo ≤ H.length) {Q : Value → AH → Prop}
    (hQ : ∀ sv' H', H'.length = H.length + 2 → (∀ h0 : AH, h0.length ≤ lo → h0 <+: H → h0 <+: H') → (∀ n c f, n < lo → OwnB H n c f → OwnB H' n c f) → Way H' lo sv' (l ++ [x]) → Q sv' H') :
    OQ (appV 2 1 8 sv (.slice (some ⟨H.length, 0, none⟩) 1 1) (H.new ⟨[I64 x], e, false, full⟩)) Q := by
  have hn : (H.new ⟨[I64 x], e, false, full⟩).rdn H.length 0 1 = some [I64 x] := by rw [rdn_new_same]; rfl
  rcases w with ⟨rfl, rfl⟩ | ⟨kb, rfl, h2, h3⟩
  · rw [app_nil (.inl rfl) hn (by omega), OQ_some]
    refine hQ _ _ (by rw [len_new, len_new]) (fun h0 _ p => pre_new (pre_new p)) (fun n c f hn o => (o.pre (pre_new (List.prefix_refl _))).pre (pre_new (List.prefix_refl _))) ?_
    exact .inr ⟨(H.new ⟨[I64 x], e, false, full⟩).length, rfl, by rw [len_new]; omega, get_new_same⟩
  · have hk : (H.new ⟨[I64 x], e, false, full⟩).get kb = some ⟨l.map (Value.int .i64), 2, false, false⟩ := get_new_any h3
    have hkb := get_lt h3
    rw [app_own hk (by simp) hn (by omega), OQ_some]
    refine hQ _ _ (by rw [len_new, len_kill, len_new]) (fun h0 q p => pre_new (pre_kill (pre_new p) (by omega))) (fun n c f hn o => ?_) ?_
    · obtain ⟨e', o⟩ := o
      exact ⟨e', get_new_any (by rw [get_kill_ne (by omega)]; exact get_new_any o)⟩
    · refine .inr ⟨(H.new ⟨[I64 x], e, false, full⟩).length, by simp, by rw [len_new]; omega, ?_⟩
      rw [get_new_eq (by rw [len_kill])]
      simp

/-- What a function value tells of three places. -/
def Tells (S : XS) (h : AH) (fv : Value) (i j k : Int) (num : Int → Int → Int → Int) : Prop :=
  ∀ a b c, (0 ≤ a ∧ a < i) → (0 ≤ b ∧ b < j) → (0 ≤ c ∧ c < k) → ∀ h1, h <+: h1 → ∀ Q : Value → AH → Prop, (∀ h2, h1 <+: h2 → Q (I64 (num a b c)) h2) → WK S fv [I64 a, I64 b, I64 c] h1 Q
def tenG (p j k : Int) (num : Int → Int → Int → Int) (n : Nat) : Int := (num ((n : Int) / k / j) ((n : Int) / k % j) ((n : Int) % k)).tmod p
def tenT (p i j k : Int) (num : Int → Int → Int → Int) : Ten := ⟨p, i, j, k, gen (i * j * k).toNat (tenG p j k num)⟩

structure TensS (t : Ten) (h0 h : AH) (b11 : Nat) (l : List Int) : Prop where
  hp : h0 <+: h
  lo : h0.length < b11 ∧ b11 < h.length
  g10 : ∃ c, c.length = 5 ∧ OwnB h h0.length c true
  g11 : ∃ sv, OwnB h b11 [I64 t.p, I64 t.i, I64 t.j, I64 t.k, sv] true ∧ Way h (b11 + 1) sv l

theorem i_tensor {p i j k : Int} {fv : Value} {num : Int → Int → Int → Int} {h : AH} {Q : Value → AH → Prop} (hp1 : 1 ≤ p) (fi : 1 ≤ i ∧ i ≤ 9) (fj : 1 ≤ j ∧ j ≤ 9) (fk : 1 ≤ k ∧ k ≤ 9)
    (hf : Tells S h fv i j k num) (hQ : ∀ v' h', h <+: h' → OwnR h h' v' (tenT p i j k num).ns → Q (tenV (tenT p i j k num) v') h') : WF S 76 [I64 p, I64 i, I64 j, I64 k, fv] h Q := by
  refine WF_fn (fn := c76) rfl rfl ?_
  unfold c76
  have ij := mul_in1 (A := 9) (B := 9) fi fj
  have ijk := mul_in1 (A := 81) (B := 9) ij fk
  try simp (maxSteps := 3000000) (disch := first | omega | (simp only [len_new, len_put, len_kill]; omega)) only [↓xpre, xpost, ↓reduceIte, Nat.reduceEqDiff, Nat.reduceAdd, Nat.reduceSub, Nat.reduceLeDiff, Nat.zero_add, Nat.sub_zero, fillL]
  generalize hH1 : AH.new h _ = H1
  obtain ⟨hb1, p1, n1⟩ := new_facts hH1
  generalize hH2 : AH.new H1 _ = H2
  obtain ⟨hb2, p2, n2⟩ := new_facts hH2
  refine WC_loop_inv (fun n f h1 => ∃ (a : Int), n = (i - a).toNat ∧ (0 ≤ a ∧ a ≤ i) ∧ f 0 = I64 p ∧ f 2 = I64 j ∧ f 3 = I64 k ∧ f 4 = fv ∧ f 10 = .pointer (some ⟨h.length, 0, none⟩) ∧ f 11 = .pointer (some ⟨H1.length, 0, none⟩) ∧
    f 20 = I64 i ∧ f 21 = I64 a ∧ TensS ⟨p, i, j, k, []⟩ h h1 H1.length (gen (a * j * k).toNat (tenG p j k num))) ?_ (i - 0).toNat _ _ ⟨0, rfl, by omega, rfl, rfl, rfl, rfl, rfl, rfl, rfl, rfl,
      ⟨p1.trans p2, by omega, ⟨_, rfl, _, pre_get p2 hb1⟩, _, ⟨_, hb2⟩, .inl ⟨rfl, by simp [gen]⟩⟩⟩
  rintro n fr h1 ⟨a, rfl, ha, f0, f2, f3, f4, f10, f11, f20, f21, st⟩
  try simp (maxSteps := 3000000) (disch := first | omega | (simp only [len_new, len_put, len_kill]; omega)) only [↓xpre, xpost, ↓reduceIte, Nat.reduceEqDiff, Nat.reduceAdd, Nat.reduceSub, Nat.reduceLeDiff, Nat.zero_add, Nat.sub_zero, f0, f2, f3, f4, f10, f11, f20, f21, IfW_dec]
  refine ⟨fun hlt => ?_, fun hge => ?_⟩
  · refine WC_loop_inv (fun n f h1 => ∃ (b : Int), n = (j - b).toNat ∧ (0 ≤ b ∧ b ≤ j) ∧ f 0 = I64 p ∧ f 2 = I64 j ∧ f 3 = I64 k ∧ f 4 = fv ∧ f 10 = .pointer (some ⟨h.length, 0, none⟩) ∧ f 11 = .pointer (some ⟨H1.length, 0, none⟩) ∧
      f 20 = I64 i ∧ f 21 = I64 a ∧ f 12 = I64 a ∧ f 24 = I64 j ∧ f 25 = I64 b ∧ TensS ⟨p, i, j, k, []⟩ h h1 H1.length (gen ((a * j + b) * k).toNat (tenG p j k num))) ?_ (j - 0).toNat _ _ ⟨0, rfl, by omega, f0, f2, f3, f4, f10, f11, f20, f21, rfl, rfl, rfl,
        by rw [Int.add_zero]; exact st⟩
    clear f0 f2 f3 f4 f10 f11 f20 f21 st
    rintro n fr h1 ⟨b, rfl, hb, f0, f2, f3, f4, f10, f11, f20, f21, f12, f24, f25, st⟩
    try simp (maxSteps := 3000000) (disch := first | omega | (simp only [len_new, len_put, len_kill]; omega)) only [↓xpre, xpost, ↓reduceIte, Nat.reduceEqDiff, Nat.reduceAdd, Nat.reduceSub, Nat.reduceLeDiff, Nat.zero_add, Nat.sub_zero, f0, f2, f3, f4, f10, f11, f20, f21, f12, f24, f25, IfW_dec]
    refine ⟨fun hltb => ?_, fun hge => ?_⟩
    · refine WC_loop_inv (fun n f h1 => ∃ (c : Int), n = (k - c).toNat ∧ (0 ≤ c ∧ c ≤ k) ∧ f 0 = I64 p ∧ f 2 = I64 j ∧ f 3 = I64 k ∧ f 4 = fv ∧ f 10 = .pointer (some ⟨h.length, 0, none⟩) ∧ f 11 = .pointer (some ⟨H1.length, 0, none⟩) ∧
        f 20 = I64 i ∧ f 21 = I64 a ∧ f 12 = I64 a ∧ f 24 = I64 j ∧ f 25 = I64 b ∧ f 13 = I64 b ∧ f 28 = I64 k ∧ f 29 = I64 c ∧ TensS ⟨p, i, j, k, []⟩ h h1 H1.length (gen ((a * j + b) * k + c).toNat (tenG p j k num))) ?_ (k - 0).toNat _ _
          ⟨0, rfl, by omega, f0, f2, f3, f4, f10, f11, f20, f21, f12, f24, f25, rfl, rfl, rfl, by rw [Int.add_zero]; exact st⟩
      clear f0 f2 f3 f4 f10 f11 f20 f21 f12 f24 f25 st
      rintro n fr h1 ⟨c, rfl, hc, f0, f2, f3, f4, f10, f11, f20, f21, f12, f24, f25, f13, f28, f29, st⟩
      obtain ⟨sv, ⟨t1, g11⟩, way⟩ := st.g11
      try simp (maxSteps := 3000000) (disch := first | omega | (simp only [len_new, len_put, len_kill]; omega)) only [↓xpre, xpost, ↓reduceIte, Nat.reduceEqDiff, Nat.reduceAdd, Nat.reduceSub, Nat.reduceLeDiff, Nat.zero_add, Nat.sub_zero, f0, f2, f3, f4, f10, f11, f20, f21, f12, f24, f25, f13, f28, f29, rd1_of g11, IfW_dec]
      refine ⟨fun hltc => ?_, fun hge => ?_⟩
      · have b1 := lin_in (i := a) (I := i) (j := b) (J := j) (by omega) (by omega)
        have b2 := lin_in b1.2 (j := c) (J := k) (by omega)
        refine hf a b c (by omega) (by omega) (by omega) h1 st.hp _ fun h2 p5 => ?_
        try simp (maxSteps := 3000000) (disch := first | omega | (simp only [len_new, len_put, len_kill]; omega)) only [↓xpre, xpost, ↓reduceIte, Nat.reduceEqDiff, Nat.reduceAdd, Nat.reduceSub, Nat.reduceLeDiff, Nat.zero_add, Nat.sub_zero, f0, f2, f3, f4, f10, f11, f20, f21, f12, f24, f25, f13, f28, f29, bin_rem, fillL, zrep]
        refine ⟨p5, ?_⟩
        have lo := st.lo
        have l5 := pre_len p5
        refine (way.pre p5).app (S := S) (by rw [gen_len]; omega) (by omega) fun sv' H' hl' hpre hown hw => ?_
        obtain ⟨t2, g11'⟩ := hown _ _ _ (by omega) ⟨t1, pre_get p5 g11⟩
        obtain ⟨c10, c11, c12⟩ := st.g10
        try simp (maxSteps := 3000000) (disch := first | omega | (simp only [len_new, len_put, len_kill]; omega)) only [↓xpre, xpost, ↓reduceIte, Nat.reduceEqDiff, Nat.reduceAdd, Nat.reduceSub, Nat.reduceLeDiff, Nat.zero_add, Nat.sub_zero, f0, f2, f3, f4, f10, f11, f20, f21, f12, f24, f25, f13, f28, f29, hw.one, hw.cells, wr_of g11', wrap64_in]
        refine InvQ_go (k - (c + 1)).toNat (by omega) ⟨c + 1, rfl, by omega, f0, f2, f3, f4, f10, f11, f20, f21, f12, f24, f25, f13, f28, rfl, ?_⟩
        refine ⟨pre_put (hpre h (by omega) (st.hp.trans p5)) (by omega), by rw [len_put]; omega, ⟨c10, c11, (hown _ _ _ (by omega) (c12.pre p5)).put_ne (by omega)⟩, sv', ⟨t2, ?_⟩, ?_⟩
        · rw [get_put_same (get_lt g11')]
        · have e1 : ((a * j + b) * k + (c + 1)).toNat = ((a * j + b) * k + c).toNat + 1 := by omega
          rw [e1, gen_succ]
          have e2 : tenG p j k num ((a * j + b) * k + c).toNat = (num a b c).tmod p := by
            have d1 := dec (a := a * j + b) (i := c) (I := k) (by omega)
            have d2 := dec (a := a) (i := b) (I := j) (by omega)
            unfold tenG
            rw [Int.toNat_of_nonneg (by omega), d1.1, d1.2, d2.1, d2.2]
          rw [e2]
          exact hw.put (by omega)
      · try simp (maxSteps := 3000000) (disch := first | omega | (simp only [len_new, len_put, len_kill]; omega)) only [↓xpre, xpost, ↓reduceIte, Nat.reduceEqDiff, Nat.reduceAdd, Nat.reduceSub, Nat.reduceLeDiff, Nat.zero_add, Nat.sub_zero, f0, f2, f3, f4, f10, f11, f20, f21, f12, f24, f25, wrap64_in]
        have e : c = k := by omega
        subst e
        refine InvQ_go (j - (b + 1)).toNat (by omega) ⟨b + 1, rfl, by omega, f0, f2, f3, f4, f10, f11, f20, f21, f12, f24, rfl, ?_⟩
        have e1 : (a * j + (b + 1)) * c = (a * j + b) * c + c := by rw [← Int.add_assoc, Int.add_mul (a * j + b), Int.one_mul]
        rw [e1]
        exact st
    · try simp (maxSteps := 3000000) (disch := first | omega | (simp only [len_new, len_put, len_kill]; omega)) only [↓xpre, xpost, ↓reduceIte, Nat.reduceEqDiff, Nat.reduceAdd, Nat.reduceSub, Nat.reduceLeDiff, Nat.zero_add, Nat.sub_zero, f0, f2, f3, f4, f10, f11, f20, f21, wrap64_in]
      have e : b = j := by omega
      subst e
      refine InvQ_go (i - (a + 1)).toNat (by omega) ⟨a + 1, rfl, by omega, f0, f2, f3, f4, f10, f11, f20, rfl, ?_⟩
      have e1 : (a + 1) * b * k = (a * b + b) * k := by rw [Int.add_mul a, Int.one_mul]
      rw [e1]
      exact st
  · have e : a = i := by omega
    subst e
    obtain ⟨sv, ⟨t1, g11⟩, way⟩ := st.g11
    obtain ⟨c, c3, t2, g2⟩ := st.g10
    have lo := st.lo
    obtain ⟨c0, c1, c2, c4, c5, rfl⟩ : ∃ a b d e g, c = [a, b, d, e, g] := by
      match c, c3 with
      | [a, b, d, e, g], _ => exact ⟨_, _, _, _, _, rfl⟩
    have l2 := get_lt g2
    try simp (maxSteps := 3000000) (disch := first | omega | (simp only [len_new, len_put, len_kill]; omega)) only [↓xpre, xpost, ↓reduceIte, Nat.reduceEqDiff, Nat.reduceAdd, Nat.reduceSub, Nat.reduceLeDiff, Nat.zero_add, Nat.sub_zero, f0, f2, f3, f4, f10, f11, f20, f21, rdn_of g11, wr_of g2, way.one]
    exact hQ _ _ (pre_put st.hp (Nat.le_refl _)) ((way.put (by omega)).ownR (by omega))

end Go.Proofs.Ytnjhhgfpclngcaa.X
