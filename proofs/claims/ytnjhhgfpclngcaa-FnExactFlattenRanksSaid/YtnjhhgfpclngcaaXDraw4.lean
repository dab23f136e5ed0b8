/- The abstract machine's soundness, part 13: a region whose order is open: one more operation, and all of them. -/
import Derived.Test.YtnjhhgfpclngcaaXDraw3
set_option linter.unusedVariables false
set_option linter.unusedSimpArgs false
namespace Go.Proofs.Ytnjhhgfpclngcaa.X
open Go Go.RowKit

variable {P : Program} {B : Nat} {γ γ0 : List G} {h h' h0 : AH} {w w0 : World} {f f' : Fr} {a a0 : Act} {v v' : Value} {C : FuncId → List Value → AH → Option (Value × AH)} {nt : Nat}
variable {ops : Array Oper} {F : Nat → Fr} {H : Nat → AH} {Z : Nat → XI} {fs : List Fused}

theorem getD_put (a : Act) (d : Option Nat) (v : Value) (i : Nat) (hi : d = some i → i < a.tmps.size) : (a.put d v).tmps.getD i undef = if d = some i then v else a.tmps.getD i undef := by
  cases d with
  | none => rfl
  | some d =>
    simp only [Act.put, Option.some.injEq]
    by_cases e : d = i
    · subst e
      rw [if_pos rfl]
      simp [hi rfl]
    · rw [if_neg e]
      simp [Array.getElem?_setIfInBounds_ne e]

/-- A step that is none of the fused ones': what it leaves. -/
theorem Inv.plain (T : RegS P C nt ops F H Z fs) {L : Nat → Bool} {p : Nat} {pb : Nat → Nat} (I : Inv P B nt ops F H Z fs γ0 h0 w0 a0 L a w γ p pb) {i : Nat} {o : Oper} (ho : ops[i]? = some o) (hi : L i = false)
    (he : ∀ e ∈ o.after.toList, Region.binds .any e = true → L e.on = true) (hnf : ∀ z ∈ fs, z.i ≠ i ∧ z.j ≠ i) {γ' : List G} {p' : Nat} {w' : World} {v' : Value} (hp' : p' ≤ ops.size)
    (hchain : ∀ k, k < ops.size → 2 ≤ cls (Z k).o → (setL L i k = true ↔ k < p')) (hv : ∀ d, o.dst = some d → d < nt ∧ VR γ' (F (i + 1) d) v') (S : Sim P B γ (H p) w γ' (H p') w') :
    Inv P B nt ops F H Z fs γ0 h0 w0 a0 (setL L i) (a.put o.dst v') w' γ' p' pb := by
  have hilt : i < ops.size := (Array.getElem?_eq_some_iff.1 ho).1
  have hsz : ∀ d, o.dst = some d → d < a.tmps.size := fun d hd => Nat.lt_of_lt_of_le (hv d hd).1 I.size
  have hnd : ∀ z ∈ fs, o.dst ≠ some z.d := by
    intro z hz e
    obtain ⟨_, _, oi, oj, t, zc, q1, q2, q3, q4, _⟩ := fusedAt_some (T.fus z hz)
    exact (hnf z hz).1 (T.uniq z.i i oi o z.d q1 ho q4 e)
  refine ⟨by rw [put_tmps]; exact I.size, (put_defers _ _ _).trans I.defers, I.closed.set (by rw [Array.getElem?_toList]; exact ho) he, hp', hchain, I.sim.trans S, ?_, ?_, ?_, ?_⟩
  · intro d hd k ok hk hkd hl
    rw [getD_put _ _ _ _ (fun e => hsz d e)]
    by_cases hki : k = i
    · subst hki
      rw [ho] at hk; cases hk
      rw [if_pos hkd]
      have e : F ops.size d = F (k + 1) d := by
        have := T.F_const (d := d) (ops.size - (k + 1)) (k + 1) (by omega) (fun m h1 h2 hz => by
          have hom : ops[m]? = some ops[m] := Array.getElem?_eq_getElem (by omega)
          have := T.uniq m k _ o d hom ho (T.dstZ hom hz).1 hkd
          omega)
        rwa [show k + 1 + (ops.size - (k + 1)) = ops.size by omega] at this
      rw [e]; exact (hv d hkd).2
    · rw [if_neg (fun e => hki (T.uniq k i ok o d hk ho hkd e))]
      rw [setL_ne L hki] at hl
      exact (I.done d hd k ok hk hkd hl).mono S.ext
  · intro d hd hall
    have hod : o.dst ≠ some d := fun e => by have := hall i o ho e; rw [setL_self] at this; cases this
    rw [getD_put _ _ _ _ (fun e => hsz d e), if_neg hod]
    refine (I.todo d hd (fun k ok hk hkd => ?_)).mono S.ext
    have hki : k ≠ i := by rintro rfl; rw [ho] at hk; cases hk; exact hod hkd
    have := hall k ok hk hkd
    rwa [setL_ne L hki] at this
  · intro z hz hl
    rw [setL_ne L (hnf z hz).1] at hl
    obtain ⟨q1, q2, q3, q4, q5, cur, q6, q7, q8⟩ := I.pend z hz hl
    rw [getD_put _ _ _ _ (fun e => hsz _ e), if_neg (hnd z hz)]
    refine ⟨q1, q2, q3, Nat.lt_of_lt_of_le q4 S.size, fun ho' => ?_, cur, by rw [S.frame _ q4 q5]; exact q6, q7, fun hj => ?_⟩
    · rcases S.own _ ho' with h1 | h1
      · exact q5 h1
      · omega
    · rw [setL_ne L (hnf z hz).2] at hj
      exact (q8 hj).mono S.ext
  · intro z hz z' hz' hl hl' hne
    rw [setL_ne L (hnf z hz).1] at hl
    rw [setL_ne L (hnf z' hz').1] at hl'
    exact I.sep z hz z' hz' hl hl' hne

/-- The abstract heap of the text's order is the one that we have, for whoever makes, calls or writes. -/
theorem Inv.heap (T : RegS P C nt ops F H Z fs) {L : Nat → Bool} {p : Nat} {pb : Nat → Nat} (I : Inv P B nt ops F H Z fs γ0 h0 w0 a0 L a w γ p pb) {i : Nat} {o : Oper} (ho : ops[i]? = some o) (hi : L i = false)
    (he : ∀ e ∈ o.after.toList, Region.binds .any e = true → L e.on = true) (hc : 2 ≤ cls (Z i).o) :
    H p = H i ∧ ∀ k, k < ops.size → 2 ≤ cls (Z k).o → (setL L i k = true ↔ k < i + 1) := by
  have hilt : i < ops.size := (Array.getElem?_eq_some_iff.1 ho).1
  have key : ∀ k, k < ops.size → 2 ≤ cls (Z k).o → k ≠ i → (L k = true ↔ k < i) := by
    intro k hk hck hne
    have hok : ops[k]? = some ops[k] := Array.getElem?_eq_getElem hk
    have hord : ord ops.toList k i := by
      by_cases h1 : ord ops.toList k i
      · exact h1
      · have := (T.pair k i _ o hok ho hne h1).1
        unfold pairOk at this
        simp only [Bool.or_eq_true, beq_iff_eq, Bool.and_eq_true, decide_eq_true_eq] at this
        omega
    exact ready_before T.edges I.closed ho hi he hok hne (.inl hord)
  constructor
  · rcases Nat.le_total p i with hle | hle
    · have := T.H_const (i - p) p (by omega) (fun k h1 h2 => by
        rcases Nat.lt_or_ge (cls (Z k).o) 2 with h3 | h3
        · exact h3
        · exfalso
          have h4 := (key k (by omega) h3 (by omega)).2 (by omega)
          have h5 := (I.chain k (by omega) h3).1 h4
          omega)
      rw [show p + (i - p) = i by omega] at this
      exact this.symm
    · have := T.H_const (p - i) i (by have := I.plt; omega) (fun k h1 h2 => by
        rcases Nat.lt_or_ge (cls (Z k).o) 2 with h3 | h3
        · exact h3
        · exfalso
          have hk : k < ops.size := by have := I.plt; omega
          have h4 := (I.chain k hk h3).2 (by omega)
          by_cases hki : k = i
          · subst hki; rw [hi] at h4; cases h4
          · have := (key k hk h3 hki).1 h4
            omega)
      rw [show i + (p - i) = p by omega] at this
      exact this
  · intro k hk hck
    by_cases hki : k = i
    · subst hki
      exact ⟨fun _ => by omega, fun _ => setL_self L k⟩
    · rw [setL_ne L hki, key k hk hck hki]
      omega

/-- What is read is the same in the abstract heap of the text's order. -/
theorem Inv.read (T : RegS P C nt ops F H Z fs) {L : Nat → Bool} {p : Nat} {pb : Nat → Nat} (I : Inv P B nt ops F H Z fs γ0 h0 w0 a0 L a w γ p pb) {i : Nat} {o : Oper} (ho : ops[i]? = some o) (hi : L i = false)
    (he : ∀ e ∈ o.after.toList, Region.binds .any e = true → L e.on = true) (hc : cls (Z i).o = 1) {n : Nat} (hn : n < (H p).length) (hb : ∃ b, (H i).get n = some b) : (H p).get n = (H i).get n := by
  have hilt : i < ops.size := (Array.getElem?_eq_some_iff.1 ho).1
  have cases3 : ∀ k, k < ops.size → k ≠ i → ¬ ord ops.toList k i → cls (Z k).o < 2 ∨ cls (Z k).o = 2 ∨ (cls (Z k).o = 3 ∧ (Z k).q = true) := by
    intro k hk hne hno
    have hok : ops[k]? = some ops[k] := Array.getElem?_eq_getElem hk
    have h1 := (T.pair k i _ o hok ho hne hno).1
    unfold pairOk at h1
    rw [hc] at h1
    simp only [Bool.or_eq_true, beq_iff_eq, Bool.and_eq_true, decide_eq_true_eq] at h1
    rcases cls_cases (Z k).o with h2 | h2 | h2 | h2 | h2
    · exact .inl (by omega)
    · exact .inl (by omega)
    · exact .inr (.inl h2)
    · exact .inr (.inr ⟨h2, T.quiet k i hk hilt h2 hc hno⟩)
    · omega
  rcases Nat.le_total p i with hle | hle
  · have := T.H_pre (i - p) p (by omega) (fun k h1 h2 => by
      rcases Nat.lt_or_ge (cls (Z k).o) 2 with h3 | h3
      · exact .inl h3
      · refine cases3 k (by omega) (by omega) (fun hord => ?_)
        have hok : ops[k]? = some ops[k] := Array.getElem?_eq_getElem (by omega)
        have h4 := (ready_before T.edges I.closed ho hi he hok (by omega) (.inl hord)).2 (by omega)
        have h5 := (I.chain k (by omega) h3).1 h4
        omega)
    rw [show p + (i - p) = i by omega] at this
    exact (prefix_get this hn).symm
  · have := T.H_pre (p - i) i (by have := I.plt; omega) (fun k h1 h2 => by
      have hk : k < ops.size := by have := I.plt; omega
      rcases Nat.lt_or_ge (cls (Z k).o) 2 with h3 | h3
      · exact .inl h3
      · have hki : k ≠ i := by rintro rfl; omega
        refine cases3 k hk hki (fun hord => ?_)
        have hok : ops[k]? = some ops[k] := Array.getElem?_eq_getElem hk
        have h4 := (I.chain k hk h3).2 (by omega)
        have h5 := (ready_before T.edges I.closed ho hi he hok hki (.inl hord)).1 h4
        omega)
    rw [show i + (p - i) = p by omega] at this
    obtain ⟨b, hb⟩ := hb
    exact prefix_get this (get_lt hb)

theorem rd_in {op : Op} {x : XOp} {y : Operand} (c1 : compOp P op = some x) (e1 : rdOpd x = some y) : y ∈ op.operands.toList ∧ okOpd y = true := by
  have hco := cls_op c1
  cases op with
  | load t y' =>
    obtain ⟨h1, h2⟩ := ite_none c1
    split at h2
    · cases h2; cases e1; exact ⟨by simp [Op.operands], h1⟩
    · cases h2; cases e1; exact ⟨by simp [Op.operands], h1⟩
    · cases h2
  | slice t y' lo hi' mx =>
    obtain ⟨h1, h2⟩ := ite_none c1
    simp only [Bool.and_eq_true] at h1
    split at h2
    · split at h2
      · split at h2
        · cases h2; cases e1
        · split at h2
          · obtain ⟨_, rfl⟩ := ite_some h2; cases e1
          · cases h2
        · cases h2
      · cases h2
    · split at h2
      · split at h2
        · cases h2; cases e1; exact ⟨by simp [Op.operands], h1.1.1⟩
        · cases h2
      · cases h2
    · cases h2
  | _ =>
    exfalso
    cases x <;> simp [rdOpd] at e1 <;> simp [clsOk, cls] at hco

/-- One more operation that is ready. -/
theorem Inv.next (hS : CSound P C) (T : RegS P C nt ops F H Z fs) (hZd : ∀ z ∈ fs, z.d < nt) {L : Nat → Bool} {p : Nat} {pb : Nat → Nat} (I : Inv P B nt ops F H Z fs γ0 h0 w0 a0 L a w γ p pb) {i : Nat} {o : Oper} (ho : ops[i]? = some o) (hi : L i = false)
    (he : ∀ e ∈ o.after.toList, Region.binds .any e = true → L e.on = true) {K : Act → World → Prop} {Q : Exit → Act → World → Prop}
    (hK : ∀ a' w' γ' p' pb', Inv P B nt ops F H Z fs γ0 h0 w0 a0 (setL L i) a' w' γ' p' pb' → K a' w') : wpOp P ops Q i K a w := by
  have hilt : i < ops.size := (Array.getElem?_eq_some_iff.1 ho).1
  unfold wpOp
  rw [ho]
  show if Region.wanted o (yielded ops a.tmps) = true then _ else _
  by_cases hfz : ∃ z ∈ fs, z.i = i
  · -- a fused variable is made
    obtain ⟨z, hz, rfl⟩ := hfz
    obtain ⟨_, _, oi, oj, t, zc, q1, q2, q3, q4, q5, q6, q7, q8, q9, q10, q11, q12, q13, q14, q15⟩ := fusedAt_some (T.fus z hz)
    rw [ho] at q1; cases q1
    obtain ⟨inf, y, hi1, hy, rfl, hok, hlen, hpos⟩ := zeroT_some q13
    rw [if_pos (by simp [Region.wanted, q5])]
    left
    have hrun : (execOp a.eval o).run P w = .ok (.value (.pointer (some ⟨w.heap.size, 0, none⟩))) (w.alloc (.cells y.cells z.e)) := by
      obtain ⟨dst, op, ty, pos, after, guard⟩ := o
      simp only at q3
      subst q3
      simp [execOp, Instr.alloc, zeroValue, typeInfo, hi1, hy, newVar, newRow]
    refine upon_ok rfl hrun (hK _ _ γ p (fun k => if k = z.i then w.heap.size else pb k) ?_)
    have hnop := T.nop z.i ⟨z, hz, .inl rfl⟩
    have hzi : ∀ z' ∈ fs, z'.i = z.i → z' = z := fun z' hz' e => T.apart z' hz' z hz (.inl e)
    have hzij : ∀ z' ∈ fs, z'.j ≠ z.i := fun z' hz' e => by
      have := T.apart z hz z' hz' (.inr (.inr e.symm))
      subst this
      omega
    have hdd : ∀ z' ∈ fs, z'.d = z.d → z' = z := fun z' hz' e => by
      obtain ⟨_, _, oi', oj', t', zc', p1, p2, p3, p4, _⟩ := fusedAt_some (T.fus z' hz')
      exact hzi z' hz' (T.uniq z'.i z.i oi' o z.d p1 ho (by rw [p4, e]) q4)
    have hsz : z.d < a.tmps.size := Nat.lt_of_lt_of_le (hZd z hz) I.size
    refine ⟨by rw [put_tmps]; exact I.size, (put_defers _ _ _).trans I.defers, I.closed.set (by rw [Array.getElem?_toList]; exact ho) he, I.plt, ?_, I.sim.besideAlloc _, ?_, ?_, ?_, ?_⟩
    · intro k hk hck
      have hki : k ≠ z.i := by rintro rfl; rw [hnop] at hck; simp [X.nop, cls] at hck
      rw [setL_ne L hki]; exact I.chain k hk hck
    · intro d hd k ok hk hkd hl
      have hne : o.dst ≠ some d := by rw [q4]; intro e; cases e; exact hd z hz rfl
      have hki : k ≠ z.i := by rintro rfl; rw [ho] at hk; cases hk; exact hne hkd
      rw [getD_put _ _ _ _ (fun e => absurd e hne), if_neg hne]
      rw [setL_ne L hki] at hl
      exact I.done d hd k ok hk hkd hl
    · intro d hd hall
      have hne : o.dst ≠ some d := by rw [q4]; intro e; cases e; exact hd z hz rfl
      rw [getD_put _ _ _ _ (fun e => absurd e hne), if_neg hne]
      refine I.todo d hd (fun k ok hk hkd => ?_)
      have hki : k ≠ z.i := by rintro rfl; rw [ho] at hk; cases hk; exact hne hkd
      have := hall k ok hk hkd
      rwa [setL_ne L hki] at this
    · intro z' hz' hl
      by_cases e : z'.i = z.i
      · have := hzi z' hz' e
        subst this
        rw [getD_put _ _ _ _ (fun _ => hsz), if_pos q4]
        simp only [if_true]
        refine ⟨trivial, I.sim.rel.base, I.sim.size, by simp, fun hown => ?_, y.cells, heap_alloc_new w _, by rw [← q15]; simp, fun hj => ?_⟩
        · have := own_lt I.sim.rel hown
          omega
        · exfalso
          rw [setL_ne L (hzij z' hz')] at hj
          -- the store stands behind
          have hne' : z'.i ≠ z'.j := by omega
          have hord : ord ops.toList z'.j z'.i ∨ ord ops.toList z'.i z'.j := by
            by_cases h1 : ord ops.toList z'.i z'.j
            · exact .inr h1
            · have := (T.pair z'.i z'.j o oj ho q2 hne' h1).2 z'.d q4
              exact absurd (by simp [looks, q6, Op.operands, opdTmp]) this
          have := (ready_before T.edges I.closed ho hi he q2 (by omega) hord).1 hj
          omega
      · rw [setL_ne L e] at hl
        obtain ⟨r1, r2, r3, r4, r5, cur, r6, r7, r8⟩ := I.pend z' hz' hl
        have hne : o.dst ≠ some z'.d := by rw [q4]; intro e'; exact e (by rw [hdd z' hz' (Option.some.inj e').symm])
        rw [getD_put _ _ _ _ (fun e => absurd e hne), if_neg hne]
        simp only [if_neg e]
        refine ⟨r1, r2, r3, by simp; omega, r5, cur, by rw [heap_alloc_old w _ r4]; exact r6, r7, fun hj => ?_⟩
        rw [setL_ne L (hzij z' hz')] at hj
        exact r8 hj
    · intro z1 hz1 z2 hz2 hl1 hl2 hne
      by_cases e1 : z1.i = z.i
      · have e2 : z2.i ≠ z.i := fun e => hne (e1.trans e.symm)
        rw [setL_ne L e2] at hl2
        obtain ⟨_, _, _, r4, _⟩ := I.pend z2 hz2 hl2
        simp only [if_pos e1, if_neg e2]
        omega
      · by_cases e2 : z2.i = z.i
        · rw [setL_ne L e1] at hl1
          obtain ⟨_, _, _, r4, _⟩ := I.pend z1 hz1 hl1
          simp only [if_neg e1, if_pos e2]
          omega
        · rw [setL_ne L e1] at hl1
          rw [setL_ne L e2] at hl2
          simp only [if_neg e1, if_neg e2]
          exact I.sep z1 hz1 z2 hz2 hl1 hl2 hne
  · by_cases hfj : ∃ z ∈ fs, z.j = i
    · -- a fused variable is set
      obtain ⟨z, hz, rfl⟩ := hfj
      obtain ⟨_, _, oi, oj, t, zc, q1, q2, q3, q4, q5, q6, q7, q8, q9, q10, q11, q12, q13, q14, q15⟩ := fusedAt_some (T.fus z hz)
      rw [ho] at q2; cases q2
      rw [if_pos (by simp [Region.wanted, q8])]
      left
      have hij : z.i ≠ z.j := by omega
      have hlooks : z.d ∈ looks ops o := by simp [looks, q6, Op.operands, opdTmp]
      have hli : L z.i = true := by
        have hord : ord ops.toList z.i z.j := by
          by_cases h1 : ord ops.toList z.i z.j
          · exact h1
          · exact absurd hlooks ((T.pair z.i z.j oi o q1 ho hij h1).2 z.d q4)
        exact (ready_before T.edges I.closed ho hi he q1 hij (.inl hord)).2 q9
      obtain ⟨r1, r2, r3, r4, r5, cur, r6, r7, r8⟩ := I.pend z hz hli
      -- what is set
      have hx : VR γ (ev (F ops.size) z.x) (a.eval z.x) := by
        cases hzx : z.x with
        | const u => exact okConst_refl (by rw [hzx] at q10; exact q10)
        | func g => exact .func g _ _ rfl fun i a b h => by simp at h
        | global g => rw [hzx] at q10; simp [okOpd] at q10
        | tmp y =>
          have hyl : y ∈ looks ops o := by simp [looks, q6, Op.operands, opdTmp, hzx]
          have hyd : ∀ z' ∈ fs, z'.d ≠ y := by
            intro z' hz' e
            obtain ⟨_, _, oi', oj', t', zc', p1, p2, p3, p4, p5, p6, p7, p8, p9, p10, p11, p12, _⟩ := fusedAt_some (T.fus z' hz')
            rcases (p12 z.j o (by simpa using hilt) ho).1 with e' | e'
            · have := T.apart z hz z' hz' (.inr (.inl e'))
              subst this
              exact p11 (by rw [hzx, e])
            · exact e' (by rw [e]; exact hyl)
          have := I.slot T ho hi he hyl hyd
          have e : F ops.size y = F z.j y := by
            have := T.F_const (d := y) (ops.size - z.j) z.j (by omega) (fun m h1 h2 hm => by
              have hom : ops[m]? = some ops[m] := Array.getElem?_eq_getElem (by omega)
              have := (q12 m _ (by simp; omega) hom).2 y (T.dstZ hom hm).1 hzx
              omega)
            rwa [show z.j + (ops.size - z.j) = ops.size by omega] at this
          show VR γ (F ops.size y) (a.tmps.getD y undef)
          rw [e]; exact this
      obtain ⟨f1, f2⟩ := T.fine z hz
      have hcl := hx.cells
      have hsize : (a.eval z.x).cells.size = z.n := by have := hcl.1; simp at this f1; omega
      have hst := run_storeCells_at (P := P) (pb z.i) 0 z.e (a.eval z.x).cells.toList 0 cur w r6 (by simp; omega) (hcl.one f2)
      have hd : a.eval (.tmp z.d) = .pointer (some ⟨pb z.i, 0, none⟩) := r1
      have hrun : (execOp a.eval o).run P w = .ok .skip (w.setRow (pb z.i) (cur.toList.take 0 ++ (a.eval z.x).cells.toList ++ cur.toList.drop (0 + (a.eval z.x).cells.toList.length)).toArray) := by
        obtain ⟨dst, op, ty, pos, after, guard⟩ := o
        simp only at q6
        subst q6
        simp only [Nat.add_zero, Nat.zero_add] at hst ⊢
        simp only [execOp, Instr.storeAt, hd, Instr.sureAddr, storeVar, Sem.run_bind, Sem.run_pure, Result.andThen_ok, run_size q14, hsize, ne_eq, not_true_eq_false, if_false, hst]
      have harr : (cur.toList.take 0 ++ (a.eval z.x).cells.toList ++ cur.toList.drop (0 + (a.eval z.x).cells.toList.length)).toArray = (a.eval z.x).cells := by
        rw [List.drop_of_length_le (by simp; omega)]
        simp
      rw [harr] at hrun
      refine upon_ok rfl hrun (hK _ _ γ p pb ?_)
      rw [q7]
      have hnop := T.nop z.j ⟨z, hz, .inr rfl⟩
      have hzj : ∀ z' ∈ fs, z'.j = z.j → z' = z := fun z' hz' e => T.apart z' hz' z hz (.inr (.inl e))
      have hzij : ∀ z' ∈ fs, z'.i ≠ z.j := fun z' hz' e => by
        have := T.apart z' hz' z hz (.inr (.inr e))
        subst this
        omega
      refine ⟨I.size, I.defers, I.closed.set (by rw [Array.getElem?_toList]; exact ho) he, I.plt, ?_, I.sim.besideSet r2 r5 r3 _, ?_, ?_, ?_, ?_⟩
      · intro k hk hck
        have hki : k ≠ z.j := by rintro rfl; rw [hnop] at hck; simp [X.nop, cls] at hck
        rw [setL_ne L hki]; exact I.chain k hk hck
      · intro d hd' k ok hk hkd hl
        have hki : k ≠ z.j := by rintro rfl; rw [ho] at hk; cases hk; rw [q7] at hkd; cases hkd
        rw [setL_ne L hki] at hl
        exact I.done d hd' k ok hk hkd hl
      · intro d hd' hall
        refine I.todo d hd' (fun k ok hk hkd => ?_)
        have hki : k ≠ z.j := by rintro rfl; rw [ho] at hk; cases hk; rw [q7] at hkd; cases hkd
        have := hall k ok hk hkd
        rwa [setL_ne L hki] at this
      · intro z' hz' hl
        rw [setL_ne L (hzij z' hz')] at hl
        obtain ⟨s1, s2, s3, s4, s5, cur', s6, s7, s8⟩ := I.pend z' hz' hl
        by_cases e : z'.i = z.i
        · have := T.apart z' hz' z hz (.inl e)
          subst this
          exact ⟨s1, s2, s3, by simpa using s4, s5, _, setRow_heap w (pb z'.i) cur _ z'.e (0, 0) r6, by rw [hsize], fun _ => hcl⟩
        · have hne := I.sep z' hz' z hz hl hli e
          refine ⟨s1, s2, s3, by simpa using s4, s5, cur', by rw [setRow_other w (pb z.i) _ _ hne]; exact s6, s7, fun hj => ?_⟩
          have : z'.j ≠ z.j := fun e' => e (by rw [hzj z' hz' e'])
          rw [setL_ne L this] at hj
          exact s8 hj
      · intro z1 hz1 z2 hz2 hl1 hl2 hne
        rw [setL_ne L (hzij z1 hz1)] at hl1
        rw [setL_ne L (hzij z2 hz2)] at hl2
        exact I.sep z1 hz1 z2 hz2 hl1 hl2 hne
    · -- any other
      have hnf : ∀ z ∈ fs, z.i ≠ i ∧ z.j ≠ i := fun z hz => ⟨fun e => hfz ⟨z, hz, e⟩, fun e => hfj ⟨z, hz, e⟩⟩
      obtain ⟨x, hcx, hxo, hxd, hxg⟩ := T.comp i o ho hnf
      obtain ⟨c1, c2, c3, _, c4⟩ := compOper_some hcx
      have hlf : ∀ d, d ∈ looks ops o → ∀ z ∈ fs, z.d ≠ d := by
        intro d hd z hz e
        obtain ⟨_, _, oi', oj', t', zc', p1, p2, p3, p4, p5, p6, p7, p8, p9, p10, p11, p12, _⟩ := fusedAt_some (T.fus z hz)
        rcases (p12 i o (by simpa using hilt) ho).1 with e' | e'
        · exact (hnf z hz).2 e'.symm
        · exact e' (by rw [e]; exact hd)
      have hslot : ∀ d, d ∈ looks ops o → VR γ (F i d) (a.tmps.getD d undef) := fun d hd => I.slot T ho hi he hd (hlf d hd)
      have hvo : VO γ (F i) a o.op.operands := by
        intro y hy hok
        cases y with
        | const u => exact okConst_refl hok
        | func g => exact .func g _ _ rfl fun i a b h => by simp at h
        | global g => simp [okOpd] at hok
        | tmp d =>
          refine hslot d ?_
          simp only [looks, List.mem_append, List.mem_filterMap]
          exact .inl ⟨.tmp d, hy, rfl⟩
      have hstep := T.step i hilt
      have hgd : ∀ d b, x.g = some (d, b) → VR γ (F i d) (a.tmps.getD d undef) := by
        intro d b hg
        refine hslot d ?_
        unfold guardSlot at c2
        split at c2
        · rw [hg] at c2; cases c2
        · rename_i j b' hgj
          split at c2
          · rename_i d' hd'
            rw [hg] at c2
            cases c2
            simp only [looks, hgj, List.mem_append]
            exact .inr (by rw [hd']; simp)
          · cases c2
      rw [want_iff (γ := γ) (f := F i) c2 hgd, ← hxg]
      have chain0 : cls (Z i).o < 2 → ∀ k, k < ops.size → 2 ≤ cls (Z k).o → (setL L i k = true ↔ k < p) := by
        intro hlt k hk hck
        have hki : k ≠ i := by rintro rfl; omega
        rw [setL_ne L hki]; exact I.chain k hk hck
      rcases xstep_some hstep with ⟨hw, v, hr, _, hF⟩ | ⟨hw, hF, hH⟩
      · rw [if_pos hw]
        left
        have hFd : ∀ d, o.dst = some d → F (i + 1) d = v := by
          intro d hd
          rw [hF, hxd, c3, hd]
          simp [updo, upd]
        rcases cls_cases (Z i).o with k0 | k1 | k2 | k3 | k4
        · rw [xrun_other (by omega)] at hr
          rw [hxo] at hr k0
          obtain ⟨_, nx, v', q1, q2, q3⟩ := pure_sound (w := w) c1 k0 hr hvo
          refine upon_ok q2 q1 (hK _ _ γ p pb (I.plain T ho hi he hnf I.plt (chain0 (by rw [hxo]; omega)) (fun d hd => ⟨c4 d hd, by rw [hFd d hd]; exact q3⟩) (Sim.refl I.sim.rel)))
        · rw [xrun_other (by omega)] at hr
          rw [hxo] at hr
          obtain ⟨_, y, n, off, sp, e1, e2, e3, e4⟩ := read_block (by rw [← hxo]; exact k1) hr
          have hyin := rd_in c1 e1
          have hyr := hvo y hyin.1 hyin.2
          rw [e2] at hyr
          obtain ⟨_, g, hg, _⟩ := hyr.ptr_inv
          have hnlt : n < (H p).length := by rw [← I.sim.rel.len]; exact (List.getElem?_eq_some_iff.1 hg).1
          have hget := I.read T ho hi he k1 hnlt e3
          have hr2 := e4 (H p) hget
          obtain ⟨_, nx, v', q1, q2, q3⟩ := read_sound c1 (by rw [← hxo]; exact k1) hr2 hvo I.sim.rel
          refine upon_ok q2 q1 (hK _ _ γ p pb (I.plain T ho hi he hnf I.plt (chain0 (by omega)) (fun d hd => ⟨c4 d hd, by rw [hFd d hd]; exact q3⟩) (Sim.refl I.sim.rel)))
        all_goals
          obtain ⟨hHp, hch⟩ := I.heap T ho hi he (by omega)
          rw [← hHp] at hr
          rw [hxo] at hr
          refine op_wp hS c1 hr hvo I.sim.rel fun γ' v' w' g1 g2 => hK _ _ γ' (i + 1) pb ?_
          exact I.plain T ho hi he hnf (by omega) hch (fun d hd => ⟨c4 d hd, by rw [hFd d hd]; exact g1⟩) g2
      · rw [if_neg (by rw [hw]; decide)]
        have hFd : ∀ d, o.dst = some d → F (i + 1) d = undef := by
          intro d hd
          rw [hF, hxd, c3, hd]
          simp [updo, upd]
        rcases Nat.lt_or_ge (cls (Z i).o) 2 with hlt | hge
        · exact hK _ _ γ p pb (I.plain T ho hi he hnf I.plt (chain0 hlt) (fun d hd => ⟨c4 d hd, by rw [hFd d hd]; exact VR.undef γ⟩) (Sim.refl I.sim.rel))
        · obtain ⟨hHp, hch⟩ := I.heap T ho hi he hge
          have S : Sim P B γ (H p) w γ (H (i + 1)) w := by rw [hH, ← hHp]; exact Sim.refl I.sim.rel
          exact hK _ _ γ (i + 1) pb (I.plain T ho hi he hnf (by omega) hch (fun d hd => ⟨c4 d hd, by rw [hFd d hd]; exact VR.undef γ⟩) S)

end Go.Proofs.Ytnjhhgfpclngcaa.X
