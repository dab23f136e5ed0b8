/- The abstract machine's soundness, part 11: a region whose order is open: its static facts, and memory beside the related one. -/
import Derived.Test.YtnjhhgfpclngcaaXDraw
set_option linter.unusedVariables false
set_option linter.unusedSimpArgs false
namespace Go.Proofs.Ytnjhhgfpclngcaa.X
open Go Go.RowKit

variable {P : Program} {B : Nat} {γ γ0 : List G} {h h' h0 : AH} {w w0 : World} {f f' : Fr} {a : Act} {v v' : Value} {C : FuncId → List Value → AH → Option (Value × AH)} {nt : Nat}

/-! ### Memory beside the related one -/
theorem own_lt (R : Rel P B γ h w) {b : Nat} (ho : Own γ h b) : b < w.heap.size := by
  obtain ⟨n, blk, g, h1, h2, h3, rfl⟩ := ho
  obtain ⟨_, _, _, ⟨cur, hc, _⟩, _⟩ := R.rw n blk g h1 h2 h3
  exact (Array.getElem?_eq_some_iff.1 hc).1

theorem Rel.besideAlloc (R : Rel P B γ h w) (o : Obj) : Rel P B γ h (w.alloc o) := by
  refine ⟨R.len, ?_, ?_, R.ro, R.inj, by simp; have := R.base; omega⟩
  · intro n b g hb hg j v hv
    obtain ⟨h3, v', h4, h5⟩ := R.cell n b g hb hg j v hv
    exact ⟨h3, v', cell_old R hb hg _ h4, h5⟩
  · intro n b g hb hg hr
    obtain ⟨h3, h4, h5, ⟨cur', h6, h7⟩, h8⟩ := R.rw n b g hb hg hr
    exact ⟨h3, h4, h5, ⟨cur', by rw [heap_alloc_old w _ (Array.getElem?_eq_some_iff.1 h6).1]; exact h6, h7⟩, h8⟩
theorem Sim.besideAlloc (S : Sim P B γ0 h0 w0 γ h w) (o : Obj) : Sim P B γ0 h0 w0 γ h (w.alloc o) := by
  refine ⟨S.rel.besideAlloc o, S.ext, by simp; have := S.size; omega, fun b hb hn => ?_, S.own, S.os, S.tape, S.output⟩
  rw [heap_alloc_old w _ (Nat.lt_of_lt_of_le hb S.size)]
  exact S.frame b hb hn

theorem Rel.besideSet (R : Rel P B γ h w) {b : Nat} (hB : B ≤ b) (hno : ¬ Own γ h b) (arr : Array Value) : Rel P B γ h (w.setRow b arr) := by
  have hne : ∀ n blk g, h.get n = some blk → γ[n]? = some g → g.b ≠ b := by
    intro n blk g h1 h2 e
    cases hr : blk.ro with
    | true => have := R.ro n blk g h1 h2 hr; omega
    | false => exact hno ⟨n, blk, g, h1, h2, hr, e⟩
  refine ⟨R.len, ?_, ?_, R.ro, R.inj, by simpa using R.base⟩
  · intro n blk g hb hg j v hv
    obtain ⟨h3, v', h4, h5⟩ := R.cell n blk g hb hg j v hv
    exact ⟨h3, v', by rw [cell_setRow_other w b arr _ (hne n blk g hb hg)]; exact h4, h5⟩
  · intro n blk g hb hg hr
    obtain ⟨h3, h4, h5, ⟨cur', h6, h7⟩, h8⟩ := R.rw n blk g hb hg hr
    exact ⟨h3, h4, h5, ⟨cur', by rw [setRow_other w b g.b arr (hne n blk g hb hg)]; exact h6, h7⟩, h8⟩
theorem Sim.besideSet (S : Sim P B γ0 h0 w0 γ h w) {b : Nat} (hB : B ≤ b) (hno : ¬ Own γ h b) (hnew : w0.heap.size ≤ b) (arr : Array Value) : Sim P B γ0 h0 w0 γ h (w.setRow b arr) := by
  refine ⟨S.rel.besideSet hB hno arr, S.ext, by simpa using S.size, fun k hk hn => ?_, S.own, S.os, S.tape, S.output⟩
  rw [setRow_other w b k arr (by omega)]
  exact S.frame k hk hn

/-- A block of memory that nobody has is taken in. -/
theorem Sim.adopt (S : Sim P B γ0 h0 w0 γ h w) {b : Nat} (hB : B ≤ b) (hno : ¬ Own γ h b) (hnew : w0.heap.size ≤ b) (c : List Value) (e : TypeId) (cur : Array Value)
    (hcur : w.heap[b]? = some (.cells cur e (0, 0))) (hone : c.all isOne = true) (hrel : VRL γ c cur.toList) :
    Sim P B γ0 h0 w0 (γ ++ [⟨b, 0, c.length⟩]) (h.new ⟨c, e, false, true⟩) w := by
  have R := S.rel
  have hpre : γ <+: γ ++ [(⟨b, 0, c.length⟩ : G)] := List.prefix_append _ _
  have hcl : cur.size = c.length := by have := hrel.1; simpa using this.symm
  have old : ∀ n blk g, (h.new ⟨c, e, false, true⟩).get n = some blk → (γ ++ [(⟨b, 0, c.length⟩ : G)])[n]? = some g →
      (h.get n = some blk ∧ γ[n]? = some g) ∨ (n = h.length ∧ blk = ⟨c, e, false, true⟩ ∧ g = ⟨b, 0, c.length⟩) := by
    intro n blk g hb hg
    rcases get_new_cases hb with h1 | ⟨h1, h2⟩
    · have hl := get_lt h1
      rw [List.getElem?_append_left (by rw [R.len]; exact hl)] at hg
      exact .inl ⟨h1, hg⟩
    · subst h1
      rw [← R.len, List.getElem?_concat_length] at hg
      exact .inr ⟨rfl, h2, (Option.some.inj hg).symm⟩
  refine ⟨⟨by simp [AH.new, R.len], ?_, ?_, ?_, ?_, R.base⟩, S.ext.trans hpre, S.size, S.frame, ?_, S.os, S.tape, S.output⟩
  · intro n blk g hb hg j v hv
    rcases old n blk g hb hg with ⟨h1, h2⟩ | ⟨rfl, rfl, rfl⟩
    · obtain ⟨h3, v', h4, h5⟩ := R.cell n blk g h1 h2 j v hv
      exact ⟨h3, v', h4, h5.mono hpre⟩
    · refine ⟨List.all_eq_true.1 hone v (List.mem_iff_getElem?.2 ⟨j, hv⟩), ?_⟩
      obtain ⟨v', h1, h2⟩ := hrel.get hv
      exact ⟨v', by rw [Nat.zero_add, cell_of_row w b j cur e (0, 0) hcur, ← Array.getElem?_toList]; exact h1, h2.mono hpre⟩
  · intro n blk g hb hg hr
    rcases old n blk g hb hg with ⟨h1, h2⟩ | ⟨rfl, rfl, rfl⟩
    · exact R.rw n blk g h1 h2 hr
    · exact ⟨rfl, hB, Nat.le_refl _, ⟨cur, hcur, hcl⟩, fun _ => rfl, by simp⟩
  · intro n blk g hb hg hr
    rcases old n blk g hb hg with ⟨h1, h2⟩ | ⟨rfl, rfl, rfl⟩
    · exact R.ro n blk g h1 h2 hr
    · simp at hr
  · intro n m bn bm g g' hn hm hgn hgm rn rm e'
    rcases old n bn g hn hgn with ⟨h1, h2⟩ | ⟨rfl, rfl, rfl⟩ <;> rcases old m bm g' hm hgm with ⟨h3, h4⟩ | ⟨rfl, rfl, rfl⟩
    · exact R.inj n m bn bm g g' h1 h3 h2 h4 rn rm e'
    · exact absurd ⟨n, bn, g, h1, h2, rn, e'⟩ hno
    · exact absurd ⟨m, bm, g', h3, h4, rm, e'.symm⟩ hno
    · rfl
  · rintro k ⟨n, blk, g, h1, h2, h3, h4⟩
    rcases old n blk g h1 h2 with ⟨h5, h6⟩ | ⟨rfl, rfl, rfl⟩
    · exact S.own k ⟨n, blk, g, h5, h6, h3, h4⟩
    · right; simp at h4; omega

/-! ### The static facts of a region -/
theorem compOpers_get {ops : Array Oper} : ∀ (l : List Oper) (xs : List XI), compOpers P nt ops l = some xs → xs.length = l.length ∧ ∀ (i : Nat) (o : Oper), l[i]? = some o → ∃ x, xs[i]? = some x ∧ compOper P nt ops o = some x
  | [], xs, hc => by simp [compOpers] at hc; subst hc; exact ⟨rfl, fun i o hi => by simp at hi⟩
  | o :: l, xs, hc => by
    simp only [compOpers] at hc
    split at hc
    · rename_i x xs' h1 h2
      cases hc
      obtain ⟨e1, e2⟩ := compOpers_get l xs' h2
      refine ⟨by simp [e1], fun i o' hi => ?_⟩
      cases i with
      | zero => simp at hi; subst hi; exact ⟨x, rfl, h1⟩
      | succ i => simpa using e2 i o' (by simpa using hi)
    · cases hc

theorem nodup_dst {α : Type} {g : α → Option Nat} : ∀ (l : List α), (l.filterMap g).Nodup → ∀ (i j : Nat) (x y : α) (d : Nat), l[i]? = some x → l[j]? = some y → g x = some d → g y = some d → i = j
  | [], _, i, j, x, y, d, hi, _, _, _ => by simp at hi
  | z :: l, hn, i, j, x, y, d, hi, hj, hx, hy => by
    have hn' : (l.filterMap g).Nodup := by
      cases hz : g z with
      | none => rw [List.filterMap_cons_none hz] at hn; exact hn
      | some d' => rw [List.filterMap_cons_some hz] at hn; exact (List.nodup_cons.1 hn).2
    have hin : ∀ (k : Nat) (u : α), l[k]? = some u → g u = some d → g z ≠ some d := by
      intro k u hk hu hz
      rw [List.filterMap_cons_some hz] at hn
      exact (List.nodup_cons.1 hn).1 (List.mem_filterMap.2 ⟨u, List.mem_iff_getElem?.2 ⟨k, hk⟩, hu⟩)
    cases i with
    | zero =>
      cases j with
      | zero => rfl
      | succ j =>
        simp at hi hj
        subst hi
        exact absurd hx (hin j y hj hy)
    | succ i =>
      cases j with
      | zero =>
        simp at hi hj
        subst hj
        exact absurd hy (hin i x hi hx)
      | succ j =>
        have := nodup_dst l hn' i j x y d (by simpa using hi) (by simpa using hj) hx hy
        omega

theorem fusedAt_some {ops : Array Oper} {os : List Oper} {i j : Nat} {z : Fused} (hz : fusedAt P ops os i j = some z) : z.i = i ∧ z.j = j ∧
    ∃ oi oj t zc, ops[i]? = some oi ∧ ops[j]? = some oj ∧ oi.op = .alloc z.e ∧ oi.dst = some z.d ∧ oi.guard = none ∧ oj.op = .store t (.tmp z.d) z.x ∧ oj.dst = none ∧ oj.guard = none ∧ i < j ∧ okOpd z.x = true ∧
      z.x ≠ .tmp z.d ∧ (∀ k o, k < os.length → ops[k]? = some o → (k = j ∨ z.d ∉ looks ops o) ∧ (∀ y, o.dst = some y → z.x = .tmp y → k < j)) ∧ zeroT P z.e = some zc ∧ sizeT P t = some z.n ∧ zc.length = z.n := by
  unfold fusedAt at hz
  split at hz
  · rename_i oi oj hi hj
    split at hz
    · rename_i e d t d' x e1 e2 e3 e4 e5 e6
      obtain ⟨h1, h2⟩ := ite_none hz
      simp only [Bool.and_eq_true, decide_eq_true_eq, beq_iff_eq] at h1
      obtain ⟨⟨⟨⟨hij, rfl⟩, hok⟩, hxd⟩, hall⟩ := h1
      split at h2
      · rename_i zc n hzc hn
        obtain ⟨h3, rfl⟩ := ite_some h2
        refine ⟨rfl, rfl, oi, oj, t, zc, hi, hj, e1, e2, e3, e4, e5, e6, hij, hok, ?_, ?_, hzc, hn, by simpa using h3⟩
        · intro hx
          have hx' : x = .tmp d := hx
          rw [hx'] at hxd
          simp at hxd
        · intro k o hk ho
          have := List.all_eq_true.1 hall k (by simpa using hk)
          rw [ho] at this
          simp only [Bool.and_eq_true, Bool.or_eq_true, beq_iff_eq, Bool.not_eq_true', decide_eq_true_eq, Option.isNone_iff_eq_none, bne_iff_ne, ne_eq] at this
          refine ⟨this.1.imp id (fun h => by simpa using h), fun y hy hx => ?_⟩
          rcases this.2 with (h4 | h4) | h4
          · rw [hy] at h4; cases h4
          · have hx' : x = .tmp y := hx
            exact absurd (by rw [hy, hx']; rfl) h4
          · exact h4
      · cases h2
    · cases hz
  · cases hz

theorem fusedOf_mem {ops : Array Oper} {z : Fused} (hz : z ∈ fusedOf P ops) : fusedAt P ops ops.toList z.i z.j = some z := by
  simp only [fusedOf, List.mem_flatMap, List.mem_filterMap, List.mem_range] at hz
  obtain ⟨i, _, j, _, h1⟩ := hz
  obtain ⟨e1, e2, _⟩ := fusedAt_some h1
  rw [e1, e2]; exact h1

end Go.Proofs.Ytnjhhgfpclngcaa.X
