/- The abstract machine's soundness, part 2: what a new block, a store and an append do to the relation of an abstract heap and a world. -/
import Derived.Test.YtnjhhgfpclngcaaXVR
set_option linter.unusedVariables false
set_option linter.unusedSimpArgs false
namespace Go.Proofs.Ytnjhhgfpclngcaa.X
open Go Go.RowKit

variable {P : Program} {B : Nat} {γ : List G} {h : AH} {w : World}

theorem Rel.kill (R : Rel P B γ h w) (n : Nat) : Rel P B γ (h.kill n) w :=
  ⟨by simp [AH.kill, R.len],
   fun m b g hb => R.cell m b g (get_kill_cases hb).1,
   fun m b g hb => R.rw m b g (get_kill_cases hb).1,
   fun m b g hb => R.ro m b g (get_kill_cases hb).1,
   fun m k bm bk g g' hm hk => R.inj m k bm bk g g' (get_kill_cases hm).1 (get_kill_cases hk).1,
   R.base⟩
theorem Sim.killed (R : Rel P B γ h w) (n : Nat) : Sim P B γ h w γ (h.kill n) w :=
  ⟨R.kill n, List.prefix_refl _, Nat.le_refl _, fun _ _ _ => rfl, fun b hb => by
    obtain ⟨m, blk, g, h1, h2, h3, h4⟩ := hb
    exact .inl ⟨m, blk, g, (get_kill_cases h1).1, h2, h3, h4⟩, rfl, rfl, rfl⟩

/-- The world has only drawn. -/
theorem Rel.drew (R : Rel P B γ h w) : Rel P B γ h w.drew := ⟨R.len, R.cell, R.rw, R.ro, R.inj, R.base⟩
theorem Sim.drawn (R : Rel P B γ h w) : Sim P B γ h w γ h w.drew := ⟨R.drew, List.prefix_refl _, Nat.le_refl _, fun _ _ _ => rfl, fun b hb => .inl hb, rfl, rfl, rfl⟩

theorem cell_old (R : Rel P B γ h w) {n : Nat} {b : Blk} {g : G} (hb : h.get n = some b) (hg : γ[n]? = some g) (o : Obj) {j : Nat} {v : Value} (hv : w.cell? ⟨g.b, g.o + j, none⟩ = some v) :
    (w.alloc o).cell? ⟨g.b, g.o + j, none⟩ = some v := by
  rw [World.cell?_alloc_lt _ _ _ (World.block_lt_of_cell? w ⟨g.b, g.o + j, none⟩ hv)]; exact hv

theorem Sim.alloc (R : Rel P B γ h w) (c : List Value) (e : TypeId) (full : Bool) (cur : Array Value) (hone : c.all isOne = true)
    (hrel : ∀ (j : Nat) (v : Value), c[j]? = some v → ∃ v', cur[j]? = some v' ∧ VR γ v v') (hl : c.length ≤ cur.size) (hfull : full = true → cur.size = c.length)
    (hdiv : full = false → ∃ k, cur.size = k * P.cellsOf e ∧ k ≤ maxLen) :
    Sim P B γ h w (γ ++ [⟨w.heap.size, 0, cur.size⟩]) (h.new ⟨c, e, false, full⟩) (w.alloc (.cells cur e)) := by
  have hpre : γ <+: γ ++ [(⟨w.heap.size, 0, cur.size⟩ : G)] := List.prefix_append _ _
  have hg_cases : ∀ n g, (γ ++ [(⟨w.heap.size, 0, cur.size⟩ : G)])[n]? = some g → (n < h.length ∧ γ[n]? = some g) ∨ (n = h.length ∧ g = ⟨w.heap.size, 0, cur.size⟩) := by
    intro n g hg
    by_cases hn : n < γ.length
    · rw [List.getElem?_append_left hn] at hg
      exact .inl ⟨by rw [← R.len]; exact hn, hg⟩
    · rw [List.getElem?_append_right (by omega)] at hg
      have hl := (List.getElem?_eq_some_iff.1 hg).1
      simp at hl
      have : n = γ.length := by omega
      subst this
      simp at hg
      exact .inr ⟨R.len, hg.symm⟩
  have old : ∀ n b g, (h.new ⟨c, e, false, full⟩).get n = some b → (γ ++ [(⟨w.heap.size, 0, cur.size⟩ : G)])[n]? = some g →
      (h.get n = some b ∧ γ[n]? = some g) ∨ (n = h.length ∧ b = ⟨c, e, false, full⟩ ∧ g = ⟨w.heap.size, 0, cur.size⟩) := by
    intro n b g hb hg
    rcases get_new_cases hb with h1 | ⟨h1, h2⟩
    · rcases hg_cases n g hg with ⟨_, h3⟩ | ⟨h3, _⟩
      · exact .inl ⟨h1, h3⟩
      · have := get_lt h1; omega
    · rcases hg_cases n g hg with ⟨h3, _⟩ | ⟨_, h3⟩
      · omega
      · exact .inr ⟨h1, h2, h3⟩
  have blt : ∀ n b g, h.get n = some b → γ[n]? = some g → b.ro = false → g.b < w.heap.size := by
    intro n b g hb hg hr
    obtain ⟨_, _, _, ⟨cur', hc, _⟩, _⟩ := R.rw n b g hb hg hr
    exact (Array.getElem?_eq_some_iff.1 hc).1
  refine ⟨⟨by simp [AH.new, R.len], ?_, ?_, ?_, ?_, by simp; have := R.base; omega⟩, hpre, by simp, ?_, ?_, rfl, rfl, rfl⟩
  · intro n b g hb hg j v hv
    rcases old n b g hb hg with ⟨h1, h2⟩ | ⟨rfl, rfl, rfl⟩
    · obtain ⟨h3, v', h4, h5⟩ := R.cell n b g h1 h2 j v hv
      exact ⟨h3, v', cell_old R h1 h2 _ h4, h5.mono hpre⟩
    · refine ⟨List.all_eq_true.1 hone v (List.mem_iff_getElem?.2 ⟨j, hv⟩), ?_⟩
      obtain ⟨v', h1, h2⟩ := hrel j v hv
      exact ⟨v', by simpa using h1, h2.mono hpre⟩
  · intro n b g hb hg hr
    rcases old n b g hb hg with ⟨h1, h2⟩ | ⟨rfl, rfl, rfl⟩
    · obtain ⟨h3, h4, h5, ⟨cur', h6, h7⟩, h8, h9⟩ := R.rw n b g h1 h2 hr
      exact ⟨h3, h4, h5, ⟨cur', by rw [heap_alloc_old w _ (blt n b g h1 h2 hr)]; exact h6, h7⟩, h8, h9⟩
    · exact ⟨rfl, R.base, hl, ⟨cur, heap_alloc_new w _, rfl⟩, hfull, hdiv⟩
  · intro n b g hb hg hr
    rcases old n b g hb hg with ⟨h1, h2⟩ | ⟨rfl, rfl, rfl⟩
    · exact R.ro n b g h1 h2 hr
    · simp at hr
  · intro n m bn bm g g' hn hm hgn hgm rn rm e
    rcases old n bn g hn hgn with ⟨h1, h2⟩ | ⟨rfl, rfl, rfl⟩ <;> rcases old m bm g' hm hgm with ⟨h3, h4⟩ | ⟨rfl, rfl, rfl⟩
    · exact R.inj n m bn bm g g' h1 h3 h2 h4 rn rm e
    · have := blt n bn g h1 h2 rn; simp at e; omega
    · have := blt m bm g' h3 h4 rm; simp at e; omega
    · rfl
  · intro k hk _
    exact heap_alloc_old w _ hk
  · rintro k ⟨n, blk, g, h1, h2, h3, h4⟩
    rcases old n blk g h1 h2 with ⟨h5, h6⟩ | ⟨rfl, rfl, rfl⟩
    · exact .inl ⟨n, blk, g, h5, h6, h3, h4⟩
    · right; simp at h4; omega

/-- A new block whose cells are all that its memory has. -/
theorem Sim.made (R : Rel P B γ h w) (c cs : List Value) (e : TypeId) (hone : c.all isOne = true) (hrel : VRL γ c cs) :
    Sim P B γ h w (γ ++ [⟨w.heap.size, 0, c.length⟩]) (h.new ⟨c, e, false, true⟩) (w.alloc (.cells cs.toArray e)) := by
  have := Sim.alloc R c e true cs.toArray hone (fun j v hv => by
    obtain ⟨b, h1, h2⟩ := hrel.get hv
    exact ⟨b, by simpa using h1, h2⟩) (by simp [hrel.1]) (fun _ => by simp [hrel.1]) (by simp)
  rwa [show cs.toArray.size = c.length by simp [hrel.1]] at this

/-- The one row of memory that belongs to block n is written; n itself gives way to other blocks over the same memory. -/
theorem Rel.rewritten (R : Rel P B γ h w) {n : Nat} {b : Blk} {g : G} (hb : h.get n = some b) (hg : γ[n]? = some g) (hro : b.ro = false) (arr : Array Value)
    {m : Nat} {c : Blk} {k : G} (hm : h.get m = some c) (hk : γ[m]? = some k) (hne : m ≠ n) :
    (∀ j v, w.cell? ⟨k.b, k.o + j, none⟩ = some v → (w.setRow g.b arr).cell? ⟨k.b, k.o + j, none⟩ = some v) ∧ (w.setRow g.b arr).heap[k.b]? = w.heap[k.b]? := by
  have hne' : k.b ≠ g.b := by
    intro e
    cases hc : c.ro with
    | false => exact hne (R.inj m n c b k g hm hb hk hg hc hro e)
    | true =>
      have h1 := R.ro m c k hm hk hc
      have h2 := (R.rw n b g hb hg hro).2.1
      omega
  exact ⟨fun j v hv => by rw [cell_setRow_other w g.b arr _ hne']; exact hv, setRow_other w g.b k.b arr hne'⟩

theorem Sim.stored (R : Rel P B γ h w) {n : Nat} {b : Blk} {g : G} (hb : h.get n = some b) (hg : γ[n]? = some g) (hro : b.ro = false) (c : List Value) (arr cur : Array Value)
    (hcur : w.heap[g.b]? = some (.cells cur b.e (0, 0))) (hlen : c.length = b.c.length) (hsize : arr.size = cur.size) (hone : c.all isOne = true)
    (hrel : ∀ (j : Nat) (v : Value), c[j]? = some v → ∃ v', arr[j]? = some v' ∧ VR γ v v') :
    Sim P B γ h w γ (h.set n (some { b with c := c })) (w.setRow g.b arr) := by
  obtain ⟨ho, hB, hcap, ⟨cur', hc', hcs'⟩, hfull, hdiv⟩ := R.rw n b g hb hg hro
  rw [hcur] at hc'
  simp only [Option.some.injEq, Obj.cells.injEq, and_true] at hc'
  subst hc'
  have old : ∀ m c', AH.get (h.set n (some { b with c := c })) m = some c' → (m ≠ n ∧ h.get m = some c') ∨ (m = n ∧ c' = { b with c := c }) := by
    intro m c' hm
    by_cases e : m = n
    · subst e
      rw [get_set_self hb] at hm
      exact .inr ⟨rfl, (Option.some.inj hm).symm⟩
    · rw [get_set_ne e] at hm
      exact .inl ⟨e, hm⟩
  refine ⟨⟨by simp [R.len], ?_, ?_, ?_, ?_, by simpa using R.base⟩, List.prefix_refl _, by simp, ?_, ?_, rfl, rfl, rfl⟩
  · intro m c' k hm hk j v hv
    rcases old m c' hm with ⟨h1, h2⟩ | ⟨rfl, rfl⟩
    · obtain ⟨h3, v', h4, h5⟩ := R.cell m c' k h2 hk j v hv
      exact ⟨h3, v', (R.rewritten hb hg hro arr h2 hk h1).1 j v' h4, h5⟩
    · rw [hg] at hk; cases hk
      refine ⟨List.all_eq_true.1 hone v (List.mem_iff_getElem?.2 ⟨j, hv⟩), ?_⟩
      obtain ⟨v', h1, h2⟩ := hrel j v hv
      exact ⟨v', by rw [ho, Nat.zero_add, cell_setRow_same w g.b j cur arr b.e (0, 0) hcur]; exact h1, h2⟩
  · intro m c' k hm hk hr
    rcases old m c' hm with ⟨h1, h2⟩ | ⟨rfl, rfl⟩
    · obtain ⟨h3, h4, h5, ⟨cur2, h6, h7⟩, h8⟩ := R.rw m c' k h2 hk hr
      exact ⟨h3, h4, h5, ⟨cur2, by rw [(R.rewritten hb hg hro arr h2 hk h1).2]; exact h6, h7⟩, h8⟩
    · rw [hg] at hk; cases hk
      exact ⟨ho, hB, by simpa [hlen] using hcap, ⟨arr, setRow_heap w g.b cur arr b.e (0, 0) hcur, by omega⟩, fun e => by simpa [hlen] using hfull e, hdiv⟩
  · intro m c' k hm hk hr
    rcases old m c' hm with ⟨h1, h2⟩ | ⟨rfl, rfl⟩
    · exact R.ro m c' k h2 hk hr
    · simp [hro] at hr
  · intro m m' bm bm' k k' hm hm' hk hk' rm rm' e
    rcases old m bm hm with ⟨h1, h2⟩ | ⟨rfl, rfl⟩ <;> rcases old m' bm' hm' with ⟨h3, h4⟩ | ⟨rfl, rfl⟩
    · exact R.inj m m' bm bm' k k' h2 h4 hk hk' rm rm' e
    · exact R.inj m m' bm b k k' h2 hb hk hk' rm hro e
    · exact R.inj m m' b bm' k k' hb h4 hk hk' hro rm' e
    · rfl
  · intro k hk hno
    refine setRow_other w g.b k arr (fun e => hno ⟨n, b, g, hb, hg, hro, e.symm⟩)
  · rintro k ⟨m, c', k', h1, h2, h3, h4⟩
    rcases old m c' h1 with ⟨h5, h6⟩ | ⟨rfl, rfl⟩
    · exact .inl ⟨m, c', k', h6, h2, h3, h4⟩
    · exact .inl ⟨m, b, k', hb, h2, hro, h4⟩

/-- An append in place: the old block dies, a new one lies over the same memory. -/
theorem Sim.onto (R : Rel P B γ h w) {n : Nat} {b : Blk} {g : G} (hb : h.get n = some b) (hg : γ[n]? = some g) (hro : b.ro = false) (hnf : b.full = false) (c : List Value) (arr cur : Array Value)
    (hcur : w.heap[g.b]? = some (.cells cur b.e (0, 0))) (hlen : c.length ≤ g.cap) (hsize : arr.size = cur.size) (hone : c.all isOne = true)
    (hrel : ∀ (j : Nat) (v : Value), c[j]? = some v → ∃ v', arr[j]? = some v' ∧ VR γ v v') :
    Sim P B γ h w (γ ++ [g]) ((h.kill n).new ⟨c, b.e, false, false⟩) (w.setRow g.b arr) := by
  obtain ⟨ho, hB, hcap, ⟨cur', hc', hcs'⟩, hfull, hdiv⟩ := R.rw n b g hb hg hro
  rw [hcur] at hc'
  simp only [Option.some.injEq, Obj.cells.injEq, and_true] at hc'
  subst hc'
  have hkl : (h.kill n).length = h.length := by simp [AH.kill]
  have hpre : γ <+: γ ++ [g] := List.prefix_append _ _
  have old : ∀ m c' k, ((h.kill n).new ⟨c, b.e, false, false⟩).get m = some c' → (γ ++ [g])[m]? = some k →
      (m ≠ n ∧ h.get m = some c' ∧ γ[m]? = some k) ∨ (m = h.length ∧ c' = ⟨c, b.e, false, false⟩ ∧ k = g) := by
    intro m c' k hm hk
    rcases get_new_cases hm with h1 | ⟨h1, h2⟩
    · obtain ⟨h3, h4⟩ := get_kill_cases h1
      have hl := get_lt h3
      rw [List.getElem?_append_left (by rw [R.len]; exact hl)] at hk
      exact .inl ⟨h4, h3, hk⟩
    · rw [hkl] at h1
      subst h1
      rw [← R.len, List.getElem?_concat_length] at hk
      exact .inr ⟨rfl, h2, (Option.some.inj hk).symm⟩
  refine ⟨⟨by simp [AH.new, AH.kill, R.len], ?_, ?_, ?_, ?_, by simpa using R.base⟩, hpre, by simp, ?_, ?_, rfl, rfl, rfl⟩
  · intro m c' k hm hk j v hv
    rcases old m c' k hm hk with ⟨h1, h2, h2'⟩ | ⟨rfl, rfl, rfl⟩
    · obtain ⟨h3, v', h4, h5⟩ := R.cell m c' k h2 h2' j v hv
      exact ⟨h3, v', (R.rewritten hb hg hro arr h2 h2' h1).1 j v' h4, h5.mono hpre⟩
    · refine ⟨List.all_eq_true.1 hone v (List.mem_iff_getElem?.2 ⟨j, hv⟩), ?_⟩
      obtain ⟨v', h1, h2⟩ := hrel j v hv
      exact ⟨v', by rw [ho, Nat.zero_add, cell_setRow_same w k.b j cur arr b.e (0, 0) hcur]; exact h1, h2.mono hpre⟩
  · intro m c' k hm hk hr
    rcases old m c' k hm hk with ⟨h1, h2, h2'⟩ | ⟨rfl, rfl, rfl⟩
    · obtain ⟨h3, h4, h5, ⟨cur2, h6, h7⟩, h8⟩ := R.rw m c' k h2 h2' hr
      exact ⟨h3, h4, h5, ⟨cur2, by rw [(R.rewritten hb hg hro arr h2 h2' h1).2]; exact h6, h7⟩, h8⟩
    · exact ⟨ho, hB, hlen, ⟨arr, setRow_heap w k.b cur arr b.e (0, 0) hcur, by omega⟩, by simp, fun _ => hdiv hnf⟩
  · intro m c' k hm hk hr
    rcases old m c' k hm hk with ⟨h1, h2, h2'⟩ | ⟨rfl, rfl, rfl⟩
    · exact R.ro m c' k h2 h2' hr
    · simp at hr
  · intro m m' bm bm' k k' hm hm' hk hk' rm rm' e
    rcases old m bm k hm hk with ⟨h1, h2, h2'⟩ | ⟨rfl, rfl, rfl⟩ <;> rcases old m' bm' k' hm' hk' with ⟨h3, h4, h4'⟩ | ⟨rfl, rfl, rfl⟩
    · exact R.inj m m' bm bm' k k' h2 h4 h2' h4' rm rm' e
    · exact absurd (R.inj m n bm b k k' h2 hb h2' hg rm hro e) h1
    · exact absurd (R.inj m' n bm' b k' k h4 hb h4' hg rm' hro e.symm) h3
    · rfl
  · intro k hk hno
    exact setRow_other w g.b k arr (fun e => hno ⟨n, b, g, hb, hg, hro, e.symm⟩)
  · rintro k ⟨m, c', k', h1, h2, h3, h4⟩
    rcases old m c' k' h1 h2 with ⟨h5, h6, h6'⟩ | ⟨rfl, rfl, rfl⟩
    · exact .inl ⟨m, c', k', h6, h6', h3, h4⟩
    · exact .inl ⟨n, b, k', hb, hg, hro, h4⟩

end Go.Proofs.Ytnjhhgfpclngcaa.X
