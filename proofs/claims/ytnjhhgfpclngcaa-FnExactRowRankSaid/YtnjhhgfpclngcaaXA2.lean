/- From the readings of lists, and of lists of lists, to the first heap. -/
import Derived.Test.YtnjhhgfpclngcaaXArgs
import Derived.Test.YtnjhhgfpclngcaaXF16
set_option linter.unusedVariables false
set_option linter.unusedSimpArgs false
namespace Go.Proofs.Ytnjhhgfpclngcaa.X
open Go Go.RowKit Go.ChangeShapes Go.WideShapes Go.Deep

section
variable {H : Type} {enc : TypeId × Value → H} {P : Program} {W : World}

theorem cells_of_slice {t e : TypeId} {v : Value} {r : Reach} {base : Nat} (ht : P.underlying t = some (.slice e)) (hval : Value.okWide P W r base t v) : v.cells.toList = [v] := by
  cases v with
  | agg cs => simp [Value.okWide, ht, Cell.okWide, Cell.ok] at hval
  | _ => rfl

def isIntS (P : Program) (t e : TypeId) : Bool := tySlice P t e && tyInt P e && P.cellsOf e == 1
def isIntSS (P : Program) (t s e : TypeId) : Bool := tySlice P t s && P.cellsOf s == 1 && isIntS P s e

theorem adm_list {γ : List G} {h : AH} (A : Adm P W γ h) {t : TypeId} (e : TypeId) (hk : isIntS P t e = true) {v : Value} {d : DataW H} {ps : List MemPlace} {r : Reach} {base : Nat} (hval : Value.okWide P W r base t v)
    (hx : DataW.Trod enc P W 0 (fun _ => true) true t v d ps) :
    ∃ ns u γ' h', γ <+: γ' ∧ h <+: h' ∧ Adm P W γ' h' ∧ VR γ' u v ∧ Ints h' u ns ∧ ns.length ≤ maxLen := by
  simp only [isIntS, Bool.and_eq_true, beq_iff_eq] at hk
  obtain ⟨⟨k1, k2⟩, k3⟩ := hk
  obtain ⟨n, hx⟩ := hx
  obtain ⟨v', u, ns, γ', h', e1, q1, q2, q3, q4, q5, q6⟩ := adm_ints A (tySlice_eq k1) (tyInt_eq k2) k3 hx
  rw [cells_of_slice (tySlice_eq k1) hval] at e1
  have e1 : v = v' := by simpa using e1
  subst e1
  exact ⟨ns, u, γ', h', q1, q2, q3, q4, q5, q6⟩

theorem getD_snoc {α : Type} {l : List α} {x d : α} {j : Nat} : (l ++ [x]).getD j d = if j < l.length then l.getD j d else if j = l.length then x else d := by
  rw [List.getD_eq_getElem?_getD, List.getD_eq_getElem?_getD]
  by_cases h : j < l.length
  · rw [List.getElem?_append_left h, if_pos h]
  · rw [List.getElem?_append_right (by omega), if_neg h]
    split
    · rename_i e
      simp [e]
    · rw [List.getElem?_eq_none (by simp; omega)]
      rfl

theorem adm_many {γ : List G} {h : AH} (A : Adm P W γ h) {e e' : TypeId} (he : isIntS P e e' = true) {V : Nat → Value} {len n : Nat} (hr : ∀ i, i < len → ∃ x : DataW H × List MemPlace, DataW.trod enc P W 0 (fun _ => true) true n e [V i] = some x) :
    ∀ k, k ≤ len → ∃ (γ' : List G) (h' : AH) (cs : List Value) (rows : List (List Int)), γ <+: γ' ∧ h <+: h' ∧ Adm P W γ' h' ∧ cs.length = k ∧ rows.length = k ∧
      ∀ j, j < k → VR γ' (cs.getD j undef) (V j) ∧ Ints h' (cs.getD j undef) (rows.getD j []) ∧ (rows.getD j []).length ≤ maxLen
  | 0, _ => ⟨γ, h, [], [], List.prefix_refl _, List.prefix_refl _, A, rfl, rfl, fun j hj => by omega⟩
  | k + 1, hk => by
    obtain ⟨γ1, h1, cs, rows, q1, q2, q3, q4, q5, q6⟩ := adm_many A he hr k (by omega)
    have he' := he
    simp only [isIntS, Bool.and_eq_true, beq_iff_eq] at he'
    obtain ⟨⟨k1, k2⟩, k3⟩ := he'
    obtain ⟨x, hx⟩ := hr k (by omega)
    obtain ⟨v', u, ns, γ2, h2, e1, r1, r2, r3, r4, r5, r6⟩ := adm_ints q3 (tySlice_eq k1) (tyInt_eq k2) k3 hx
    have e1 : V k = v' := by simpa using e1
    subst e1
    refine ⟨γ2, h2, cs ++ [u], rows ++ [ns], q1.trans r1, q2.trans r2, r3, by simp [q4], by simp [q5], fun j hj => ?_⟩
    rw [getD_snoc, getD_snoc, q4, q5]
    by_cases hjk : j < k
    · rw [if_pos hjk, if_pos hjk]
      obtain ⟨a1, a2, a3⟩ := q6 j hjk
      exact ⟨a1.mono r1, a2.pre r2, a3⟩
    · have : j = k := by omega
      subst this
      rw [if_neg hjk, if_neg hjk, if_pos rfl, if_pos rfl]
      exact ⟨r4, r5, r6⟩

theorem adm_rows {γ : List G} {h : AH} (A : Adm P W γ h) {t : TypeId} (s e : TypeId) (hk : isIntSS P t s e = true) {v : Value} {d : DataW H} {ps : List MemPlace} {r : Reach} {base : Nat} (hval : Value.okWide P W r base t v)
    (hx : DataW.Trod enc P W 0 (fun _ => true) true t v d ps) :
    ∃ (rows : List (List Int)) (u : Value) (γ' : List G) (h' : AH), γ <+: γ' ∧ h <+: h' ∧ Adm P W γ' h' ∧ VR γ' u v ∧ Rows h' u rows ∧ rows.length ≤ maxLen ∧ ∀ i, i < rows.length → (rows.getD i []).length ≤ maxLen := by
  simp only [isIntSS, Bool.and_eq_true, beq_iff_eq] at hk
  obtain ⟨⟨k1, k2⟩, k3⟩ := hk
  obtain ⟨n, hx⟩ := hx
  have hcl := cells_of_slice (tySlice_eq k1) hval
  rcases open_slice1 (tySlice_eq k1) k2 hx with ⟨hv, _⟩ | ⟨a, len, cap, m, n', V, D, Pl, hv, hb, hl, hm, hmm, _, hcell⟩
  · rw [hcl] at hv
    have hv : v = .slice none 0 0 := by simpa using hv
    subst hv
    exact ⟨[], .slice none 0 0, γ, h, List.prefix_refl _, List.prefix_refl _, A, .nils, ⟨[], .inl ⟨rfl, 0, by omega, rfl⟩, rfl, fun i hi => by simp at hi⟩, Nat.zero_le _, fun i hi => by simp at hi⟩
  · rw [hcl] at hv
    have hv : v = .slice (some a) len cap := by simpa using hv
    subst hv
    by_cases h0 : len = 0
    · subst h0
      exact ⟨[], .slice none 0 1, γ, h, List.prefix_refl _, List.prefix_refl _, A, .emp _ _, ⟨[], .inl ⟨rfl, 1, by omega, rfl⟩, rfl, fun i hi => by simp at hi⟩, Nat.zero_le _, fun i hi => by simp at hi⟩
    · have hcell : ∀ i, i < cap → W.cell? (a.add i) = some (V i) ∧ DataW.trod enc P W 0 (fun _ => true) true n' s [V i] = some (D i, Pl i) := fun i hi => hcell i (by rw [show m = cap from hmm]; exact hi)
      have hz := (hcell 0 (by omega)).1
      have hsp : a.spot = none := by
        simp only [Addr.add, if_true] at hz
        unfold World.cell? at hz
        split at hz
        · split at hz
          · cases hz
          · rename_i hs
            simpa using hs
        · cases hz
      have hbl : a.block < W.heap.size := by
        have := World.block_lt_of_cell? W _ hz
        simpa [Addr.add] using this
      obtain ⟨γ1, h1, cs, rows, q1, q2, q3, q4, q5, q6⟩ := adm_many A k3 (V := V) (len := len) (n := n') (fun i hi => ⟨_, (hcell i (by omega)).2⟩) len (Nat.le_refl _)
      have hget : ∀ (j : Nat) (x : Value), cs[j]? = some x → j < len ∧ cs.getD j undef = x := fun j x hx => by
        refine ⟨by rw [← q4]; exact (List.getElem?_eq_some_iff.1 hx).1, ?_⟩
        rw [List.getD_eq_getElem?_getD, hx]
        rfl
      refine ⟨rows, .slice (some ⟨h1.length, 0, none⟩) cs.length 1, γ1 ++ [⟨a.block, a.off, cap⟩], h1.new ⟨cs, s, true, false⟩, q1.trans (List.prefix_append _ _), q2.trans (pre_new (List.prefix_refl _)), ?_, ?_, ?_, by rw [q5]; omega, fun i hi => (q6 i (by omega)).2.2⟩
      · refine q3.new hbl fun j x hx => ?_
        obtain ⟨hj, hxx⟩ := hget j x hx
        obtain ⟨a1, a2, _⟩ := q6 j hj
        rw [hxx] at a1 a2
        refine ⟨a2.one, V j, ?_, a1⟩
        have := (hcell j (by omega)).1
        rw [add_off a hsp] at this
        exact this
      · have := VR.slc (γ := γ1 ++ [⟨a.block, a.off, cap⟩]) h1.length 0 cs.length 1 ⟨a.block, a.off, cap⟩ (by rw [← q3.rel.len]; simp) (by omega) (by simp only; omega)
        have e1 : (some a : Option Addr) = some ⟨a.block, a.off + 0, none⟩ := by
          obtain ⟨b, o, s⟩ := a
          simp at hsp
          subst hsp
          rfl
        rw [e1]
        have e2 : (cap - 0) / 1 = cap := by simp
        rw [show (Value.slice (some ⟨a.block, a.off + 0, none⟩) len cap) = Value.slice (some ⟨a.block, a.off + 0, none⟩) cs.length ((cap - 0) / 1) by rw [e2, q4]]
        exact this
      · refine ⟨cs, .inr ⟨h1.length, 0, _, rfl, get_new_same, by simp, fun i hi => ?_⟩, by omega, fun i hi => ((q6 i (by omega)).2.1).pre (pre_new (List.prefix_refl _))⟩
        rw [Nat.zero_add, List.getD_eq_getElem?_getD, List.getElem?_eq_getElem hi]
        rfl
end
end Go.Proofs.Ytnjhhgfpclngcaa.X
