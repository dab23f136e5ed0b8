/- The abstract machine's soundness, part 1: how an abstract value and a real one belong together; the relation of an abstract heap and a world. -/
import Derived.Test.YtnjhhgfpclngcaaXComp
set_option linter.unusedVariables false
set_option linter.unusedSimpArgs false
namespace Go.Proofs.Ytnjhhgfpclngcaa.X
open Go Go.RowKit

/-- Where an abstract block lies in a world: its block, where it begins there, how many cells it may have there. -/
structure G where
  b : Nat
  o : Nat
  cap : Nat

inductive VR (γ : List G) : Value → Value → Prop
  | bool (b : Bool) : VR γ (.bool b) (.bool b)
  | int (k : IntKind) (n : Int) : VR γ (.int k n) (.int k n)
  | nilFunc : VR γ .nilFunc .nilFunc
  | ptr (n off : Nat) (g : G) : γ[n]? = some g → VR γ (.pointer (some ⟨n, off, none⟩)) (.pointer (some ⟨g.b, g.o + off, none⟩))
  | nils : VR γ (.slice none 0 0) (.slice none 0 0)
  | emp (a : Option Addr) (c : Nat) : VR γ (.slice none 0 1) (.slice a 0 c)
  | zcap (a : Option Addr) : VR γ (.slice none 0 2) (.slice a 0 0)
  | slc (n off len sz : Nat) (g : G) : γ[n]? = some g → 0 < sz → off + len * sz ≤ g.cap →
      VR γ (.slice (some ⟨n, off, none⟩) len sz) (.slice (some ⟨g.b, g.o + off, none⟩) len ((g.cap - off) / sz))
  | func (f : FuncId) (xs ys : Array Value) : xs.size = ys.size → (∀ (i : Nat) (a b : Value), xs[i]? = some a → ys[i]? = some b → VR γ a b) → VR γ (.func (.func f) #[] xs) (.func (.func f) #[] ys)
  | agg (xs ys : Array Value) : xs.size = ys.size → (∀ (i : Nat) (a b : Value), xs[i]? = some a → ys[i]? = some b → VR γ a b) → VR γ (.agg xs) (.agg ys)
  | tuple (xs ys : Array Value) : xs.size = ys.size → (∀ (i : Nat) (a b : Value), xs[i]? = some a → ys[i]? = some b → VR γ a b) → VR γ (.tuple xs) (.tuple ys)

theorem VR.mono {γ γ' : List G} (hp : γ <+: γ') {v v' : Value} (h : VR γ v v') : VR γ' v v' := by
  have key : ∀ (n : Nat) (g : G), γ[n]? = some g → γ'[n]? = some g := by
    obtain ⟨t, rfl⟩ := hp
    intro n g hg
    rw [List.getElem?_append_left (by exact (List.getElem?_eq_some_iff.1 hg).1)]
    exact hg
  induction h with
  | bool b => exact .bool b
  | int k n => exact .int k n
  | nilFunc => exact .nilFunc
  | ptr n off g hg => exact .ptr n off g (key n g hg)
  | nils => exact .nils
  | emp a c => exact .emp a c
  | zcap a => exact .zcap a
  | slc n off len sz g hg h1 h2 => exact .slc n off len sz g (key n g hg) h1 h2
  | func f xs ys hs _ ih => exact .func f xs ys hs fun i a b ha hb => ih i a b ha hb
  | agg xs ys hs _ ih => exact .agg xs ys hs fun i a b ha hb => ih i a b ha hb
  | tuple xs ys hs _ ih => exact .tuple xs ys hs fun i a b ha hb => ih i a b ha hb

def VRL (γ : List G) (xs ys : List Value) : Prop := xs.length = ys.length ∧ ∀ (i : Nat) (a b : Value), xs[i]? = some a → ys[i]? = some b → VR γ a b
theorem VRL.mono {γ γ' : List G} (hp : γ <+: γ') {xs ys : List Value} (h : VRL γ xs ys) : VRL γ' xs ys := ⟨h.1, fun i a b ha hb => (h.2 i a b ha hb).mono hp⟩
theorem VRL.nil (γ : List G) : VRL γ [] [] := ⟨rfl, fun i a b h => by simp at h⟩
theorem VRL.cons {γ : List G} {x y : Value} {xs ys : List Value} (h : VR γ x y) (hs : VRL γ xs ys) : VRL γ (x :: xs) (y :: ys) := by
  refine ⟨by simp [hs.1], fun i a b ha hb => ?_⟩
  cases i with
  | zero => simp at ha hb; subst ha hb; exact h
  | succ i => exact hs.2 i a b (by simpa using ha) (by simpa using hb)
theorem VRL.uncons {γ : List G} {x y : Value} {xs ys : List Value} (h : VRL γ (x :: xs) (y :: ys)) : VR γ x y ∧ VRL γ xs ys :=
  ⟨h.2 0 x y rfl rfl, by have := h.1; simpa using this, fun i a b ha hb => h.2 (i + 1) a b (by simpa using ha) (by simpa using hb)⟩
theorem VRL.append {γ : List G} {xs ys xs' ys' : List Value} (h : VRL γ xs ys) (h' : VRL γ xs' ys') : VRL γ (xs ++ xs') (ys ++ ys') := by
  refine ⟨by simp [h.1, h'.1], fun i a b ha hb => ?_⟩
  by_cases hi : i < xs.length
  · rw [List.getElem?_append_left hi] at ha
    rw [List.getElem?_append_left (by rw [← h.1]; exact hi)] at hb
    exact h.2 i a b ha hb
  · rw [List.getElem?_append_right (by omega)] at ha
    rw [List.getElem?_append_right (by rw [← h.1]; omega), ← h.1] at hb
    exact h'.2 _ a b ha hb
theorem VRL.take {γ : List G} {xs ys : List Value} (h : VRL γ xs ys) (n : Nat) : VRL γ (xs.take n) (ys.take n) := by
  refine ⟨by simp [h.1], fun i a b ha hb => ?_⟩
  rw [List.getElem?_take] at ha hb
  split at ha
  · rename_i hi; rw [if_pos hi] at hb; exact h.2 i a b ha hb
  · cases ha
theorem VRL.drop {γ : List G} {xs ys : List Value} (h : VRL γ xs ys) (n : Nat) : VRL γ (xs.drop n) (ys.drop n) := by
  refine ⟨by simp [h.1], fun i a b ha hb => ?_⟩
  rw [List.getElem?_drop] at ha hb
  exact h.2 _ a b ha hb
theorem VRL.splice {γ : List G} {xs ys vs us : List Value} (h : VRL γ xs ys) (hv : VRL γ vs us) (off : Nat) : VRL γ (splice xs off vs) (splice ys off us) := by
  unfold X.splice
  rw [hv.1]
  exact ((h.take off).append hv).append (h.drop _)
theorem VRL.zrep {γ : List G} {xs ys : List Value} (h : VRL γ xs ys) : ∀ n, VRL γ (zrep n xs) (zrep n ys)
  | 0 => VRL.nil γ
  | n + 1 => h.append (VRL.zrep h n)
theorem VRL.refl {γ : List G} : ∀ {xs : List Value}, (∀ v ∈ xs, VR γ v v) → VRL γ xs xs
  | [], _ => VRL.nil γ
  | x :: xs, h => VRL.cons (h x (by simp)) (VRL.refl fun v hv => h v (by simp [hv]))
theorem VRL.get {γ : List G} {xs ys : List Value} (h : VRL γ xs ys) {i : Nat} {a : Value} (ha : xs[i]? = some a) : ∃ b, ys[i]? = some b ∧ VR γ a b := by
  have hi : i < ys.length := by rw [← h.1]; exact (List.getElem?_eq_some_iff.1 ha).1
  exact ⟨ys[i], List.getElem?_eq_getElem hi, h.2 i a _ ha (List.getElem?_eq_getElem hi)⟩
theorem VRL.get' {γ : List G} {xs ys : List Value} (h : VRL γ xs ys) {i : Nat} {b : Value} (hb : ys[i]? = some b) : ∃ a, xs[i]? = some a ∧ VR γ a b := by
  have hi : i < xs.length := by rw [h.1]; exact (List.getElem?_eq_some_iff.1 hb).1
  exact ⟨xs[i], List.getElem?_eq_getElem hi, h.2 i _ b (List.getElem?_eq_getElem hi) hb⟩

theorem VR.aggL {γ : List G} {xs ys : List Value} (h : VRL γ xs ys) : VR γ (.agg xs.toArray) (.agg ys.toArray) :=
  .agg _ _ (by simpa using h.1) fun i a b ha hb => h.2 i a b (by simpa using ha) (by simpa using hb)
theorem VR.tupleL {γ : List G} {xs ys : List Value} (h : VRL γ xs ys) : VR γ (.tuple xs.toArray) (.tuple ys.toArray) :=
  .tuple _ _ (by simpa using h.1) fun i a b ha hb => h.2 i a b (by simpa using ha) (by simpa using hb)
theorem VR.undef (γ : List G) : VR γ Go.undef Go.undef := .tuple _ _ rfl fun i a b h => by simp at h

theorem VR.cells {γ : List G} {v v' : Value} (h : VR γ v v') : VRL γ v.cells.toList v'.cells.toList := by
  cases h with
  | agg xs ys hs h => exact ⟨by simpa [Value.cells] using hs, fun i a b ha hb => h i a b (by simpa [Value.cells] using ha) (by simpa [Value.cells] using hb)⟩
  | bool b => exact VRL.cons (.bool b) (VRL.nil γ)
  | int k n => exact VRL.cons (.int k n) (VRL.nil γ)
  | nilFunc => exact VRL.cons .nilFunc (VRL.nil γ)
  | ptr n off g hg => exact VRL.cons (.ptr n off g hg) (VRL.nil γ)
  | nils => exact VRL.cons .nils (VRL.nil γ)
  | emp a c => exact VRL.cons (.emp a c) (VRL.nil γ)
  | zcap a => exact VRL.cons (.zcap a) (VRL.nil γ)
  | slc n off len sz g hg h1 h2 => exact VRL.cons (.slc n off len sz g hg h1 h2) (VRL.nil γ)
  | func f xs ys hs h => exact VRL.cons (.func f xs ys hs h) (VRL.nil γ)
  | tuple xs ys hs h => exact VRL.cons (.tuple xs ys hs h) (VRL.nil γ)
theorem VR.one {γ : List G} {v v' : Value} (h : VR γ v v') : v'.oneCell' = isOne v := by cases h <;> rfl
theorem VRL.one {γ : List G} {xs ys : List Value} (h : VRL γ xs ys) (h1 : xs.all isOne = true) : ∀ u ∈ ys, u.oneCell' = true := by
  intro u hu
  obtain ⟨i, hi⟩ := List.mem_iff_getElem?.1 hu
  obtain ⟨a, ha, hr⟩ := h.get' hi
  rw [hr.one]
  exact List.all_eq_true.1 h1 a (List.mem_iff_getElem?.2 ⟨i, ha⟩)

theorem okCell_refl {γ : List G} {v : Value} (h : okCell v = true) : VR γ v v := by
  cases v <;> simp [okCell] at h
  case bool b => exact .bool b
  case int k n => exact .int k n
  case slice a l c =>
    cases a with
    | none =>
      cases l with
      | zero => cases c with
        | zero => exact .nils
        | succ c => simp [okCell] at h
      | succ l => simp [okCell] at h
    | some a => simp [okCell] at h
  case nilFunc => exact .nilFunc
theorem okCells_refl {γ : List G} {xs : List Value} (h : xs.all okCell = true) : VRL γ xs xs := VRL.refl fun v hv => okCell_refl (List.all_eq_true.1 h v hv)
theorem okCell_one {v : Value} (h : okCell v = true) : isOne v = true := by cases v <;> simp [okCell] at h <;> rfl
theorem okConst_refl {γ : List G} {v : Value} (h : okConst v = true) : VR γ v v := by
  cases v with
  | agg cs =>
    have := okCells_refl (γ := γ) (xs := cs.toList) (by simpa [okConst] using h)
    simpa using VR.aggL this
  | tuple vs =>
    have : vs = #[] := by simpa [okConst] using h
    subst this
    exact VR.undef γ
  | _ => first | exact okCell_refl h | (simp [okConst, okCell] at h)

/-! ### The heap and the world -/
structure Rel (P : Program) (B : Nat) (γ : List G) (h : AH) (w : World) : Prop where
  len : γ.length = h.length
  cell : ∀ n b g, h.get n = some b → γ[n]? = some g → ∀ j v, b.c[j]? = some v → isOne v = true ∧ ∃ v', w.cell? ⟨g.b, g.o + j, none⟩ = some v' ∧ VR γ v v'
  rw : ∀ n b g, h.get n = some b → γ[n]? = some g → b.ro = false → g.o = 0 ∧ B ≤ g.b ∧ b.c.length ≤ g.cap ∧ (∃ cur, w.heap[g.b]? = some (.cells cur b.e (0, 0)) ∧ cur.size = g.cap) ∧
    (b.full = true → g.cap = b.c.length) ∧ (b.full = false → ∃ k, g.cap = k * P.cellsOf b.e ∧ k ≤ maxLen)
  ro : ∀ n b g, h.get n = some b → γ[n]? = some g → b.ro = true → g.b < B
  inj : ∀ n m bn bm g g', h.get n = some bn → h.get m = some bm → γ[n]? = some g → γ[m]? = some g' → bn.ro = false → bm.ro = false → g.b = g'.b → n = m
  base : B ≤ w.heap.size

def Own (γ : List G) (h : AH) (b : Nat) : Prop := ∃ n blk g, h.get n = some blk ∧ γ[n]? = some g ∧ blk.ro = false ∧ g.b = b

structure Sim (P : Program) (B : Nat) (γ : List G) (h : AH) (w : World) (γ' : List G) (h' : AH) (w' : World) : Prop where
  rel : Rel P B γ' h' w'
  ext : γ <+: γ'
  size : w.heap.size ≤ w'.heap.size
  frame : ∀ b, b < w.heap.size → ¬ Own γ h b → w'.heap[b]? = w.heap[b]?
  own : ∀ b, Own γ' h' b → Own γ h b ∨ w.heap.size ≤ b
  os : w'.os = w.os
  tape : w'.tape = w.tape
  output : w'.output = w.output

theorem Sim.refl {P : Program} {B : Nat} {γ : List G} {h : AH} {w : World} (R : Rel P B γ h w) : Sim P B γ h w γ h w :=
  ⟨R, List.prefix_refl _, Nat.le_refl _, fun _ _ _ => rfl, fun _ h => .inl h, rfl, rfl, rfl⟩
theorem Sim.trans {P : Program} {B : Nat} {γ γ1 γ2 : List G} {h h1 h2 : AH} {w w1 w2 : World} (a : Sim P B γ h w γ1 h1 w1) (b : Sim P B γ1 h1 w1 γ2 h2 w2) : Sim P B γ h w γ2 h2 w2 := by
  refine ⟨b.rel, a.ext.trans b.ext, Nat.le_trans a.size b.size, fun k hk hn => ?_, fun k hk => ?_, b.os.trans a.os, b.tape.trans a.tape, b.output.trans a.output⟩
  · rw [b.frame k (Nat.lt_of_lt_of_le hk a.size) (fun ho => by rcases a.own k ho with h | h; exact hn h; omega), a.frame k hk hn]
  · rcases b.own k hk with h | h
    · exact a.own k h
    · exact .inr (Nat.le_trans a.size h)

theorem get_lt {h : AH} {n : Nat} {b : Blk} (hb : h.get n = some b) : n < h.length := by
  unfold AH.get at hb
  cases hn : h[n]? with
  | none => simp [hn] at hb
  | some x => exact (List.getElem?_eq_some_iff.1 hn).1
theorem get_new_old {h : AH} {n : Nat} {b c : Blk} (hb : h.get n = some b) : (h.new c).get n = some b := by
  have := get_lt hb
  unfold AH.get AH.new at *
  rw [List.getElem?_append_left this]; exact hb
theorem get_new_self (h : AH) (c : Blk) : (h.new c).get h.length = some c := by simp [AH.get, AH.new]
theorem get_new_cases {h : AH} {n : Nat} {b c : Blk} (hb : (h.new c).get n = some b) : h.get n = some b ∨ (n = h.length ∧ b = c) := by
  have hl := get_lt hb
  simp only [AH.new, List.length_append, List.length_cons, List.length_nil] at hl
  by_cases hn : n < h.length
  · left
    unfold AH.get AH.new at *
    rwa [List.getElem?_append_left hn] at hb
  · right
    have : n = h.length := by omega
    subst this
    rw [get_new_self] at hb
    exact ⟨rfl, (Option.some.inj hb).symm⟩
theorem get_set_self {h : AH} {n : Nat} {b c : Blk} (hb : h.get n = some b) : AH.get (h.set n (some c)) n = some c := by
  have := get_lt hb
  simp [AH.get, this]
theorem get_set_ne {h : AH} {n m : Nat} {x : Option Blk} (hne : m ≠ n) : AH.get (h.set n x) m = h.get m := by
  simp [AH.get, List.getElem?_set_ne (Ne.symm hne)]
theorem get_kill_cases {h : AH} {n m : Nat} {b : Blk} (hb : (h.kill n).get m = some b) : h.get m = some b ∧ m ≠ n := by
  by_cases e : m = n
  · subst e
    have hl := get_lt hb
    simp [AH.kill] at hl
    simp [AH.get, AH.kill, hl] at hb
  · exact ⟨by rw [← hb]; exact (get_set_ne e).symm, e⟩
theorem Rel.ghost {P : Program} {B : Nat} {γ : List G} {h : AH} {w : World} (R : Rel P B γ h w) {n : Nat} {b : Blk} (hb : h.get n = some b) : ∃ g, γ[n]? = some g := by
  have := get_lt hb
  exact ⟨γ[n]'(by rw [R.len]; exact this), List.getElem?_eq_getElem _⟩

theorem ext_get {γ : List G} {x g : G} {n : Nat} (h : γ[n]? = some g) : (γ ++ [x])[n]? = some g := by
  rw [List.getElem?_append_left (List.getElem?_eq_some_iff.1 h).1]; exact h

/-- The cells of a block, read in the world. -/
theorem Rel.cells {P : Program} {B : Nat} {γ : List G} {h : AH} {w : World} (R : Rel P B γ h w) {n : Nat} {b : Blk} {g : G} (hb : h.get n = some b) (hg : γ[n]? = some g) :
    ∃ cs : List Value, VRL γ b.c cs ∧ ∀ j v, cs[j]? = some v → w.cell? ⟨g.b, g.o + j, none⟩ = some v := by
  have key : ∀ (l : List Value) (k : Nat), (∀ j v, l[j]? = some v → ∃ v', w.cell? ⟨g.b, g.o + (k + j), none⟩ = some v' ∧ VR γ v v') →
      ∃ cs : List Value, VRL γ l cs ∧ ∀ j v, cs[j]? = some v → w.cell? ⟨g.b, g.o + (k + j), none⟩ = some v := by
    intro l
    induction l with
    | nil => exact fun k _ => ⟨[], VRL.nil γ, fun j v hv => by simp at hv⟩
    | cons x l ih =>
      intro k hk
      obtain ⟨v', hv', hr⟩ := hk 0 x rfl
      obtain ⟨cs, h1, h2⟩ := ih (k + 1) (fun j v hv => by
        have := hk (j + 1) v (by simpa using hv)
        rwa [show k + (j + 1) = k + 1 + j by omega] at this)
      refine ⟨v' :: cs, VRL.cons hr h1, fun j v hv => ?_⟩
      cases j with
      | zero => simp at hv; subst hv; exact hv'
      | succ j =>
        have := h2 j v (by simpa using hv)
        rwa [show k + 1 + j = k + (j + 1) by omega] at this
  obtain ⟨cs, h1, h2⟩ := key b.c 0 (fun j v hv => by
    have := (R.cell n b g hb hg j v hv).2
    rwa [Nat.zero_add])
  exact ⟨cs, h1, fun j v hv => by have := h2 j v hv; rwa [Nat.zero_add] at this⟩

end Go.Proofs.Ytnjhhgfpclngcaa.X
