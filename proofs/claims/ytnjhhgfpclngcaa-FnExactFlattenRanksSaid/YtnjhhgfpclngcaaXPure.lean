/- The abstract machine's soundness, part 3: the operations that touch no block, and those that only read. -/
import Derived.Test.YtnjhhgfpclngcaaXHeap
set_option linter.unusedVariables false
set_option linter.unusedSimpArgs false
namespace Go.Proofs.Ytnjhhgfpclngcaa.X
open Go Go.RowKit

variable {P : Program} {B : Nat} {γ : List G} {h h' : AH} {w : World} {f : Fr} {a : Act} {v : Value}

/-! ### Inversions -/
theorem VR.bool_inv {b : Bool} {v' : Value} (h : VR γ (.bool b) v') : v' = .bool b := by cases h; rfl
theorem VR.int_inv {k : IntKind} {n : Int} {v' : Value} (h : VR γ (.int k n) v') : v' = .int k n := by cases h; rfl
theorem VR.ptr_inv {n off : Nat} {s : Option Nat} {v' : Value} (h : VR γ (.pointer (some ⟨n, off, s⟩)) v') :
    s = none ∧ ∃ g, γ[n]? = some g ∧ v' = .pointer (some ⟨g.b, g.o + off, none⟩) := by cases h; exact ⟨rfl, _, ‹_›, rfl⟩
theorem VR.agg_inv {xs : Array Value} {v' : Value} (h : VR γ (.agg xs) v') : ∃ ys : Array Value, v' = .agg ys ∧ VRL γ xs.toList ys.toList := by
  cases h with
  | agg _ ys hs hh => exact ⟨ys, rfl, by simpa using hs, fun i a b ha hb => hh i a b (by simpa using ha) (by simpa using hb)⟩
theorem VR.tuple_inv {xs : Array Value} {v' : Value} (h : VR γ (.tuple xs) v') : ∃ ys : Array Value, v' = .tuple ys ∧ VRL γ xs.toList ys.toList := by
  cases h with
  | tuple _ ys hs hh => exact ⟨ys, rfl, by simpa using hs, fun i a b ha hb => hh i a b (by simpa using ha) (by simpa using hb)⟩
theorem VR.func_inv {g : FuncId} {xs : Array Value} {v' : Value} (h : VR γ (.func (.func g) #[] xs) v') : ∃ ys : Array Value, v' = .func (.func g) #[] ys ∧ VRL γ xs.toList ys.toList := by
  cases h with
  | func _ _ ys hs hh => exact ⟨ys, rfl, by simpa using hs, fun i a b ha hb => hh i a b (by simpa using ha) (by simpa using hb)⟩
theorem VR.slc_inv {n off len sz : Nat} {s : Option Nat} {v' : Value} (h : VR γ (.slice (some ⟨n, off, s⟩) len sz) v') :
    s = none ∧ ∃ g, γ[n]? = some g ∧ 0 < sz ∧ off + len * sz ≤ g.cap ∧ v' = .slice (some ⟨g.b, g.o + off, none⟩) len ((g.cap - off) / sz) := by
  cases h; exact ⟨rfl, _, ‹_›, ‹_›, ‹_›, rfl⟩
theorem VR.nil_inv {n t : Nat} {v' : Value} (h : VR γ (.slice none n t) v') :
    n = 0 ∧ ((t = 0 ∧ v' = .slice none 0 0) ∨ (t = 1 ∧ ∃ a c, v' = .slice a 0 c) ∨ (t = 2 ∧ ∃ a, v' = .slice a 0 0)) := by
  cases h
  · exact ⟨rfl, .inl ⟨rfl, rfl⟩⟩
  · exact ⟨rfl, .inr (.inl ⟨rfl, _, _, rfl⟩)⟩
  · exact ⟨rfl, .inr (.inr ⟨rfl, _, rfl⟩)⟩
theorem VR.len_inv {x : Option Addr} {n t : Nat} {v' : Value} (h : VR γ (.slice x n t) v') : ∃ y c, v' = .slice y n c ∧ n ≤ c := by
  cases h with
  | nils => exact ⟨_, _, rfl, Nat.le_refl _⟩
  | emp a c => exact ⟨_, _, rfl, Nat.zero_le _⟩
  | zcap a => exact ⟨_, _, rfl, Nat.le_refl _⟩
  | slc n off len sz g hg h1 h2 => exact ⟨_, _, rfl, by rw [Nat.le_div_iff_mul_le h1]; omega⟩

theorem ite_some {α : Type} {c : Prop} [Decidable c] {x y : α} (h : (if c then some x else none) = some y) : c ∧ x = y := by
  by_cases hc : c
  · rw [if_pos hc] at h; exact ⟨hc, Option.some.inj h⟩
  · rw [if_neg hc] at h; cases h
theorem ite_none {α : Type} {c : Prop} [Decidable c] {x : Option α} {y : α} (h : (if c then x else none) = some y) : c ∧ x = some y := by
  by_cases hc : c
  · rw [if_pos hc] at h; exact ⟨hc, h⟩
  · rw [if_neg hc] at h; cases h
theorem map_some {α β : Type} {x : Option α} {g : α → β} {y : β} (h : x.map g = some y) : ∃ z, x = some z ∧ g z = y := Option.map_eq_some_iff.1 h

/-- What an operation's outcome is to the frame. -/
def nv : Next → Option Value
  | .value v => some v
  | .skip => some undef
  | _ => none
def OpPure (P : Program) (γ : List G) (w : World) (a : Act) (o : Oper) (v : Value) : Prop :=
  ∃ nx v', (execOp a.eval o).run P w = .ok nx w ∧ nv nx = some v' ∧ VR γ v v'

theorem sizeT_some {t : TypeId} {n : Nat} (hs : sizeT P t = some n) : ∃ i, P.info? t = some i ∧ i.size = n := map_some hs
theorem run_size {t : TypeId} {n : Nat} (hs : sizeT P t = some n) (w : World) : (sizeOf t).run P w = .ok n w := by
  obtain ⟨i, h1, rfl⟩ := sizeT_some hs
  simp [sizeOf, typeInfo, h1]
theorem run_isAgg {t : TypeId} {b : Bool} (hs : aggT P t = some b) (w : World) : (isAgg t).run P w = .ok b w := by
  unfold aggT at hs
  cases hu : P.underlying t with
  | none => simp [hu] at hs
  | some d => cases d <;> simp [hu] at hs <;> subst hs <;> simp [isAgg, run_underlying hu]
theorem zeroT_some {t : TypeId} {z : List Value} (hz : zeroT P t = some z) : ∃ i y, P.info? t = some i ∧ i.zero = some y ∧ y.cells.toList = z ∧ z.all okCell = true ∧ z.length = i.size ∧ 0 < i.size := by
  unfold zeroT at hz
  split at hz
  · rename_i i hi
    split at hz
    · rename_i y hy
      obtain ⟨h1, h2⟩ := ite_some hz
      simp only [Bool.and_eq_true, beq_iff_eq, decide_eq_true_eq] at h1
      subst h2
      exact ⟨i, y, hi, hy, rfl, h1.1.1, h1.1.2, h1.2⟩
    · cases hz
  · cases hz

/-! ### Filling -/
theorem foldl_set (off : Nat) : ∀ (vs : List Value) (k : Nat) (cs : Array Value), off + k + vs.length ≤ cs.size →
    ((vs.zipIdx k).foldl (fun (cs : Array Value) (x : Value × Nat) => cs.setIfInBounds (off + x.2) x.1) cs).toList = splice cs.toList (off + k) vs
  | [], k, cs, _ => by simp [splice]
  | v :: vs, k, cs, hl => by
    simp only [List.zipIdx_cons, List.foldl_cons]
    rw [foldl_set off vs (k + 1) _ (by simp at hl ⊢; omega)]
    simp only [splice, Array.toList_setIfInBounds]
    simp only [List.length_cons] at hl
    have e1 : off + (k + 1) = off + k + 1 := by omega
    rw [e1]
    have hlt : off + k < cs.toList.length := by simp; omega
    rw [List.take_set, List.drop_set_of_lt (by omega)]
    rw [List.take_add_one, List.set_append_right _ _ (by simp; omega)]
    simp only [List.length_take, Nat.min_eq_left (Nat.le_of_lt hlt), Nat.sub_self, List.getElem?_eq_getElem hlt, Option.toList_some, List.set_cons_zero, List.append_assoc, List.cons_append, List.nil_append, List.length_cons]
    congr 4
    omega
theorem fill_sound {place place' : Nat → Option (Nat × Nat)} (hp : ∀ i, place' i = place i) : ∀ (parts : List (Nat × Operand)) (l : List (Nat × Nat × Operand)) (z c : List Value) (zr : Array Value),
    partsT place parts = some l → fillX f z l = some c → VRL γ z zr.toList → (∀ p ∈ parts, okOpd p.2 = true → VR γ (ev f p.2) (a.eval p.2)) →
    ∃ cr, Instr.fill place' zr (parts.map fun p => (p.1, a.eval p.2)) = some cr ∧ VRL γ c cr.toList
  | [], l, z, c, zr, hl, hf, hz, _ => by
    simp [partsT] at hl; subst hl
    simp [fillX] at hf; subst hf
    exact ⟨zr, rfl, hz⟩
  | (i, x) :: parts, l, z, c, zr, hl, hf, hz, hv => by
    simp only [partsT] at hl
    split at hl
    · rename_i o s l' h1 h2
      obtain ⟨hok, rfl⟩ := ite_some hl
      simp only [fillX] at hf
      obtain ⟨⟨h3, h4⟩, h5⟩ := ite_none hf
      have hx := (hv (i, x) (by simp) hok).cells
      have hsz : (a.eval x).cells.size = s := by have := hx.1; simp at this h3; omega
      have hzl : z.length = zr.size := by simpa using hz.1
      have := foldl_set o (a.eval x).cells.toList 0 zr (by simp; omega)
      rw [Nat.add_zero] at this
      obtain ⟨cr, h6, h7⟩ := fill_sound hp parts l' _ c ((a.eval x).cells.zipIdx.foldl (fun cs (c, j) => cs.setIfInBounds (o + j) c) zr) h2 h5 (by
        rw [← Array.foldl_toList, Array.toList_zipIdx]
        have e : ((a.eval x).cells.toList.zipIdx 0).foldl (fun cs (x : Value × Nat) => match x with | (c, j) => Array.setIfInBounds cs (o + j) c) zr = ((a.eval x).cells.toList.zipIdx 0).foldl (fun (cs : Array Value) (x : Value × Nat) => cs.setIfInBounds (o + x.2) x.1) zr := rfl
        rw [e, this]
        exact hz.splice hx o) (fun p hp' => hv p (by simp [hp']))
      refine ⟨cr, ?_, h7⟩
      simp only [List.map_cons, Instr.fill, hp i, h1]
      rw [if_neg (by simp [hsz]; omega)]
      exact h6
    · cases hl

theorem places_of : ∀ (fs : List Field), fieldsOk P fs = true → ∃ places : List (Nat × Nat), fs.mapM (fun (fd : Field) => (P.info? fd.type).map fun i => (fd.offset, i.size)) = some places ∧
    ∀ (i : Nat), places[i]? = (fs[i]?).bind fun (fd : Field) => (sizeT P fd.type).map fun s => (fd.offset, s)
  | [], _ => ⟨[], rfl, fun i => by simp⟩
  | fd :: fs, hok => by
    simp only [fieldsOk, List.all_cons, Bool.and_eq_true] at hok
    obtain ⟨pl, h1, h2⟩ := places_of fs hok.2
    obtain ⟨i, hi⟩ := Option.isSome_iff_exists.1 hok.1
    refine ⟨(fd.offset, i.size) :: pl, by simp [List.mapM_cons, hi, h1], fun j => ?_⟩
    cases j with
    | zero => simp [sizeT, hi]
    | succ j => simpa using h2 j

theorem build_run {t : TypeId} {z c : List Value} {parts : Array (Nat × Operand)} {l : List (Nat × Nat × Operand)} (hz : zeroT P t = some z)
    (hd : (∃ fs : Array Field, P.underlying t = some (.struct fs) ∧ fieldsOk P fs.toList = true) ∨ ∃ n e, P.underlying t = some (.array n e) ∧ (P.info? e).isSome = true)
    (hl : partsT (placeT P t) parts.toList = some l) (hf : fillX f z l = some c) (hv : ∀ p ∈ parts.toList, okOpd p.2 = true → VR γ (ev f p.2) (a.eval p.2)) :
    ∃ cs : List Value, (Instr.build t (parts.map fun (i, x) => (i, a.eval x))).run P w = .ok (.agg cs.toArray) w ∧ VRL γ c cs := by
  obtain ⟨i, y, hi, hy, rfl, hok, hlen, hpos⟩ := zeroT_some hz
  have hmap : (parts.map fun (i, x) => (i, a.eval x)).toList = parts.toList.map fun p => (p.1, a.eval p.2) := by simp
  rcases hd with ⟨fs, hu, hfs⟩ | ⟨n, e, hu, he⟩
  · obtain ⟨pl, h1, h2⟩ := places_of fs.toList hfs
    obtain ⟨cr, h3, h4⟩ := fill_sound (γ := γ) (f := f) (a := a) (place := placeT P t) (place' := (pl.toArray[·]?)) (fun j => by
      have := h2 j
      simp only [placeT, hu]
      simpa using this) parts.toList l _ c y.cells hl hf (okCells_refl hok) hv
    refine ⟨cr.toList, ?_, h4⟩
    rw [run_build w t _ cr (by rw [hmap]; unfold Program.built; simp only [hi, hu, hy, h1]; exact h3)]
  · obtain ⟨ie, hie⟩ := Option.isSome_iff_exists.1 he
    obtain ⟨cr, h3, h4⟩ := fill_sound (γ := γ) (f := f) (a := a) (place := placeT P t) (place' := fun i => some (i * ie.size, ie.size)) (fun j => by
      simp [placeT, hu, sizeT, hie]) parts.toList l _ c y.cells hl hf (okCells_refl hok) hv
    refine ⟨cr.toList, ?_, h4⟩
    rw [run_build w t _ cr (by rw [hmap]; unfold Program.built; simp only [hi, hu, hy, hie]; exact h3)]

end Go.Proofs.Ytnjhhgfpclngcaa.X
