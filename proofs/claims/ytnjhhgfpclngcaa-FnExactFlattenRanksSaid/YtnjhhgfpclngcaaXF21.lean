/- Elimination, plainly. -/
import Derived.Test.YtnjhhgfpclngcaaXF20
set_option linter.unusedVariables false
set_option linter.unusedSimpArgs false
set_option maxRecDepth 20000
set_option maxHeartbeats 4000000
namespace Go.Proofs.Ytnjhhgfpclngcaa.X
open Go Go.RowKit

theorem Ints.put_ne {h : AH} {v : Value} {ns : List Int} {n : Nat} {b : Blk} (hv : Ints h v ns) (hn : blkOf v ≠ some n) : Ints (h.put n b) v ns := by
  rcases hv with hv | ⟨m, off, blk, rfl, h2, h3, h4⟩
  · exact .inl hv
  · exact .inr ⟨m, off, blk, rfl, by rw [get_put_ne (fun e => hn (by rw [e]; rfl))]; exact h2, h3, h4⟩
theorem Ints.kill_ne {h : AH} {v : Value} {ns : List Int} {n : Nat} (hv : Ints h v ns) (hn : blkOf v ≠ some n) : Ints (h.kill n) v ns := by
  rcases hv with hv | ⟨m, off, blk, rfl, h2, h3, h4⟩
  · exact .inl hv
  · exact .inr ⟨m, off, blk, rfl, by rw [get_kill_ne (fun e => hn (by rw [e]; rfl))]; exact h2, h3, h4⟩
theorem Ints.lt {h : AH} {v : Value} {ns : List Int} (hv : Ints h v ns) : ∀ n, blkOf v = some n → n < h.length := by
  intro n hn
  rcases hv with ⟨_, t, _, rfl⟩ | ⟨m, off, blk, rfl, h2, h3, h4⟩
  · cases hn
  · cases hn
    exact get_lt h2

/-- A number of a table. -/
def tb (T : List (List Int)) (i c : Nat) : Int := (T.getD i []).getD c 0
open Classical in
noncomputable def invN (p n : Int) : Int := if h : ∃ w, IsInv p n w then Classical.choose h else 0
theorem invN_is {p n : Int} (hp : isP p = true) (hn : 1 ≤ n ∧ n < p) : IsInv p n (invN p n) := by
  have h := inv_is hp hn
  unfold invN
  rw [dif_pos h]
  exact Classical.choose_spec h
/-- The first row from r on whose number in column c is other than 0; else the number of rows. -/
def pivot (T : List (List Int)) (c : Nat) : Nat → Nat → Nat
  | 0, r => r
  | m + 1, r => if tb T r c = 0 then pivot T c m (r + 1) else r
noncomputable def rowOp (p : Int) (own row : List Int) (c : Nat) : List Int :=
  gen row.length fun l => md p (row.getD l 0 - (row.getD c 0 * invN p (own.getD c 0)).tmod p * own.getD l 0)
def swapped (T : List (List Int)) (r i : Nat) : List (List Int) := (T.set i (T.getD r [])).set r (T.getD i [])
/-- The rows behind r, changed as far as k. -/
noncomputable def swept (p : Int) (T : List (List Int)) (r c k : Nat) : List (List Int) :=
  (List.range T.length).map fun j => if r < j ∧ j < k then rowOp p (T.getD r []) (T.getD j []) c else T.getD j []
noncomputable def colStep (p : Int) (T : List (List Int)) (r c : Nat) : List (List Int) × Nat :=
  if pivot T c (T.length - r) r = T.length then (T, r) else (swept p (swapped T r (pivot T c (T.length - r) r)) r c T.length, r + 1)
noncomputable def elim : Int → List (List Int) → Nat → Nat → Nat → Nat
  | p, T, r, c, 0 => r
  | p, T, r, c, m + 1 => elim p (colStep p T r c).1 (colStep p T r c).2 (c + 1) m
noncomputable def rankN (p : Int) (T : List (List Int)) : Nat := elim p T 0 0 (T.getD 0 []).length

/-- A table of rows of one width, of numbers modulo p. -/
def Good (p : Int) (T : List (List Int)) (w : Nat) : Prop := ∀ i, i < T.length → (T.getD i []).length = w ∧ ∀ l, l < w → 0 ≤ tb T i l ∧ tb T i l < p

theorem pivot_le {T : List (List Int)} {c : Nat} : ∀ {m r : Nat}, r ≤ pivot T c m r ∧ pivot T c m r ≤ r + m
  | 0, r => by simp [pivot]
  | m + 1, r => by
    unfold pivot
    split
    · have := pivot_le (T := T) (c := c) (m := m) (r := r + 1)
      omega
    · omega
theorem pivot_ne {T : List (List Int)} {c : Nat} : ∀ {m r : Nat}, pivot T c m r < r + m → tb T (pivot T c m r) c ≠ 0
  | 0, r, h => by simp [pivot] at h
  | m + 1, r, h => by
    unfold pivot at h ⊢
    split
    · rename_i h0
      rw [if_pos h0] at h
      exact pivot_ne (by omega)
    · rename_i h0
      exact h0
theorem swept_len {p : Int} {T : List (List Int)} {r c k : Nat} : (swept p T r c k).length = T.length := by simp [swept]
theorem swept_get {p : Int} {T : List (List Int)} {r c k j : Nat} (hj : j < T.length) : (swept p T r c k).getD j [] = if r < j ∧ j < k then rowOp p (T.getD r []) (T.getD j []) c else T.getD j [] := by
  simp [swept, List.getD_eq_getElem?_getD, List.getElem?_map, List.getElem?_range hj]
theorem getD_ext {T T' : List (List Int)} (hl : T.length = T'.length) (h : ∀ j, j < T.length → T.getD j [] = T'.getD j []) : T = T' := by
  refine List.ext_getElem? fun j => ?_
  by_cases h1 : j < T.length
  · have := h j h1
    rw [List.getElem?_eq_getElem h1, List.getElem?_eq_getElem (by omega)]
    simpa [List.getD_eq_getElem?_getD, List.getElem?_eq_getElem h1, List.getElem?_eq_getElem (show j < T'.length by omega)] using this
  · rw [List.getElem?_eq_none (by omega), List.getElem?_eq_none (by omega)]
theorem swept_start {p : Int} {T : List (List Int)} {r c : Nat} : swept p T r c (r + 1) = T := by
  refine getD_ext swept_len fun j hj => ?_
  rw [swept_len] at hj
  rw [swept_get hj, if_neg (by omega)]
theorem swept_next {p : Int} {T : List (List Int)} {r c k : Nat} (hr : r < k) (hk : k < T.length) : swept p T r c (k + 1) = (swept p T r c k).set k (rowOp p (T.getD r []) (T.getD k []) c) := by
  refine getD_ext (by rw [List.length_set, swept_len, swept_len]) fun j hj => ?_
  rw [swept_len] at hj
  rw [set_getD' (by rw [swept_len]; omega), swept_get hj, swept_get hj]
  by_cases h : j = k
  · subst h
    rw [if_pos (by omega), if_pos rfl]
  · rw [if_neg h]
    by_cases h2 : r < j ∧ j < k
    · rw [if_pos h2, if_pos (by omega)]
    · rw [if_neg h2, if_neg (by omega)]
theorem rowOp_zero {p : Int} {own row : List Int} {c : Nat} (hs : (row.getD c 0 * invN p (own.getD c 0)).tmod p = 0) (hr : ∀ l, l < row.length → 0 ≤ row.getD l 0 ∧ row.getD l 0 < p) : rowOp p own row c = row := by
  unfold rowOp
  symm
  refine gen_ext rfl fun l hl => ?_
  rw [hs, Int.zero_mul, Int.sub_zero, md_small (hr l hl)]
theorem swapped_len {T : List (List Int)} {r i : Nat} : (swapped T r i).length = T.length := by simp [swapped]
theorem swapped_get {T : List (List Int)} {r i j : Nat} (hr : r < T.length) (hi : i < T.length) : (swapped T r i).getD j [] = if j = r then T.getD i [] else if j = i then T.getD r [] else T.getD j [] := by
  unfold swapped
  rw [set_getD' (by simpa using hr)]
  split
  · rfl
  · rw [set_getD' hi]
theorem Good.swapped {p : Int} {T : List (List Int)} {w r i : Nat} (g : Good p T w) (hr : r < T.length) (hi : i < T.length) : Good p (swapped T r i) w := by
  intro j hj
  rw [swapped_len] at hj
  unfold tb
  rw [swapped_get hr hi]
  split
  · exact g i hi
  · split
    · exact g r hr
    · exact g j hj
theorem Good.swept {p : Int} {T : List (List Int)} {w r c k : Nat} (g : Good p T w) (hp : 2 ≤ p) : Good p (swept p T r c k) w := by
  intro j hj
  rw [swept_len] at hj
  unfold tb
  rw [swept_get hj]
  split
  · unfold rowOp
    rw [gen_len, (g j hj).1]
    refine ⟨rfl, fun l hl => ?_⟩
    rw [gen_get hl]
    exact md_in hp
  · exact g j hj
theorem Good.colStep {p : Int} {T : List (List Int)} {w r c : Nat} (g : Good p T w) (hp : 2 ≤ p) (hr : r ≤ T.length) : Good p (colStep p T r c).1 w ∧ (colStep p T r c).1.length = T.length ∧ (colStep p T r c).2 ≤ T.length := by
  unfold X.colStep
  split
  · exact ⟨g, rfl, hr⟩
  · rename_i hne
    have h1 := pivot_le (T := T) (c := c) (m := T.length - r) (r := r)
    exact ⟨(g.swapped (by omega) (by omega)).swept hp, by rw [swept_len, swapped_len], by simp only; omega⟩
/-- No row is left: nothing changes any more. -/
theorem elim_full {p : Int} : ∀ {m : Nat} {T : List (List Int)} {r c : Nat}, r = T.length → elim p T r c m = r
  | 0, T, r, c, h => rfl
  | m + 1, T, r, c, h => by
    unfold elim
    have : colStep p T r c = (T, r) := by
      unfold colStep
      rw [if_pos (by subst h; simp [pivot])]
    rw [this]
    exact elim_full h
end Go.Proofs.Ytnjhhgfpclngcaa.X
