/- The program's rank: a table of rows that are blocks of their own, changed in place. -/
import Derived.Test.YtnjhhgfpclngcaaXF26
set_option linter.unusedVariables false
set_option linter.unusedSimpArgs false
set_option maxRecDepth 20000
set_option maxHeartbeats 4000000
namespace Go.Proofs.Ytnjhhgfpclngcaa.X
open Go Go.RowKit

/-- The state: the table in block n0, each row in a block of its own behind lo. -/
structure OwnT (h0 h : AH) (lo n0 : Nat) (bs : List Nat) (T : List (List Int)) : Prop where
  hp : h0 <+: h
  lo0 : h0.length ≤ n0 ∧ n0 < h.length
  g : OwnB h n0 (T.mapIdx fun i r => .slice (some ⟨bs.getD i 0, 0, none⟩) r.length 1) false
  len : bs.length = T.length
  rows : ∀ i, i < T.length → (h0.length ≤ bs.getD i 0 ∧ bs.getD i 0 ≠ n0) ∧ OwnB h (bs.getD i 0) ((T.getD i []).map (Value.int .i64)) false
  dist : ∀ i j, i < T.length → j < T.length → i ≠ j → bs.getD i 0 ≠ bs.getD j 0
/-- A number changed in a row. -/
theorem OwnT.cell {h0 h : AH} {lo n0 : Nat} {bs : List Nat} {T : List (List Int)} (s : OwnT h0 h lo n0 bs T) {k l : Nat} {x : Int} (hk : k < T.length) (hl : l < (T.getD k []).length) {e : TypeId} (he : h.get (bs.getD k 0) = some ⟨(T.getD k []).map (Value.int .i64), e, false, false⟩) :
    OwnT h0 (h.put (bs.getD k 0) ⟨((T.getD k []).set l x).map (Value.int .i64), e, false, false⟩) lo n0 bs (T.set k ((T.getD k []).set l x)) := by
  have hlt := get_lt he
  have hr := (s.rows k hk).1
  refine ⟨pre_put s.hp hr.1, ⟨s.lo0.1, by rw [len_put]; exact s.lo0.2⟩, ?_, by rw [List.length_set]; exact s.len, fun i hi => ?_, fun i j hi hj => s.dist i j (by simpa using hi) (by simpa using hj)⟩
  · have e1 : (T.set k ((T.getD k []).set l x)).mapIdx (fun i r => Value.slice (some ⟨bs.getD i 0, 0, none⟩) r.length 1) = T.mapIdx fun i r => .slice (some ⟨bs.getD i 0, 0, none⟩) r.length 1 := by
      refine List.ext_getElem? fun j => ?_
      rw [List.getElem?_mapIdx, List.getElem?_mapIdx, List.getElem?_set]
      split
      · rename_i e
        subst e
        simp [hk, List.getD_eq_getElem?_getD, List.getElem?_eq_getElem hk]
      · rfl
    rw [e1]
    exact s.g.put_ne hr.2
  · rw [List.length_set] at hi
    refine ⟨(s.rows i hi).1, ?_⟩
    rw [set_getD' hk]
    by_cases h : i = k
    · subst h
      rw [if_pos rfl]
      exact ⟨e, get_put_same hlt⟩
    · rw [if_neg h]
      exact (s.rows i hi).2.put_ne (s.dist k i hk hi (fun e => h e.symm))
theorem outer_get {bs : List Nat} {T : List (List Int)} {k : Nat} (hk : k < T.length) : (T.mapIdx fun i r => Value.slice (some ⟨bs.getD i 0, 0, none⟩) r.length 1).getD k undef = .slice (some ⟨bs.getD k 0, 0, none⟩) (T.getD k []).length 1 := by
  rw [List.getD_eq_getElem?_getD, List.getElem?_mapIdx, List.getElem?_eq_getElem hk]
  simp [List.getD_eq_getElem?_getD, List.getElem?_eq_getElem hk]
theorem OwnT.vals {h0 h : AH} {lo n0 : Nat} {bs : List Nat} {T : List (List Int)} (s : OwnT h0 h lo n0 bs T) : Vals h (.slice (some ⟨n0, 0, none⟩) T.length 1) (T.mapIdx fun i r => .slice (some ⟨bs.getD i 0, 0, none⟩) r.length 1) := by
  obtain ⟨e, hg⟩ := s.g
  refine .inr ⟨n0, 0, _, by rw [List.length_mapIdx], hg, by simp, fun i hi => ?_⟩
  rw [Nat.zero_add, List.getD_eq_getElem?_getD, List.getElem?_eq_getElem hi]
  rfl
theorem OwnT.row {h0 h : AH} {lo n0 : Nat} {bs : List Nat} {T : List (List Int)} (s : OwnT h0 h lo n0 bs T) {k : Nat} (hk : k < T.length) : Ints h (.slice (some ⟨bs.getD k 0, 0, none⟩) (T.getD k []).length 1) (T.getD k []) := by
  obtain ⟨e, hg⟩ := (s.rows k hk).2
  exact Ints.own hg rfl
theorem OwnT.pre {h0 h h' : AH} {lo n0 : Nat} {bs : List Nat} {T : List (List Int)} (s : OwnT h0 h lo n0 bs T) (p : h <+: h') : OwnT h0 h' lo n0 bs T :=
  ⟨s.hp.trans p, ⟨s.lo0.1, by have := pre_len p; have := s.lo0.2; omega⟩, s.g.pre p, s.len, fun i hi => ⟨(s.rows i hi).1, (s.rows i hi).2.pre p⟩, s.dist⟩
theorem getD_ext' {α : Type} {d : α} {T T' : List α} (hl : T.length = T'.length) (h : ∀ j, j < T.length → T.getD j d = T'.getD j d) : T = T' := by
  refine List.ext_getElem? fun j => ?_
  by_cases h1 : j < T.length
  · have := h j h1
    rw [List.getElem?_eq_getElem h1, List.getElem?_eq_getElem (by omega)]
    simpa [List.getD_eq_getElem?_getD, List.getElem?_eq_getElem h1, List.getElem?_eq_getElem (show j < T'.length by omega)] using this
  · rw [List.getElem?_eq_none (by omega), List.getElem?_eq_none (by omega)]
def swapB (bs : List Nat) (r b : Nat) : List Nat := (bs.set b (bs.getD r 0)).set r (bs.getD b 0)
theorem swapB_get {bs : List Nat} {r b j : Nat} (hr : r < bs.length) (hb : b < bs.length) : (swapB bs r b).getD j 0 = if j = r then bs.getD b 0 else if j = b then bs.getD r 0 else bs.getD j 0 := by
  unfold swapB
  rw [set_getD' (by simpa using hr)]
  split
  · rfl
  · rw [set_getD' hb]
/-- Two rows swapped. -/
theorem OwnT.swap {h0 h : AH} {lo n0 : Nat} {bs : List Nat} {T : List (List Int)} (s : OwnT h0 h lo n0 bs T) {r b : Nat} (hr : r < T.length) (hb : b < T.length) {e : TypeId} {c : List Value}
    (hc : c = (((T.mapIdx fun i r => Value.slice (some ⟨bs.getD i 0, 0, none⟩) r.length 1).set r (.slice (some ⟨bs.getD b 0, 0, none⟩) (T.getD b []).length 1)).set b (.slice (some ⟨bs.getD r 0, 0, none⟩) (T.getD r []).length 1))) :
    OwnT h0 (h.put n0 ⟨c, e, false, false⟩) lo n0 (swapB bs r b) (swapped T r b) := by
  have hl := s.len
  have sg := fun j => swapB_get (bs := bs) (r := r) (b := b) (j := j) (by omega) (by omega)
  have tg := fun j => swapped_get (T := T) (r := r) (i := b) (j := j) hr hb
  refine ⟨pre_put s.hp s.lo0.1, ⟨s.lo0.1, by rw [len_put]; exact s.lo0.2⟩, ⟨e, ?_⟩, by simp [swapB, swapped_len, hl], fun i hi => ?_, fun i j hi hj hij => ?_⟩
  · rw [get_put_same s.lo0.2, hc]
    congr 2
    refine getD_ext' (d := undef) (by simp [swapped_len]) fun j hj => ?_
    have hj' : j < T.length := by simpa using hj
    rw [outer_get (by rw [swapped_len]; exact hj'), sg, tg, set_getD' (by simpa using hb), set_getD' (by simpa using hr), outer_get hj']
    by_cases h1 : j = b
    · by_cases h2 : j = r
      · subst h1; subst h2; simp
      · rw [if_pos h1, if_neg h2, if_pos h1, if_neg h2, if_pos h1]
    · rw [if_neg h1]
      by_cases h2 : j = r
      · rw [if_pos h2, if_pos h2, if_pos h2]
      · rw [if_neg h2, if_neg h2, if_neg h1, if_neg h2, if_neg h1]
  · rw [swapped_len] at hi
    rw [sg, tg]
    split
    · exact ⟨(s.rows b hb).1, (s.rows b hb).2.put_ne (fun e => (s.rows b hb).1.2 e.symm)⟩
    · split
      · exact ⟨(s.rows r hr).1, (s.rows r hr).2.put_ne (fun e => (s.rows r hr).1.2 e.symm)⟩
      · exact ⟨(s.rows i hi).1, (s.rows i hi).2.put_ne (fun e => (s.rows i hi).1.2 e.symm)⟩
  · rw [swapped_len] at hi hj
    rw [sg, sg]
    by_cases h1 : i = r
    · rw [if_pos h1]
      by_cases h2 : j = r
      · omega
      · rw [if_neg h2]
        by_cases h3 : j = b
        · rw [if_pos h3]; exact s.dist b r hb hr (by omega)
        · rw [if_neg h3]; exact s.dist b j hb hj (by omega)
    · rw [if_neg h1]
      by_cases h4 : i = b
      · rw [if_pos h4]
        by_cases h2 : j = r
        · rw [if_pos h2]; exact s.dist r b hr hb (by omega)
        · rw [if_neg h2, if_neg (by omega)]; exact s.dist r j hr hj (by omega)
      · rw [if_neg h4]
        by_cases h2 : j = r
        · rw [if_pos h2]; exact s.dist i b hi hb (by omega)
        · rw [if_neg h2]
          by_cases h3 : j = b
          · rw [if_pos h3]; exact s.dist i r hi hr (by omega)
          · rw [if_neg h3]; exact s.dist i j hi hj hij
end Go.Proofs.Ytnjhhgfpclngcaa.X
