/- Slices of slices; a copy of a row in a block of its own; the row under way in an elimination in place. -/
import Derived.Test.YtnjhhgfpclngcaaXF27
set_option linter.unusedVariables false
set_option linter.unusedSimpArgs false
set_option maxRecDepth 20000
set_option maxHeartbeats 4000000
namespace Go.Proofs.Ytnjhhgfpclngcaa.X
open Go Go.RowKit

def boundV (d : Int) : Option Value → Option Int
  | none => some d
  | some (.int _ i) => some i
  | some _ => none
def slcV (sz : Nat) (v : Value) (lo hi : Option Value) : Option Value := match v with
  | .slice (some ⟨n, off, _⟩) len sz' => match boundV 0 lo, boundV len hi with
    | some l, some u =>
      if sz' = sz ∧ 0 ≤ l ∧ l < u ∧ u ≤ len then some (.slice (some ⟨n, off + l.toNat * sz, none⟩) (u - l).toNat sz)
      else if sz' = sz ∧ 0 ≤ l ∧ l = u ∧ u ≤ len then some (.slice none 0 1) else none
    | _, _ => none
  | .slice none 0 t => match boundV 0 lo, boundV 0 hi with
    | some l, some u => if l = 0 ∧ u = 0 then some (.slice none 0 t) else none
    | _, _ => none
  | _ => none
def omapF (f : Fr) : Option Operand → Option Value
  | none => none
  | some x => some (ev f x)
theorem omapF_none {f : Fr} : omapF f none = none := rfl
theorem omapF_some {f : Fr} {x : Operand} : omapF f (some x) = some (ev f x) := rfl
theorem bound_eq {f : Fr} {d : Int} {o : Option Operand} : bound f d o = boundV d (omapF f o) := by
  cases o with
  | none => rfl
  | some x => simp only [bound, omapF, boundV]; split <;> simp_all
theorem WX_slc {S : XS} {f : Fr} {h : AH} {Q : Value → AH → Prop} {sz : Nat} {x : Operand} {lo hi : Option Operand} : WX S (.slc sz x lo hi) f h Q = WV (slcV sz (ev f x) (omapF f lo) (omapF f hi)) fun v => Q v h := by
  rw [WX_op (fun _ => rfl)]
  have : xop (.slc sz x lo hi) f h = (slcV sz (ev f x) (omapF f lo) (omapF f hi)).map (·, h) := by
    simp only [xop, slcV, bound_eq]
    generalize ev f x = v
    rcases hA : boundV 0 (omapF f lo) with _ | l
    · split <;> simp
    · split
      · rcases hB : boundV _ (omapF f hi) with _ | u
        · simp [hB]
        · simp only [hB]
          split
          · rfl
          · split <;> rfl
      · rcases hB : boundV 0 (omapF f hi) with _ | u
        · simp [hB]
        · simp only [hB]
          split <;> rfl
      · rename_i q1 q2
        split
        · exact absurd rfl (q1 _ _ _ _ _)
        · exact absurd rfl (q2 _)
        · rfl
  rw [this]
  cases slcV sz (ev f x) (omapF f lo) (omapF f hi) <;> simp [OQ_some, WV_some, OQ_none, WV_none]
theorem Vals.slcV {h : AH} {v : Value} {cs : List Value} (hv : Vals h v cs) {k1 k2 : IntKind} {l u : Int} (h0 : 0 ≤ l ∧ l ≤ u ∧ u ≤ cs.length) :
    ∃ v', X.slcV 1 v (some (.int k1 l)) (some (.int k2 u)) = some v' ∧ Vals h v' ((cs.drop l.toNat).take (u - l).toNat) := by
  have hlen : ((cs.drop l.toNat).take (u - l).toNat).length = (u - l).toNat := by simp; omega
  rcases hv with ⟨rfl, t, ht, rfl⟩ | ⟨b, off, blk, rfl, h2, h3, h4⟩
  · simp at h0
    have : l = 0 ∧ u = 0 := by omega
    exact ⟨_, by simp [X.slcV, boundV, this], .inl ⟨by simp, t, ht, rfl⟩⟩
  · by_cases hlu : l < u
    · refine ⟨.slice (some ⟨b, off + l.toNat * 1, none⟩) (u - l).toNat 1, by simp [X.slcV, boundV, hlu, h0.1, h0.2.2], .inr ⟨b, off + l.toNat, blk, by rw [hlen]; simp, h2, by omega, fun i hi => ?_⟩⟩
      rw [hlen] at hi
      rw [show off + l.toNat + i = off + (l.toNat + i) by omega, h4 _ (by omega)]
      simp [List.getD_eq_getElem?_getD, List.getElem?_take, List.getElem?_drop, hi]
    · have e : l = u := by omega
      subst e
      exact ⟨.slice none 0 1, by simp [X.slcV, boundV, h0.1, h0.2.2], .inl ⟨by simp, 1, by omega, rfl⟩⟩
theorem Vals.slcV_lo {h : AH} {v : Value} {cs : List Value} (hv : Vals h v cs) {k1 : IntKind} {l : Int} (h0 : 0 ≤ l ∧ l ≤ cs.length) :
    ∃ v', X.slcV 1 v (some (.int k1 l)) none = some v' ∧ Vals h v' (cs.drop l.toNat) := by
  obtain ⟨v', h1, h2⟩ := hv.slcV (k1 := k1) (k2 := .i64) (l := l) (u := cs.length) (by omega)
  refine ⟨v', ?_, ?_⟩
  · rw [← h1]
    rcases hv with ⟨rfl, t, ht, rfl⟩ | ⟨b, off, blk, rfl, h2, h3, h4⟩ <;> simp [X.slcV, boundV]
  · rw [List.take_of_length_le (by simp; omega)] at h2
    exact h2
theorem Vals.ints {h : AH} {v : Value} {ns : List Int} (hv : Vals h v (ns.map (Value.int .i64))) : Ints h v ns := by
  rcases hv with ⟨e, t, ht, rfl⟩ | ⟨b, off, blk, rfl, h2, h3, h4⟩
  · exact .inl ⟨by simpa using e, t, ht, rfl⟩
  · refine .inr ⟨b, off, blk, by simp, h2, by simpa using h3, fun i hi => ?_⟩
    rw [h4 i (by simpa using hi)]
    simp [List.getD_eq_getElem?_getD, List.getElem?_eq_getElem hi]
theorem Ints.slcV {h : AH} {v : Value} {ns : List Int} (hv : Ints h v ns) {k1 k2 : IntKind} {l u : Int} (h0 : 0 ≤ l ∧ l ≤ u ∧ u ≤ ns.length) :
    ∃ v', X.slcV 1 v (some (.int k1 l)) (some (.int k2 u)) = some v' ∧ Ints h v' ((ns.drop l.toNat).take (u - l).toNat) := by
  obtain ⟨v', h1, h2⟩ := hv.vals.slcV (k1 := k1) (k2 := k2) (l := l) (u := u) (by simpa using h0)
  exact ⟨v', h1, Vals.ints (by simpa [List.map_drop, List.map_take] using h2)⟩

/-- A copy: a block of its own, not made longer yet. -/
theorem i_CloneB {v : Value} {ns : List Int} {h : AH} {Q : Value → AH → Prop} (hv : Ints h v ns) (h0 : 0 < ns.length) (hl : (ns.length : Int) ≤ 1048576)
    (hQ : ∀ n h', h.length ≤ n → h <+: h' → OwnB h' n (ns.map (Value.int .i64)) false → Q (.slice (some ⟨n, 0, none⟩) ns.length 1) h') : WF S 102 [v] h Q := by
  refine WF_fn (fn := c102) rfl rfl ?_
  unfold c102
  obtain ⟨n, off, rfl, hr⟩ := hv.vals.rdn (by simpa using h0)
  try simp (maxSteps := 3000000) (disch := first | omega | (simp only [len_new, len_put, len_kill]; omega)) only [↓xpre, xpost, ↓reduceIte, Nat.reduceEqDiff, Nat.reduceAdd, Nat.reduceSub, Nat.reduceLeDiff, Nat.zero_add, Nat.sub_zero, ↓WX_isnil, isnilV_some, fillL, zrep]
  rw [List.length_map] at hr ⊢
  rw [app_zero get_new_same (show AH.rdn (AH.new h _) n off ns.length = _ by rw [rdn_eq] at hr ⊢; obtain ⟨b, hb, hc⟩ := Option.bind_eq_some_iff.1 hr; rw [get_new_any hb]; exact hc) h0 (by omega)]
  try simp (maxSteps := 3000000) (disch := first | omega | (simp only [len_new, len_put, len_kill]; omega)) only [↓xpre, xpost, ↓reduceIte, Nat.reduceEqDiff, Nat.reduceAdd, Nat.reduceSub, Nat.reduceLeDiff, Nat.zero_add, Nat.sub_zero]
  exact hQ _ _ (by rw [len_new]; omega) (pre_new (pre_kill (pre_new (List.prefix_refl _)) (Nat.le_refl _))) ⟨_, get_new_eq (by rw [len_kill])⟩

theorem firstAt_pivot {T : List (List Int)} {c r : Nat} : ∀ {m i : Nat}, firstAt (fun i => decide (tb T (r + i) c ≠ 0)) m i = if pivot T c m (r + i) = r + i + m then -1 else ((pivot T c m (r + i) - r : Nat) : Int)
  | 0, i => by simp [firstAt, pivot]
  | m + 1, i => by
    unfold firstAt pivot
    by_cases h : tb T (r + i) c = 0
    · have e : (decide (tb T (r + i) c ≠ 0)) = false := by simp [h]
      rw [e, if_neg (by simp), if_pos h, firstAt_pivot (m := m) (i := i + 1), show r + (i + 1) = r + i + 1 by omega, show r + i + 1 + m = r + i + (m + 1) by omega]
    · have e : (decide (tb T (r + i) c ≠ 0)) = true := by simp [h]
      rw [e, if_pos rfl, if_neg h, if_neg (by omega), show r + i - r = i by omega]

/-- A row changed as far as l. -/
def mixed (g : Nat → Int) (row : List Int) (l : Nat) : List Int := gen row.length fun x => if x < l then g x else row.getD x 0
theorem mixed_len {g : Nat → Int} {row : List Int} {l : Nat} : (mixed g row l).length = row.length := gen_len
theorem mixed_zero {g : Nat → Int} {row : List Int} : mixed g row 0 = row := by
  symm
  exact gen_ext rfl fun l hl => by simp
theorem mixed_next {g : Nat → Int} {row : List Int} {l : Nat} (hl : l < row.length) : (mixed g row l).set l (g l) = mixed g row (l + 1) := by
  refine gen_ext (by rw [List.length_set, mixed_len]) fun x hx => ?_
  rw [set_getD (by rw [mixed_len]; exact hl)]
  by_cases h : x = l
  · subst h; rw [if_pos rfl, if_pos (by omega)]
  · rw [if_neg h]
    unfold mixed
    rw [gen_get hx]
    by_cases h2 : x < l
    · rw [if_pos h2, if_pos (by omega)]
    · rw [if_neg h2, if_neg (by omega)]
theorem mixed_full {g : Nat → Int} {row : List Int} : mixed g row row.length = gen row.length g := gen_congr fun i hi => if_pos hi
theorem mixed_get {g : Nat → Int} {row : List Int} {l x : Nat} (hx : x < row.length) (hl : l ≤ x) : (mixed g row l).getD x 0 = row.getD x 0 := by
  unfold mixed
  rw [gen_get hx, if_neg (by omega)]
theorem OwnT.rdk {h0 h : AH} {lo n0 : Nat} {bs : List Nat} {T : List (List Int)} (s : OwnT h0 h lo n0 bs T) {k N : Nat} (hN : T.length = N) (hk : k < N) :
    ixsV 1 (.slice (some ⟨n0, 0, none⟩) N 1) (I64 k) = some (.pointer (some ⟨n0, k, none⟩)) ∧ h.rd1 n0 k = some (.slice (some ⟨bs.getD k 0, 0, none⟩) (T.getD k []).length 1) := by
  obtain ⟨e, hg⟩ := s.g
  subst hN
  refine ⟨?_, ?_⟩
  · rw [ixsV_some, if_pos (by omega)]
    simp
  · rw [rd1_of hg]
    simp only [List.getElem?_mapIdx, List.getElem?_eq_getElem hk, Option.map_some, List.getD_eq_getElem?_getD, Option.getD_some]
theorem OwnT.rdc {h0 h : AH} {lo n0 : Nat} {bs : List Nat} {T : List (List Int)} (s : OwnT h0 h lo n0 bs T) {k l W : Nat} (hk : k < T.length) (hW : (T.getD k []).length = W) (hl : l < W) :
    ixsV 1 (.slice (some ⟨bs.getD k 0, 0, none⟩) W 1) (I64 l) = some (.pointer (some ⟨bs.getD k 0, l, none⟩)) ∧ h.rd1 (bs.getD k 0) l = some (I64 ((T.getD k []).getD l 0)) := by
  obtain ⟨e, hg⟩ := (s.rows k hk).2
  subst hW
  refine ⟨?_, ?_⟩
  · rw [ixsV_some, if_pos (by omega)]
    simp
  · rw [rd1_of hg]
    generalize T.getD k [] = row at hl
    rw [List.getElem?_map, List.getElem?_eq_getElem hl, List.getD_eq_getElem?_getD, List.getElem?_eq_getElem hl]
    rfl
end Go.Proofs.Ytnjhhgfpclngcaa.X
