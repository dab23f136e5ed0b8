/- Texts of one claim, put together by merge.py: XF27, XF28, XF29, XF30, XF31, XE1, XS1, XG1, XS2, XE2, XY, XP1, XP2, XF32, XP3, XS3, XF10. -/
import Derived.Test.YtapafdpnmakekaaSI8
set_option linter.unusedVariables false
set_option linter.unusedSimpArgs false
set_option maxRecDepth 20000
set_option maxHeartbeats 4000000
namespace Go.Proofs.Ytapafdpnmakekaa.X
open Go Go.RowKit
structure OwnT (h0 h : AH) (lo n0 : Nat) (bs : List Nat) (T : List (List Int)) : Prop where
  hp : h0 <+: h
  lo0 : h0.length ≤ n0 ∧ n0 < h.length
  g : OwnB h n0 (T.mapIdx fun i r => .slice (some ⟨bs.getD i 0, 0, none⟩) r.length 1) false
  len : bs.length = T.length
  rows : ∀ i, i < T.length → (h0.length ≤ bs.getD i 0 ∧ bs.getD i 0 ≠ n0) ∧ OwnB h (bs.getD i 0) ((T.getD i []).map (Value.int .i64)) false
  dist : ∀ i j, i < T.length → j < T.length → i ≠ j → bs.getD i 0 ≠ bs.getD j 0
theorem OwnT.cell {h0 h : AH} {lo n0 : Nat} {bs : List Nat} {T : List (List Int)} (s : OwnT h0 h lo n0 bs T) {k l : Nat} {x : Int} (hk : k < T.length) (hl : l < (T.getD k []).length) {e : TypeId} (he : h.get (bs.getD k 0) = some ⟨(T.getD k []).map (Value.int .i64), e, false, false⟩) :
    OwnT h0 (h.put (bs.getD k 0) ⟨((T.getD k []).set l x).map (Value.int .i64), e, false, false⟩) lo n0 bs (T.set k ((T.getD k []).set l x)) := by
  have hlt := get_lt he
  have hr := (s.rows k hk).1
  refine ⟨pre_put s.hp hr.1, ⟨s.lo0.1, by rw [len_put]; exact s.lo0.2⟩, ?_, by rw [List.length_set]; exact s.len, fun i hi => ?_, fun i j hi hj => s.dist i j (by simpa using hi) (by simpa using hj)⟩
  · have e1 : (T.set k ((T.getD k []).set l x)).mapIdx (fun i r => Value.slice (some ⟨bs.getD i 0, 0, none⟩) r.length 1) = T.mapIdx fun i r => .slice (some ⟨bs.getD i 0, 0, none⟩) r.length 1 := by
      refine List.ext_getElem? fun j => ?_
      rw [List.getElem?_mapIdx, List.getElem?_mapIdx, List.getElem?_set]
      split
      · rename_i e
        subst e
        simp [hk, List.getD_eq_getElem?_getD, List.getElem?_eq_getElem hk]
      · rfl
    rw [e1]
    exact s.g.put_ne hr.2
  · rw [List.length_set] at hi
    refine ⟨(s.rows i hi).1, ?_⟩
    rw [set_getD' hk]
    by_cases h : i = k
    · subst h
      rw [if_pos rfl]
      exact ⟨e, get_put_same hlt⟩
    · rw [if_neg h]
      exact (s.rows i hi).2.put_ne (s.dist k i hk hi (fun e => h e.symm))
theorem outer_get {bs : List Nat} {T : List (List Int)} {k : Nat} (hk : k < T.length) : (T.mapIdx fun i r => Value.slice (some ⟨bs.getD i 0, 0, none⟩) r.length 1).getD k undef = .slice (some ⟨bs.getD k 0, 0, none⟩) (T.getD k []).length 1 := by
  rw [List.getD_eq_getElem?_getD, List.getElem?_mapIdx, List.getElem?_eq_getElem hk]
  simp [List.getD_eq_getElem?_getD, List.getElem?_eq_getElem hk]
theorem OwnT.vals {h0 h : AH} {lo n0 : Nat} {bs : List Nat} {T : List (List Int)} (s : OwnT h0 h lo n0 bs T) : Vals h (.slice (some ⟨n0, 0, none⟩) T.length 1) (T.mapIdx fun i r => .slice (some ⟨bs.getD i 0, 0, none⟩) r.length 1) := by
  obtain ⟨e, hg⟩ := s.g
  refine .inr ⟨n0, 0, _, by rw [List.length_mapIdx], hg, by simp, fun i hi => ?_⟩
  rw [Nat.zero_add, List.getD_eq_getElem?_getD, List.getElem?_eq_getElem hi]
  rfl
theorem OwnT.row {h0 h : AH} {lo n0 : Nat} {bs : List Nat} {T : List (List Int)} (s : OwnT h0 h lo n0 bs T) {k : Nat} (hk : k < T.length) : Ints h (.slice (some ⟨bs.getD k 0, 0, none⟩) (T.getD k []).length 1) (T.getD k []) := by
  obtain ⟨e, hg⟩ := (s.rows k hk).2
  exact Ints.own hg rfl
theorem OwnT.pre {h0 h h' : AH} {lo n0 : Nat} {bs : List Nat} {T : List (List Int)} (s : OwnT h0 h lo n0 bs T) (p : h <+: h') : OwnT h0 h' lo n0 bs T :=
  ⟨s.hp.trans p, ⟨s.lo0.1, by have := pre_len p; have := s.lo0.2; omega⟩, s.g.pre p, s.len, fun i hi => ⟨(s.rows i hi).1, (s.rows i hi).2.pre p⟩, s.dist⟩
theorem getD_ext' {α : Type} {d : α} {T T' : List α} (hl : T.length = T'.length) (h : ∀ j, j < T.length → T.getD j d = T'.getD j d) : T = T' := by
  refine List.ext_getElem? fun j => ?_
  by_cases h1 : j < T.length
  · have := h j h1
    rw [List.getElem?_eq_getElem h1, List.getElem?_eq_getElem (by omega)]
    simpa [List.getD_eq_getElem?_getD, List.getElem?_eq_getElem h1, List.getElem?_eq_getElem (show j < T'.length by omega)] using this
  · rw [List.getElem?_eq_none (by omega), List.getElem?_eq_none (by omega)]
def swapB (bs : List Nat) (r b : Nat) : List Nat := (bs.set b (bs.getD r 0)).set r (bs.getD b 0)
theorem swapB_get {bs : List Nat} {r b j : Nat} (hr : r < bs.length) (hb : b < bs.length) : (swapB bs r b).getD j 0 = if j = r then bs.getD b 0 else if j = b then bs.getD r 0 else bs.getD j 0 := by
  unfold swapB
  rw [set_getD' (by simpa using hr)]
  split
  · rfl
  · rw [set_getD' hb]
theorem OwnT.swap {h0 h : AH} {lo n0 : Nat} {bs : List Nat} {T : List (List Int)} (s : OwnT h0 h lo n0 bs T) {r b : Nat} (hr : r < T.length) (hb : b < T.length) {e : TypeId} {c : List Value}
    (hc : c = (((T.mapIdx fun i r => Value.slice (some ⟨bs.getD i 0, 0, none⟩) r.length 1).set r (.slice (some ⟨bs.getD b 0, 0, none⟩) (T.getD b []).length 1)).set b (.slice (some ⟨bs.getD r 0, 0, none⟩) (T.getD r []).length 1))) :
    OwnT h0 (h.put n0 ⟨c, e, false, false⟩) lo n0 (swapB bs r b) (swapped T r b) := by
  have hl := s.len
  have sg := fun j => swapB_get (bs := bs) (r := r) (b := b) (j := j) (by omega) (by omega)
  have tg := fun j => swapped_get (T := T) (r := r) (i := b) (j := j) hr hb
  refine ⟨pre_put s.hp s.lo0.1, ⟨s.lo0.1, by rw [len_put]; exact s.lo0.2⟩, ⟨e, ?_⟩, by simp [swapB, swapped_len, hl], fun i hi => ?_, fun i j hi hj hij => ?_⟩
  · rw [get_put_same s.lo0.2, hc]
    congr 2
    refine getD_ext' (d := undef) (by simp [swapped_len]) fun j hj => ?_
    have hj' : j < T.length := by simpa using hj
    rw [outer_get (by rw [swapped_len]; exact hj'), sg, tg, set_getD' (by simpa using hb), set_getD' (by simpa using hr), outer_get hj']
    by_cases h1 : j = b
    · by_cases h2 : j = r
      · subst h1; subst h2; simp
      · rw [if_pos h1, if_neg h2, if_pos h1, if_neg h2, if_pos h1]
    · rw [if_neg h1]
      by_cases h2 : j = r
      · rw [if_pos h2, if_pos h2, if_pos h2]
      · rw [if_neg h2, if_neg h2, if_neg h1, if_neg h2, if_neg h1]
  · rw [swapped_len] at hi
    rw [sg, tg]
    split
    · exact ⟨(s.rows b hb).1, (s.rows b hb).2.put_ne (fun e => (s.rows b hb).1.2 e.symm)⟩
    · split
      · exact ⟨(s.rows r hr).1, (s.rows r hr).2.put_ne (fun e => (s.rows r hr).1.2 e.symm)⟩
      · exact ⟨(s.rows i hi).1, (s.rows i hi).2.put_ne (fun e => (s.rows i hi).1.2 e.symm)⟩
  · rw [swapped_len] at hi hj
    rw [sg, sg]
    by_cases h1 : i = r
    · rw [if_pos h1]
      by_cases h2 : j = r
      · omega
      · rw [if_neg h2]
        by_cases h3 : j = b
        · rw [if_pos h3]; exact s.dist b r hb hr (by omega)
        · rw [if_neg h3]; exact s.dist b j hb hj (by omega)
    · rw [if_neg h1]
      by_cases h4 : i = b
      · rw [if_pos h4]
        by_cases h2 : j = r
        · rw [if_pos h2]; exact s.dist r b hr hb (by omega)
        · rw [if_neg h2, if_neg (by omega)]; exact s.dist r j hr hj (by omega)
      · rw [if_neg h4]
        by_cases h2 : j = r
        · rw [if_pos h2]; exact s.dist i b hi hb (by omega)
        · rw [if_neg h2]
          by_cases h3 : j = b
          · rw [if_pos h3]; exact s.dist i r hi hr (by omega)
          · rw [if_neg h3]; exact s.dist i j hi hj hij
end Go.Proofs.Ytapafdpnmakekaa.X

set_option linter.unusedVariables false
set_option linter.unusedSimpArgs false
set_option maxRecDepth 20000
set_option maxHeartbeats 4000000
namespace Go.Proofs.Ytapafdpnmakekaa.X
open Go Go.RowKit
def boundV (d : Int) : Option Value → Option Int
  | none => some d
  | some (.int _ i) => some i
  | some _ => none
def slcV (sz : Nat) (v : Value) (lo hi : Option Value) : Option Value := match v with
  | .slice (some ⟨n, off, _⟩) len sz' => match boundV 0 lo, boundV len hi with
    | some l, some u =>
      if sz' = sz ∧ 0 ≤ l ∧ l < u ∧ u ≤ len then some (.slice (some ⟨n, off + l.toNat * sz, none⟩) (u - l).toNat sz)
      else if sz' = sz ∧ lo = none ∧ l = 0 ∧ u = 0 then some (.slice (some ⟨n, off, none⟩) 0 sz)
      else if sz' = sz ∧ 0 ≤ l ∧ l = u ∧ u ≤ len then some (.slice none 0 1) else none
    | _, _ => none
  | .slice none 0 t => match boundV 0 lo, boundV 0 hi with
    | some l, some u => if l = 0 ∧ u = 0 then some (.slice none 0 t) else none
    | _, _ => none
  | _ => none
def omapF (f : Fr) : Option Operand → Option Value
  | none => none
  | some x => some (ev f x)
theorem omapF_none {f : Fr} : omapF f none = none := rfl
theorem omapF_some {f : Fr} {x : Operand} : omapF f (some x) = some (ev f x) := rfl
theorem bound_eq {f : Fr} {d : Int} {o : Option Operand} : bound f d o = boundV d (omapF f o) := by
  cases o with
  | none => rfl
  | some x => simp only [bound, omapF, boundV]; split <;> simp_all
theorem omapF_isn {f : Fr} {o : Option Operand} : (omapF f o = none) = (o = none) := by cases o <;> simp [omapF]
theorem WX_slc {S : XS} {f : Fr} {h : AH} {Q : Value → AH → Prop} {sz : Nat} {x : Operand} {lo hi : Option Operand} : WX S (.slc sz x lo hi) f h Q = WV (slcV sz (ev f x) (omapF f lo) (omapF f hi)) fun v => Q v h := by
  rw [WX_op (fun _ => rfl)]
  have : xop (.slc sz x lo hi) f h = (slcV sz (ev f x) (omapF f lo) (omapF f hi)).map (·, h) := by
    simp only [xop, slcV, bound_eq]
    generalize ev f x = v
    rcases hA : boundV 0 (omapF f lo) with _ | l
    · split <;> simp
    · split
      · rcases hB : boundV _ (omapF f hi) with _ | u
        · simp [hB]
        · simp only [hB, omapF_isn]
          split
          · rfl
          · split
            · rfl
            · split <;> rfl
      · rcases hB : boundV 0 (omapF f hi) with _ | u
        · simp [hB]
        · simp only [hB]
          split <;> rfl
      · rename_i q1 q2
        split
        · exact absurd rfl (q1 _ _ _ _ _)
        · exact absurd rfl (q2 _)
        · rfl
  rw [this]
  cases slcV sz (ev f x) (omapF f lo) (omapF f hi) <;> simp [OQ_some, WV_some, OQ_none, WV_none]
theorem Vals.slcV {h : AH} {v : Value} {cs : List Value} (hv : Vals h v cs) {k1 k2 : IntKind} {l u : Int} (h0 : 0 ≤ l ∧ l ≤ u ∧ u ≤ cs.length) :
    ∃ v', X.slcV 1 v (some (.int k1 l)) (some (.int k2 u)) = some v' ∧ Vals h v' ((cs.drop l.toNat).take (u - l).toNat) := by
  have hlen : ((cs.drop l.toNat).take (u - l).toNat).length = (u - l).toNat := by simp; omega
  rcases hv with ⟨rfl, t, ht, rfl⟩ | ⟨b, off, blk, rfl, h2, h3, h4⟩
  · simp at h0
    have : l = 0 ∧ u = 0 := by omega
    exact ⟨_, by simp [X.slcV, boundV, this], .inl ⟨by simp, t, ht, rfl⟩⟩
  · by_cases hlu : l < u
    · refine ⟨.slice (some ⟨b, off + l.toNat * 1, none⟩) (u - l).toNat 1, by simp [X.slcV, boundV, hlu, h0.1, h0.2.2], .inr ⟨b, off + l.toNat, blk, by rw [hlen]; simp, h2, by omega, fun i hi => ?_⟩⟩
      rw [hlen] at hi
      rw [show off + l.toNat + i = off + (l.toNat + i) by omega, h4 _ (by omega)]
      simp [List.getD_eq_getElem?_getD, List.getElem?_take, List.getElem?_drop, hi]
    · have e : l = u := by omega
      subst e
      exact ⟨.slice none 0 1, by simp [X.slcV, boundV, h0.1, h0.2.2], .inl ⟨by simp, 1, by omega, rfl⟩⟩
theorem Vals.slcV_lo {h : AH} {v : Value} {cs : List Value} (hv : Vals h v cs) {k1 : IntKind} {l : Int} (h0 : 0 ≤ l ∧ l ≤ cs.length) :
    ∃ v', X.slcV 1 v (some (.int k1 l)) none = some v' ∧ Vals h v' (cs.drop l.toNat) := by
  obtain ⟨v', h1, h2⟩ := hv.slcV (k1 := k1) (k2 := .i64) (l := l) (u := cs.length) (by omega)
  refine ⟨v', ?_, ?_⟩
  · rw [← h1]
    rcases hv with ⟨rfl, t, ht, rfl⟩ | ⟨b, off, blk, rfl, h2, h3, h4⟩ <;> simp [X.slcV, boundV]
  · rw [List.take_of_length_le (by simp; omega)] at h2
    exact h2
theorem Vals.ints {h : AH} {v : Value} {ns : List Int} (hv : Vals h v (ns.map (Value.int .i64))) : Ints h v ns := by
  rcases hv with ⟨e, t, ht, rfl⟩ | ⟨b, off, blk, rfl, h2, h3, h4⟩
  · exact .inl ⟨by simpa using e, t, ht, rfl⟩
  · refine .inr ⟨b, off, blk, by simp, h2, by simpa using h3, fun i hi => ?_⟩
    rw [h4 i (by simpa using hi)]
    simp [List.getD_eq_getElem?_getD, List.getElem?_eq_getElem hi]
theorem Ints.slcV {h : AH} {v : Value} {ns : List Int} (hv : Ints h v ns) {k1 k2 : IntKind} {l u : Int} (h0 : 0 ≤ l ∧ l ≤ u ∧ u ≤ ns.length) :
    ∃ v', X.slcV 1 v (some (.int k1 l)) (some (.int k2 u)) = some v' ∧ Ints h v' ((ns.drop l.toNat).take (u - l).toNat) := by
  obtain ⟨v', h1, h2⟩ := hv.vals.slcV (k1 := k1) (k2 := k2) (l := l) (u := u) (by simpa using h0)
  exact ⟨v', h1, Vals.ints (by simpa [List.map_drop, List.map_take] using h2)⟩
theorem i_CloneB {v : Value} {ns : List Int} {h : AH} {Q : Value → AH → Prop} (hv : Ints h v ns) (h0 : 0 < ns.length) (hl : (ns.length : Int) ≤ 1048576)
    (hQ : ∀ n h', h.length ≤ n → h <+: h' → OwnB h' n (ns.map (Value.int .i64)) false → Q (.slice (some ⟨n, 0, none⟩) ns.length 1) h') : WF S 285 [v] h Q := by
  refine WF_fn (fn := c285) rfl rfl ?_
  unfold c285
  obtain ⟨n, off, rfl, hr⟩ := hv.vals.rdn (by simpa using h0)
  try simp (maxSteps := 3000000) (disch := first | omega | (simp only [len_new, len_put, len_kill]; omega)) only [↓xpre, xpost, ↓reduceIte, Nat.reduceEqDiff, Nat.reduceAdd, Nat.reduceSub, Nat.reduceLeDiff, Nat.zero_add, Nat.sub_zero, ↓WX_isnil, isnilV_some, fillL, zrep]
  rw [List.length_map] at hr ⊢
  rw [app_zero get_new_same (show AH.rdn (AH.new h _) n off ns.length = _ by rw [rdn_eq] at hr ⊢; obtain ⟨b, hb, hc⟩ := Option.bind_eq_some_iff.1 hr; rw [get_new_any hb]; exact hc) h0 (by omega)]
  try simp (maxSteps := 3000000) (disch := first | omega | (simp only [len_new, len_put, len_kill]; omega)) only [↓xpre, xpost, ↓reduceIte, Nat.reduceEqDiff, Nat.reduceAdd, Nat.reduceSub, Nat.reduceLeDiff, Nat.zero_add, Nat.sub_zero]
  exact hQ _ _ (by rw [len_new]; omega) (pre_new (pre_kill (pre_new (List.prefix_refl _)) (Nat.le_refl _))) ⟨_, get_new_eq (by rw [len_kill])⟩
theorem firstAt_pivot {T : List (List Int)} {c r : Nat} : ∀ {m i : Nat}, firstAt (fun i => decide (tb T (r + i) c ≠ 0)) m i = if pivot T c m (r + i) = r + i + m then -1 else ((pivot T c m (r + i) - r : Nat) : Int)
  | 0, i => by simp [firstAt, pivot]
  | m + 1, i => by
    unfold firstAt pivot
    by_cases h : tb T (r + i) c = 0
    · have e : (decide (tb T (r + i) c ≠ 0)) = false := by simp [h]
      rw [e, if_neg (by simp), if_pos h, firstAt_pivot (m := m) (i := i + 1), show r + (i + 1) = r + i + 1 by omega, show r + i + 1 + m = r + i + (m + 1) by omega]
    · have e : (decide (tb T (r + i) c ≠ 0)) = true := by simp [h]
      rw [e, if_pos rfl, if_neg h, if_neg (by omega), show r + i - r = i by omega]
def mixed (g : Nat → Int) (row : List Int) (l : Nat) : List Int := gen row.length fun x => if x < l then g x else row.getD x 0
theorem mixed_len {g : Nat → Int} {row : List Int} {l : Nat} : (mixed g row l).length = row.length := gen_len
theorem mixed_zero {g : Nat → Int} {row : List Int} : mixed g row 0 = row := by
  symm
  exact gen_ext rfl fun l hl => by simp
theorem mixed_next {g : Nat → Int} {row : List Int} {l : Nat} (hl : l < row.length) : (mixed g row l).set l (g l) = mixed g row (l + 1) := by
  refine gen_ext (by rw [List.length_set, mixed_len]) fun x hx => ?_
  rw [set_getD (by rw [mixed_len]; exact hl)]
  by_cases h : x = l
  · subst h; rw [if_pos rfl, if_pos (by omega)]
  · rw [if_neg h]
    unfold mixed
    rw [gen_get hx]
    by_cases h2 : x < l
    · rw [if_pos h2, if_pos (by omega)]
    · rw [if_neg h2, if_neg (by omega)]
theorem mixed_full {g : Nat → Int} {row : List Int} : mixed g row row.length = gen row.length g := gen_congr fun i hi => if_pos hi
theorem mixed_get {g : Nat → Int} {row : List Int} {l x : Nat} (hx : x < row.length) (hl : l ≤ x) : (mixed g row l).getD x 0 = row.getD x 0 := by
  unfold mixed
  rw [gen_get hx, if_neg (by omega)]
theorem OwnT.rdk {h0 h : AH} {lo n0 : Nat} {bs : List Nat} {T : List (List Int)} (s : OwnT h0 h lo n0 bs T) {k N : Nat} (hN : T.length = N) (hk : k < N) :
    ixsV 1 (.slice (some ⟨n0, 0, none⟩) N 1) (I64 k) = some (.pointer (some ⟨n0, k, none⟩)) ∧ h.rd1 n0 k = some (.slice (some ⟨bs.getD k 0, 0, none⟩) (T.getD k []).length 1) := by
  obtain ⟨e, hg⟩ := s.g
  subst hN
  refine ⟨?_, ?_⟩
  · rw [ixsV_some, if_pos (by omega)]
    simp
  · rw [rd1_of hg]
    simp only [List.getElem?_mapIdx, List.getElem?_eq_getElem hk, Option.map_some, List.getD_eq_getElem?_getD, Option.getD_some]
theorem OwnT.rdc {h0 h : AH} {lo n0 : Nat} {bs : List Nat} {T : List (List Int)} (s : OwnT h0 h lo n0 bs T) {k l W : Nat} (hk : k < T.length) (hW : (T.getD k []).length = W) (hl : l < W) :
    ixsV 1 (.slice (some ⟨bs.getD k 0, 0, none⟩) W 1) (I64 l) = some (.pointer (some ⟨bs.getD k 0, l, none⟩)) ∧ h.rd1 (bs.getD k 0) l = some (I64 ((T.getD k []).getD l 0)) := by
  obtain ⟨e, hg⟩ := (s.rows k hk).2
  subst hW
  refine ⟨?_, ?_⟩
  · rw [ixsV_some, if_pos (by omega)]
    simp
  · rw [rd1_of hg]
    generalize T.getD k [] = row at hl
    rw [List.getElem?_map, List.getElem?_eq_getElem hl, List.getD_eq_getElem?_getD, List.getElem?_eq_getElem hl]
    rfl
end Go.Proofs.Ytapafdpnmakekaa.X

set_option linter.unusedVariables false
set_option linter.unusedSimpArgs false
set_option maxRecDepth 20000
set_option maxHeartbeats 4000000
namespace Go.Proofs.Ytapafdpnmakekaa.X
open Go Go.RowKit
def rowV (p : Nat × List Int) : Value := .slice (some ⟨p.1, 0, none⟩) p.2.length 1
structure CloneS (h0 h : AH) (nb : Nat) (full : Bool) (L : List (Nat × List Int)) : Prop where
  hp : h0 <+: h
  lo : h0.length ≤ nb
  g : h.get nb = some ⟨L.map rowV, 27, false, full⟩
  rows : ∀ p, p ∈ L → (h0.length ≤ p.1 ∧ p.1 ≠ nb) ∧ OwnB h p.1 (p.2.map (Value.int .i64)) false
  dist : L.Pairwise (fun p q => p.1 ≠ q.1)
theorem OwnB.kill_ne {h : AH} {c : List Value} {full : Bool} {n m : Nat} (o : OwnB h n c full) (e : m ≠ n) : OwnB (h.kill m) n c full := by
  obtain ⟨t, hg⟩ := o
  exact ⟨t, by rw [get_kill_ne e]; exact hg⟩
theorem OwnB.new {h : AH} {c : List Value} {full : Bool} {n : Nat} {b : Blk} (o : OwnB h n c full) : OwnB (h.new b) n c full := by
  obtain ⟨t, hg⟩ := o
  exact ⟨t, get_new_any hg⟩
theorem CloneS.app {h0 h1 h2 : AH} {nb n : Nat} {full fu : Bool} {L : List (Nat × List Int)} {r : List Int} {e : TypeId} (s : CloneS h0 h1 nb full L) (hn : h1.length ≤ n) (p : h1 <+: h2) (ob : OwnB h2 n (r.map (Value.int .i64)) false)
    (hl : (L.length : Int) ≤ 1048576) {Q : Value → AH → Prop}
    (hQ : ∀ nb' H', CloneS h0 H' nb' false (L ++ [(n, r)]) → Q (.slice (some ⟨nb', 0, none⟩) (L ++ [(n, r)]).length 1) H') :
    OQ (appV 27 1 24 (.slice (some ⟨nb, 0, none⟩) L.length 1) (.slice (some ⟨h2.length, 0, none⟩) 1 1) (h2.new ⟨[.slice (some ⟨n, 0, none⟩) r.length 1], e, false, fu⟩)) Q := by
  have hrd : (h2.new ⟨[.slice (some ⟨n, 0, none⟩) r.length 1], e, false, fu⟩).rdn h2.length 0 1 = some [.slice (some ⟨n, 0, none⟩) r.length 1] := by rw [rdn_new_same]; rfl
  have hk : (h2.new ⟨[.slice (some ⟨n, 0, none⟩) r.length 1], e, false, fu⟩).get nb = some ⟨L.map rowV, 27, false, full⟩ := get_new_any (pre_get p s.g)
  have l1 := get_lt s.g
  have l2 := pre_len p
  have l3 := ob.lt
  have l0 := pre_len s.hp
  rw [app_own hk (by simp) hrd (by omega), OQ_some]
  have key : CloneS h0 (((h2.new ⟨[.slice (some ⟨n, 0, none⟩) r.length 1], e, false, fu⟩).kill nb).new ⟨L.map rowV ++ [.slice (some ⟨n, 0, none⟩) r.length 1], 27, false, false⟩) (h2.new ⟨[.slice (some ⟨n, 0, none⟩) r.length 1], e, false, fu⟩).length false (L ++ [(n, r)]) := by
    refine ⟨pre_new (pre_kill (pre_new (s.hp.trans p)) s.lo), by rw [len_new]; omega, ?_, fun q hq => ?_, ?_⟩
    · rw [get_new_eq (by rw [len_kill])]
      simp [rowV]
    · rw [len_new]
      rcases List.mem_append.1 hq with hq | hq
      · have a := s.rows q hq
        have := a.2.lt
        exact ⟨⟨a.1.1, by omega⟩, (((a.2.pre p).new).kill_ne (fun e => a.1.2 e.symm)).new⟩
      · rw [List.mem_singleton] at hq
        subst hq
        exact ⟨⟨show h0.length ≤ n by omega, show n ≠ h2.length + 1 by omega⟩, (ob.new.kill_ne (show nb ≠ n by omega)).new⟩
    · rw [List.pairwise_append]
      refine ⟨s.dist, by simp, fun a ha b hb => ?_⟩
      rw [List.mem_singleton] at hb
      subst hb
      have := (s.rows a ha).2.lt
      show a.1 ≠ n
      omega
  have := hQ _ _ key
  rw [List.length_append, List.length_singleton] at this
  exact this
theorem CloneS.own {h0 h : AH} {nb : Nat} {L : List (Nat × List Int)} (s : CloneS h0 h nb false L) : OwnT h0 h 0 nb (L.map Prod.fst) (L.map Prod.snd) := by
  have e0 : ((L.map Prod.snd).mapIdx fun i r => Value.slice (some ⟨(L.map Prod.fst).getD i 0, 0, none⟩) r.length 1) = L.map rowV := by
    refine List.ext_getElem? fun j => ?_
    rw [List.getElem?_mapIdx, List.getElem?_map, List.getElem?_map, List.getD_eq_getElem?_getD, List.getElem?_map]
    cases L[j]? <;> rfl
  have ei : ∀ i, i < L.length → ∃ hi : i < L.length, (L.map Prod.fst).getD i 0 = (L[i]).1 ∧ (L.map Prod.snd).getD i [] = (L[i]).2 := fun i hi => ⟨hi, by simp [List.getD_eq_getElem?_getD, hi], by simp [List.getD_eq_getElem?_getD, hi]⟩
  refine ⟨s.hp, ⟨s.lo, get_lt s.g⟩, ⟨27, by rw [e0]; exact s.g⟩, by simp, fun i hi => ?_, fun i j hi hj hij => ?_⟩
  · obtain ⟨hi', e1, e2⟩ := ei i (by simpa using hi)
    rw [e1, e2]
    exact s.rows _ (List.getElem_mem hi')
  · obtain ⟨hi', e1, -⟩ := ei i (by simpa using hi)
    obtain ⟨hj', e2, -⟩ := ei j (by simpa using hj)
    rw [e1, e2]
    have := List.pairwise_iff_getElem.1 s.dist
    rcases Nat.lt_or_gt_of_ne hij with h | h
    · exact this i j hi' hj' h
    · exact fun e => this j i hj' hi' h e.symm
theorem set_self {α : Type} {d : α} {l : List α} {k : Nat} (hk : k < l.length) : l.set k (l.getD k d) = l := by
  rw [List.getD_eq_getElem?_getD, List.getElem?_eq_getElem hk]
  simp
theorem i_rank : RankDoes 246 := by
  intro v rows p W h Q hv hp hN gd hW hQ
  refine WF_fn (fn := c246) rfl rfl ?_
  unfold c246
  have hp5 := isP_in hp
  obtain ⟨cs, hvv, hcl, hr⟩ := hv
  try simp (maxSteps := 3000000) (disch := first | omega | (simp only [len_new, len_put, len_kill]; omega)) only [↓xpre, xpost, ↓reduceIte, Nat.reduceEqDiff, Nat.reduceAdd, Nat.reduceSub, Nat.reduceLeDiff, Nat.zero_add, Nat.sub_zero, fillL, zrep, hvv.len, hcl]
  generalize hH : AH.new h _ = H0
  obtain ⟨hb0, p0, n0⟩ := new_facts hH
  have st0 : CloneS h H0 h.length true [] := ⟨p0, Nat.le_refl _, hb0, by simp, by simp⟩
  refine WC_loop_inv (fun m f K1 => ∃ (i : Nat) (nb : Nat) (full : Bool) (L : List (Nat × List Int)), m = rows.length - i ∧ i ≤ rows.length ∧ f 0 = I64 p ∧ f 5 = .slice (some ⟨nb, 0, none⟩) L.length 1 ∧ f 16 = v ∧ f 17 = I64 rows.length ∧ f 18 = I64 i ∧ (CloneS h K1 nb full L) ∧ (L.map Prod.snd = rows.take i) ∧ (0 < i → full = false)) ?_ (rows.length - 0) _ _ ⟨0, h.length, true, [], rfl, by omega, (by first | rfl | simp [upd_apply]), (by first | rfl | simp [upd_apply]), (by first | rfl | simp [upd_apply]), (by first | rfl | simp [upd_apply]), (by first | rfl | simp [upd_apply]), st0, (by simp), (by omega)⟩
  rintro m f K1 ⟨i, nb, full, L, rfl, hi, f0, f5, f16, f17, f18, st, hL, hfu⟩
  have hLl : L.length = i := by
    have := congrArg List.length hL
    rw [List.length_map, List.length_take] at this
    omega
  try simp (maxSteps := 3000000) (disch := first | omega | (simp only [len_new, len_put, len_kill]; omega)) only [↓xpre, xpost, ↓reduceIte, Nat.reduceEqDiff, Nat.reduceAdd, Nat.reduceSub, Nat.reduceLeDiff, Nat.zero_add, Nat.sub_zero, f0, f5, f16, f17, f18, IfW_dec]
  refine ⟨fun hlt => ?_, fun hge => ?_⟩
  · have hi' : i < rows.length := by omega
    have hvK := hvv.pre st.hp
    have hix := hvK.ix (k := .i64) (j := i) (by omega) (by omega)
    have hrd := hvK.rd (j := i) (by omega) (by omega)
    try simp (maxSteps := 3000000) (disch := first | omega | (simp only [len_new, len_put, len_kill]; omega)) only [↓xpre, xpost, ↓reduceIte, Nat.reduceEqDiff, Nat.reduceAdd, Nat.reduceSub, Nat.reduceLeDiff, Nat.zero_add, Nat.sub_zero, f0, f5, f16, f17, f18, hix, hrd, Int.toNat_natCast]
    refine i_CloneB ((hr i hi').pre st.hp) (by rw [(gd i hi').1]; omega) (by rw [(gd i hi').1]; omega) fun n h2 hn p2 ob => ?_
    try simp (maxSteps := 3000000) (disch := first | omega | (simp only [len_new, len_put, len_kill]; omega)) only [↓xpre, xpost, ↓reduceIte, Nat.reduceEqDiff, Nat.reduceAdd, Nat.reduceSub, Nat.reduceLeDiff, Nat.zero_add, Nat.sub_zero, f0, f5, f16, f17, f18, fillL, zrep]
    refine st.app hn p2 ob (by omega) fun nb' H' st' => ?_
    try simp (maxSteps := 3000000) (disch := first | omega | (simp only [len_new, len_put, len_kill]; omega)) only [↓xpre, xpost, ↓reduceIte, Nat.reduceEqDiff, Nat.reduceAdd, Nat.reduceSub, Nat.reduceLeDiff, Nat.zero_add, Nat.sub_zero, f0, f5, f16, f17, f18, wrap64_in]
    refine InvQ_go (rows.length - (i + 1)) (by omega) ⟨(i + 1), nb', false, (L ++ [(n, rows.getD i [])]), rfl, by omega, (by first | rfl | exact f0 | (simp only [upd_apply]; rfl) | (show I64 _ = _; congr 1; omega)), (by first | rfl | exact f5 | (simp only [upd_apply]; rfl) | (show I64 _ = _; congr 1; omega)), (by first | rfl | exact f16 | (simp only [upd_apply]; rfl) | (show I64 _ = _; congr 1; omega)), (by first | rfl | exact f17 | (simp only [upd_apply]; rfl) | (show I64 _ = _; congr 1; omega)), (by first | rfl | exact f18 | (simp only [upd_apply]; rfl) | (show I64 _ = _; congr 1; omega)), st', ?_, (fun _ => rfl)⟩
    rw [List.map_append, hL, List.take_succ_eq_append_getElem hi']
    simp [List.getD_eq_getElem?_getD, hi']
  · have e : i = rows.length := by omega
    subst e
    rw [List.take_length] at hL
    have hf' := hfu (by omega)
    subst hf'
    have stT := st.own
    rw [hL] at stT
    rw [hLl] at f5
    have blt : ∀ i, i < rows.length → (L.map Prod.fst).getD i 0 < K1.length := fun i hi => (stT.rows i hi).2.lt
    have nlt := stT.lo0.2
    try simp (maxSteps := 3000000) (disch := first | omega | (simp only [len_new, len_put, len_kill]; omega)) only [↓xpre, xpost, ↓reduceIte, Nat.reduceEqDiff, Nat.reduceAdd, Nat.reduceSub, Nat.reduceLeDiff, Nat.zero_add, Nat.sub_zero, f0, f5, f16, f17, f18]
    generalize hH2 : AH.new K1 _ = H2
    obtain ⟨hb2, p2, n2⟩ := new_facts hH2
    have hrk : elim p rows 0 0 (W - 0) = rankN p rows := by
      unfold rankN
      rw [(gd 0 (by omega)).1]
      rfl
    refine WC_loop_inv (fun m f K2 => ∃ (c : Nat) (r : Nat) (bs : List Nat) (T : List (List Int)) (bx : Nat), m = W - c ∧ c ≤ W ∧ f 0 = I64 p ∧ f 5 = .slice (some ⟨nb, 0, none⟩) rows.length 1 ∧ f 8 = I64 r ∧ f 9 = .pointer (some ⟨bx, 0, none⟩) ∧ (OwnT h K2 0 nb bs T) ∧ (OwnB K2 bx [I64 c] true) ∧ (nb < bx) ∧ (∀ i, i < T.length → bs.getD i 0 < bx) ∧ (r ≤ rows.length) ∧ (T.length = rows.length) ∧ (Good p T W) ∧ (elim p T r c (W - c) = rankN p rows)) ?_ (W - 0) _ _ ⟨0, 0, (L.map Prod.fst), rows, K1.length, rfl, by omega, (by first | rfl | exact f0 | (simp [upd_apply]; done)), (by first | rfl | exact f5 | (simp [upd_apply]; done)), (by first | rfl | simp [upd_apply]), (by first | rfl | simp [upd_apply]), stT.pre p2, ⟨_, hb2⟩, nlt, blt, (by omega), rfl, gd, hrk⟩
    rintro m f K2 ⟨c, r, bs, T, bx, rfl, hc, f0, f5, f8, f9, so, hbx, hlo, hlb, hrN, hT, g, hel⟩
    clear stT blt nlt hb2 hH2 p2 n2 hrk st hr hvv hcl
    obtain ⟨eb, hgb⟩ := hbx
    by_cases hrn : r < rows.length
    case neg =>
      try simp (maxSteps := 3000000) (disch := first | omega | (simp only [len_new, len_put, len_kill]; omega)) only [↓xpre, xpost, ↓reduceIte, Nat.reduceEqDiff, Nat.reduceAdd, Nat.reduceSub, Nat.reduceLeDiff, Nat.zero_add, Nat.sub_zero, f0, f5, f8, f9, decide_eq_false (show ¬ ((r : Int) < (rows.length : Int)) by omega)]
      have := hQ _ so.hp
      rw [← hel, elim_full (by omega)] at this
      exact this
    have g0 := (g 0 (by omega)).1
    have rd0 := so.rdk (k := 0) hT (by omega)
    rw [g0] at rd0
    have rx0 : ixsV 1 (.slice (some ⟨nb, 0, none⟩) rows.length 1) (I64 0) = _ := rd0.1
    try simp (maxSteps := 3000000) (disch := first | omega | (simp only [len_new, len_put, len_kill]; omega)) only [↓xpre, xpost, ↓reduceIte, Nat.reduceEqDiff, Nat.reduceAdd, Nat.reduceSub, Nat.reduceLeDiff, Nat.zero_add, Nat.sub_zero, f0, f5, f8, f9, decide_eq_true (show (r : Int) < (rows.length : Int) by omega), rx0, rd0.2, rd1_of hgb, IfW_dec]
    refine ⟨fun hlt => ?_, fun hge => ?_⟩
    · have hvT := so.vals
      rw [hT] at hvT
      obtain ⟨v', hs1, hs2⟩ := hvT.slcV_lo (k1 := .i64) (l := r) ⟨by omega, by rw [List.length_mapIdx]; omega⟩
      rw [Int.toNat_natCast] at hs2
      try simp (maxSteps := 3000000) (disch := first | omega | (simp only [len_new, len_put, len_kill]; omega)) only [↓xpre, xpost, ↓reduceIte, Nat.reduceEqDiff, Nat.reduceAdd, Nat.reduceSub, Nat.reduceLeDiff, Nat.zero_add, Nat.sub_zero, f0, f5, f8, f9, ↓WX_slc, omapF_some, omapF_none, hs1]
      refine i_IndexRows (q := fun i => decide (tb T (r + i) c ≠ 0)) hs2 (by rw [List.length_drop, List.length_mapIdx]; omega) (fun i hi Q hq => ?_) ?_
      · rw [List.length_drop, List.length_mapIdx] at hi
        have e1 : ((T.mapIdx fun i r => Value.slice (some ⟨bs.getD i 0, 0, none⟩) r.length 1).drop r).getD i undef = .slice (some ⟨bs.getD (r + i) 0, 0, none⟩) (T.getD (r + i) []).length 1 := by
          rw [← outer_get (bs := bs) (show r + i < T.length by omega), List.getD_eq_getElem?_getD, List.getElem?_drop, List.getD_eq_getElem?_getD]
        rw [e1]
        simp only [WK_func]
        exact i_rank1 (so.row (k := r + i) (by omega)) (by rw [(g (r + i) (by omega)).1]; omega) hgb hq
      · have hlen : ((T.mapIdx fun i r => Value.slice (some ⟨bs.getD i 0, 0, none⟩) r.length 1).drop r).length = rows.length - r := by rw [List.length_drop, List.length_mapIdx, hT]
        have hfa := firstAt_pivot (T := T) (c := c) (r := r) (m := rows.length - r) (i := 0)
        rw [Nat.add_zero, show r + (rows.length - r) = rows.length by omega] at hfa
        rw [hlen, hfa]
        have hpl := pivot_le (T := T) (c := c) (m := rows.length - r) (r := r)
        by_cases hpv : pivot T c (rows.length - r) r = rows.length
        · rw [if_pos hpv]
          try simp (maxSteps := 3000000) (disch := first | omega | (simp only [len_new, len_put, len_kill]; omega)) only [↓xpre, xpost, ↓reduceIte, Nat.reduceEqDiff, Nat.reduceAdd, Nat.reduceSub, Nat.reduceLeDiff, Nat.zero_add, Nat.sub_zero, f0, f5, f8, f9, decide_eq_true (show (-1 : Int) < 0 by decide), rd1_of hgb, wrap64_in]
          have hcs : colStep p T r c = (T, r) := by
            unfold colStep
            rw [hT, if_pos hpv]
          have lbx := get_lt hgb
          refine InvQ_go (W - (c + 1)) (by omega) ⟨(c + 1), r, bs, T, K2.length, rfl, by omega, (by first | rfl | exact f0 | (simp only [upd_apply]; rfl) | (show I64 _ = _; congr 1; omega)), (by first | rfl | exact f5 | (simp only [upd_apply]; rfl) | (show I64 _ = _; congr 1; omega)), (by first | rfl | exact f8 | (simp only [upd_apply]; rfl) | (show I64 _ = _; congr 1; omega)), (by first | rfl | exact f9 | (simp only [upd_apply]; rfl) | (show I64 _ = _; congr 1; omega)), (so.pre (pre_new (List.prefix_refl _))), ⟨_, get_new_same⟩, so.lo0.2, (fun i hi => (so.rows i hi).2.lt), hrN, hT, g, ?_⟩
          rw [← hel, show W - c = (W - (c + 1)) + 1 by omega]
          conv => rhs; unfold elim
          rw [hcs]
        · rw [if_neg hpv]
          have hpne := pivot_ne (T := T) (c := c) (m := rows.length - r) (r := r) (by omega)
          have hcs : colStep p T r c = (swept p (swapped T r (pivot T c (rows.length - r) r)) r c rows.length, r + 1) := by
            unfold colStep
            rw [hT, if_neg hpv]
          generalize hbq : pivot T c (rows.length - r) r = b at hpl hpv hpne hcs ⊢
          have hbN : b < rows.length := by omega
          have rr := so.rdk (k := r) hT hrn
          have rb := so.rdk (k := b) hT hbN
          obtain ⟨e, hg⟩ := so.g
          have sw := so.swap (r := r) (b := b) (e := e) (by omega) (by omega) rfl
          have hbx2 : OwnB (K2.put nb ⟨((T.mapIdx fun i r => Value.slice (some ⟨bs.getD i 0, 0, none⟩) r.length 1).set r (.slice (some ⟨bs.getD b 0, 0, none⟩) (T.getD b []).length 1)).set b (.slice (some ⟨bs.getD r 0, 0, none⟩) (T.getD r []).length 1), e, false, false⟩) bx [I64 c] true := OwnB.put_ne ⟨eb, hgb⟩ (by omega)
          have nlt := so.lo0.2
          have sp1 : splice (T.mapIdx fun i r => Value.slice (some ⟨bs.getD i 0, 0, none⟩) r.length 1) r [.slice (some ⟨bs.getD b 0, 0, none⟩) (T.getD b []).length 1] = (T.mapIdx fun i r => Value.slice (some ⟨bs.getD i 0, 0, none⟩) r.length 1).set r (.slice (some ⟨bs.getD b 0, 0, none⟩) (T.getD b []).length 1) := splice_set (by rw [List.length_mapIdx]; omega)
          have sp2 : splice ((T.mapIdx fun i r => Value.slice (some ⟨bs.getD i 0, 0, none⟩) r.length 1).set r (.slice (some ⟨bs.getD b 0, 0, none⟩) (T.getD b []).length 1)) b [.slice (some ⟨bs.getD r 0, 0, none⟩) (T.getD r []).length 1] = _ := splice_set (by rw [List.length_set, List.length_mapIdx]; omega)
          have t1l : (swapped T r b).length = rows.length := by rw [swapped_len, hT]
          have t1r : (swapped T r b).getD r [] = T.getD b [] := by rw [swapped_get (by omega) (by omega), if_pos rfl]
          have g1 := g.swapped (r := r) (i := b) (by omega) (by omega)
          have lb1 : ∀ i, i < rows.length → (swapB bs r b).getD i 0 < bx := fun i hi => by
            rw [swapB_get (by rw [so.len]; omega) (by rw [so.len]; omega)]
            split
            · exact hlb b (by omega)
            · split
              · exact hlb r (by omega)
              · exact hlb i (by omega)
          generalize hT1 : swapped T r b = T1 at *
          generalize hB1 : swapB bs r b = bs1 at *
          have gr := g1 r (by omega)
          have rr1 := sw.rdk (k := r) t1l hrn
          rw [gr.1, rd1_put_same nlt] at rr1
          have rc1 := sw.rdc (k := r) (l := c) (W := W) (by omega) gr.1 (by omega)
          have gb := (g b (by omega)).2 c (by omega)
          have nz : 1 ≤ (T1.getD r []).getD c 0 ∧ (T1.getD r []).getD c 0 < p := by
            rw [t1r]; unfold tb at gb hpne; omega
          try simp (maxSteps := 3000000) (disch := first | omega | (simp only [len_new, len_put, len_kill]; omega)) only [↓xpre, xpost, ↓reduceIte, Nat.reduceEqDiff, Nat.reduceAdd, Nat.reduceSub, Nat.reduceLeDiff, Nat.zero_add, Nat.sub_zero, f0, f5, f8, f9, decide_eq_false (show ¬ (((b - r : Nat) : Int) < 0) by omega), wrap64_in, show ((r : Int) + ((b - r : Nat) : Int)) = (b : Int) by omega, rr.1, rr.2, rb.1, rb.2, wr_of hg, sp1, sp2, List.length_mapIdx, List.length_set, rr1.2, rd1_of hgb, rc1.1, rc1.2]
          refine ⟨by omega, by omega, ?_⟩
          generalize hG : AH.put _ _ _ = G2 at sw hbx2 ⊢
          obtain ⟨eb2, hgb2⟩ := hbx2
          refine i_inverse hp5 nz (invN_is hp nz) ?_
          generalize hiv : invN p ((T1.getD r []).getD c 0) = iv
          have ivb : 1 ≤ iv ∧ iv < p := by have := invN_is hp nz; rw [hiv] at this; exact ⟨this.1, this.2.1⟩
          try simp (maxSteps := 3000000) (disch := first | omega | (simp only [len_new, len_put, len_kill]; omega)) only [↓xpre, xpost, ↓reduceIte, Nat.reduceEqDiff, Nat.reduceAdd, Nat.reduceSub, Nat.reduceLeDiff, Nat.zero_add, Nat.sub_zero, f0, f5, f8, f9, wrap64_in]
          refine WC_loop_inv (fun m f K3 => ∃ (k : Nat), m = rows.length - k ∧ k ≤ rows.length ∧ f 0 = I64 p ∧ f 5 = .slice (some ⟨nb, 0, none⟩) rows.length 1 ∧ f 8 = I64 r ∧ f 9 = .pointer (some ⟨bx, 0, none⟩) ∧ f 11 = I64 iv ∧ f 12 = I64 k ∧ (OwnT h K3 0 nb bs1 (swept p T1 r c k)) ∧ (OwnB K3 bx [I64 c] true) ∧ (r + 1 ≤ k)) ?_ (rows.length - (r+1)) _ _ ⟨(r+1), rfl, by omega, (by first | rfl | exact f0 | (simp [upd_apply]; done)), (by first | rfl | exact f5 | (simp [upd_apply]; done)), (by first | rfl | exact f8 | (simp [upd_apply]; done)), (by first | rfl | exact f9 | (simp [upd_apply]; done)), (by first | rfl | simp [upd_apply]), (by first | rfl | simp [upd_apply]), (by rw [swept_start]; exact sw), ⟨_, hgb2⟩, Nat.le_refl _⟩
          rintro m f K3 ⟨k, rfl, hk, f0, f5, f8, f9, f11, f12, sk, hb3, hrk⟩
          clear sw rr1 rc1 hG hgb2
          obtain ⟨eb3, hgb3⟩ := hb3
          try simp (maxSteps := 3000000) (disch := first | omega | (simp only [len_new, len_put, len_kill]; omega)) only [↓xpre, xpost, ↓reduceIte, Nat.reduceEqDiff, Nat.reduceAdd, Nat.reduceSub, Nat.reduceLeDiff, Nat.zero_add, Nat.sub_zero, f0, f5, f8, f9, f11, f12, IfW_dec]
          refine ⟨fun hltk => ?_, fun hgek => ?_⟩
          · have hk' : k < rows.length := by omega
            have ek : (swept p T1 r c k).getD k [] = T1.getD k [] := by rw [swept_get (by omega), if_neg (by omega)]
            have er : (swept p T1 r c k).getD r [] = T1.getD r [] := by rw [swept_get (by omega), if_neg (by omega)]
            have sl0 : (swept p T1 r c k).length = rows.length := by rw [swept_len, t1l]
            have enx : swept p T1 r c (k + 1) = (swept p T1 r c k).set k (rowOp p (T1.getD r []) (T1.getD k []) c) := swept_next (by omega) (by omega)
            have gk := g1 k (by omega)
            have rk := sk.rdk (k := k) sl0 hk'
            have rc := sk.rdc (k := k) (l := c) (W := W) (by omega) (by rw [ek]; exact gk.1) (by omega)
            rw [ek, gk.1] at rk
            rw [ek] at rc
            have gkc := gk.2 c (by omega)
            have bm := mul_in (a := (T1.getD k []).getD c 0) (b := iv) (A := 5) (B := 5) (by unfold tb at gkc; omega) (by omega)
            generalize hsd : ((T1.getD k []).getD c 0 * iv).tmod p = sN
            have sb : 0 ≤ sN ∧ sN < p := by rw [← hsd]; exact tmod_nn bm.1 (by omega)
            try simp (maxSteps := 3000000) (disch := first | omega | (simp only [len_new, len_put, len_kill]; omega)) only [↓xpre, xpost, ↓reduceIte, Nat.reduceEqDiff, Nat.reduceAdd, Nat.reduceSub, Nat.reduceLeDiff, Nat.zero_add, Nat.sub_zero, f0, f5, f8, f9, f11, f12, rk.1, rk.2, rd1_of hgb3, rc.1, rc.2, wrap64_in, bin_rem, hsd]
            obtain ⟨G, hGx⟩ : ∃ G : Nat → Int, ∀ x, G x = md p ((T1.getD k []).getD x 0 - sN * (T1.getD r []).getD x 0) := ⟨_, fun _ => rfl⟩
            refine WC_loop_inv (fun m f K4 => ∃ (l : Nat), m = W - l ∧ l ≤ W ∧ f 0 = I64 p ∧ f 5 = .slice (some ⟨nb, 0, none⟩) rows.length 1 ∧ f 8 = I64 r ∧ f 9 = .pointer (some ⟨bx, 0, none⟩) ∧ f 11 = I64 iv ∧ f 12 = I64 k ∧ f 13 = I64 sN ∧ f 99 = I64 W ∧ f 100 = I64 l ∧ (OwnT h K4 0 nb bs1 ((swept p T1 r c k).set k (mixed G (T1.getD k []) l))) ∧ (OwnB K4 bx [I64 c] true)) ?_ (W - 0) _ _ ⟨0, rfl, by omega, (by first | rfl | exact f0 | (simp [upd_apply]; done)), (by first | rfl | exact f5 | (simp [upd_apply]; done)), (by first | rfl | exact f8 | (simp [upd_apply]; done)), (by first | rfl | exact f9 | (simp [upd_apply]; done)), (by first | rfl | exact f11 | (simp [upd_apply]; done)), (by first | rfl | exact f12 | (simp [upd_apply]; done)), (by first | rfl | simp [upd_apply]), (by first | rfl | simp [upd_apply]), (by first | rfl | simp [upd_apply]), (by rw [mixed_zero, ← ek, set_self (by omega)]; exact sk), ⟨_, hgb3⟩⟩
            rintro m f K4 ⟨l, rfl, hl, f0, f5, f8, f9, f11, f12, f13, f99, f100, sl, hb4⟩
            try simp (maxSteps := 3000000) (disch := first | omega | (simp only [len_new, len_put, len_kill]; omega)) only [↓xpre, xpost, ↓reduceIte, Nat.reduceEqDiff, Nat.reduceAdd, Nat.reduceSub, Nat.reduceLeDiff, Nat.zero_add, Nat.sub_zero, f0, f5, f8, f9, f11, f12, f13, f99, f100, IfW_dec]
            refine ⟨fun hltl => ?_, fun hgel => ?_⟩
            · have hl' : l < W := by omega
              have ek4 : ((swept p T1 r c k).set k (mixed G (T1.getD k []) l)).getD k [] = mixed G (T1.getD k []) l := by rw [set_getD' (by omega), if_pos rfl]
              have er4 : ((swept p T1 r c k).set k (mixed G (T1.getD k []) l)).getD r [] = T1.getD r [] := by rw [set_getD' (by omega), if_neg (by omega), er]
              have ml : (mixed G (T1.getD k []) l).length = W := by rw [mixed_len, gk.1]
              have sll : ((swept p T1 r c k).set k (mixed G (T1.getD k []) l)).length = rows.length := by rw [List.length_set, sl0]
              have rk4 := sl.rdk (k := k) sll hk'
              have rr4 := sl.rdk (k := r) sll hrn
              have rkc := sl.rdc (k := k) (l := l) (W := W) (by omega) (by rw [ek4, ml]) hl'
              have rrc := sl.rdc (k := r) (l := l) (W := W) (by omega) (by rw [er4]; exact gr.1) hl'
              rw [ek4, ml] at rk4
              rw [er4, gr.1] at rr4
              rw [ek4, mixed_get (by rw [gk.1]; exact hl') (Nat.le_refl _)] at rkc
              rw [er4] at rrc
              have b1 := gk.2 l hl'
              have b2 := gr.2 l hl'
              unfold tb at b1 b2
              have b3 := mul_in (a := sN) (b := (T1.getD r []).getD l 0) (A := 5) (B := 5) (by omega) (by omega)
              have b4 := tmod_bound (x := (T1.getD k []).getD l 0 - sN * (T1.getD r []).getD l 0) hp5.1
              have b5 := hGx l
              unfold md at b5
              obtain ⟨e4, hg4⟩ := (sl.rows k (by omega)).2
              have sc := sl.cell (k := k) (l := l) (x := G l) (by omega) (by rw [ek4, ml]; exact hl') (e := e4) hg4
              rw [ek4] at hg4 sc
              rw [List.set_set, mixed_next (by rw [gk.1]; exact hl')] at sc
              have hm : splice ((mixed G (T1.getD k []) l).map (Value.int .i64)) l [I64 (G l)] = (mixed G (T1.getD k []) (l + 1)).map (Value.int .i64) := by rw [splice_set (by rw [List.length_map, ml]; exact hl'), ← mixed_next (by rw [gk.1]; exact hl'), List.map_set]
              have ne4 := lb1 k hk'
              try simp (maxSteps := 3000000) (disch := first | omega | (simp only [len_new, len_put, len_kill]; omega)) only [↓xpre, xpost, ↓reduceIte, Nat.reduceEqDiff, Nat.reduceAdd, Nat.reduceSub, Nat.reduceLeDiff, Nat.zero_add, Nat.sub_zero, f0, f5, f8, f9, f11, f12, f13, f99, f100, rk4.1, rk4.2, rr4.1, rr4.2, rkc.1, rkc.2, rrc.1, rrc.2, wrap64_in, bin_rem, ← b5, wr_of hg4, splice_set, List.length_map, ml, hm]
              refine ⟨by omega, ?_⟩
              refine InvQ_go (W - (l + 1)) (by omega) ⟨(l + 1), rfl, by omega, (by first | rfl | exact f0 | (simp only [upd_apply]; rfl) | (show I64 _ = _; congr 1; omega)), (by first | rfl | exact f5 | (simp only [upd_apply]; rfl) | (show I64 _ = _; congr 1; omega)), (by first | rfl | exact f8 | (simp only [upd_apply]; rfl) | (show I64 _ = _; congr 1; omega)), (by first | rfl | exact f9 | (simp only [upd_apply]; rfl) | (show I64 _ = _; congr 1; omega)), (by first | rfl | exact f11 | (simp only [upd_apply]; rfl) | (show I64 _ = _; congr 1; omega)), (by first | rfl | exact f12 | (simp only [upd_apply]; rfl) | (show I64 _ = _; congr 1; omega)), (by first | rfl | exact f13 | (simp only [upd_apply]; rfl) | (show I64 _ = _; congr 1; omega)), (by first | rfl | exact f99 | (simp only [upd_apply]; rfl) | (show I64 _ = _; congr 1; omega)), (by first | rfl | exact f100 | (simp only [upd_apply]; rfl) | (show I64 _ = _; congr 1; omega)), sc, (hb4.put_ne (by omega))⟩
            · have e : l = W := by omega
              subst e
              have em : mixed G (T1.getD k []) l = rowOp p (T1.getD r []) (T1.getD k []) c := by
                have q := mixed_full (g := G) (row := T1.getD k [])
                rw [gk.1] at q
                rw [q]
                unfold rowOp
                rw [gk.1]
                exact gen_congr fun x _ => by rw [hGx, hiv, hsd]
              rw [em, ← enx] at sl
              try simp (maxSteps := 3000000) (disch := first | omega | (simp only [len_new, len_put, len_kill]; omega)) only [↓xpre, xpost, ↓reduceIte, Nat.reduceEqDiff, Nat.reduceAdd, Nat.reduceSub, Nat.reduceLeDiff, Nat.zero_add, Nat.sub_zero, f0, f5, f8, f9, f11, f12, f13, f99, f100, wrap64_in]
              refine InvQ_go (rows.length - (k + 1)) (by omega) ⟨(k + 1), rfl, by omega, (by first | rfl | exact f0 | (simp only [upd_apply]; rfl) | (show I64 _ = _; congr 1; omega)), (by first | rfl | exact f5 | (simp only [upd_apply]; rfl) | (show I64 _ = _; congr 1; omega)), (by first | rfl | exact f8 | (simp only [upd_apply]; rfl) | (show I64 _ = _; congr 1; omega)), (by first | rfl | exact f9 | (simp only [upd_apply]; rfl) | (show I64 _ = _; congr 1; omega)), (by first | rfl | exact f11 | (simp only [upd_apply]; rfl) | (show I64 _ = _; congr 1; omega)), (by first | rfl | exact f12 | (simp only [upd_apply]; rfl) | (show I64 _ = _; congr 1; omega)), sl, hb4, (by omega)⟩
          · have e : k = rows.length := by omega
            subst e
            try simp (maxSteps := 3000000) (disch := first | omega | (simp only [len_new, len_put, len_kill]; omega)) only [↓xpre, xpost, ↓reduceIte, Nat.reduceEqDiff, Nat.reduceAdd, Nat.reduceSub, Nat.reduceLeDiff, Nat.zero_add, Nat.sub_zero, f0, f5, f8, f9, f11, f12, rd1_of hgb3, wrap64_in]
            refine InvQ_go (W - (c + 1)) (by omega) ⟨(c + 1), (r + 1), bs1, (swept p T1 r c rows.length), K3.length, rfl, by omega, (by first | rfl | exact f0 | (simp only [upd_apply]; rfl) | (show I64 _ = _; congr 1; omega)), (by first | rfl | exact f5 | (simp only [upd_apply]; rfl) | (show I64 _ = _; congr 1; omega)), (by first | rfl | exact f8 | (simp only [upd_apply]; rfl) | (show I64 _ = _; congr 1; omega)), (by first | rfl | exact f9 | (simp only [upd_apply]; rfl) | (show I64 _ = _; congr 1; omega)), (sk.pre (pre_new (List.prefix_refl _))), ⟨_, get_new_same⟩, sk.lo0.2, (fun i hi => (sk.rows i hi).2.lt), (by omega), (by rw [swept_len, t1l]), (g1.swept hp5.1), ?_⟩
            rw [← hel, show W - c = (W - (c + 1)) + 1 by omega]
            conv => rhs; unfold elim
            rw [hcs]
    · have : c = W := by omega
      subst this
      try simp (maxSteps := 3000000) (disch := first | omega | (simp only [len_new, len_put, len_kill]; omega)) only [↓xpre, xpost, ↓reduceIte, Nat.reduceEqDiff, Nat.reduceAdd, Nat.reduceSub, Nat.reduceLeDiff, Nat.zero_add, Nat.sub_zero, f0, f5, f8, f9]
      have := hQ _ so.hp
      rw [← hel] at this
      simpa [elim] using this
end Go.Proofs.Ytapafdpnmakekaa.X

set_option linter.unusedVariables false
set_option linter.unusedSimpArgs false
set_option maxRecDepth 20000
set_option maxHeartbeats 4000000
namespace Go.Proofs.Ytapafdpnmakekaa.X
open Go Go.RowKit
structure TabS (h0 h : AH) (nb : Nat) (full : Bool) (L : List (Nat × List Int)) : Prop where
  hp : h0 <+: h
  lo : h0.length ≤ nb
  g : h.get nb = some ⟨L.map rowV, 27, false, full⟩
  rows : ∀ p, p ∈ L → (h0.length ≤ p.1 ∧ p.1 ≠ nb) ∧ ∃ fu, OwnB h p.1 (p.2.map (Value.int .i64)) fu
  dist : L.Pairwise (fun p q => p.1 ≠ q.1)
theorem TabS.lt {h0 h : AH} {nb : Nat} {full : Bool} {L : List (Nat × List Int)} (s : TabS h0 h nb full L) : nb < h.length ∧ ∀ p, p ∈ L → p.1 < h.length :=
  ⟨get_lt s.g, fun p hp => (s.rows p hp).2.choose_spec.lt⟩
theorem TabS.pre {h0 h h' : AH} {nb : Nat} {full : Bool} {L : List (Nat × List Int)} (s : TabS h0 h nb full L) (p : h <+: h') : TabS h0 h' nb full L :=
  ⟨s.hp.trans p, s.lo, pre_get p s.g, fun q hq => ⟨(s.rows q hq).1, by obtain ⟨fu, o⟩ := (s.rows q hq).2; exact ⟨fu, o.pre p⟩⟩, s.dist⟩
theorem TabS.keeps {h0 h h' : AH} {nb lo : Nat} {full : Bool} {L : List (Nat × List Int)} (s : TabS h0 h nb full L) (k : Keeps lo h h') (hh : h0 <+: h') (h1 : nb < lo) (h2 : ∀ p, p ∈ L → p.1 < lo) : TabS h0 h' nb full L :=
  ⟨hh, s.lo, k.2 _ _ h1 s.g, fun q hq => ⟨(s.rows q hq).1, by obtain ⟨fu, e, o⟩ := (s.rows q hq).2; exact ⟨fu, e, k.2 _ _ (h2 q hq) o⟩⟩, s.dist⟩
theorem TabS.app {h0 h2 : AH} {nb n : Nat} {full fu fw : Bool} {L : List (Nat × List Int)} {r : List Int} {e : TypeId} (s : TabS h0 h2 nb full L) (hn : h0.length ≤ n ∧ n ≠ nb ∧ ∀ p, p ∈ L → p.1 ≠ n) (ob : OwnB h2 n (r.map (Value.int .i64)) fw)
    (hl : (L.length : Int) ≤ 1048576) {Q : Value → AH → Prop}
    (hQ : ∀ nb' H', TabS h0 H' nb' false (L ++ [(n, r)]) → Q (.slice (some ⟨nb', 0, none⟩) (L ++ [(n, r)]).length 1) H') :
    OQ (appV 27 1 24 (.slice (some ⟨nb, 0, none⟩) L.length 1) (.slice (some ⟨h2.length, 0, none⟩) 1 1) (h2.new ⟨[.slice (some ⟨n, 0, none⟩) r.length 1], e, false, fu⟩)) Q := by
  have hrd : (h2.new ⟨[.slice (some ⟨n, 0, none⟩) r.length 1], e, false, fu⟩).rdn h2.length 0 1 = some [.slice (some ⟨n, 0, none⟩) r.length 1] := by rw [rdn_new_same]; rfl
  have hk : (h2.new ⟨[.slice (some ⟨n, 0, none⟩) r.length 1], e, false, fu⟩).get nb = some ⟨L.map rowV, 27, false, full⟩ := get_new_any s.g
  have l1 := get_lt s.g
  have l3 := ob.lt
  have l0 := pre_len s.hp
  rw [app_own hk (by simp) hrd (by omega), OQ_some]
  have key : TabS h0 (((h2.new ⟨[.slice (some ⟨n, 0, none⟩) r.length 1], e, false, fu⟩).kill nb).new ⟨L.map rowV ++ [.slice (some ⟨n, 0, none⟩) r.length 1], 27, false, false⟩) (h2.new ⟨[.slice (some ⟨n, 0, none⟩) r.length 1], e, false, fu⟩).length false (L ++ [(n, r)]) := by
    refine ⟨pre_new (pre_kill (pre_new s.hp) s.lo), by rw [len_new]; omega, ?_, fun q hq => ?_, ?_⟩
    · rw [get_new_eq (by rw [len_kill])]
      simp [rowV]
    · rw [len_new]
      rcases List.mem_append.1 hq with hq | hq
      · have a := s.rows q hq
        obtain ⟨fa, oa⟩ := a.2
        have := oa.lt
        exact ⟨⟨a.1.1, by omega⟩, fa, (oa.new.kill_ne (fun e => a.1.2 e.symm)).new⟩
      · rw [List.mem_singleton] at hq
        subst hq
        exact ⟨⟨hn.1, show n ≠ h2.length + 1 by omega⟩, fw, (ob.new.kill_ne (fun e => hn.2.1 e.symm)).new⟩
    · rw [List.pairwise_append]
      refine ⟨s.dist, by simp, fun a ha b hb => ?_⟩
      rw [List.mem_singleton] at hb
      subst hb
      exact hn.2.2 a ha
  have := hQ _ _ key
  rw [List.length_append, List.length_singleton] at this
  exact this
theorem TabS.own {h0 h : AH} {nb : Nat} {full : Bool} {L : List (Nat × List Int)} (s : TabS h0 h nb full L) : OwnRows h0 h (.slice (some ⟨nb, 0, none⟩) L.length 1) (L.map Prod.snd) := by
  have ei : ∀ i, (hi : i < L.length) → (L.map rowV).getD i undef = rowV (L[i]) ∧ (L.map Prod.snd).getD i [] = (L[i]).2 := fun i hi => ⟨by simp [List.getD_eq_getElem?_getD, hi], by simp [List.getD_eq_getElem?_getD, hi]⟩
  refine .inr ⟨nb, _, full, L.map rowV, s.lo, by rw [List.length_map], s.g, by simp, fun i hi => ?_, fun i j hij hj b hb => ?_⟩
  · have hi' : i < L.length := by simpa using hi
    obtain ⟨e1, e2⟩ := ei i hi'
    have a := s.rows _ (List.getElem_mem hi')
    obtain ⟨fu, e, o⟩ := a.2
    rw [e1, e2]
    refine ⟨.inr ⟨_, e, fu, a.1.1, rfl, o⟩, fun q => a.1.2 ?_⟩
    simpa [rowV, blkOf] using q
  · have hj' : j < L.length := by simpa using hj
    rw [(ei i (by omega)).1] at hb
    rw [(ei j hj').1]
    have := List.pairwise_iff_getElem.1 s.dist i j (by omega) hj' hij
    simp only [rowV, blkOf, Option.some.injEq] at hb ⊢
    exact fun e => this (hb.trans (Option.some.inj e).symm)
theorem TF.turned {t : Ten} (f : TF t) : TF (turnT t) := by
  have jk := mul_in1 (A := 9) (B := 9) f.j f.k
  have jki := mul_in1 (A := 81) (B := 9) jk f.i
  have hl : (((turnT t).ns.length : Nat) : Int) = t.j * t.k * t.i := by
    show ((gen _ _).length : Int) = _
    rw [gen_len]
    omega
  refine ⟨f.p, f.j, f.k, f.i, hl, fun x h0 hx => ?_, jk, jki⟩
  rw [hl] at hx
  have h1 : nth (turnT t).ns x = turnG t x.toNat := by
    show (gen _ _).getD _ 0 = _
    exact gen_get (by omega)
  have h := places (n := x) (i := t.j) (j := t.k) (k := t.i) (by omega) f.k.1 f.i.1
  rw [h1]
  unfold turnG
  rw [show ((x.toNat : Nat) : Int) = x by omega]
  exact tat_in f h.2.2 h.1 h.2.1
def turnN : Nat → Ten → Ten
  | 0, t => t
  | n + 1, t => turnN n (turnT t)
theorem TF.turnN : ∀ {n : Nat} {t : Ten}, TF t → TF (turnN n t)
  | 0, _, f => f
  | n + 1, _, f => TF.turnN (n := n) f.turned
theorem turnN_p : ∀ {n : Nat} {t : Ten}, (turnN n t).p = t.p
  | 0, _ => rfl
  | n + 1, t => turnN_p (n := n) (t := turnT t)
theorem TF.le {t : Ten} (f : TF t) : (t.ns.length : Int) ≤ 1048576 := by
  have := f.len
  have := f.ijk
  omega
theorem s_l05Turned {v : Value} {t : Ten} {k : Nat} {h : AH} {Q : Value → AH → Prop} (hv : Ints h v t.ns) (f : TF t) (hk : k ≤ 2)
    (hQ : ∀ v' h', h <+: h' → Ints h' v' (turnN k t).ns → Q (tenV (turnN k t) v') h') : WF S 249 [tenV t v, I64 k] h Q := by
  refine WF_fn (fn := c249) rfl rfl ?_
  unfold c249
  try simp (maxSteps := 3000000) (disch := first | omega | (simp only [len_new, len_put, len_kill]; omega)) only [↓xpre, xpost, ↓reduceIte, Nat.reduceEqDiff, Nat.reduceAdd, Nat.reduceSub, Nat.reduceLeDiff, Nat.zero_add, Nat.sub_zero, tenV, hv.one]
  generalize hH1 : AH.new h _ = H1
  obtain ⟨hb1, p1, n1⟩ := new_facts hH1
  generalize hH2 : AH.new H1 _ = H2
  obtain ⟨hb2, p2, n2⟩ := new_facts hH2
  rw [n1] at hb2
  rw [n1]
  have hlt := hv.lt
  refine WC_loop_inv (fun m f K1 => ∃ (j : Nat) (u : Ten) (w : Value), m = k - j ∧ j ≤ k ∧ f 1 = I64 ((k - j : Nat) : Int) ∧ f 2 = .pointer (some ⟨h.length, 0, none⟩) ∧ f 4 = .pointer (some ⟨h.length + 1, 0, none⟩) ∧ (h <+: K1) ∧ (OwnB K1 h.length [I64 u.p, I64 u.i, I64 u.j, I64 u.k, w] true) ∧ (OwnB K1 (h.length + 1) [I64 0, I64 0, I64 0, I64 0, .slice none 0 0] true) ∧ (Ints K1 w u.ns) ∧ (blkOf w ≠ some h.length ∧ blkOf w ≠ some (h.length + 1)) ∧ (TF u) ∧ (turnN (k - j) u = turnN k t)) ?_ (k - 0) _ _ ⟨0, t, v, rfl, by omega, (by first | rfl | simp [upd_apply]), (by first | rfl | simp [upd_apply]), (by first | rfl | simp [upd_apply]), p1.trans p2, ⟨_, pre_get p2 hb1⟩, ⟨_, hb2⟩, hv.pre (p1.trans p2), ⟨fun e => by have := hlt _ e; omega, fun e => by have := hlt _ e; omega⟩, f, rfl⟩
  rintro m f K1 ⟨j, u, w, rfl, hj, f1, f2, f4, ph, hb, hb4, hw, hne, fu, hn⟩
  obtain ⟨e, hb⟩ := hb
  obtain ⟨e4, hb4⟩ := hb4
  have hlt1 := get_lt hb
  have hlt4 := get_lt hb4
  try simp (maxSteps := 3000000) (disch := first | omega | (simp only [len_new, len_put, len_kill]; omega)) only [↓xpre, xpost, ↓reduceIte, Nat.reduceEqDiff, Nat.reduceAdd, Nat.reduceSub, Nat.reduceLeDiff, Nat.zero_add, Nat.sub_zero, f1, f2, f4, IfW_dec]
  refine ⟨fun hlt => ?_, fun hge => ?_⟩
  · try simp (maxSteps := 3000000) (disch := first | omega | (simp only [len_new, len_put, len_kill]; omega)) only [↓xpre, xpost, ↓reduceIte, Nat.reduceEqDiff, Nat.reduceAdd, Nat.reduceSub, Nat.reduceLeDiff, Nat.zero_add, Nat.sub_zero, f1, f2, f4, rdn_of hb]
    refine s_l05Turn hw fu fun w' H p o => ?_
    have hb' := pre_get p hb
    have pl := pre_len p
    try simp (maxSteps := 3000000) (disch := first | omega | (simp only [len_new, len_put, len_kill]; omega)) only [↓xpre, xpost, ↓reduceIte, Nat.reduceEqDiff, Nat.reduceAdd, Nat.reduceSub, Nat.reduceLeDiff, Nat.zero_add, Nat.sub_zero, f1, f2, f4, tenV, o.ints.one, wr_of hb', wrap64_in]
    have bk := o.ownR.blk
    refine InvQ_go (k - (j + 1)) (by omega) ⟨(j + 1), (turnT u), w', rfl, by omega, (by first | rfl | exact f1 | (simp only [upd_apply]; rfl) | (show I64 _ = _; congr 1; omega)), (by first | rfl | exact f2 | (simp only [upd_apply]; rfl) | (show I64 _ = _; congr 1; omega)), (by first | rfl | exact f4 | (simp only [upd_apply]; rfl) | (show I64 _ = _; congr 1; omega)), (pre_put (ph.trans p) (Nat.le_refl _)), ⟨_, get_put_same (get_lt hb')⟩, ⟨_, by rw [get_put_ne (by omega)]; exact pre_get p hb4⟩, (o.ownR.put_ne (by omega)).ints, ⟨fun e => by have := bk _ e; omega, fun e => by have := bk _ e; omega⟩, fu.turned, ?_⟩
    rw [← hn, show k - j = (k - (j + 1)) + 1 by omega]
    rfl
  · have ej : k - j = 0 := by omega
    rw [ej] at hn
    have hn' : u = turnN k t := hn
    subst hn'
    try simp (maxSteps := 3000000) (disch := first | omega | (simp only [len_new, len_put, len_kill]; omega)) only [↓xpre, xpost, ↓reduceIte, Nat.reduceEqDiff, Nat.reduceAdd, Nat.reduceSub, Nat.reduceLeDiff, Nat.zero_add, Nat.sub_zero, f1, f2, f4, rdn_of hb, tenV, hw.one, wr_of hb4]
    exact hQ w _ (pre_put ph (by omega)) (hw.put_ne hne.2)
theorem i_turned {v : Value} {t : Ten} {k : Nat} {h : AH} {Q : Value → AH → Prop} (hv : Ints h v t.ns) (f : TF t) (hk : k ≤ 2)
    (hQ : ∀ v' h', h <+: h' → Ints h' v' (turnN k t).ns → Q (tenV (turnN k t) v') h') : WF S 245 [tenV t v, I64 k] h Q := by
  refine WF_fn (fn := c245) rfl rfl ?_
  unfold c245
  try simp (maxSteps := 3000000) (disch := first | omega | (simp only [len_new, len_put, len_kill]; omega)) only [↓xpre, xpost, ↓reduceIte, Nat.reduceEqDiff, Nat.reduceAdd, Nat.reduceSub, Nat.reduceLeDiff, Nat.zero_add, Nat.sub_zero, tenV, hv.one]
  generalize hH1 : AH.new h _ = H1
  obtain ⟨hb1, p1, n1⟩ := new_facts hH1
  generalize hH2 : AH.new H1 _ = H2
  obtain ⟨hb2, p2, n2⟩ := new_facts hH2
  rw [n1] at hb2
  rw [n1]
  have hlt := hv.lt
  refine WC_loop_inv (fun m f K1 => ∃ (j : Nat) (u : Ten) (w : Value), m = k - j ∧ j ≤ k ∧ f 5 = I64 k ∧ f 6 = I64 j ∧ f 2 = .pointer (some ⟨h.length, 0, none⟩) ∧ f 4 = .pointer (some ⟨h.length + 1, 0, none⟩) ∧ (h <+: K1) ∧ (OwnB K1 h.length [I64 u.p, I64 u.i, I64 u.j, I64 u.k, w] true) ∧ (OwnB K1 (h.length + 1) [I64 0, I64 0, I64 0, I64 0, .slice none 0 0] true) ∧ (Ints K1 w u.ns) ∧ (blkOf w ≠ some h.length ∧ blkOf w ≠ some (h.length + 1)) ∧ (TF u) ∧ (turnN (k - j) u = turnN k t)) ?_ (k - 0) _ _ ⟨0, t, v, rfl, by omega, (by first | rfl | simp [upd_apply]), (by first | rfl | simp [upd_apply]), (by first | rfl | simp [upd_apply]), (by first | rfl | simp [upd_apply]), p1.trans p2, ⟨_, pre_get p2 hb1⟩, ⟨_, hb2⟩, hv.pre (p1.trans p2), ⟨fun e => by have := hlt _ e; omega, fun e => by have := hlt _ e; omega⟩, f, rfl⟩
  rintro m f K1 ⟨j, u, w, rfl, hj, f5, f6, f2, f4, ph, hb, hb4, hw, hne, fu, hn⟩
  obtain ⟨e, hb⟩ := hb
  obtain ⟨e4, hb4⟩ := hb4
  have hlt1 := get_lt hb
  have hlt4 := get_lt hb4
  try simp (maxSteps := 3000000) (disch := first | omega | (simp only [len_new, len_put, len_kill]; omega)) only [↓xpre, xpost, ↓reduceIte, Nat.reduceEqDiff, Nat.reduceAdd, Nat.reduceSub, Nat.reduceLeDiff, Nat.zero_add, Nat.sub_zero, f5, f6, f2, f4, IfW_dec]
  refine ⟨fun hlt => ?_, fun hge => ?_⟩
  · try simp (maxSteps := 3000000) (disch := first | omega | (simp only [len_new, len_put, len_kill]; omega)) only [↓xpre, xpost, ↓reduceIte, Nat.reduceEqDiff, Nat.reduceAdd, Nat.reduceSub, Nat.reduceLeDiff, Nat.zero_add, Nat.sub_zero, f5, f6, f2, f4, rdn_of hb]
    refine i_turn hw fu fun w' H p o => ?_
    have hb' := pre_get p hb
    have pl := pre_len p
    try simp (maxSteps := 3000000) (disch := first | omega | (simp only [len_new, len_put, len_kill]; omega)) only [↓xpre, xpost, ↓reduceIte, Nat.reduceEqDiff, Nat.reduceAdd, Nat.reduceSub, Nat.reduceLeDiff, Nat.zero_add, Nat.sub_zero, f5, f6, f2, f4, tenV, o.ints.one, wr_of hb', wrap64_in]
    have bk := o.blk
    refine InvQ_go (k - (j + 1)) (by omega) ⟨(j + 1), (turnT u), w', rfl, by omega, (by first | rfl | exact f5 | (simp only [upd_apply]; rfl) | (show I64 _ = _; congr 1; omega)), (by first | rfl | exact f6 | (simp only [upd_apply]; rfl) | (show I64 _ = _; congr 1; omega)), (by first | rfl | exact f2 | (simp only [upd_apply]; rfl) | (show I64 _ = _; congr 1; omega)), (by first | rfl | exact f4 | (simp only [upd_apply]; rfl) | (show I64 _ = _; congr 1; omega)), (pre_put (ph.trans p) (Nat.le_refl _)), ⟨_, get_put_same (get_lt hb')⟩, ⟨_, by rw [get_put_ne (by omega)]; exact pre_get p hb4⟩, (o.put_ne (by omega)).ints, ⟨fun e => by have := bk _ e; omega, fun e => by have := bk _ e; omega⟩, fu.turned, ?_⟩
    rw [← hn, show k - j = (k - (j + 1)) + 1 by omega]
    rfl
  · have ej : k - j = 0 := by omega
    rw [ej] at hn
    have hn' : u = turnN k t := hn
    subst hn'
    try simp (maxSteps := 3000000) (disch := first | omega | (simp only [len_new, len_put, len_kill]; omega)) only [↓xpre, xpost, ↓reduceIte, Nat.reduceEqDiff, Nat.reduceAdd, Nat.reduceSub, Nat.reduceLeDiff, Nat.zero_add, Nat.sub_zero, f5, f6, f2, f4, rdn_of hb, tenV, hw.one, wr_of hb4]
    exact hQ w _ (pre_put ph (by omega)) (hw.put_ne hne.2)
end Go.Proofs.Ytapafdpnmakekaa.X

set_option linter.unusedVariables false
set_option linter.unusedSimpArgs false
set_option maxRecDepth 20000
set_option maxHeartbeats 4000000
namespace Go.Proofs.Ytapafdpnmakekaa.X
open Go Go.RowKit
def ixaV (len sz : Nat) (x i : Value) : Option Value := match x, i with
  | .pointer (some ⟨n, off, _⟩), .int _ j => if 0 ≤ j ∧ j < len then some (.pointer (some ⟨n, off + j.toNat * sz, none⟩)) else none
  | _, _ => none
def idx1V (len : Nat) (x i : Value) : Option Value := match x, i with
  | .agg cs, .int _ j => if 0 ≤ j ∧ j < len then cs.toList[j.toNat]? else none
  | _, _ => none
def idxnV (len sz : Nat) (x i : Value) : Option Value := match x, i with
  | .agg cs, .int _ j => if 0 ≤ j ∧ j < len ∧ j.toNat * sz + sz ≤ cs.toList.length then some (.agg ((cs.toList.drop (j.toNat * sz)).take sz).toArray) else none
  | _, _ => none
theorem WX_of {S : XS} {o : XOp} {f : Fr} {h : AH} {Q : Value → AH → Prop} {r : Option Value} (ho : ∀ C, xrun C o f h = xop o f h) (e : xop o f h = r.map (·, h)) : WX S o f h Q = WV r fun v => Q v h := by
  rw [WX_op ho, e]
  cases r <;> simp [OQ_some, WV_some, OQ_none, WV_none]
theorem WX_ixa {S : XS} {f : Fr} {h : AH} {Q : Value → AH → Prop} {n sz : Nat} {x y : Operand} : WX S (.ixa n sz x y) f h Q = WV (ixaV n sz (ev f x) (ev f y)) fun v => Q v h := by
  refine WX_of (fun _ => rfl) ?_
  simp only [xop, ixaV]
  generalize ev f x = a
  generalize ev f y = b
  split
  · dsimp only
    split <;> rfl
  · rename_i q
    split
    · exact absurd rfl (q _ _ _ _ _ rfl)
    · rfl
theorem ixaV_ptr {len sz n off : Nat} {k : IntKind} {j : Int} (h : 0 ≤ j ∧ j < len) : ixaV len sz (.pointer (some ⟨n, off, none⟩)) (.int k j) = some (.pointer (some ⟨n, off + j.toNat * sz, none⟩)) := by
  simp [ixaV, h]
theorem WX_idx1 {S : XS} {f : Fr} {h : AH} {Q : Value → AH → Prop} {n : Nat} {x y : Operand} : WX S (.idx1 n x y) f h Q = WV (idx1V n (ev f x) (ev f y)) fun v => Q v h := by
  refine WX_of (fun _ => rfl) ?_
  simp only [xop, idx1V]
  generalize ev f x = a
  generalize ev f y = b
  split
  · dsimp only
    split
    · rename_i cs _ j _
      cases cs.toList[j.toNat]? <;> rfl
    · rfl
  · rename_i q
    split
    · exact absurd rfl (q _ _ _ rfl)
    · rfl
theorem WX_idxn {S : XS} {f : Fr} {h : AH} {Q : Value → AH → Prop} {n sz : Nat} {x y : Operand} : WX S (.idxn n sz x y) f h Q = WV (idxnV n sz (ev f x) (ev f y)) fun v => Q v h := by
  refine WX_of (fun _ => rfl) ?_
  simp only [xop, idxnV]
  generalize ev f x = a
  generalize ev f y = b
  split
  · dsimp only
    split <;> rfl
  · rename_i q
    split
    · exact absurd rfl (q _ _ _ rfl)
    · rfl
def parts (ns : List Int) (w n : Nat) : List (List Int) := (List.range n).map fun i => (ns.drop (i * w)).take w
theorem parts_len {ns : List Int} {w n : Nat} : (parts ns w n).length = n := by simp [parts]
theorem parts_get {ns : List Int} {w n i : Nat} (hi : i < n) : (parts ns w n).getD i [] = (ns.drop (i * w)).take w := by
  simp [parts, List.getD_eq_getElem?_getD, List.getElem?_map, List.getElem?_range hi]
theorem take_next {α : Type} {d : α} {l : List α} {i : Nat} (hi : i < l.length) : l.take (i + 1) = l.take i ++ [l.getD i d] := by
  rw [List.take_succ_eq_append_getElem hi]
  simp [List.getD_eq_getElem?_getD, hi]
theorem OwnRows.lo {h0 h1 h : AH} {v : Value} {rows : List (List Int)} (o : OwnRows h0 h v rows) (p : h1.length ≤ h0.length) : OwnRows h1 h v rows := by
  rcases o with ⟨rfl, rfl⟩ | ⟨n, e, full, cs, h1, rfl, h2, h3, h4, h5⟩
  · exact .inl ⟨rfl, rfl⟩
  · exact .inr ⟨n, e, full, cs, by omega, rfl, h2, h3, fun i hi => ⟨(h4 i hi).1.lo p, (h4 i hi).2⟩, h5⟩
theorem mul_row {i n w : Nat} (hi : i < n) : i * w + w ≤ n * w := by
  have := Nat.mul_le_mul_right w (show i + 1 ≤ n by omega)
  rw [Nat.succ_mul] at this
  exact this
theorem i_parted {v : Value} {ns : List Int} {w n : Nat} {h : AH} {Q : Value → AH → Prop} (hv : Ints h v ns) (hl : (ns.length : Int) ≤ 1048576) (hw : 1 ≤ w) (hn : ns.length = n * w)
    (hQ : ∀ v' h', h <+: h' → OwnRows h h' v' (parts ns w n) → Q v' h') : WF S 163 [v, I64 w] h Q := by
  refine WF_fn (fn := c163) rfl rfl ?_
  unfold c163
  try simp (maxSteps := 3000000) (disch := first | omega | (simp only [len_new, len_put, len_kill]; omega)) only [↓xpre, xpost, ↓reduceIte, Nat.reduceEqDiff, Nat.reduceAdd, Nat.reduceSub, Nat.reduceLeDiff, Nat.zero_add, Nat.sub_zero, fillL, zrep]
  generalize hH1 : AH.new h _ = H1
  obtain ⟨hb1, p1, n1⟩ := new_facts hH1
  have st0 : TabS h H1 h.length true [] := ⟨p1, Nat.le_refl _, hb1, by simp, by simp⟩
  have hnw : n ≤ n * w := Nat.le_mul_of_pos_right _ (by omega)
  refine WC_loop_inv (fun m f K1 => ∃ (i : Nat) (nb : Nat) (full : Bool) (L : List (Nat × List Int)), m = n - i ∧ i ≤ n ∧ f 0 = v ∧ f 1 = I64 w ∧ f 5 = .slice (some ⟨nb, 0, none⟩) L.length 1 ∧ f 6 = I64 ((i * w : Nat) : Int) ∧ (TabS h K1 nb full L) ∧ (L.map Prod.snd = (parts ns w n).take i)) ?_ (n - 0) _ _ ⟨0, h.length, true, [], rfl, by omega, (by first | rfl | simp [upd_apply]), (by first | rfl | simp [upd_apply]), (by first | rfl | simp [upd_apply]), (by first | rfl | simp [upd_apply]), st0, (by simp)⟩
  rintro m f K1 ⟨i, nb, full, L, rfl, hi, f0, f1, f5, f6, st, hL⟩
  have hLl : L.length = i := by
    have := congrArg List.length hL
    rw [List.length_map, List.length_take, parts_len] at this
    omega
  have hvK := hv.pre st.hp
  try simp (maxSteps := 3000000) (disch := first | omega | (simp only [len_new, len_put, len_kill]; omega)) only [↓xpre, xpost, ↓reduceIte, Nat.reduceEqDiff, Nat.reduceAdd, Nat.reduceSub, Nat.reduceLeDiff, Nat.zero_add, Nat.sub_zero, f0, f1, f5, f6, hvK.len, IfW_dec]
  refine ⟨fun hlt => ?_, fun hge => ?_⟩
  · have hi' : i < n := by
      apply Decidable.byContradiction
      intro hc
      have : i = n := by omega
      subst this
      omega
    have hrow := mul_row (w := w) hi'
    obtain ⟨v', e1, e2⟩ := hvK.slcV (k1 := .i64) (k2 := .i64) (l := ((i * w : Nat) : Int)) (u := ((i * w : Nat) : Int) + (w : Int)) (by omega)
    rw [Int.toNat_natCast, show (((i * w : Nat) : Int) + (w : Int) - ((i * w : Nat) : Int)).toNat = w by omega] at e2
    have rl : ((ns.drop (i * w)).take w).length = w := by rw [List.length_take, List.length_drop]; omega
    try simp (maxSteps := 3000000) (disch := first | omega | (simp only [len_new, len_put, len_kill]; omega)) only [↓xpre, xpost, ↓reduceIte, Nat.reduceEqDiff, Nat.reduceAdd, Nat.reduceSub, Nat.reduceLeDiff, Nat.zero_add, Nat.sub_zero, f0, f1, f5, f6, wrap64_in, ↓WX_slc, omapF_some, omapF_none, e1]
    refine i_CloneB e2 (by omega) (by omega) fun n' h2 hn' p2 ob => ?_
    try simp (maxSteps := 3000000) (disch := first | omega | (simp only [len_new, len_put, len_kill]; omega)) only [↓xpre, xpost, ↓reduceIte, Nat.reduceEqDiff, Nat.reduceAdd, Nat.reduceSub, Nat.reduceLeDiff, Nat.zero_add, Nat.sub_zero, f0, f1, f5, f6, fillL, zrep]
    have lt := st.lt
    refine (st.pre p2).app ⟨by have := pre_len st.hp; omega, by omega, fun p hp => by have := lt.2 p hp; omega⟩ ob (by omega) fun nb' H' st' => ?_
    try simp (maxSteps := 3000000) (disch := first | omega | (simp only [len_new, len_put, len_kill]; omega)) only [↓xpre, xpost, ↓reduceIte, Nat.reduceEqDiff, Nat.reduceAdd, Nat.reduceSub, Nat.reduceLeDiff, Nat.zero_add, Nat.sub_zero, f0, f1, f5, f6, wrap64_in]
    refine InvQ_go (n - (i + 1)) (by omega) ⟨(i + 1), nb', false, (L ++ [(n', (ns.drop (i * w)).take w)]), rfl, by omega, (by first | rfl | exact f0 | (simp only [upd_apply]; rfl) | (show I64 _ = _; congr 1; omega)), (by first | rfl | exact f1 | (simp only [upd_apply]; rfl) | (show I64 _ = _; congr 1; omega)), (by first | rfl | exact f5 | (simp only [upd_apply]; rfl) | (show I64 _ = _; congr 1; omega)), (by show I64 _ = _; rw [Nat.succ_mul]; rfl), st', ?_⟩
    rw [List.map_append, hL, take_next (d := []) (by rw [parts_len]; exact hi'), parts_get hi']
    rfl
  · have e : i = n := by
      apply Decidable.byContradiction
      intro hc
      have := mul_row (w := w) (show i < n by omega)
      omega
    subst e
    rw [List.take_of_length_le (by rw [parts_len]; exact Nat.le_refl _)] at hL
    try simp (maxSteps := 3000000) (disch := first | omega | (simp only [len_new, len_put, len_kill]; omega)) only [↓xpre, xpost, ↓reduceIte, Nat.reduceEqDiff, Nat.reduceAdd, Nat.reduceSub, Nat.reduceLeDiff, Nat.zero_add, Nat.sub_zero, f0, f1, f5, f6]
    have o := st.own
    rw [hL] at o
    exact hQ _ _ st.hp o
end Go.Proofs.Ytapafdpnmakekaa.X

set_option linter.unusedVariables false
set_option linter.unusedSimpArgs false
set_option maxRecDepth 20000
set_option maxHeartbeats 4000000
namespace Go.Proofs.Ytapafdpnmakekaa.X
open Go Go.RowKit
def cel (k : IntKind) (q : List Int) : List Value := q.map (Value.int k)
theorem cel_len {k : IntKind} {q : List Int} : (cel k q).length = q.length := List.length_map _
theorem cel_all {k : IntKind} {q : List Int} : (cel k q).all isOne = true := by
  unfold cel
  induction q with
  | nil => rfl
  | cons a l ih => simp only [List.map_cons, List.all_cons, ih, Bool.and_true]; rfl
theorem cel_get {k : IntKind} {q : List Int} {j : Nat} (hj : j < q.length) : (cel k q)[j]? = some (.int k (q.getD j 0)) := by
  simp [cel, List.getD_eq_getElem?_getD, hj]
theorem cel_take {k : IntKind} {q : List Int} {n : Nat} : (cel k q).take n = cel k (q.take n) := by simp [cel, List.map_take]
theorem cel_drop {k : IntKind} {q : List Int} {n : Nat} : (cel k q).drop n = cel k (q.drop n) := by simp [cel, List.map_drop]
theorem cel_app {k : IntKind} {q r : List Int} : cel k q ++ cel k r = cel k (q ++ r) := by simp [cel]
theorem cel_set {k : IntKind} {q : List Int} {j : Nat} {x : Int} (hj : j < q.length) : splice (cel k q) j [.int k x] = cel k (q.set j x) := by
  rw [splice_set (by rw [cel_len]; exact hj)]
  simp [cel, List.map_set]
theorem cel_splice {k : IntKind} {q r : List Int} {j : Nat} : splice (cel k q) j (cel k r) = cel k (q.take j ++ r ++ q.drop (j + r.length)) := by
  rw [splice_eq]
  simp [cel, List.map_take, List.map_drop]
def Els (k : IntKind) (w : Nat) (h : AH) (v : Value) (L : List (List Int)) : Prop :=
  (L = [] ∧ ∃ t, t ≤ 2 ∧ v = .slice none 0 t) ∨
  ∃ b off blk, v = .slice (some ⟨b, off, none⟩) L.length w ∧ h.get b = some blk ∧ ∀ i, i < L.length → off + i * w + w ≤ blk.c.length ∧ (blk.c.drop (off + i * w)).take w = cel k (L.getD i [])
section
variable {k : IntKind} {w : Nat} {h h' : AH} {v : Value} {L : List (List Int)}
theorem Els.pre (e : Els k w h v L) (p : h <+: h') : Els k w h' v L := by
  rcases e with e | ⟨b, off, blk, h1, h2, h3⟩
  · exact .inl e
  · exact .inr ⟨b, off, blk, h1, pre_get p h2, h3⟩
theorem Els.len (e : Els k w h v L) : lenV v = some (.int .i64 L.length) := by
  rcases e with ⟨rfl, t, _, rfl⟩ | ⟨b, off, blk, rfl, h2, h3⟩ <;> rfl
theorem Els.one (e : Els k w h v L) : isOne v = true := by
  rcases e with ⟨rfl, t, _, rfl⟩ | ⟨b, off, blk, rfl, h2, h3⟩ <;> rfl
theorem Els.cells (e : Els k w h v L) : cellsL v = [v] := by
  rcases e with ⟨rfl, t, _, rfl⟩ | ⟨b, off, blk, rfl, h2, h3⟩ <;> rfl
theorem Els.wid (e : Els k w h v L) {i : Nat} (hi : i < L.length) : (L.getD i []).length = w := by
  rcases e with ⟨rfl, t, _, rfl⟩ | ⟨b, off, blk, rfl, h2, h3⟩
  · simp at hi
  · obtain ⟨h4, h5⟩ := h3 i hi
    have := congrArg List.length h5
    rw [cel_len, List.length_take, List.length_drop] at this
    omega
theorem Els.at (e : Els k w h v L) {i : Nat} (hi : i < L.length) : ∃ n off, (∀ kk : IntKind, ixsV w v (.int kk i) = some (.pointer (some ⟨n, off, none⟩))) ∧
    (∀ o m, o + m ≤ w → h.rdn n (off + o) m = some (cel k (((L.getD i []).drop o).take m))) ∧ ∀ o, o < w → h.rd1 n (off + o) = some (.int k ((L.getD i []).getD o 0)) := by
  have hw := e.wid hi
  rcases e with ⟨rfl, t, _, rfl⟩ | ⟨b, off, blk, rfl, h2, h3⟩
  · simp at hi
  · obtain ⟨h4, h5⟩ := h3 i hi
    refine ⟨b, off + i * w, fun kk => ?_, fun o m hom => ?_, fun o ho => ?_⟩
    · rw [ixsV_some, if_pos (by omega), Int.toNat_natCast]
    · rw [rdn_of h2, if_pos (by omega)]
      congr 1
      rw [← cel_take, ← cel_drop, ← h5, List.drop_take, List.drop_drop, List.take_take, Nat.min_eq_left (by omega)]
    · rw [rd1_of h2]
      have := cel_get (k := k) (q := L.getD i []) (j := o) (by omega)
      rw [← h5, List.getElem?_take, if_pos ho, List.getElem?_drop] at this
      exact this
end
end Go.Proofs.Ytapafdpnmakekaa.X

set_option linter.unusedVariables false
set_option linter.unusedSimpArgs false
set_option maxRecDepth 20000
set_option maxHeartbeats 4000000
namespace Go.Proofs.Ytapafdpnmakekaa.X
open Go Go.RowKit
def aggV (k : IntKind) (q : List Int) : Value := .agg (cel k q).toArray
theorem wr_all {h : AH} {z vs : List Value} {e : TypeId} {full : Bool} (hl : vs.length = z.length) : (h.new ⟨z, e, false, full⟩).wr h.length 0 vs = some (h.new ⟨vs, e, false, full⟩) := by
  rw [wr_new_same, if_pos ⟨rfl, by simp only; omega⟩, splice_eq, hl]
  simp
theorem wr_full {h : AH} {z vs : List Value} {e : TypeId} {full : Bool} {n : Nat} (hg : h.get n = some ⟨z, e, false, full⟩) (hl : vs.length = z.length) : h.wr n 0 vs = some (h.put n ⟨vs, e, false, full⟩) := by
  rw [wr_of hg, if_pos ⟨rfl, by simp only; omega⟩, splice_eq]
  simp [hl]
theorem zeros9 : ([.int .u8 0, .int .u8 0, .int .u8 0, .int .u8 0, .int .u8 0, .int .u8 0, .int .u8 0, .int .u8 0, .int .u8 0] : List Value) = cel .u8 (List.replicate 9 0) := rfl
theorem zeros27 : ([.int .u8 0, .int .u8 0, .int .u8 0, .int .u8 0, .int .u8 0, .int .u8 0, .int .u8 0, .int .u8 0, .int .u8 0, .int .u8 0, .int .u8 0, .int .u8 0, .int .u8 0, .int .u8 0, .int .u8 0, .int .u8 0, .int .u8 0, .int .u8 0, .int .u8 0, .int .u8 0, .int .u8 0, .int .u8 0, .int .u8 0, .int .u8 0, .int .u8 0, .int .u8 0, .int .u8 0] : List Value) = cel .u8 (List.replicate 27 0) := rfl
end Go.Proofs.Ytapafdpnmakekaa.X

set_option linter.unusedVariables false
set_option linter.unusedSimpArgs false
set_option maxRecDepth 20000
set_option maxHeartbeats 4000000
namespace Go.Proofs.Ytapafdpnmakekaa.X
open Go Go.RowKit
structure OnlyR (a b : Nat) (h h' : AH) : Prop where
  len : h'.length = h.length
  same : ∀ n, ¬ (a ≤ n ∧ n < b) → h'[n]? = h[n]?
theorem OnlyR.refl (a b : Nat) (h : AH) : OnlyR a b h h := ⟨rfl, fun _ _ => rfl⟩
theorem OnlyR.trans {a b : Nat} {h h' h'' : AH} (w : OnlyR a b h h') (w' : OnlyR a b h' h'') : OnlyR a b h h'' := ⟨w'.len.trans w.len, fun n hn => (w'.same n hn).trans (w.same n hn)⟩
theorem OnlyR.get {a b n : Nat} {h h' : AH} (w : OnlyR a b h h') (hn : ¬ (a ≤ n ∧ n < b)) : h'.get n = h.get n := by
  unfold AH.get
  rw [w.same n hn]
theorem OnlyR.get' {a b n : Nat} {h h' : AH} {c : Blk} (w : OnlyR a b h h') (hb : h.get n = some c) (hn : n < a ∨ b ≤ n) : h'.get n = some c := by
  rw [w.get (by omega)]
  exact hb
theorem OnlyR.pre {a b : Nat} {h0 h h' : AH} (w : OnlyR a b h h') (p : h0 <+: h) (hn : h0.length ≤ a) : h0 <+: h' := by
  rw [List.prefix_iff_getElem?] at p ⊢
  intro i hi
  rw [w.same i (by omega)]
  exact p i hi
theorem Only.range {o : Option Nat} {a b : Nat} {h h' : AH} (w : Only o h h') (hn : ∀ n, o = some n → a ≤ n ∧ n < b) : OnlyR a b h h' := ⟨w.len, fun n q => w.same n (fun e => q (hn n e))⟩
def InS (a b : Nat) (h : AH) (v : Value) (ns : List Int) : Prop :=
  (v = .slice none 0 0 ∧ ns = []) ∨ ∃ n e full, (a ≤ n ∧ n < b) ∧ v = .slice (some ⟨n, 0, none⟩) ns.length 1 ∧ h.get n = some ⟨ns.map (Value.int .i64), e, false, full⟩
section
variable {a b c d : Nat} {h h' h0 : AH} {v : Value} {ns : List Int}
theorem InS.rd (o : InS a b h v ns) : Ints h v ns := by
  rcases o with ⟨rfl, rfl⟩ | ⟨n, e, full, h1, rfl, h2⟩
  · exact .inl ⟨rfl, 0, by omega, rfl⟩
  · exact Ints.own h2 rfl
theorem InS.pre (o : InS a b h v ns) (p : h <+: h') : InS a b h' v ns := by
  rcases o with ⟨rfl, rfl⟩ | ⟨n, e, full, h1, rfl, h2⟩
  · exact .inl ⟨rfl, rfl⟩
  · exact .inr ⟨n, e, full, h1, rfl, pre_get p h2⟩
theorem InS.only (o : InS a b h v ns) (w : OnlyR c d h h') (hd : b ≤ c ∨ d ≤ a) : InS a b h' v ns := by
  rcases o with ⟨rfl, rfl⟩ | ⟨n, e, full, h1, rfl, h2⟩
  · exact .inl ⟨rfl, rfl⟩
  · exact .inr ⟨n, e, full, h1, rfl, w.get' h2 (by omega)⟩
theorem InS.ownR (o : InS a b h v ns) : OwnR (List.replicate a none) h v ns := by
  rcases o with ⟨rfl, rfl⟩ | ⟨n, e, full, h1, rfl, h2⟩
  · exact .inl ⟨rfl, rfl⟩
  · exact .inr ⟨n, e, full, by simpa using h1.1, rfl, h2⟩
theorem InS.blk (o : InS a b h v ns) : ∀ n, blkOf v = some n → a ≤ n ∧ n < b := by
  rcases o with ⟨rfl, rfl⟩ | ⟨n, e, full, h1, rfl, h2⟩
  · intro n hn; cases hn
  · intro m hm
    cases hm
    exact h1
theorem OwnR.back {k : List (Option Blk)} (o : OwnR k h v ns) (hb : ∀ n, blkOf v = some n → a ≤ n ∧ n < b) : InS a b h v ns := by
  rcases o with ⟨rfl, rfl⟩ | ⟨n, e, full, h1, rfl, h2⟩
  · exact .inl ⟨rfl, rfl⟩
  · exact .inr ⟨n, e, full, hb n rfl, rfl, h2⟩
end
def SmallS (ns : List Int) : Prop := (ns.length : Int) ≤ 1048576
def InM (a b : Nat) (h : AH) (v : Value) (rows : List (List Int)) : Prop :=
  (v = .slice none 0 0 ∧ rows = []) ∨ ∃ n e full cs, (a ≤ n ∧ n < b) ∧ v = .slice (some ⟨n, 0, none⟩) cs.length 1 ∧ h.get n = some ⟨cs, e, false, full⟩ ∧ cs.length = rows.length ∧
    (∀ i, i < rows.length → InS a b h (cs.getD i undef) (rows.getD i []) ∧ blkOf (cs.getD i undef) ≠ some n) ∧
    ∀ i j, i < j → j < rows.length → ∀ q, blkOf (cs.getD i undef) = some q → blkOf (cs.getD j undef) ≠ some q
section
variable {a b c d : Nat} {h h' h0 : AH} {v : Value} {rows : List (List Int)}
theorem InM.rd (o : InM a b h v rows) : Rows h v rows := by
  rcases o with ⟨rfl, rfl⟩ | ⟨n, e, full, cs, h1, rfl, h2, h3, h4, h5⟩
  · exact ⟨[], .inl ⟨rfl, 0, by omega, rfl⟩, rfl, fun i hi => by simp at hi⟩
  · refine ⟨cs, .inr ⟨n, 0, _, rfl, h2, by simp, fun i hi => ?_⟩, h3, fun i hi => (h4 i hi).1.rd⟩
    rw [Nat.zero_add, List.getD_eq_getElem?_getD, List.getElem?_eq_getElem hi]
    rfl
theorem InM.pre (o : InM a b h v rows) (p : h <+: h') : InM a b h' v rows := by
  rcases o with ⟨rfl, rfl⟩ | ⟨n, e, full, cs, h1, rfl, h2, h3, h4, h5⟩
  · exact .inl ⟨rfl, rfl⟩
  · exact .inr ⟨n, e, full, cs, h1, rfl, pre_get p h2, h3, fun i hi => ⟨(h4 i hi).1.pre p, (h4 i hi).2⟩, h5⟩
theorem InM.only (o : InM a b h v rows) (w : OnlyR c d h h') (hd : b ≤ c ∨ d ≤ a) : InM a b h' v rows := by
  rcases o with ⟨rfl, rfl⟩ | ⟨n, e, full, cs, h1, rfl, h2, h3, h4, h5⟩
  · exact .inl ⟨rfl, rfl⟩
  · exact .inr ⟨n, e, full, cs, h1, rfl, w.get' h2 (by omega), h3, fun i hi => ⟨(h4 i hi).1.only w hd, (h4 i hi).2⟩, h5⟩
end
def SmallM (rows : List (List Int)) : Prop := (rows.length : Int) ≤ 1048576 ∧ (∀ i, i < rows.length → ((rows.getD i []).length : Int) ≤ 1048576) ∧ tot rows rows.length ≤ 1048576
@[simp] theorem tot_zero {rows : List (List Int)} : tot rows 0 = 0 := by simp [tot]
end Go.Proofs.Ytapafdpnmakekaa.X

set_option linter.unusedVariables false
set_option linter.unusedSimpArgs false
set_option maxRecDepth 20000
set_option maxHeartbeats 4000000
namespace Go.Proofs.Ytapafdpnmakekaa.X
open Go Go.RowKit
def Wid (w : Nat) (L : List (List Int)) : Prop := ∀ q, q ∈ L → q.length = w
theorem flat_len {w : Nat} : ∀ {L : List (List Int)}, Wid w L → L.flatten.length = L.length * w
  | [], _ => by simp
  | q :: L, h => by
    rw [List.flatten_cons, List.length_append, flat_len (fun r hr => h r (List.mem_cons_of_mem _ hr)), h q List.mem_cons_self, List.length_cons, Nat.succ_mul]
    omega
theorem flat_get {w : Nat} : ∀ {L : List (List Int)} {i : Nat}, Wid w L → i < L.length → (L.flatten.drop (i * w)).take w = L.getD i []
  | [], i, _, hi => by simp at hi
  | q :: L, 0, h, _ => by
    have hq := h q List.mem_cons_self
    rw [Nat.zero_mul, List.drop_zero, List.flatten_cons, List.take_append_of_le_length (by omega), List.take_of_length_le (by omega)]
    rfl
  | q :: L, i + 1, h, hi => by
    have hq := h q List.mem_cons_self
    have e : (q ++ L.flatten).drop w = L.flatten := by rw [← hq]; exact List.drop_left
    rw [List.flatten_cons, Nat.succ_mul, Nat.add_comm, ← List.drop_drop, e, flat_get (fun r hr => h r (List.mem_cons_of_mem _ hr)) (by simpa using hi)]
    rfl
theorem flat_set {w : Nat} {r : List Int} : ∀ {L : List (List Int)} {i : Nat}, Wid w L → i < L.length → L.flatten.take (i * w) ++ r ++ L.flatten.drop (i * w + w) = (L.set i r).flatten
  | [], i, _, hi => by simp at hi
  | q :: L, 0, h, _ => by
    have hq := h q List.mem_cons_self
    rw [Nat.zero_mul, List.take_zero, List.nil_append, Nat.zero_add, List.flatten_cons, List.drop_append_of_le_length (by omega), List.drop_of_length_le (by omega), List.nil_append]
    rfl
  | q :: L, i + 1, h, hi => by
    have hq := h q List.mem_cons_self
    have ih := flat_set (r := r) (fun r hr => h r (List.mem_cons_of_mem _ hr)) (show i < L.length by simpa using hi)
    rw [List.set_cons_succ, List.flatten_cons, List.flatten_cons, ← ih, show (i + 1) * w = q.length + i * w by rw [Nat.succ_mul, hq]; omega, List.take_append, List.drop_append]
    rw [List.take_of_length_le (l := q) (by omega), List.drop_of_length_le (l := q) (by omega), show q.length + i * w - q.length = i * w by omega, show q.length + i * w + w - q.length = i * w + w by omega]
    simp
section
variable {z : List Int} {L : List (List Int)} {i w : Nat}
end
def InE (k : IntKind) (w a b : Nat) (h : AH) (v : Value) (L : List (List Int)) : Prop :=
  (v = .slice none 0 0 ∧ L = []) ∨ ∃ n e full, (a ≤ n ∧ n < b) ∧ v = .slice (some ⟨n, 0, none⟩) L.length w ∧ h.get n = some ⟨cel k L.flatten, e, false, full⟩ ∧ Wid w L
section
variable {k : IntKind} {w a b c d : Nat} {h h' : AH} {v : Value} {L : List (List Int)}
theorem InE.rd (o : InE k w a b h v L) : Els k w h v L := by
  rcases o with ⟨rfl, rfl⟩ | ⟨n, e, full, h1, rfl, h2, h3⟩
  · exact .inl ⟨rfl, 0, by omega, rfl⟩
  · refine .inr ⟨n, 0, _, rfl, h2, fun i hi => ?_⟩
    have := mul_row (w := w) hi
    simp only [cel_len, flat_len h3, Nat.zero_add, cel_drop, cel_take, flat_get h3 hi]
    exact ⟨by omega, trivial⟩
theorem InE.pre (o : InE k w a b h v L) (p : h <+: h') : InE k w a b h' v L := by
  rcases o with ⟨rfl, rfl⟩ | ⟨n, e, full, h1, rfl, h2, h3⟩
  · exact .inl ⟨rfl, rfl⟩
  · exact .inr ⟨n, e, full, h1, rfl, pre_get p h2, h3⟩
theorem InE.only (o : InE k w a b h v L) (u : OnlyR c d h h') (hd : b ≤ c ∨ d ≤ a) : InE k w a b h' v L := by
  rcases o with ⟨rfl, rfl⟩ | ⟨n, e, full, h1, rfl, h2, h3⟩
  · exact .inl ⟨rfl, rfl⟩
  · exact .inr ⟨n, e, full, h1, rfl, u.get' h2 (by omega), h3⟩
end
def Byt (w : Nat) (L : List (List Int)) : Prop := ∀ i, i < L.length → ∀ j, j < w → 0 ≤ (L.getD i []).getD j 0 ∧ (L.getD i []).getD j 0 ≤ 255
structure Sch where
  p : Int
  n : Int
  m : Int
  k : Int
  ps : List (List Int)
def schV (x : Sch) (v : Value) : Value := .agg #[I64 x.p, I64 x.n, I64 x.m, I64 x.k, v]
def Prods (h : AH) (v : Value) (L : List (List Int)) : Prop := Els .u8 27 h v L ∧ Byt 27 L
def InX (a b : Nat) (h : AH) (v : Value) (L : List (List Int)) : Prop := InE .u8 27 a b h v L ∧ Byt 27 L
section
variable {a b c d : Nat} {h h' : AH} {v : Value} {L : List (List Int)}
theorem Prods.pre (o : Prods h v L) (p : h <+: h') : Prods h' v L := ⟨o.1.pre p, o.2⟩
theorem Prods.one (o : Prods h v L) : isOne v = true := o.1.one
theorem InX.rd (o : InX a b h v L) : Prods h v L := ⟨o.1.rd, o.2⟩
theorem InX.pre (o : InX a b h v L) (p : h <+: h') : InX a b h' v L := ⟨o.1.pre p, o.2⟩
theorem InX.only (o : InX a b h v L) (u : OnlyR c d h h') (hd : b ≤ c ∨ d ≤ a) : InX a b h' v L := ⟨o.1.only u hd, o.2⟩
end
end Go.Proofs.Ytapafdpnmakekaa.X

set_option linter.unusedVariables false
set_option linter.unusedSimpArgs false
set_option maxRecDepth 20000
set_option maxHeartbeats 4000000
namespace Go.Proofs.Ytapafdpnmakekaa.X
open Go Go.RowKit
theorem getD_app_l {α : Type} {l r : List α} {i : Nat} {d : α} (hi : i < l.length) : (l ++ r).getD i d = l.getD i d := by
  rw [List.getD_eq_getElem?_getD, List.getD_eq_getElem?_getD, List.getElem?_append_left hi]
theorem getD_app_r {α : Type} {l r : List α} {i : Nat} {d : α} (hi : l.length ≤ i) : (l ++ r).getD i d = r.getD (i - l.length) d := by
  rw [List.getD_eq_getElem?_getD, List.getD_eq_getElem?_getD, List.getElem?_append_right hi]
theorem app_ownW {e : TypeId} {w bytes : Nat} {h : AH} {k n n' : Nat} {c vs : List Value} {full : Bool} (hk : h.get k = some ⟨c, e, false, full⟩) (hc : c.length = n * w) (hn : h.rdn n' 0 w = some vs)
    (hs : (n + 1 : Int) * bytes ≤ 140737488355328 ∧ (n + 1 : Int) ≤ 9223372036854775807) :
    appV e w bytes (.slice (some ⟨k, 0, none⟩) n w) (.slice (some ⟨n', 0, none⟩) 1 w) h = some (.slice (some ⟨h.length, 0, none⟩) (n + 1) w, (h.kill k).new ⟨c ++ vs, e, false, false⟩) := by
  simp only [appV, xop, ev, if_true, Nat.one_mul, hn, hk]
  rw [if_pos (by simpa using hs)]
  simp [hc]
theorem app_nilW {e : TypeId} {w bytes : Nat} {h : AH} {n' t : Nat} {vs : List Value} (ht : t = 0 ∨ t = 2) (hn : h.rdn n' 0 w = some vs) (hs : (1 : Int) * bytes ≤ 140737488355328) :
    appV e w bytes (.slice none 0 t) (.slice (some ⟨n', 0, none⟩) 1 w) h = some (.slice (some ⟨h.length, 0, none⟩) 1 w, h.new ⟨vs, e, false, false⟩) := by
  simp only [appV, xop, ev, if_true, Nat.one_mul, hn]
  rw [if_pos (by simpa using hs)]
  simp [ht]
def WayE (e : TypeId) (k : IntKind) (w : Nat) (h : AH) (lo bx : Nat) (sv : Value) (L : List (List Int)) : Prop :=
  Wid w L ∧ ((sv = .slice none 0 0 ∧ L = []) ∨ ∃ kb full, sv = .slice (some ⟨kb, 0, none⟩) L.length w ∧ lo ≤ kb ∧ kb ≠ bx ∧ h.get kb = some ⟨cel k L.flatten, e, false, full⟩)
section
variable {e : TypeId} {k : IntKind} {w : Nat} {h h' : AH} {lo bx : Nat} {sv : Value} {L : List (List Int)}
theorem WayE.pre (o : WayE e k w h lo bx sv L) (p : h <+: h') : WayE e k w h' lo bx sv L := by
  obtain ⟨hw, o | ⟨kb, full, h1, h2, h3, h4⟩⟩ := o
  · exact ⟨hw, .inl o⟩
  · exact ⟨hw, .inr ⟨kb, full, h1, h2, h3, pre_get p h4⟩⟩
theorem WayE.one (o : WayE e k w h lo bx sv L) : isOne sv = true := by
  obtain ⟨hw, ⟨rfl, _⟩ | ⟨kb, full, rfl, h2, h3, h4⟩⟩ := o <;> rfl
theorem WayE.cells (o : WayE e k w h lo bx sv L) : cellsL sv = [sv] := by
  obtain ⟨hw, ⟨rfl, _⟩ | ⟨kb, full, rfl, h2, h3, h4⟩⟩ := o <;> rfl
theorem WayE.put {b : Blk} (o : WayE e k w h lo bx sv L) : WayE e k w (h.put bx b) lo bx sv L := by
  obtain ⟨hw, o | ⟨kb, full, h1, h2, h3, h4⟩⟩ := o
  · exact ⟨hw, .inl o⟩
  · exact ⟨hw, .inr ⟨kb, full, h1, h2, h3, by rw [get_put_ne (fun x => h3 x.symm)]; exact h4⟩⟩
theorem WayE.putb {b : Blk} {n : Nat} (o : WayE e k w h lo bx sv L) (hn : n < lo) : WayE e k w (h.put n b) lo bx sv L := by
  obtain ⟨hw, o | ⟨kb, full, h1, h2, h3, h4⟩⟩ := o
  · exact ⟨hw, .inl o⟩
  · exact ⟨hw, .inr ⟨kb, full, h1, h2, h3, by rw [get_put_ne (by omega)]; exact h4⟩⟩
theorem WayE.inE (o : WayE e k w h lo bx sv L) : InE k w lo h.length h sv L := by
  obtain ⟨hw, o | ⟨kb, full, h1, h2, h3, h4⟩⟩ := o
  · exact .inl o
  · exact .inr ⟨kb, e, full, ⟨h2, get_lt h4⟩, h1, h4, hw⟩
theorem WayE.app {H : AH} {q : List Int} {e' : TypeId} {ro full : Bool} {bytes : Nat} (o : WayE e k w H lo bx sv L) (hq : q.length = w) (hl : ((L.length : Int) + 1) * bytes ≤ 140737488355328) (hn : (L.length : Int) < 1048576) (hlo : lo ≤ H.length) (hbx : bx < H.length)
    {Q : Value → AH → Prop} (hQ : ∀ sv' H', H'.length = H.length + 2 → (∀ h0 : AH, h0.length ≤ lo → h0 <+: H → h0 <+: H') → (∀ n c f, n < lo → OwnB H n c f → OwnB H' n c f) → (∀ c f, OwnB H bx c f → OwnB H' bx c f) → WayE e k w H' lo bx sv' (L ++ [q]) → Q sv' H') :
    OQ (appV e w bytes sv (.slice (some ⟨H.length, 0, none⟩) 1 w) (H.new ⟨cel k q, e', ro, full⟩)) Q := by
  have hr : (H.new ⟨cel k q, e', ro, full⟩).rdn H.length 0 w = some (cel k q) := by
    rw [rdn_of get_new_same]
    simp only
    rw [if_pos (by rw [cel_len, hq]; omega), List.drop_zero, List.take_of_length_le (by rw [cel_len, hq]; omega)]
  obtain ⟨hw, ⟨rfl, rfl⟩ | ⟨kb, fu, rfl, h2, h3, h4⟩⟩ := o
  · rw [app_nilW (.inl rfl) hr (by simp only [List.length_nil] at hl; omega), OQ_some]
    refine hQ _ _ (by rw [len_new, len_new]) (fun h0 _ p => pre_new (pre_new p)) (fun n c f hn o => (o.pre (pre_new (List.prefix_refl _))).pre (pre_new (List.prefix_refl _))) (fun c f o => (o.pre (pre_new (List.prefix_refl _))).pre (pre_new (List.prefix_refl _))) ⟨?_, .inr ⟨_, false, rfl, by rw [len_new]; omega, by rw [len_new]; omega, ?_⟩⟩
    · intro r hr
      rw [List.nil_append, List.mem_singleton] at hr
      rw [hr, hq]
    · rw [get_new_same]
      simp
  · have hk : (H.new ⟨cel k q, e', ro, full⟩).get kb = some ⟨cel k L.flatten, e, false, fu⟩ := get_new_any h4
    have hkb := get_lt h4
    rw [app_ownW hk (by rw [cel_len, flat_len hw]) hr ⟨hl, by omega⟩, OQ_some]
    refine hQ _ _ (by rw [len_new, len_kill, len_new]) (fun h0 q p => pre_new (pre_kill (pre_new p) (by omega))) (fun n c f hn o => ?_) (fun c f o => ?_) ⟨?_, .inr ⟨(H.new ⟨cel k q, e', ro, full⟩).length, false, by simp, by rw [len_new]; omega, by rw [len_new]; omega, ?_⟩⟩
    · obtain ⟨e', o⟩ := o
      exact ⟨e', get_new_any (by rw [get_kill_ne (by omega)]; exact get_new_any o)⟩
    · obtain ⟨e', o⟩ := o
      exact ⟨e', get_new_any (by rw [get_kill_ne h3]; exact get_new_any o)⟩
    · intro r hr
      rcases List.mem_append.1 hr with hr | hr
      · exact hw r hr
      · rw [List.mem_singleton.1 hr, hq]
    · rw [get_new_eq (by rw [len_kill])]
      simp [cel_app]
end
theorem InE.putb {k : IntKind} {w a b : Nat} {h : AH} {v : Value} {L : List (List Int)} {n : Nat} {bl : Blk} (o : InE k w a b h v L) (hn : n < a) : InE k w a b (h.put n bl) v L := by
  rcases o with o | ⟨m, e, full, h1, rfl, h2, h3⟩
  · exact .inl o
  · exact .inr ⟨m, e, full, h1, rfl, by rw [get_put_ne (by omega)]; exact h2, h3⟩
theorem InE.mono {k : IntKind} {w a b a' b' : Nat} {h : AH} {v : Value} {L : List (List Int)} (o : InE k w a b h v L) (ha : a' ≤ a) (hb : b ≤ b') : InE k w a' b' h v L := by
  rcases o with o | ⟨m, e, full, h1, rfl, h2, h3⟩
  · exact .inl o
  · exact .inr ⟨m, e, full, ⟨by omega, by omega⟩, rfl, h2, h3⟩
end Go.Proofs.Ytapafdpnmakekaa.X

set_option linter.unusedVariables false
set_option linter.unusedSimpArgs false
set_option linter.defProp false
namespace Go.Proofs.Ytapafdpnmakekaa.X
open Go Go.RowKit
inductive Dum {α : Type} (a : α) : Type
 | mk
def yQV (v : Value) (Q : Value → Prop) (_ : Dum Q) : Prop := QV v Q
@[congr] theorem yQV_congr {v : Value} {Q : Value → Prop} {w : Value} {d0 : Dum Q} (e : v = w) : yQV v Q d0 = yQV w Q d0 := by rw [e]
theorem yQV_forth {v : Value} {Q : Value → Prop} : QV v Q = yQV v Q .mk := rfl
theorem yQV_back {v : Value} {Q : Value → Prop} {d0 : Dum Q} : yQV v Q d0 = QV v Q := rfl
def yWV (r : Option Value) (Q : Value → Prop) (_ : Dum Q) : Prop := WV r Q
@[congr] theorem yWV_congr {r : Option Value} {Q : Value → Prop} {w : Option Value} {d0 : Dum Q} (e : r = w) : yWV r Q d0 = yWV w Q d0 := by rw [e]
theorem yWV_forth {r : Option Value} {Q : Value → Prop} : WV r Q = yWV r Q .mk := rfl
theorem yWV_back {r : Option Value} {Q : Value → Prop} {d0 : Dum Q} : yWV r Q d0 = WV r Q := rfl
def yHQ (r : Option AH) (Q : AH → Prop) (_ : Dum Q) : Prop := HQ r Q
@[congr] theorem yHQ_congr {r : Option AH} {Q : AH → Prop} {w : Option AH} {d0 : Dum Q} (e : r = w) : yHQ r Q d0 = yHQ w Q d0 := by rw [e]
theorem yHQ_forth {r : Option AH} {Q : AH → Prop} : HQ r Q = yHQ r Q .mk := rfl
theorem yHQ_back {r : Option AH} {Q : AH → Prop} {d0 : Dum Q} : yHQ r Q d0 = HQ r Q := rfl
def yPQ (v : Value) (Q : Nat → Nat → Prop) (_ : Dum Q) : Prop := PQ v Q
@[congr] theorem yPQ_congr {v : Value} {Q : Nat → Nat → Prop} {w : Value} {d0 : Dum Q} (e : v = w) : yPQ v Q d0 = yPQ w Q d0 := by rw [e]
theorem yPQ_forth {v : Value} {Q : Nat → Nat → Prop} : PQ v Q = yPQ v Q .mk := rfl
theorem yPQ_back {v : Value} {Q : Nat → Nat → Prop} {d0 : Dum Q} : yPQ v Q d0 = PQ v Q := rfl
def yLQ (v : List Value) (Q : List Value → Prop) (_ : Dum Q) : Prop := LQ v Q
@[congr] theorem yLQ_congr {v : List Value} {Q : List Value → Prop} {w : List Value} {d0 : Dum Q} (e : v = w) : yLQ v Q d0 = yLQ w Q d0 := by rw [e]
theorem yLQ_forth {v : List Value} {Q : List Value → Prop} : LQ v Q = yLQ v Q .mk := rfl
theorem yLQ_back {v : List Value} {Q : List Value → Prop} {d0 : Dum Q} : yLQ v Q d0 = LQ v Q := rfl
def yVQ (r : Option (List Value)) (Q : List Value → Prop) (_ : Dum Q) : Prop := VQ r Q
@[congr] theorem yVQ_congr {r : Option (List Value)} {Q : List Value → Prop} {w : Option (List Value)} {d0 : Dum Q} (e : r = w) : yVQ r Q d0 = yVQ w Q d0 := by rw [e]
theorem yVQ_forth {r : Option (List Value)} {Q : List Value → Prop} : VQ r Q = yVQ r Q .mk := rfl
theorem yVQ_back {r : Option (List Value)} {Q : List Value → Prop} {d0 : Dum Q} : yVQ r Q d0 = VQ r Q := rfl
def yOQ (r : Option (Value × AH)) (Q : Value → AH → Prop) (_ : Dum Q) : Prop := OQ r Q
@[congr] theorem yOQ_congr {r : Option (Value × AH)} {Q : Value → AH → Prop} {w : Option (Value × AH)} {d0 : Dum Q} (e : r = w) : yOQ r Q d0 = yOQ w Q d0 := by rw [e]
theorem yOQ_forth {r : Option (Value × AH)} {Q : Value → AH → Prop} : OQ r Q = yOQ r Q .mk := rfl
theorem yOQ_back {r : Option (Value × AH)} {Q : Value → AH → Prop} {d0 : Dum Q} : yOQ r Q d0 = OQ r Q := rfl
def yIfW (v : Value) (A : Prop) (B : Prop) (_ : Dum A) (_ : Dum B) : Prop := IfW v A B
@[congr] theorem yIfW_congr {v : Value} {A : Prop} {B : Prop} {w : Value} {d0 : Dum A} {d1 : Dum B} (e : v = w) : yIfW v A B d0 d1 = yIfW w A B d0 d1 := by rw [e]
theorem yIfW_forth {v : Value} {A : Prop} {B : Prop} : IfW v A B = yIfW v A B .mk .mk := rfl
theorem yIfW_back {v : Value} {A : Prop} {B : Prop} {d0 : Dum A} {d1 : Dum B} : yIfW v A B d0 d1 = IfW v A B := rfl
def yWF (S : XS) (g : FuncId) (args : List Value) (h : AH) (Q : Value → AH → Prop) (_ : Dum h) (_ : Dum Q) : Prop := WF S g args h Q
@[congr] theorem yWF_congr {S : XS} {g : FuncId} {args args1 : List Value} {h : AH} {Q : Value → AH → Prop} {d0 : Dum h} {d1 : Dum Q} (e : args = args1) : yWF S g args h Q d0 d1 = yWF S g args1 h Q d0 d1 := by rw [e]
theorem yWF_back {S : XS} {g : FuncId} {args : List Value} {h : AH} {Q : Value → AH → Prop} {d0 : Dum h} {d1 : Dum Q} : yWF S g args h Q d0 d1 = WF S g args h Q := rfl
def yWK (S : XS) (v : Value) (args : List Value) (h : AH) (Q : Value → AH → Prop) (_ : Dum h) (_ : Dum Q) : Prop := WK S v args h Q
@[congr] theorem yWK_congr {S : XS} {v v1 : Value} {args args1 : List Value} {h : AH} {Q : Value → AH → Prop} {d0 : Dum h} {d1 : Dum Q} (e : v = v1) (e1 : args = args1) : yWK S v args h Q d0 d1 = yWK S v1 args1 h Q d0 d1 := by rw [e, e1]
theorem yWK_back {S : XS} {v : Value} {args : List Value} {h : AH} {Q : Value → AH → Prop} {d0 : Dum h} {d1 : Dum Q} : yWK S v args h Q d0 d1 = WK S v args h Q := rfl
theorem yWK_func {S : XS} {g : FuncId} {cap : Array Value} {args : List Value} {h : AH} {Q : Value → AH → Prop} {d0 : Dum h} {d1 : Dum Q} : yWK S (.func (.func g) #[] cap) args h Q d0 d1 = yWF S g (args ++ cap.toList) h Q .mk .mk := rfl
def yWG (S : XS) (v : Value) (b : Bool) (i : XI) (rest : List XI) (f : Fr) (h : AH) (Q : Fr → AH → Prop) (_ : Dum i) (_ : Dum rest) (_ : Dum f) (_ : Dum h) (_ : Dum Q) : Prop := WG S v b i rest f h Q
@[congr] theorem yWG_congr {v v1 : Value} {b : Bool} {S : XS} {i : XI} {rest : List XI} {f : Fr} {h : AH} {Q : Fr → AH → Prop} {d0 : Dum i} {d1 : Dum rest} {d2 : Dum f} {d3 : Dum h} {d4 : Dum Q} (e : v = v1) : yWG S v b i rest f h Q d0 d1 d2 d3 d4 = yWG S v1 b i rest f h Q d0 d1 d2 d3 d4 := by rw [e]
theorem yWG_back {v : Value} {b : Bool} {S : XS} {i : XI} {rest : List XI} {f : Fr} {h : AH} {Q : Fr → AH → Prop} {d0 : Dum i} {d1 : Dum rest} {d2 : Dum f} {d3 : Dum h} {d4 : Dum Q} : yWG S v b i rest f h Q d0 d1 d2 d3 d4 = WG S v b i rest f h Q := rfl
theorem yWG_tt {S : XS} {i : XI} {rest : List XI} {f : Fr} {h : AH} {Q : Fr → AH → Prop} {d0 : Dum i} {d1 : Dum rest} {d2 : Dum f} {d3 : Dum h} {d4 : Dum Q} : yWG S (.bool true) true i rest f h Q d0 d1 d2 d3 d4 = WO S (⟨i.d, i.o, none, i.q⟩ :: rest) f h Q := rfl
theorem yWG_ff {S : XS} {i : XI} {rest : List XI} {f : Fr} {h : AH} {Q : Fr → AH → Prop} {d0 : Dum i} {d1 : Dum rest} {d2 : Dum f} {d3 : Dum h} {d4 : Dum Q} : yWG S (.bool false) false i rest f h Q d0 d1 d2 d3 d4 = WO S (⟨i.d, i.o, none, i.q⟩ :: rest) f h Q := rfl
theorem yWG_tf {S : XS} {i : XI} {rest : List XI} {f : Fr} {h : AH} {Q : Fr → AH → Prop} {d0 : Dum i} {d1 : Dum rest} {d2 : Dum f} {d3 : Dum h} {d4 : Dum Q} : yWG S (.bool true) false i rest f h Q d0 d1 d2 d3 d4 = WO S rest (updo f i.d undef) h Q := rfl
theorem yWG_ft {S : XS} {i : XI} {rest : List XI} {f : Fr} {h : AH} {Q : Fr → AH → Prop} {d0 : Dum i} {d1 : Dum rest} {d2 : Dum f} {d3 : Dum h} {d4 : Dum Q} : yWG S (.bool false) true i rest f h Q d0 d1 d2 d3 d4 = WO S rest (updo f i.d undef) h Q := rfl
theorem yWG_un {b : Bool} {S : XS} {i : XI} {rest : List XI} {f : Fr} {h : AH} {Q : Fr → AH → Prop} {d0 : Dum i} {d1 : Dum rest} {d2 : Dum f} {d3 : Dum h} {d4 : Dum Q} : yWG S undef b i rest f h Q d0 d1 d2 d3 d4 = WO S rest (updo f i.d undef) h Q := rfl
theorem yQV_eq {v : Value} {Q : Value → Prop} {d : Dum Q} : yQV v Q d = Q v := rfl
theorem yWV_some {v : Value} {Q : Value → Prop} {d : Dum Q} : yWV (some v) Q d = Q v := WV_some
theorem yWV_ite {c : Prop} [Decidable c] {v : Value} {Q : Value → Prop} {d : Dum Q} : yWV (if c then some v else none) Q d = (c ∧ Q v) := WV_ite
theorem yHQ_some {v : AH} {Q : AH → Prop} {d : Dum Q} : yHQ (some v) Q d = Q v := HQ_some
theorem yHQ_ite {c : Prop} [Decidable c] {v : AH} {Q : AH → Prop} {d : Dum Q} : yHQ (if c then some v else none) Q d = (c ∧ Q v) := HQ_ite
theorem yPQ_ptr {p : Addr} {Q : Nat → Nat → Prop} {d : Dum Q} : yPQ (.pointer (some p)) Q d = Q p.block p.off := rfl
theorem yLQ_eq {v : List Value} {Q : List Value → Prop} {d : Dum Q} : yLQ v Q d = Q v := rfl
theorem yVQ_some {v : List Value} {Q : List Value → Prop} {d : Dum Q} : yVQ (some v) Q d = Q v := VQ_some
theorem yOQ_some {v : Value} {h : AH} {Q : Value → AH → Prop} {d : Dum Q} : yOQ (some (v, h)) Q d = Q v h := OQ_some
theorem yOQ_ite {c : Prop} [Decidable c] {v : Value} {h : AH} {Q : Value → AH → Prop} {d : Dum Q} : yOQ (if c then some (v, h) else none) Q d = (c ∧ Q v h) := OQ_ite
theorem yIfW_t {A B : Prop} {d : Dum A} {e : Dum B} : yIfW (.bool true) A B d e = A := rfl
theorem yIfW_f {A B : Prop} {d : Dum A} {e : Dum B} : yIfW (.bool false) A B d e = B := rfl
theorem yWX_clr {S : XS} {f : Fr} {h : AH} {Q : Value → AH → Prop} {sz : Nat} {z : List Value} {x : Operand} : WX S (.clr sz z x) f h Q = yOQ (clrV sz z (ev f x) h) Q .mk := WX_clr
theorem yWX_idxt {S : XS} {f : Fr} {h : AH} {Q : Value → AH → Prop} {x i : Operand} : WX S (.idxt x i) f h Q = yOQ (idxtV (ev f x) (ev f i) h) Q .mk := WX_idxt
theorem yWX_nchk {S : XS} {f : Fr} {h : AH} {Q : Value → AH → Prop} {x : Operand} : WX S (.nchk x) f h Q = yWV (nchkV (ev f x)) (fun v => Q v h) .mk := WX_nchk
theorem yWX_mkz {S : XS} {f : Fr} {h : AH} {Q : Value → AH → Prop}  : WX S .mkz f h Q = yQV (.slice none 0 2) (fun v => Q v h) .mk := WX_mkz
theorem yWX_mv {S : XS} {f : Fr} {h : AH} {Q : Value → AH → Prop} {x : Operand} : WX S (.mv x) f h Q = yQV (ev f x) (fun v => Q v h) .mk := WX_mv
theorem yWX_pick {S : XS} {f : Fr} {h : AH} {Q : Value → AH → Prop} {a b c : Operand} : WX S (.pick c a b) f h Q = yWV (pickV (ev f c) (ev f a) (ev f b)) (fun v => Q v h) .mk := WX_pick
theorem yWX_box {S : XS} {f : Fr} {h : AH} {Q : Value → AH → Prop} {x : Operand} {e : TypeId} : WX S (.box e x) f h Q = yLQ (cellsL (ev f x)) (fun c => c.all isOne = true ∧ Q (.pointer (some ⟨h.length, 0, none⟩)) (h.new ⟨c, e, false, true⟩)) .mk := WX_box
theorem yWX_boxn {S : XS} {f : Fr} {h : AH} {Q : Value → AH → Prop} {x : Operand} {e : TypeId} {n : Nat} : WX S (.boxn e n x) f h Q = yLQ (cellsL (ev f x)) (fun c => (c.length = n ∧ c.all isOne = true) ∧ Q (.pointer (some ⟨h.length, 0, none⟩)) (h.new ⟨c, e, false, true⟩)) .mk := WX_boxn
theorem yWX_load1 {S : XS} {f : Fr} {h : AH} {Q : Value → AH → Prop} {a : Operand} : WX S (.load1 a) f h Q = yPQ (ev f a) (fun n off => yWV (h.rd1 n off) (fun v => Q v h) .mk) .mk := WX_load1
theorem yWX_loadn {S : XS} {f : Fr} {h : AH} {Q : Value → AH → Prop} {a : Operand} {n : Nat} : WX S (.loadn n a) f h Q = yPQ (ev f a) (fun m off => yWV ((h.rdn m off n).map fun c => .agg c.toArray) (fun v => Q v h) .mk) .mk := WX_loadn
theorem yWX_store {S : XS} {f : Fr} {h : AH} {Q : Value → AH → Prop} {a x : Operand} {n : Nat} : WX S (.store n a x) f h Q = yPQ (ev f a) (fun m off => yLQ (cellsL (ev f x)) (fun c => (c.length = n ∧ c.all isOne = true) ∧ yHQ (h.wr m off c) (fun h1 => Q undef h1) .mk) .mk) .mk := WX_store
theorem yWX_bin {S : XS} {f : Fr} {h : AH} {Q : Value → AH → Prop} {x y : Operand} {op : BinOp} : WX S (.bin op x y) f h Q = yWV (xbin op (ev f x) (ev f y)) (fun v => Q v h) .mk := WX_bin
theorem yWX_un {S : XS} {f : Fr} {h : AH} {Q : Value → AH → Prop} {x : Operand} {op : UnOp} : WX S (.un op x) f h Q = yWV (xun op (ev f x)) (fun v => Q v h) .mk := WX_un
theorem yWX_conv {S : XS} {f : Fr} {h : AH} {Q : Value → AH → Prop} {x : Operand} {k : IntKind} : WX S (.conv k x) f h Q = yWV (convV k (ev f x)) (fun v => Q v h) .mk := WX_conv
theorem yWX_fadr {S : XS} {f : Fr} {h : AH} {Q : Value → AH → Prop} {x : Operand} {off : Nat} : WX S (.fadr off x) f h Q = yPQ (ev f x) (fun n o => Q (.pointer (some ⟨n, o + off, none⟩)) h) .mk := WX_fadr
theorem yWX_fld1 {S : XS} {f : Fr} {h : AH} {Q : Value → AH → Prop} {x : Operand} {off : Nat} : WX S (.fld1 off x) f h Q = yWV (fstV (ev f x) off) (fun v => Q v h) .mk := WX_fld1
theorem yWX_ext {S : XS} {f : Fr} {h : AH} {Q : Value → AH → Prop} {x : Operand} {i : Nat} : WX S (.ext x i) f h Q = yWV (extV (ev f x) i) (fun v => Q v h) .mk := WX_ext
theorem yWX_len {S : XS} {f : Fr} {h : AH} {Q : Value → AH → Prop} {x : Operand} : WX S (.len x) f h Q = yWV (lenV (ev f x)) (fun v => Q v h) .mk := WX_len
theorem yWX_ixs {S : XS} {f : Fr} {h : AH} {Q : Value → AH → Prop} {x y : Operand} {sz : Nat} : WX S (.ixs sz x y) f h Q = yWV (ixsV sz (ev f x) (ev f y)) (fun v => Q v h) .mk := WX_ixs
theorem yWX_ixa {S : XS} {f : Fr} {h : AH} {Q : Value → AH → Prop} {x y : Operand} {n sz : Nat} : WX S (.ixa n sz x y) f h Q = yWV (ixaV n sz (ev f x) (ev f y)) (fun v => Q v h) .mk := WX_ixa
theorem yWX_idx1 {S : XS} {f : Fr} {h : AH} {Q : Value → AH → Prop} {x y : Operand} {n : Nat} : WX S (.idx1 n x y) f h Q = yWV (idx1V n (ev f x) (ev f y)) (fun v => Q v h) .mk := WX_idx1
theorem yWX_idxn {S : XS} {f : Fr} {h : AH} {Q : Value → AH → Prop} {x y : Operand} {n sz : Nat} : WX S (.idxn n sz x y) f h Q = yWV (idxnV n sz (ev f x) (ev f y)) (fun v => Q v h) .mk := WX_idxn
theorem yWX_slc {S : XS} {f : Fr} {h : AH} {Q : Value → AH → Prop} {x : Operand} {sz : Nat} {lo hi : Option Operand} : WX S (.slc sz x lo hi) f h Q = yWV (slcV sz (ev f x) (omapF f lo) (omapF f hi)) (fun v => Q v h) .mk := WX_slc
theorem yWX_cap {S : XS} {f : Fr} {h : AH} {Q : Value → AH → Prop} {x : Operand} : WX S (.cap x) f h Q = yWV (capV (ev f x)) (fun v => Q v h) .mk := WX_cap
theorem yWX_isnil {S : XS} {f : Fr} {h : AH} {Q : Value → AH → Prop} {x : Operand} {neg : Bool} : WX S (.isnil neg x) f h Q = yWV (isnilV neg (ev f x)) (fun v => Q v h) .mk := WX_isnil
theorem yWX_eqb {S : XS} {f : Fr} {h : AH} {Q : Value → AH → Prop} {x y : Operand} {neg : Bool} : WX S (.eqb neg x y) f h Q = yWV (eqbV neg (ev f x) (ev f y)) (fun v => Q v h) .mk := WX_eqb
theorem yWX_eqa {S : XS} {f : Fr} {h : AH} {Q : Value → AH → Prop} {x y : Operand} {neg : Bool} {n : Nat} : WX S (.eqa neg n x y) f h Q = yWV (eqaV neg n (ev f x) (ev f y)) (fun v => Q v h) .mk := WX_eqa
theorem yWX_mks {S : XS} {f : Fr} {h : AH} {Q : Value → AH → Prop} {x : Operand} {e : TypeId} {sz bytes : Nat} {z : List Value} : WX S (.mks e sz bytes z x) f h Q = yOQ (mksV e sz bytes z (ev f x) h) Q .mk := WX_mks
theorem yWX_app {S : XS} {f : Fr} {h : AH} {Q : Value → AH → Prop} {x y : Operand} {e : TypeId} {sz bytes : Nat} : WX S (.app e sz bytes x y) f h Q = yOQ (appV e sz bytes (ev f x) (ev f y) h) Q .mk := WX_app
theorem yWX_appz {S : XS} {f : Fr} {h : AH} {Q : Value → AH → Prop} {x y : Operand} {e : TypeId} {sz bytes : Nat} : WX S (.appz e sz bytes x y) f h Q = yOQ (appzV e sz bytes (ev f x) (ev f y) h) Q .mk := WX_appz
theorem yWX_mkf {S : XS} {f : Fr} {h : AH} {Q : Value → AH → Prop} {g : FuncId} {l : List Operand} : WX S (.mkf g l) f h Q = yLQ (l.map (ev f)) (fun c => Q (.func (.func g) #[] c.toArray) h) .mk := WX_mkf
theorem yWX_build {S : XS} {f : Fr} {h : AH} {Q : Value → AH → Prop} {z : List Value} {l : List (Nat × Nat × Operand)} : WX S (.build z l) f h Q = yVQ (fillL z (l.map fun p => (p.1, p.2.1, ev f p.2.2))) (fun c => c.all isOne = true ∧ Q (.agg c.toArray) h) .mk := WX_build
theorem yWX_bslice {S : XS} {f : Fr} {h : AH} {Q : Value → AH → Prop} {e : TypeId} {sz n : Nat} {z : List Value} {l : List (Nat × Nat × Operand)} : WX S (.bslice e sz n z l) f h Q = yVQ (fillL (zrep n z) (l.map fun p => (p.1, p.2.1, ev f p.2.2))) (fun c => c.all isOne = true ∧ Q (.slice (some ⟨h.length, 0, none⟩) n sz) (h.new ⟨c, e, false, true⟩)) .mk := WX_bslice
theorem yWX_callf {S : XS} {f : Fr} {h : AH} {Q : Value → AH → Prop} {g : FuncId} {args : List Operand} : WX S (.call (.func g) args) f h Q = yWF S g (args.map (ev f)) h Q .mk .mk := WX_callf
theorem yWX_calls {S : XS} {f : Fr} {h : AH} {Q : Value → AH → Prop} {fo : Operand} {args : List Operand} : WX S (.call fo args) f h Q = yWK S (ev f fo) (args.map (ev f)) h Q .mk .mk := WX_calls
theorem yWO_guard {S : XS} {d : Option Nat} {o : XOp} {s : Nat} {b : Bool} {q : XQ} {rest : List XI} {f : Fr} {h : AH} {Q : Fr → AH → Prop} : WO S (⟨d, o, some (s, b), q⟩ :: rest) f h Q = yWG S (f s) b ⟨d, o, none, q⟩ rest f h Q .mk .mk .mk .mk .mk := WO_guard
theorem yWC_cond {S : XS} {c : Operand} {a b : IR} {f : Fr} {h : AH} {Q : XE → Fr → AH → Prop} : WC S (.cond c a b) f h Q = yIfW (ev f c) (WC S a f h Q) (WC S b f h Q) .mk .mk := WC_cond
theorem yRetQ_n {rs : List XRes} {f : Fr} {h : AH} {R : Value → AH → Prop} : RetQ rs R .normal f h = yOQ ((xres f h rs).map (·, h)) R .mk := rfl
theorem yRetQ_r {rs : List XRes} {f : Fr} {h : AH} {R : Value → AH → Prop} : RetQ rs R .ret f h = yOQ ((xres f h rs).map (·, h)) R .mk := rfl
theorem yfill_nil {z : List Value} : fillL z [] = some z := rfl
theorem yfill_cons {z : List Value} {off n : Nat} {x : Value} {rest : List (Nat × Nat × Value)} : fillL z ((off, n, x) :: rest) = if (cellsL x).length = n ∧ off + n ≤ z.length then fillL (splice z off (cellsL x)) rest else none := rfl
theorem yzrep_0 {z : List Value} : zrep 0 z = [] := by simp [zrep]
theorem yzrep_1 {z : List Value} : zrep 1 z = z := by simp [zrep]
theorem yzrep_2 {z : List Value} : zrep 2 z = z ++ z := by simp [zrep]
theorem yzrep_3 {z : List Value} : zrep 3 z = z ++ z ++ z := by simp [zrep]
theorem yzrep_4 {z : List Value} : zrep 4 z = z ++ z ++ z ++ z := by simp [zrep]
theorem yzrep_5 {z : List Value} : zrep 5 z = z ++ z ++ z ++ z ++ z := by simp [zrep]
theorem yzrep_6 {z : List Value} : zrep 6 z = z ++ z ++ z ++ z ++ z ++ z := by simp [zrep]
theorem yzrep_7 {z : List Value} : zrep 7 z = z ++ z ++ z ++ z ++ z ++ z ++ z := by simp [zrep]
theorem yzrep_8 {z : List Value} : zrep 8 z = z ++ z ++ z ++ z ++ z ++ z ++ z ++ z := by simp [zrep]
theorem yzrep_9 {z : List Value} : zrep 9 z = z ++ z ++ z ++ z ++ z ++ z ++ z ++ z ++ z := by simp [zrep]
theorem yWF_forth {S : XS} {g : FuncId} {args : List Value} {h : AH} {Q : Value → AH → Prop} : WF S g args h Q = yWF S g args h Q .mk .mk := rfl
theorem yWK_forth {S : XS} {v : Value} {args : List Value} {h : AH} {Q : Value → AH → Prop} : WK S v args h Q = yWK S v args h Q .mk .mk := rfl
theorem yWG_forth {S : XS} {v : Value} {b : Bool} {i : XI} {rest : List XI} {f : Fr} {h : AH} {Q : Fr → AH → Prop} : WG S v b i rest f h Q = yWG S v b i rest f h Q .mk .mk .mk .mk .mk := rfl
def ypre := And.intro @WC_skip (And.intro @WC_exit (And.intro @WC_ret (And.intro @WC_reg (And.intro @WC_seq (And.intro @yWC_cond (And.intro @WC_blk (And.intro @WO_free (And.intro @WO_calm (And.intro @WO_sload1 (And.intro @WO_sloadn (And.intro @WO_sstore (And.intro @WO_scall (And.intro @yWO_guard (And.intro @yWX_mv (And.intro @yWX_pick (And.intro @WX_alloc (And.intro @yWX_box (And.intro @yWX_boxn (And.intro @yWX_load1 (And.intro @yWX_loadn (And.intro @yWX_store (And.intro @yWX_bin (And.intro @yWX_un (And.intro @yWX_conv (And.intro @yWX_fadr (And.intro @yWX_fld1 (And.intro @yWX_ext (And.intro @yWX_len (And.intro @yWX_cap (And.intro @yWX_ixa (And.intro @yWX_idx1 (And.intro @yWX_idxn (And.intro @yWX_slc (And.intro @yWX_cap (And.intro @yWX_isnil (And.intro @yWX_ixs (And.intro @yWX_eqb (And.intro @yWX_eqa (And.intro @yWX_mks (And.intro @yWX_app (And.intro @yWX_appz (And.intro @yWX_mkz (And.intro @yWX_nchk (And.intro @yWX_clr (And.intro @yWX_idxt (And.intro @yWX_mkf (And.intro @yWX_build (And.intro @yWX_bslice (And.intro @yWX_callf (And.intro @yWX_calls (And.intro @ev_tmp (And.intro @ev_const (And.intro @ev_func (And.intro @updo_some (And.intro @updo_none (And.intro @upd_apply (And.intro @SeqQ_n (And.intro @SeqQ_e (And.intro @SeqQ_r (And.intro @BlkQ_n (And.intro @BlkQ_e (And.intro @BlkQ_r (And.intro @RegQ_eq (And.intro @yRetQ_n (And.intro @yRetQ_r (And.intro @InvQ_e (And.intro @InvQ_r (And.intro @LoopQ_e (And.intro @LoopQ_r (And.intro @yQV_forth (And.intro @yWV_forth (And.intro @yHQ_forth (And.intro @yPQ_forth (And.intro @yLQ_forth (And.intro @yVQ_forth (And.intro @yOQ_forth (And.intro @yIfW_forth (And.intro @yWF_forth (And.intro @yWK_forth (@yWG_forth))))))))))))))))))))))))))))))))))))))))))))))))))))))))))))))))))))))))))))))))
def ypost := And.intro @AP_nil (And.intro @AP_cons (And.intro @KpV_ptr (And.intro @nchkV_p (And.intro @capV_nil (And.intro @WO_nil (And.intro @yWG_tt (And.intro @yWG_ff (And.intro @yWG_tf (And.intro @yWG_un (And.intro @yWG_ft (And.intro @yQV_eq (And.intro @yWV_some (And.intro @yOQ_some (And.intro @yWK_func (And.intro @yHQ_some (And.intro @yPQ_ptr (And.intro @yLQ_eq (And.intro @yVQ_some (And.intro @yIfW_t (And.intro @yIfW_f (And.intro @pickV_t (And.intro @pickV_f (And.intro @bin_add (And.intro @bin_sub (And.intro @bin_mul (And.intro @bin_eql (And.intro @bin_neq (And.intro @bin_lss (And.intro @bin_leq (And.intro @bin_gtr (And.intro @bin_geq (And.intro @un_not (And.intro @un_minus (And.intro @lenV_slice (And.intro @convV_int (And.intro @fstV_agg (And.intro @extV_tuple (And.intro @eqa3 (And.intro @eqbV_b (And.intro @cellsL_agg (And.intro @cellsL_int (And.intro @cellsL_bool (And.intro @cellsL_slice (And.intro @cellsL_ptr (And.intro @cellsL_func (And.intro @mksV_int (And.intro @yOQ_ite (And.intro @yWV_ite (And.intro @rd1_new_same (And.intro @rd1_new_lt (And.intro @rdn_new_lt (And.intro @get_new_lt (And.intro @wr_new_lt (And.intro @yHQ_ite (And.intro @map_ite_v (And.intro @rd1_put_same (And.intro @rdn_put_same (And.intro @rd1_put_ne (And.intro @rdn_put_ne (And.intro @wr_put_same (And.intro @wr_put_ne (And.intro @xres_tmp (And.intro @xres_tmp2 (And.intro @xres_cell (And.intro @xres_cells (And.intro @xres_2 (And.intro @tup2_some (And.intro @rd1V_ptr (And.intro @rdnV_ptr (And.intro @xres1_tmp (And.intro @xres1_cell (And.intro @xres1_cells (And.intro @args_nil (And.intro @args_cons (And.intro @map_some_v (And.intro @bind_some_v (And.intro @map_cons_v (And.intro @map_nil_v (And.intro @lit_nil (And.intro @lit_cons (And.intro @toL (And.intro @all_cons_v (And.intro @all_nil_v (And.intro @one_int (And.intro @one_bool (And.intro @one_slice (And.intro @one_func (And.intro @one_ptr (And.intro @len_cons_v (And.intro @len_nil_v (And.intro @drop_zero_v (And.intro @drop_cons_v (And.intro @take_zero_v (And.intro @take_nil_v (And.intro @take_cons_v (And.intro @app_nil_v (And.intro @app_cons_v (And.intro @get_new_same (And.intro @Bool.and_true (And.intro @Bool.true_and (And.intro @Bool.not_true (And.intro @Bool.not_false (And.intro @true_and (And.intro @and_true (And.intro @and_self (And.intro @decide_true (And.intro @decide_false (And.intro @yfill_nil (And.intro @yfill_cons (And.intro @yzrep_0 (And.intro @yzrep_1 (And.intro @yzrep_2 (And.intro @yzrep_3 (And.intro @yzrep_4 (And.intro @yzrep_5 (And.intro @yzrep_6 (And.intro @yzrep_7 (And.intro @yzrep_8 (@yzrep_9)))))))))))))))))))))))))))))))))))))))))))))))))))))))))))))))))))))))))))))))))))))))))))))))))))))))))))))))))))))))
def yback := And.intro @yQV_back (And.intro @yWV_back (And.intro @yHQ_back (And.intro @yPQ_back (And.intro @yLQ_back (And.intro @yVQ_back (And.intro @yOQ_back (And.intro @yIfW_back (And.intro @yWF_back (And.intro @yWK_back (@yWG_back))))))))))
def ynew := And.intro @wr_new_same (And.intro @rdn_new_same (@splice_cons))
end Go.Proofs.Ytapafdpnmakekaa.X

set_option linter.unusedVariables false
set_option linter.unusedSimpArgs false
set_option maxRecDepth 20000
set_option maxHeartbeats 4000000
namespace Go.Proofs.Ytapafdpnmakekaa.X
open Go Go.RowKit
theorem Els.rdw {k : IntKind} {w : Nat} {h : AH} {v : Value} {L : List (List Int)} (e : Els k w h v L) {i : Nat} (hi : i < L.length) :
    ∃ n off, (∀ kk : IntKind, ixsV w v (.int kk i) = some (.pointer (some ⟨n, off, none⟩))) ∧ h.rdn n off w = some (cel k (L.getD i [])) := by
  obtain ⟨n, off, hix, hrn, hr1⟩ := e.at hi
  have r := hrn 0 w (by omega)
  rw [List.drop_zero, List.take_of_length_le (by rw [e.wid hi]; exact Nat.le_refl _), Nat.add_zero] at r
  exact ⟨n, off, hix, r⟩
structure Prg where
  p : Int
  n : Int
  st : List (List Int)
  out : List (List Int)
def PrgR (h : AH) (v w : Value) (x : Prg) : Prop := Els .i64 3 h v x.st ∧ Els .i64 2 h w x.out
def InP (a b : Nat) (h : AH) (v w : Value) (x : Prg) : Prop := ∃ c, a ≤ c ∧ c ≤ b ∧ InE .i64 3 a c h v x.st ∧ InE .i64 2 c b h w x.out
section
variable {a b c d : Nat} {h h' : AH} {v w : Value} {x : Prg}
theorem PrgR.pre (o : PrgR h v w x) (p : h <+: h') : PrgR h' v w x := ⟨o.1.pre p, o.2.pre p⟩
theorem InP.rd (o : InP a b h v w x) : PrgR h v w x := by
  obtain ⟨c, h1, h2, h3, h4⟩ := o
  exact ⟨h3.rd, h4.rd⟩
theorem InP.pre (o : InP a b h v w x) (p : h <+: h') : InP a b h' v w x := by
  obtain ⟨c, h1, h2, h3, h4⟩ := o
  exact ⟨c, h1, h2, h3.pre p, h4.pre p⟩
theorem InP.only (o : InP a b h v w x) (u : OnlyR c d h h') (hd : b ≤ c ∨ d ≤ a) : InP a b h' v w x := by
  obtain ⟨e, h1, h2, h3, h4⟩ := o
  exact ⟨e, h1, h2, h3.only u (by omega), h4.only u (by omega)⟩
theorem InP.putb {n : Nat} {bl : Blk} (o : InP a b h v w x) (hn : n < a) : InP a b (h.put n bl) v w x := by
  obtain ⟨e, h1, h2, h3, h4⟩ := o
  exact ⟨e, h1, h2, h3.putb (by omega), h4.putb (by omega)⟩
theorem InP.mono {a' b' : Nat} (o : InP a b h v w x) (ha : a' ≤ a) (hb : b ≤ b') : InP a' b' h v w x := by
  obtain ⟨e, h1, h2, h3, h4⟩ := o
  exact ⟨e, by omega, by omega, h3.mono ha (Nat.le_refl _), h4.mono (Nat.le_refl _) hb⟩
end
end Go.Proofs.Ytapafdpnmakekaa.X

set_option linter.unusedVariables false
set_option linter.unusedSimpArgs false
set_option maxRecDepth 20000
set_option maxHeartbeats 4000000
namespace Go.Proofs.Ytapafdpnmakekaa.X
open Go Go.RowKit
def allN : Nat → (Nat → Bool) → Bool
  | 0, _ => true
  | n + 1, f => allN n f && f n
theorem allN_true {f : Nat → Bool} : ∀ {n : Nat}, (∀ j, j < n → f j = true) → allN n f = true
  | 0, _ => rfl
  | n + 1, h => by rw [allN, allN_true (n := n) (fun j hj => h j (by omega)), h n (by omega)]; rfl
theorem allN_false {f : Nat → Bool} {j : Nat} : ∀ {n : Nat}, j < n → f j = false → allN n f = false
  | 0, h, _ => by omega
  | n + 1, h, e => by
    rw [allN]
    by_cases hj : j = n
    · subst hj
      rw [e, Bool.and_false]
    · rw [allN_false (n := n) (by omega) e, Bool.false_and]
theorem allN_at {f : Nat → Bool} {j : Nat} : ∀ {n : Nat}, allN n f = true → j < n → f j = true
  | 0, _, h => by omega
  | n + 1, e, h => by
    rw [allN, Bool.and_eq_true] at e
    by_cases hj : j = n
    · subst hj
      exact e.2
    · exact allN_at (n := n) e.1 (by omega)
end Go.Proofs.Ytapafdpnmakekaa.X

set_option linter.unusedVariables false
set_option linter.unusedSimpArgs false
set_option maxRecDepth 20000
set_option maxHeartbeats 4000000
namespace Go.Proofs.Ytapafdpnmakekaa.X
open Go Go.RowKit
theorem Keeps.of_pre {lo : Nat} {h h' : AH} (p : h <+: h') : Keeps lo h h' := ⟨pre_len p, fun n b _ hb => pre_get p hb⟩
theorem Keeps.trans {lo : Nat} {h h' h'' : AH} (k : Keeps lo h h') (k' : Keeps lo h' h'') : Keeps lo h h'' := ⟨Nat.le_trans k.1 k'.1, fun n b hn hb => k'.2 n b hn (k.2 n b hn hb)⟩
theorem WayF.pre {h h' : AH} {lo : Nat} {sv : Value} {l : List Int} (w : WayF h lo sv l) (p : h <+: h') : WayF h' lo sv l := by
  obtain ⟨kb, full, e, h1, h2⟩ := w
  exact ⟨kb, full, e, h1, pre_get p h2⟩
def sliceT (u : Ten) (a : Int) : List (List Int) := (List.range u.j.toNat).map fun j : Nat => gen u.k.toNat fun k => tat u a j k
theorem sliceT_len {u : Ten} {a : Int} : (sliceT u a).length = u.j.toNat := by simp [sliceT]
theorem sliceT_get {u : Ten} {a : Int} {j : Nat} (hj : j < u.j.toNat) : (sliceT u a).getD j [] = gen u.k.toNat fun k => tat u a j k := by
  simp [sliceT, List.getD_eq_getElem?_getD, List.getElem?_map, List.getElem?_range hj]
theorem s_l05Slice {v : Value} {u : Ten} {a : Int} {h : AH} {Q : Value → AH → Prop} (hv : Ints h v u.ns) (tf : TF u) (ha : 0 ≤ a ∧ a < u.i)
    (hQ : ∀ v' h', h <+: h' → OwnRows h h' v' (sliceT u a) → Q v' h') : WF S 248 [tenV u v, I64 a] h Q := by
  refine WF_fn (fn := c248) rfl rfl ?_
  unfold c248
  try simp (maxSteps := 3000000) (disch := first | omega | (simp only [len_new, len_put, len_kill]; omega)) only [↓xpre, xpost, ↓reduceIte, Nat.reduceEqDiff, Nat.reduceAdd, Nat.reduceSub, Nat.reduceLeDiff, Nat.zero_add, Nat.sub_zero, tenV, hv.one, fillL, zrep]
  generalize hH1 : AH.new h _ = H1
  obtain ⟨hb1, p1, n1⟩ := new_facts hH1
  generalize hH2 : AH.new H1 _ = H2
  obtain ⟨hb2, p2, n2⟩ := new_facts hH2
  have fj := tf.j
  have fk := tf.k
  obtain ⟨J, hJ⟩ : ∃ J : Nat, u.j = J := ⟨u.j.toNat, by omega⟩
  obtain ⟨K, hK⟩ : ∃ K : Nat, u.k = K := ⟨u.k.toNat, by omega⟩
  have hJt : u.j.toNat = J := by omega
  have hKt : u.k.toNat = K := by omega
  refine WC_loop_inv (fun m f K1 => ∃ (j : Nat) (nb : Nat) (full : Bool) (L : List (Nat × List Int)), m = J - j ∧ j ≤ J ∧ f 1 = I64 a ∧ f 2 = .pointer (some ⟨h.length, 0, none⟩) ∧ f 5 = .slice (some ⟨nb, 0, none⟩) L.length 1 ∧ f 6 = I64 j ∧ (TabS H1 K1 nb full L) ∧ (L.map Prod.snd = (sliceT u a).take j)) ?_ (J - 0) _ _ ⟨0, H1.length, true, [], rfl, by omega, (by first | rfl | simp [upd_apply]), (by first | rfl | simp [upd_apply]), (by first | rfl | simp [upd_apply]), (by first | rfl | simp [upd_apply]), ⟨p2, Nat.le_refl _, hb2, by simp, by simp⟩, (by simp)⟩
  rintro m f K1 ⟨j, nb, full, L, rfl, hj, f1, f2, f5, f6, st, hL⟩
  have hLl : L.length = j := by
    have := congrArg List.length hL
    rw [List.length_map, List.length_take, sliceT_len] at this
    omega
  have hbK := pre_get st.hp hb1
  try simp (maxSteps := 3000000) (disch := first | omega | (simp only [len_new, len_put, len_kill]; omega)) only [↓xpre, xpost, ↓reduceIte, Nat.reduceEqDiff, Nat.reduceAdd, Nat.reduceSub, Nat.reduceLeDiff, Nat.zero_add, Nat.sub_zero, f1, f2, f5, f6, rd1_of hbK, IfW_dec]
  refine ⟨fun hlt => ?_, fun hge => ?_⟩
  · have hj' : j < J := by omega
    try simp (maxSteps := 3000000) (disch := first | omega | (simp only [len_new, len_put, len_kill]; omega)) only [↓xpre, xpost, ↓reduceIte, Nat.reduceEqDiff, Nat.reduceAdd, Nat.reduceSub, Nat.reduceLeDiff, Nat.zero_add, Nat.sub_zero, f1, f2, f5, f6, fillL, zrep]
    generalize hH3 : AH.new K1 _ = H3
    obtain ⟨hb3, p3, n3⟩ := new_facts hH3
    refine WC_loop_inv (fun m f K2 => ∃ (k : Nat) (sv : Value), m = K - k ∧ k ≤ K ∧ f 1 = I64 a ∧ f 2 = .pointer (some ⟨h.length, 0, none⟩) ∧ f 5 = .slice (some ⟨nb, 0, none⟩) L.length 1 ∧ f 6 = I64 j ∧ f 7 = sv ∧ f 8 = I64 k ∧ (Keeps K1.length K1 K2) ∧ (H1 <+: K2) ∧ (WayF K2 K1.length sv (gen k fun k => tat u a j k))) ?_ (K - 0) _ _ ⟨0, .slice (some ⟨K1.length, 0, none⟩) 0 1, rfl, by omega, (by first | rfl | exact f1 | (simp [upd_apply]; done)), (by first | rfl | exact f2 | (simp [upd_apply]; done)), (by first | rfl | exact f5 | (simp [upd_apply]; done)), (by first | rfl | exact f6 | (simp [upd_apply]; done)), (by first | rfl | simp [upd_apply]), (by first | rfl | simp [upd_apply]), Keeps.of_pre p3, st.hp.trans p3, ⟨K1.length, true, by rw [gen_len], Nat.le_refl _, hb3⟩⟩
    rintro m f K2 ⟨k, sv, rfl, hk, f1, f2, f5, f6, f7, f8, kp, pp, way⟩
    have hbK2 := pre_get pp hb1
    have pl := pre_len st.hp
    try simp (maxSteps := 3000000) (disch := first | omega | (simp only [len_new, len_put, len_kill]; omega)) only [↓xpre, xpost, ↓reduceIte, Nat.reduceEqDiff, Nat.reduceAdd, Nat.reduceSub, Nat.reduceLeDiff, Nat.zero_add, Nat.sub_zero, f1, f2, f5, f6, f7, f8, rd1_of hbK2, IfW_dec]
    refine ⟨fun hltk => ?_, fun hgek => ?_⟩
    · try simp (maxSteps := 3000000) (disch := first | omega | (simp only [len_new, len_put, len_kill]; omega)) only [↓xpre, xpost, ↓reduceIte, Nat.reduceEqDiff, Nat.reduceAdd, Nat.reduceSub, Nat.reduceLeDiff, Nat.zero_add, Nat.sub_zero, f1, f2, f5, f6, f7, f8, rdn_of hbK2]
      refine s_l05At (t := u) (hv.pre (p1.trans pp)) tf ha (j := j) (by omega) (k := k) (by omega) fun H p => ?_
      try simp (maxSteps := 3000000) (disch := first | omega | (simp only [len_new, len_put, len_kill]; omega)) only [↓xpre, xpost, ↓reduceIte, Nat.reduceEqDiff, Nat.reduceAdd, Nat.reduceSub, Nat.reduceLeDiff, Nat.zero_add, Nat.sub_zero, f1, f2, f5, f6, f7, f8, fillL, zrep]
      refine (way.pre p).app (by rw [gen_len]; omega) fun sv' h5 k5 pre5 way5 => ?_
      try simp (maxSteps := 3000000) (disch := first | omega | (simp only [len_new, len_put, len_kill]; omega)) only [↓xpre, xpost, ↓reduceIte, Nat.reduceEqDiff, Nat.reduceAdd, Nat.reduceSub, Nat.reduceLeDiff, Nat.zero_add, Nat.sub_zero, f1, f2, f5, f6, f7, f8, wrap64_in]
      refine InvQ_go (K - (k + 1)) (by omega) ⟨(k + 1), sv', rfl, by omega, (by first | rfl | exact f1 | (simp only [upd_apply]; rfl) | (show I64 _ = _; congr 1; omega)), (by first | rfl | exact f2 | (simp only [upd_apply]; rfl) | (show I64 _ = _; congr 1; omega)), (by first | rfl | exact f5 | (simp only [upd_apply]; rfl) | (show I64 _ = _; congr 1; omega)), (by first | rfl | exact f6 | (simp only [upd_apply]; rfl) | (show I64 _ = _; congr 1; omega)), (by first | rfl | exact f7 | (simp only [upd_apply]; rfl) | (show I64 _ = _; congr 1; omega)), (by first | rfl | exact f8 | (simp only [upd_apply]; rfl) | (show I64 _ = _; congr 1; omega)), (kp.trans ((Keeps.of_pre p).trans k5)), (pre5 _ (by omega) (pp.trans p)), (by rw [gen_succ]; exact way5)⟩
    · have ek : k = K := by omega
      subst ek
      obtain ⟨kb, fu, rfl, q2, q3⟩ := way
      have lt := st.lt
      have st' := st.keeps kp pp lt.1 lt.2
      try simp (maxSteps := 3000000) (disch := first | omega | (simp only [len_new, len_put, len_kill]; omega)) only [↓xpre, xpost, ↓reduceIte, Nat.reduceEqDiff, Nat.reduceAdd, Nat.reduceSub, Nat.reduceLeDiff, Nat.zero_add, Nat.sub_zero, f1, f2, f5, f6, f7, f8, fillL, zrep]
      refine st'.app (n := kb) (r := gen k fun k => tat u a j k) ⟨by omega, by omega, fun p hp => by have := lt.2 p hp; omega⟩ ⟨_, q3⟩ (by omega) fun nb' H' s' => ?_
      try simp (maxSteps := 3000000) (disch := first | omega | (simp only [len_new, len_put, len_kill]; omega)) only [↓xpre, xpost, ↓reduceIte, Nat.reduceEqDiff, Nat.reduceAdd, Nat.reduceSub, Nat.reduceLeDiff, Nat.zero_add, Nat.sub_zero, f1, f2, f5, f6, f7, f8, wrap64_in]
      refine InvQ_go (J - (j + 1)) (by omega) ⟨(j + 1), nb', false, (L ++ [(kb, gen k fun k => tat u a j k)]), rfl, by omega, (by first | rfl | exact f1 | (simp only [upd_apply]; rfl) | (show I64 _ = _; congr 1; omega)), (by first | rfl | exact f2 | (simp only [upd_apply]; rfl) | (show I64 _ = _; congr 1; omega)), (by first | rfl | exact f5 | (simp only [upd_apply]; rfl) | (show I64 _ = _; congr 1; omega)), (by first | rfl | exact f6 | (simp only [upd_apply]; rfl) | (show I64 _ = _; congr 1; omega)), s', ?_⟩
      rw [List.map_append, hL, take_next (d := []) (by rw [sliceT_len]; omega), sliceT_get (by omega), hKt]
      rfl
  · have e : j = J := by omega
    subst e
    rw [List.take_of_length_le (by rw [sliceT_len]; omega)] at hL
    try simp (maxSteps := 3000000) (disch := first | omega | (simp only [len_new, len_put, len_kill]; omega)) only [↓xpre, xpost, ↓reduceIte, Nat.reduceEqDiff, Nat.reduceAdd, Nat.reduceSub, Nat.reduceLeDiff, Nat.zero_add, Nat.sub_zero, f1, f2, f5, f6]
    have o := st.own
    rw [hL] at o
    exact hQ _ _ (p1.trans st.hp) (o.lo (by omega))
theorem s_l01Own {v : Value} {ns : List Int} {h : AH} {Q : Value → AH → Prop} (hv : Ints h v ns) (h0 : 0 < ns.length) (hl : (ns.length : Int) ≤ 1048576)
    (hQ : ∀ n h', h.length ≤ n → h <+: h' → OwnB h' n (ns.map (Value.int .i64)) false → Q (.slice (some ⟨n, 0, none⟩) ns.length 1) h') : WF S 264 [v] h Q := by
  refine WF_fn (fn := c264) rfl rfl ?_
  unfold c264
  obtain ⟨n, off, rfl, hr⟩ := hv.vals.rdn (by simpa using h0)
  try simp (maxSteps := 3000000) (disch := first | omega | (simp only [len_new, len_put, len_kill]; omega)) only [↓xpre, xpost, ↓reduceIte, Nat.reduceEqDiff, Nat.reduceAdd, Nat.reduceSub, Nat.reduceLeDiff, Nat.zero_add, Nat.sub_zero, fillL, zrep]
  rw [List.length_map] at hr ⊢
  rw [app_zero get_new_same (show AH.rdn (AH.new h _) n off ns.length = _ by rw [rdn_eq] at hr ⊢; obtain ⟨b, hb, hc⟩ := Option.bind_eq_some_iff.1 hr; rw [get_new_any hb]; exact hc) h0 (by omega)]
  try simp (maxSteps := 3000000) (disch := first | omega | (simp only [len_new, len_put, len_kill]; omega)) only [↓xpre, xpost, ↓reduceIte, Nat.reduceEqDiff, Nat.reduceAdd, Nat.reduceSub, Nat.reduceLeDiff, Nat.zero_add, Nat.sub_zero]
  exact hQ _ _ (by rw [len_new]; omega) (pre_new (pre_kill (pre_new (List.prefix_refl _)) (Nat.le_refl _))) ⟨_, get_new_eq (by rw [len_kill])⟩
theorem s_l05Flat {v : Value} {u : Ten} {w n : Nat} {h : AH} {Q : Value → AH → Prop} (hv : Ints h v u.ns) (tf : TF u) (hw : u.j * u.k = w) (hi : u.i = n)
    (hQ : ∀ v' h', h <+: h' → OwnRows h h' v' (parts u.ns w n) → Q v' h') : WF S 315 [tenV u v] h Q := by
  refine WF_fn (fn := c315) rfl rfl ?_
  unfold c315
  have jk := mul_in1 (A := 9) (B := 9) tf.j tf.k
  have hlen := tf.len
  rw [Int.mul_assoc, hw, hi] at hlen
  have hlen' : u.ns.length = n * w := by exact_mod_cast hlen
  have fi := tf.i
  have le := tf.le
  try simp (maxSteps := 3000000) (disch := first | omega | (simp only [len_new, len_put, len_kill]; omega)) only [↓xpre, xpost, ↓reduceIte, Nat.reduceEqDiff, Nat.reduceAdd, Nat.reduceSub, Nat.reduceLeDiff, Nat.zero_add, Nat.sub_zero, tenV, hv.one, fillL, zrep, hw, wrap64_in]
  generalize hH1 : AH.new h _ = H1
  obtain ⟨hb1, p1, n1⟩ := new_facts hH1
  generalize hH2 : AH.new H1 _ = H2
  obtain ⟨hb2, p2, n2⟩ := new_facts hH2
  refine WC_loop_inv (fun m f K1 => ∃ (i : Nat) (nb : Nat) (full : Bool) (L : List (Nat × List Int)), m = n - i ∧ i ≤ n ∧ f 1 = .pointer (some ⟨h.length, 0, none⟩) ∧ f 3 = .slice (some ⟨nb, 0, none⟩) L.length 1 ∧ f 4 = I64 w ∧ f 5 = I64 i ∧ (TabS H1 K1 nb full L) ∧ (L.map Prod.snd = (parts u.ns w n).take i)) ?_ (n - 0) _ _ ⟨0, H1.length, true, [], rfl, by omega, (by first | rfl | simp [upd_apply]), (by first | rfl | simp [upd_apply]), (by first | rfl | simp [upd_apply]), (by first | rfl | simp [upd_apply]), ⟨p2, Nat.le_refl _, hb2, by simp, by simp⟩, (by simp)⟩
  rintro m f K1 ⟨i, nb, full, L, rfl, hi, f1, f3, f4, f5, st, hL⟩
  have hLl : L.length = i := by
    have := congrArg List.length hL
    rw [List.length_map, List.length_take, parts_len] at this
    omega
  have hbK := pre_get st.hp hb1
  have hvK := hv.pre (p1.trans st.hp)
  try simp (maxSteps := 3000000) (disch := first | omega | (simp only [len_new, len_put, len_kill]; omega)) only [↓xpre, xpost, ↓reduceIte, Nat.reduceEqDiff, Nat.reduceAdd, Nat.reduceSub, Nat.reduceLeDiff, Nat.zero_add, Nat.sub_zero, f1, f3, f4, f5, rd1_of hbK, IfW_dec]
  refine ⟨fun hlt => ?_, fun hge => ?_⟩
  · have hi' : i < n := by omega
    have hrow := mul_row (w := w) hi'
    have eiw : (i : Int) * (w : Int) = ((i * w : Nat) : Int) := by push_cast; rfl
    obtain ⟨v', e1, e2⟩ := hvK.slcV (k1 := .i64) (k2 := .i64) (l := ((i * w : Nat) : Int)) (u := ((i * w : Nat) : Int) + (w : Int)) (by omega)
    rw [Int.toNat_natCast, show (((i * w : Nat) : Int) + (w : Int) - ((i * w : Nat) : Int)).toNat = w by omega] at e2
    have rl : ((u.ns.drop (i * w)).take w).length = w := by rw [List.length_take, List.length_drop]; omega
    try simp (maxSteps := 3000000) (disch := first | omega | (simp only [len_new, len_put, len_kill]; omega)) only [↓xpre, xpost, ↓reduceIte, Nat.reduceEqDiff, Nat.reduceAdd, Nat.reduceSub, Nat.reduceLeDiff, Nat.zero_add, Nat.sub_zero, f1, f3, f4, f5, rd1_of hbK, eiw, wrap64_in, ↓WX_slc, omapF_some, omapF_none, e1]
    refine s_l01Own e2 (by omega) (by omega) fun n' h2 hn' p2 ob => ?_
    try simp (maxSteps := 3000000) (disch := first | omega | (simp only [len_new, len_put, len_kill]; omega)) only [↓xpre, xpost, ↓reduceIte, Nat.reduceEqDiff, Nat.reduceAdd, Nat.reduceSub, Nat.reduceLeDiff, Nat.zero_add, Nat.sub_zero, f1, f3, f4, f5, fillL, zrep]
    have lt := st.lt
    refine (st.pre p2).app ⟨by have := pre_len st.hp; omega, by omega, fun p hp => by have := lt.2 p hp; omega⟩ ob (by omega) fun nb' H' st' => ?_
    try simp (maxSteps := 3000000) (disch := first | omega | (simp only [len_new, len_put, len_kill]; omega)) only [↓xpre, xpost, ↓reduceIte, Nat.reduceEqDiff, Nat.reduceAdd, Nat.reduceSub, Nat.reduceLeDiff, Nat.zero_add, Nat.sub_zero, f1, f3, f4, f5, wrap64_in]
    refine InvQ_go (n - (i + 1)) (by omega) ⟨(i + 1), nb', false, (L ++ [(n', (u.ns.drop (i * w)).take w)]), rfl, by omega, (by first | rfl | exact f1 | (simp only [upd_apply]; rfl) | (show I64 _ = _; congr 1; omega)), (by first | rfl | exact f3 | (simp only [upd_apply]; rfl) | (show I64 _ = _; congr 1; omega)), (by first | rfl | exact f4 | (simp only [upd_apply]; rfl) | (show I64 _ = _; congr 1; omega)), (by first | rfl | exact f5 | (simp only [upd_apply]; rfl) | (show I64 _ = _; congr 1; omega)), st', ?_⟩
    rw [List.map_append, hL, take_next (d := []) (by rw [parts_len]; exact hi'), parts_get hi']
    rfl
  · have e : i = n := by omega
    subst e
    rw [List.take_of_length_le (by rw [parts_len]; exact Nat.le_refl _)] at hL
    try simp (maxSteps := 3000000) (disch := first | omega | (simp only [len_new, len_put, len_kill]; omega)) only [↓xpre, xpost, ↓reduceIte, Nat.reduceEqDiff, Nat.reduceAdd, Nat.reduceSub, Nat.reduceLeDiff, Nat.zero_add, Nat.sub_zero, f1, f3, f4, f5]
    have o := st.own
    rw [hL] at o
    exact hQ _ _ (p1.trans st.hp) (o.lo (by omega))
end Go.Proofs.Ytapafdpnmakekaa.X

set_option linter.unusedVariables false
set_option linter.unusedSimpArgs false
set_option maxRecDepth 20000
set_option maxHeartbeats 4000000
namespace Go.Proofs.Ytapafdpnmakekaa.X
open Go Go.RowKit
theorem map_get {l : List Int} {j : Nat} (hj : j < l.length) : (l.map (Value.int .i64))[j]? = some (I64 (l.getD j 0)) := by
  simp [List.getD_eq_getElem?_getD, hj]
theorem map_set {l : List Int} {j : Nat} {x : Int} (hj : j < l.length) : splice (l.map (Value.int .i64)) j [I64 x] = (l.set j x).map (Value.int .i64) := by
  rw [splice_set (by simpa using hj)]
  simp [List.map_set]
def Lst (h : AH) (n : Nat) (l : List Int) (full : Bool) : Prop := h.get n = some ⟨l.map (Value.int .i64), 2, false, full⟩
def sl (n len : Nat) : Value := .slice (some ⟨n, 0, none⟩) len 1
section
variable {h h' : AH} {n : Nat} {l : List Int} {full : Bool}
theorem Lst.pre (o : Lst h n l full) (p : h <+: h') : Lst h' n l full := pre_get p o
theorem Lst.lt (o : Lst h n l full) : n < h.length := get_lt o
theorem Lst.own (o : Lst h n l full) : OwnB h n (l.map (Value.int .i64)) full := ⟨_, o⟩
theorem Lst.put_ne {m : Nat} {b : Blk} (o : Lst h n l full) (e : m ≠ n) : Lst (h.put m b) n l full := by
  unfold Lst
  rw [get_put_ne e]
  exact o
theorem Lst.ix {j : Int} {len : Nat} (h0 : 0 ≤ j ∧ j < len) : ixsV 1 (sl n len) (I64 j) = some (.pointer (some ⟨n, j.toNat, none⟩)) := by
  unfold sl
  rw [ixsV_some, if_pos ⟨h0.1, h0.2, rfl⟩]
  simp
theorem Lst.rd {j : Nat} (o : Lst h n l full) (hj : j < l.length) : h.rd1 n j = some (I64 (l.getD j 0)) := by
  rw [rd1_of o]
  exact map_get hj
theorem Lst.wr {j : Nat} {x : Int} (o : Lst h n l full) (hj : j < l.length) : ∃ h', h.wr n j [I64 x] = some h' ∧ h' = h.put n ⟨(l.set j x).map (Value.int .i64), 2, false, full⟩ ∧ Lst h' n (l.set j x) full := by
  refine ⟨_, ?_, rfl, get_put_same o.lt⟩
  rw [wr_of o, if_pos ⟨rfl, by simp only [List.length_map, List.length_singleton]; omega⟩, map_set hj]
theorem Lst.ints (o : Lst h n l full) : Ints h (sl n l.length) l := Ints.own o rfl
theorem Lst.ownR {h0 : AH} (o : Lst h n l full) (hn : h0.length ≤ n) : OwnR h0 h (sl n l.length) l := OwnR.of hn rfl o
theorem Lst.app {H : AH} {x : Int} {e' : TypeId} {ro fu : Bool} (o : Lst H n l full) (hl : (l.length : Int) ≤ 1048576) {Q : Value → AH → Prop}
    (hQ : ∀ H', H'.length = H.length + 2 → (∀ h0 : AH, h0.length ≤ n → h0 <+: H → h0 <+: H') → (∀ m c f, m ≠ n → OwnB H m c f → OwnB H' m c f) → (∀ m c f, m ≠ n → Lst H m c f → Lst H' m c f) → Lst H' (H.length + 1) (l ++ [x]) false → Q (sl (H.length + 1) (l ++ [x]).length) H') :
    OQ (appV 2 1 8 (sl n l.length) (.slice (some ⟨H.length, 0, none⟩) 1 1) (H.new ⟨[I64 x], e', ro, fu⟩)) Q := by
  have hn : (H.new ⟨[I64 x], e', ro, fu⟩).rdn H.length 0 1 = some [I64 x] := by rw [rdn_new_same]; rfl
  have hk : (H.new ⟨[I64 x], e', ro, fu⟩).get n = some ⟨l.map (Value.int .i64), 2, false, full⟩ := get_new_any o
  have hkb := o.lt
  unfold sl
  rw [app_own hk (by simp) hn (by omega), OQ_some]
  have := hQ (((H.new ⟨[I64 x], e', ro, fu⟩).kill n).new ⟨l.map (Value.int .i64) ++ [I64 x], 2, false, false⟩) (by rw [len_new, len_kill, len_new]) (fun h0 q p => pre_new (pre_kill (pre_new p) q))
    (fun m c f hm o => (o.new.kill_ne (fun e => hm e.symm)).new) (fun m c f hm o => get_new_any (by rw [get_kill_ne (fun e => hm e.symm)]; exact get_new_any o)) (by unfold Lst; rw [get_new_eq (by rw [len_kill, len_new])]; simp)
  unfold sl at this
  rw [len_new]
  rw [List.length_append, List.length_singleton] at this
  exact this
end
theorem s_OwnT {v : Value} {ns : List Int} {h : AH} {Q : Value → AH → Prop} (hv : Ints h v ns) (h0 : 0 < ns.length) (hl : (ns.length : Int) ≤ 1048576)
    (hQ : ∀ n h', h.length ≤ n → h <+: h' → Lst h' n ns false → Q (sl n ns.length) h') : WF S 264 [v] h Q := by
  refine WF_fn (fn := c264) rfl rfl ?_
  unfold c264
  obtain ⟨n, off, rfl, hr⟩ := hv.vals.rdn (by simpa using h0)
  try simp (maxSteps := 3000000) (disch := first | omega | (simp only [len_new, len_put, len_kill]; omega)) only [↓xpre, xpost, ↓reduceIte, Nat.reduceEqDiff, Nat.reduceAdd, Nat.reduceSub, Nat.reduceLeDiff, Nat.zero_add, Nat.sub_zero, fillL, zrep]
  rw [List.length_map] at hr ⊢
  rw [app_zero get_new_same (show AH.rdn (AH.new h _) n off ns.length = _ by rw [rdn_eq] at hr ⊢; obtain ⟨b, hb, hc⟩ := Option.bind_eq_some_iff.1 hr; rw [get_new_any hb]; exact hc) h0 (by omega)]
  try simp (maxSteps := 3000000) (disch := first | omega | (simp only [len_new, len_put, len_kill]; omega)) only [↓xpre, xpost, ↓reduceIte, Nat.reduceEqDiff, Nat.reduceAdd, Nat.reduceSub, Nat.reduceLeDiff, Nat.zero_add, Nat.sub_zero]
  exact hQ _ _ (by rw [len_new]; omega) (pre_new (pre_kill (pre_new (List.prefix_refl _)) (Nat.le_refl _))) (get_new_eq (by rw [len_kill]))
end Go.Proofs.Ytapafdpnmakekaa.X

set_option linter.unusedVariables false
set_option linter.unusedSimpArgs false
set_option maxRecDepth 20000
set_option maxHeartbeats 4000000
namespace Go.Proofs.Ytapafdpnmakekaa.X
open Go Go.RowKit
theorem InX.put_ne {a b n : Nat} {h : AH} {v : Value} {L : List (List Int)} {c : Blk} (o : InX a b h v L) (hn : n < a) : InX a b (h.put n c) v L :=
  ⟨o.1.only (c := n) (d := n + 1) ⟨len_put, fun m hm => by unfold AH.put; rw [List.getElem?_set_ne (by omega)]⟩ (by omega), o.2⟩
end Go.Proofs.Ytapafdpnmakekaa.X

set_option linter.unusedVariables false
set_option linter.unusedSimpArgs false
set_option maxRecDepth 20000
set_option maxHeartbeats 4000000
namespace Go.Proofs.Ytapafdpnmakekaa.X
open Go Go.RowKit
theorem i_sides {v : Value} {t : Ten} {h : AH} {Q : Value → AH → Prop} (hv : isOne v = true) (hQ : ∀ h', h <+: h' → Q (.agg #[I64 t.i, I64 t.j, I64 t.k]) h') : WF S 177 [tenV t v] h Q := by
  refine WF_fn (fn := c177) rfl rfl ?_
  unfold c177
  try simp (maxSteps := 3000000) (disch := first | omega | (simp only [len_new, len_put, len_kill]; omega)) only [↓xpre, xpost, ↓reduceIte, Nat.reduceEqDiff, Nat.reduceAdd, Nat.reduceSub, Nat.reduceLeDiff, Nat.zero_add, Nat.sub_zero, tenV, hv, fillL]
  exact hQ _ (pre_new (pre_new (List.prefix_refl _)))
end Go.Proofs.Ytapafdpnmakekaa.X
