/- Texts of one claim, put together by merge.py: XF22, XF23, XF24, XF25, XF26, XF27, XF28, XF29, XF30, XF31, XF10, XF32, XG1, XE1. -/
import Derived.Test.YtilpnbejpndgpaaM3
/- The rank of the reference. -/
set_option linter.unusedVariables false
set_option linter.unusedSimpArgs false
set_option maxRecDepth 20000
set_option maxHeartbeats 4000000
namespace Go.Proofs.Ytilpnbejpndgpaa.X
open Go Go.RowKit

theorem ownB_new'' {h : AH} {c : List Value} {e : TypeId} {full : Bool} {n : Nat} (hn : n = h.length) : OwnB (h.new ⟨c, e, false, full⟩) n c full := by subst hn; exact ownB_new
/-- A list under way in a block of its own. -/
def WayF (h : AH) (lo : Nat) (sv : Value) (l : List Int) : Prop :=
  ∃ kb full, sv = .slice (some ⟨kb, 0, none⟩) l.length 1 ∧ lo ≤ kb ∧ h.get kb = some ⟨l.map (Value.int .i64), 2, false, full⟩
/-- What lies below a place stays. -/
def Keeps (lo : Nat) (h h' : AH) : Prop := h.length ≤ h'.length ∧ ∀ n b, n < lo → h.get n = some b → h'.get n = some b
theorem Ints.keeps {lo : Nat} {h h' : AH} {v : Value} {ns : List Int} (hv : Ints h v ns) (k : Keeps lo h h') (hb : ∀ n, blkOf v = some n → n < lo) : Ints h' v ns := by
  rcases hv with hv | ⟨m, off, blk, rfl, h2, h3, h4⟩
  · exact .inl hv
  · exact .inr ⟨m, off, blk, rfl, k.2 m blk (hb m rfl) h2, h3, h4⟩
theorem WayF.app {H : AH} {lo : Nat} {sv : Value} {l : List Int} {x : Int} {e : TypeId} {full : Bool} (w : WayF H lo sv l) (hl : (l.length : Int) ≤ 1048576) {Q : Value → AH → Prop}
    (hQ : ∀ sv' H', Keeps lo H H' → (∀ h0 : AH, h0.length ≤ lo → h0 <+: H → h0 <+: H') → WayF H' lo sv' (l ++ [x]) → Q sv' H') :
    OQ (appV 2 1 8 sv (.slice (some ⟨H.length, 0, none⟩) 1 1) (H.new ⟨[I64 x], e, false, full⟩)) Q := by
  have hn : (H.new ⟨[I64 x], e, false, full⟩).rdn H.length 0 1 = some [I64 x] := by rw [rdn_new_same]; rfl
  obtain ⟨kb, fu, rfl, h2, h3⟩ := w
  have hk : (H.new ⟨[I64 x], e, false, full⟩).get kb = some ⟨l.map (Value.int .i64), 2, false, fu⟩ := get_new_any h3
  have hkb := get_lt h3
  rw [app_own hk (by simp) hn (by omega), OQ_some]
  refine hQ _ _ ⟨by rw [len_new, len_kill, len_new]; omega, fun n b hn hb => get_new_any (by rw [get_kill_ne (by omega)]; exact get_new_any hb)⟩ (fun h0 q p => pre_new (pre_kill (pre_new p) (by omega))) ?_
  refine ⟨(H.new ⟨[I64 x], e, false, full⟩).length, false, by simp, by rw [len_new]; omega, ?_⟩
  rw [get_new_eq (by rw [len_kill])]
  simp

/-- The state of an elimination by new rows. -/
structure RankS (h0 h : AH) (n0 : Nat) (cs : List Value) (T : List (List Int)) : Prop where
  hp : h0 <+: h
  lo : h0.length ≤ n0
  g : OwnB h n0 cs false
  len : cs.length = T.length
  rows : ∀ i, i < T.length → Ints h (cs.getD i undef) (T.getD i []) ∧ blkOf (cs.getD i undef) ≠ some n0
theorem RankS.vals {h0 h : AH} {n0 : Nat} {cs : List Value} {T : List (List Int)} (s : RankS h0 h n0 cs T) : Vals h (.slice (some ⟨n0, 0, none⟩) T.length 1) cs := by
  obtain ⟨e, hg⟩ := s.g
  refine .inr ⟨n0, 0, _, by rw [s.len], hg, by simp, fun i hi => ?_⟩
  rw [Nat.zero_add, List.getD_eq_getElem?_getD, List.getElem?_eq_getElem hi]
  rfl
theorem RankS.lt {h0 h : AH} {n0 : Nat} {cs : List Value} {T : List (List Int)} (s : RankS h0 h n0 cs T) : n0 < h.length := s.g.choose_spec |> get_lt
theorem RankS.pre {h0 h h' : AH} {n0 : Nat} {cs : List Value} {T : List (List Int)} (s : RankS h0 h n0 cs T) (p : h <+: h') : RankS h0 h' n0 cs T := by
  obtain ⟨e, hg⟩ := s.g
  exact ⟨s.hp.trans p, s.lo, ⟨e, pre_get p hg⟩, s.len, fun i hi => ⟨(s.rows i hi).1.pre p, (s.rows i hi).2⟩⟩
theorem RankS.keeps {h0 h h' : AH} {n0 lo : Nat} {cs : List Value} {T : List (List Int)} (s : RankS h0 h n0 cs T) (k : Keeps lo h h') (hh : h0 <+: h') (h1 : n0 < lo) (h2 : ∀ i, i < T.length → ∀ n, blkOf (cs.getD i undef) = some n → n < lo) : RankS h0 h' n0 cs T := by
  obtain ⟨e, hg⟩ := s.g
  exact ⟨hh, s.lo, ⟨e, k.2 _ _ h1 hg⟩, s.len, fun i hi => ⟨(s.rows i hi).1.keeps k (h2 i hi), (s.rows i hi).2⟩⟩
/-- A row put in. -/
theorem RankS.put {h0 h : AH} {n0 : Nat} {cs : List Value} {T T' : List (List Int)} (s : RankS h0 h n0 cs T) {i : Nat} {x : Value} {r : List Int} {e : TypeId} (hi : i < T.length) (hT : T' = T.set i r)
    (hx : Ints h x r) (hb : blkOf x ≠ some n0) : RankS h0 (h.put n0 ⟨cs.set i x, e, false, false⟩) n0 (cs.set i x) T' := by
  subst hT
  have hlt := s.lt
  refine ⟨pre_put s.hp s.lo, s.lo, ⟨e, get_put_same hlt⟩, by simp [s.len], fun j hj => ?_⟩
  have hl := s.len
  rw [List.length_set] at hj
  rw [set_getD' (by omega), set_getD' hi]
  by_cases h : j = i
  · rw [if_pos h, if_pos h]
    exact ⟨hx.put_ne hb, hb⟩
  · rw [if_neg h, if_neg h]
    exact ⟨(s.rows j hj).1.put_ne (s.rows j hj).2, (s.rows j hj).2⟩
theorem RankS.blk {h0 h : AH} {n0 : Nat} {cs : List Value} {T : List (List Int)} (s : RankS h0 h n0 cs T) : ∀ i, i < T.length → ∀ n, blkOf (cs.getD i undef) = some n → n < h.length := fun i hi => (s.rows i hi).1.lt
end Go.Proofs.Ytilpnbejpndgpaa.X

/- The rank of the reference: the walk. -/
set_option linter.unusedVariables false
set_option linter.unusedSimpArgs false
set_option maxRecDepth 20000
set_option maxHeartbeats 4000000
namespace Go.Proofs.Ytilpnbejpndgpaa.X
open Go Go.RowKit

end Go.Proofs.Ytilpnbejpndgpaa.X

/- RowRank of the reference. -/
set_option linter.unusedVariables false
set_option linter.unusedSimpArgs false
set_option maxRecDepth 20000
set_option maxHeartbeats 4000000
namespace Go.Proofs.Ytilpnbejpndgpaa.X
open Go Go.RowKit

def width (rows : List (List Int)) : Nat := (rows.getD 0 []).length
def rrOK (p : Int) (rows : List (List Int)) : Prop := isP p = true ∧ (1 ≤ rows.length ∧ rows.length ≤ 9) ∧ (1 ≤ width rows ∧ width rows ≤ 81) ∧ isMat p (width rows) rows = true
open Classical in
noncomputable def rrR (p : Int) (rows : List (List Int)) : Int × Int := if rrOK p rows then ((rankN p rows : Nat), 0) else (0, 2)
theorem good_of {p : Int} {rows : List (List Int)} (h : isMat p (width rows) rows = true) : Good p rows (width rows) := by
  intro i hi
  have := isMat_iff.1 h i hi
  refine ⟨by omega, fun l hl => ?_⟩
  exact allIn_iff.1 this.2 l (by omega)

end Go.Proofs.Ytilpnbejpndgpaa.X

/- slices.IndexFunc over rows. -/
set_option linter.unusedVariables false
set_option linter.unusedSimpArgs false
set_option maxRecDepth 20000
set_option maxHeartbeats 4000000
namespace Go.Proofs.Ytilpnbejpndgpaa.X
open Go Go.RowKit

/-- The first place from i on, among m, that a test likes; else -1. -/
def firstAt (q : Nat → Bool) : Nat → Nat → Int
  | 0, i => -1
  | m + 1, i => if q i = true then i else firstAt q m (i + 1)
theorem i_IndexRows {v fv : Value} {cs : List Value} {q : Nat → Bool} {h : AH} {Q : Value → AH → Prop} (hv : Vals h v cs) (hl : (cs.length : Int) ≤ 1048576)
    (hf : ∀ i, i < cs.length → ∀ Q : Value → AH → Prop, Q (.bool (q i)) h → WK S fv [cs.getD i undef] h Q)
    (hQ : Q (I64 (firstAt q cs.length 0)) h) : WF S 159 [v, fv] h Q := by
  refine WF_fn (fn := c159) rfl rfl ?_
  unfold c159
  try simp (maxSteps := 3000000) (disch := first | omega | (simp only [len_new, len_put, len_kill]; omega)) only [↓xpre, xpost, ↓reduceIte, Nat.reduceEqDiff, Nat.reduceAdd, Nat.reduceSub, Nat.reduceLeDiff, Nat.zero_add, Nat.sub_zero, hv.len]
  refine WC_loop_inv (fun m f h1 => ∃ i : Nat, m = cs.length - i ∧ i ≤ cs.length ∧ f 0 = v ∧ f 1 = fv ∧ f 7 = I64 cs.length ∧ f 8 = I64 i ∧ h1 = h ∧ firstAt q (cs.length - i) i = firstAt q cs.length 0) ?_ cs.length _ _ ⟨0, rfl, Nat.zero_le _, rfl, rfl, rfl, rfl, rfl, rfl⟩
  rintro m f h1 ⟨i, rfl, hi, f0, f1, f7, f8, rfl, hj⟩
  try simp (maxSteps := 3000000) (disch := first | omega | (simp only [len_new, len_put, len_kill]; omega)) only [↓xpre, xpost, ↓reduceIte, Nat.reduceEqDiff, Nat.reduceAdd, Nat.reduceSub, Nat.reduceLeDiff, Nat.zero_add, Nat.sub_zero, f0, f1, f7, f8, IfW_dec]
  refine ⟨fun hlt => ?_, fun hge => ?_⟩
  · have hi' : i < cs.length := by omega
    have hix := hv.ix (k := .i64) (j := i) (by omega) (by omega)
    have hrd := hv.rd (j := i) (by omega) (by omega)
    have hstep : firstAt q (cs.length - i) i = if q i = true then (i : Int) else firstAt q (cs.length - (i + 1)) (i + 1) := by
      rw [show cs.length - i = (cs.length - (i + 1)) + 1 by omega]
      rfl
    try simp (maxSteps := 3000000) (disch := first | omega | (simp only [len_new, len_put, len_kill]; omega)) only [↓xpre, xpost, ↓reduceIte, Nat.reduceEqDiff, Nat.reduceAdd, Nat.reduceSub, Nat.reduceLeDiff, Nat.zero_add, Nat.sub_zero, f0, f1, f7, f8, hix, hrd, Int.toNat_natCast]
    refine hf i hi' _ ?_
    cases hq : q i with
    | true =>
      try simp (maxSteps := 3000000) (disch := first | omega | (simp only [len_new, len_put, len_kill]; omega)) only [↓xpre, xpost, ↓reduceIte, Nat.reduceEqDiff, Nat.reduceAdd, Nat.reduceSub, Nat.reduceLeDiff, Nat.zero_add, Nat.sub_zero, f0, f1, f7, f8]
      rw [← hj, hstep, if_pos hq] at hQ
      exact hQ
    | false =>
      try simp (maxSteps := 3000000) (disch := first | omega | (simp only [len_new, len_put, len_kill]; omega)) only [↓xpre, xpost, ↓reduceIte, Nat.reduceEqDiff, Nat.reduceAdd, Nat.reduceSub, Nat.reduceLeDiff, Nat.zero_add, Nat.sub_zero, f0, f1, f7, f8, wrap64_in]
      refine InvQ_go (cs.length - (i + 1)) (by omega) ⟨i + 1, rfl, by omega, f0, f1, f7, rfl, rfl, ?_⟩
      rw [← hj, hstep, if_neg (by rw [hq]; simp)]
  · have e : i = cs.length := by omega
    subst e
    try simp (maxSteps := 3000000) (disch := first | omega | (simp only [len_new, len_put, len_kill]; omega)) only [↓xpre, xpost, ↓reduceIte, Nat.reduceEqDiff, Nat.reduceAdd, Nat.reduceSub, Nat.reduceLeDiff, Nat.zero_add, Nat.sub_zero, f0, f1, f7, f8]
    rw [← hj, Nat.sub_self] at hQ
    exact hQ
theorem i_rank1 {v : Value} {ns : List Int} {c : Nat} {n : Nat} {e : TypeId} {ro full : Bool} {h : AH} {Q : Value → AH → Prop} (hv : Ints h v ns) (hc : c < ns.length) (hb : h.get n = some ⟨[I64 c], e, ro, full⟩)
    (hQ : Q (.bool (decide (ns.getD c 0 ≠ 0))) h) : WF S 160 [v, .pointer (some ⟨n, 0, none⟩)] h Q := by
  refine WF_fn (fn := c160) rfl rfl ?_
  unfold c160
  have hix := hv.ix (k := .i64) (j := c) (by omega) (by omega)
  have hrd := hv.rd (j := c) (by omega) (by omega)
  simp only [nth, Int.toNat_natCast] at hrd
  try simp (maxSteps := 3000000) (disch := first | omega | (simp only [len_new, len_put, len_kill]; omega)) only [↓xpre, xpost, ↓reduceIte, Nat.reduceEqDiff, Nat.reduceAdd, Nat.reduceSub, Nat.reduceLeDiff, Nat.zero_add, Nat.sub_zero, rd1_of hb, hix, hrd]
  exact hQ
end Go.Proofs.Ytilpnbejpndgpaa.X

/- RowRank of the program, out of its rank. -/
set_option linter.unusedVariables false
set_option linter.unusedSimpArgs false
set_option maxRecDepth 20000
set_option maxHeartbeats 4000000
namespace Go.Proofs.Ytilpnbejpndgpaa.X
open Go Go.RowKit

/-- What the program's rank is to do (to be proved: i_rank). -/
def RankDoes (g : FuncId) : Prop := ∀ (v : Value) (rows : List (List Int)) (p : Int) (W : Nat) (h : AH) (Q : Value → AH → Prop), Rows h v rows → isP p = true → (1 ≤ rows.length ∧ rows.length ≤ 1048576) → Good p rows W → 1 ≤ W ∧ W ≤ 1048576 →
  (∀ h', h <+: h' → Q (I64 (rankN p rows)) h') → WF S g [I64 p, v] h Q

end Go.Proofs.Ytilpnbejpndgpaa.X

/- The program's rank: a table of rows that are blocks of their own, changed in place. -/
set_option linter.unusedVariables false
set_option linter.unusedSimpArgs false
set_option maxRecDepth 20000
set_option maxHeartbeats 4000000
namespace Go.Proofs.Ytilpnbejpndgpaa.X
open Go Go.RowKit

/-- The state: the table in block n0, each row in a block of its own behind lo. -/
structure OwnT (h0 h : AH) (lo n0 : Nat) (bs : List Nat) (T : List (List Int)) : Prop where
  hp : h0 <+: h
  lo0 : h0.length ≤ n0 ∧ n0 < h.length
  g : OwnB h n0 (T.mapIdx fun i r => .slice (some ⟨bs.getD i 0, 0, none⟩) r.length 1) false
  len : bs.length = T.length
  rows : ∀ i, i < T.length → (h0.length ≤ bs.getD i 0 ∧ bs.getD i 0 ≠ n0) ∧ OwnB h (bs.getD i 0) ((T.getD i []).map (Value.int .i64)) false
  dist : ∀ i j, i < T.length → j < T.length → i ≠ j → bs.getD i 0 ≠ bs.getD j 0
/-- A number changed in a row. -/
theorem OwnT.cell {h0 h : AH} {lo n0 : Nat} {bs : List Nat} {T : List (List Int)} (s : OwnT h0 h lo n0 bs T) {k l : Nat} {x : Int} (hk : k < T.length) (hl : l < (T.getD k []).length) {e : TypeId} (he : h.get (bs.getD k 0) = some ⟨(T.getD k []).map (Value.int .i64), e, false, false⟩) :
    OwnT h0 (h.put (bs.getD k 0) ⟨((T.getD k []).set l x).map (Value.int .i64), e, false, false⟩) lo n0 bs (T.set k ((T.getD k []).set l x)) := by
  have hlt := get_lt he
  have hr := (s.rows k hk).1
  refine ⟨pre_put s.hp hr.1, ⟨s.lo0.1, by rw [len_put]; exact s.lo0.2⟩, ?_, by rw [List.length_set]; exact s.len, fun i hi => ?_, fun i j hi hj => s.dist i j (by simpa using hi) (by simpa using hj)⟩
  · have e1 : (T.set k ((T.getD k []).set l x)).mapIdx (fun i r => Value.slice (some ⟨bs.getD i 0, 0, none⟩) r.length 1) = T.mapIdx fun i r => .slice (some ⟨bs.getD i 0, 0, none⟩) r.length 1 := by
      refine List.ext_getElem? fun j => ?_
      rw [List.getElem?_mapIdx, List.getElem?_mapIdx, List.getElem?_set]
      split
      · rename_i e
        subst e
        simp [hk, List.getD_eq_getElem?_getD, List.getElem?_eq_getElem hk]
      · rfl
    rw [e1]
    exact s.g.put_ne hr.2
  · rw [List.length_set] at hi
    refine ⟨(s.rows i hi).1, ?_⟩
    rw [set_getD' hk]
    by_cases h : i = k
    · subst h
      rw [if_pos rfl]
      exact ⟨e, get_put_same hlt⟩
    · rw [if_neg h]
      exact (s.rows i hi).2.put_ne (s.dist k i hk hi (fun e => h e.symm))
theorem outer_get {bs : List Nat} {T : List (List Int)} {k : Nat} (hk : k < T.length) : (T.mapIdx fun i r => Value.slice (some ⟨bs.getD i 0, 0, none⟩) r.length 1).getD k undef = .slice (some ⟨bs.getD k 0, 0, none⟩) (T.getD k []).length 1 := by
  rw [List.getD_eq_getElem?_getD, List.getElem?_mapIdx, List.getElem?_eq_getElem hk]
  simp [List.getD_eq_getElem?_getD, List.getElem?_eq_getElem hk]
theorem OwnT.vals {h0 h : AH} {lo n0 : Nat} {bs : List Nat} {T : List (List Int)} (s : OwnT h0 h lo n0 bs T) : Vals h (.slice (some ⟨n0, 0, none⟩) T.length 1) (T.mapIdx fun i r => .slice (some ⟨bs.getD i 0, 0, none⟩) r.length 1) := by
  obtain ⟨e, hg⟩ := s.g
  refine .inr ⟨n0, 0, _, by rw [List.length_mapIdx], hg, by simp, fun i hi => ?_⟩
  rw [Nat.zero_add, List.getD_eq_getElem?_getD, List.getElem?_eq_getElem hi]
  rfl
theorem OwnT.row {h0 h : AH} {lo n0 : Nat} {bs : List Nat} {T : List (List Int)} (s : OwnT h0 h lo n0 bs T) {k : Nat} (hk : k < T.length) : Ints h (.slice (some ⟨bs.getD k 0, 0, none⟩) (T.getD k []).length 1) (T.getD k []) := by
  obtain ⟨e, hg⟩ := (s.rows k hk).2
  exact Ints.own hg rfl
theorem OwnT.pre {h0 h h' : AH} {lo n0 : Nat} {bs : List Nat} {T : List (List Int)} (s : OwnT h0 h lo n0 bs T) (p : h <+: h') : OwnT h0 h' lo n0 bs T :=
  ⟨s.hp.trans p, ⟨s.lo0.1, by have := pre_len p; have := s.lo0.2; omega⟩, s.g.pre p, s.len, fun i hi => ⟨(s.rows i hi).1, (s.rows i hi).2.pre p⟩, s.dist⟩
theorem getD_ext' {α : Type} {d : α} {T T' : List α} (hl : T.length = T'.length) (h : ∀ j, j < T.length → T.getD j d = T'.getD j d) : T = T' := by
  refine List.ext_getElem? fun j => ?_
  by_cases h1 : j < T.length
  · have := h j h1
    rw [List.getElem?_eq_getElem h1, List.getElem?_eq_getElem (by omega)]
    simpa [List.getD_eq_getElem?_getD, List.getElem?_eq_getElem h1, List.getElem?_eq_getElem (show j < T'.length by omega)] using this
  · rw [List.getElem?_eq_none (by omega), List.getElem?_eq_none (by omega)]
def swapB (bs : List Nat) (r b : Nat) : List Nat := (bs.set b (bs.getD r 0)).set r (bs.getD b 0)
theorem swapB_get {bs : List Nat} {r b j : Nat} (hr : r < bs.length) (hb : b < bs.length) : (swapB bs r b).getD j 0 = if j = r then bs.getD b 0 else if j = b then bs.getD r 0 else bs.getD j 0 := by
  unfold swapB
  rw [set_getD' (by simpa using hr)]
  split
  · rfl
  · rw [set_getD' hb]
/-- Two rows swapped. -/
theorem OwnT.swap {h0 h : AH} {lo n0 : Nat} {bs : List Nat} {T : List (List Int)} (s : OwnT h0 h lo n0 bs T) {r b : Nat} (hr : r < T.length) (hb : b < T.length) {e : TypeId} {c : List Value}
    (hc : c = (((T.mapIdx fun i r => Value.slice (some ⟨bs.getD i 0, 0, none⟩) r.length 1).set r (.slice (some ⟨bs.getD b 0, 0, none⟩) (T.getD b []).length 1)).set b (.slice (some ⟨bs.getD r 0, 0, none⟩) (T.getD r []).length 1))) :
    OwnT h0 (h.put n0 ⟨c, e, false, false⟩) lo n0 (swapB bs r b) (swapped T r b) := by
  have hl := s.len
  have sg := fun j => swapB_get (bs := bs) (r := r) (b := b) (j := j) (by omega) (by omega)
  have tg := fun j => swapped_get (T := T) (r := r) (i := b) (j := j) hr hb
  refine ⟨pre_put s.hp s.lo0.1, ⟨s.lo0.1, by rw [len_put]; exact s.lo0.2⟩, ⟨e, ?_⟩, by simp [swapB, swapped_len, hl], fun i hi => ?_, fun i j hi hj hij => ?_⟩
  · rw [get_put_same s.lo0.2, hc]
    congr 2
    refine getD_ext' (d := undef) (by simp [swapped_len]) fun j hj => ?_
    have hj' : j < T.length := by simpa using hj
    rw [outer_get (by rw [swapped_len]; exact hj'), sg, tg, set_getD' (by simpa using hb), set_getD' (by simpa using hr), outer_get hj']
    by_cases h1 : j = b
    · by_cases h2 : j = r
      · subst h1; subst h2; simp
      · rw [if_pos h1, if_neg h2, if_pos h1, if_neg h2, if_pos h1]
    · rw [if_neg h1]
      by_cases h2 : j = r
      · rw [if_pos h2, if_pos h2, if_pos h2]
      · rw [if_neg h2, if_neg h2, if_neg h1, if_neg h2, if_neg h1]
  · rw [swapped_len] at hi
    rw [sg, tg]
    split
    · exact ⟨(s.rows b hb).1, (s.rows b hb).2.put_ne (fun e => (s.rows b hb).1.2 e.symm)⟩
    · split
      · exact ⟨(s.rows r hr).1, (s.rows r hr).2.put_ne (fun e => (s.rows r hr).1.2 e.symm)⟩
      · exact ⟨(s.rows i hi).1, (s.rows i hi).2.put_ne (fun e => (s.rows i hi).1.2 e.symm)⟩
  · rw [swapped_len] at hi hj
    rw [sg, sg]
    by_cases h1 : i = r
    · rw [if_pos h1]
      by_cases h2 : j = r
      · omega
      · rw [if_neg h2]
        by_cases h3 : j = b
        · rw [if_pos h3]; exact s.dist b r hb hr (by omega)
        · rw [if_neg h3]; exact s.dist b j hb hj (by omega)
    · rw [if_neg h1]
      by_cases h4 : i = b
      · rw [if_pos h4]
        by_cases h2 : j = r
        · rw [if_pos h2]; exact s.dist r b hr hb (by omega)
        · rw [if_neg h2, if_neg (by omega)]; exact s.dist r j hr hj (by omega)
      · rw [if_neg h4]
        by_cases h2 : j = r
        · rw [if_pos h2]; exact s.dist i b hi hb (by omega)
        · rw [if_neg h2]
          by_cases h3 : j = b
          · rw [if_pos h3]; exact s.dist i r hi hr (by omega)
          · rw [if_neg h3]; exact s.dist i j hi hj hij
end Go.Proofs.Ytilpnbejpndgpaa.X

/- Slices of slices; a copy of a row in a block of its own; the row under way in an elimination in place. -/
set_option linter.unusedVariables false
set_option linter.unusedSimpArgs false
set_option maxRecDepth 20000
set_option maxHeartbeats 4000000
namespace Go.Proofs.Ytilpnbejpndgpaa.X
open Go Go.RowKit

def boundV (d : Int) : Option Value → Option Int
  | none => some d
  | some (.int _ i) => some i
  | some _ => none
def slcV (sz : Nat) (v : Value) (lo hi : Option Value) : Option Value := match v with
  | .slice (some ⟨n, off, _⟩) len sz' => match boundV 0 lo, boundV len hi with
    | some l, some u =>
      if sz' = sz ∧ 0 ≤ l ∧ l < u ∧ u ≤ len then some (.slice (some ⟨n, off + l.toNat * sz, none⟩) (u - l).toNat sz)
      else if sz' = sz ∧ 0 ≤ l ∧ l = u ∧ u ≤ len then some (.slice none 0 1) else none
    | _, _ => none
  | .slice none 0 t => match boundV 0 lo, boundV 0 hi with
    | some l, some u => if l = 0 ∧ u = 0 then some (.slice none 0 t) else none
    | _, _ => none
  | _ => none
def omapF (f : Fr) : Option Operand → Option Value
  | none => none
  | some x => some (ev f x)
theorem omapF_none {f : Fr} : omapF f none = none := rfl
theorem omapF_some {f : Fr} {x : Operand} : omapF f (some x) = some (ev f x) := rfl
theorem bound_eq {f : Fr} {d : Int} {o : Option Operand} : bound f d o = boundV d (omapF f o) := by
  cases o with
  | none => rfl
  | some x => simp only [bound, omapF, boundV]; split <;> simp_all
theorem WX_slc {S : XS} {f : Fr} {h : AH} {Q : Value → AH → Prop} {sz : Nat} {x : Operand} {lo hi : Option Operand} : WX S (.slc sz x lo hi) f h Q = WV (slcV sz (ev f x) (omapF f lo) (omapF f hi)) fun v => Q v h := by
  rw [WX_op (fun _ => rfl)]
  have : xop (.slc sz x lo hi) f h = (slcV sz (ev f x) (omapF f lo) (omapF f hi)).map (·, h) := by
    simp only [xop, slcV, bound_eq]
    generalize ev f x = v
    rcases hA : boundV 0 (omapF f lo) with _ | l
    · split <;> simp
    · split
      · rcases hB : boundV _ (omapF f hi) with _ | u
        · simp [hB]
        · simp only [hB]
          split
          · rfl
          · split <;> rfl
      · rcases hB : boundV 0 (omapF f hi) with _ | u
        · simp [hB]
        · simp only [hB]
          split <;> rfl
      · rename_i q1 q2
        split
        · exact absurd rfl (q1 _ _ _ _ _)
        · exact absurd rfl (q2 _)
        · rfl
  rw [this]
  cases slcV sz (ev f x) (omapF f lo) (omapF f hi) <;> simp [OQ_some, WV_some, OQ_none, WV_none]
theorem Vals.slcV {h : AH} {v : Value} {cs : List Value} (hv : Vals h v cs) {k1 k2 : IntKind} {l u : Int} (h0 : 0 ≤ l ∧ l ≤ u ∧ u ≤ cs.length) :
    ∃ v', X.slcV 1 v (some (.int k1 l)) (some (.int k2 u)) = some v' ∧ Vals h v' ((cs.drop l.toNat).take (u - l).toNat) := by
  have hlen : ((cs.drop l.toNat).take (u - l).toNat).length = (u - l).toNat := by simp; omega
  rcases hv with ⟨rfl, t, ht, rfl⟩ | ⟨b, off, blk, rfl, h2, h3, h4⟩
  · simp at h0
    have : l = 0 ∧ u = 0 := by omega
    exact ⟨_, by simp [X.slcV, boundV, this], .inl ⟨by simp, t, ht, rfl⟩⟩
  · by_cases hlu : l < u
    · refine ⟨.slice (some ⟨b, off + l.toNat * 1, none⟩) (u - l).toNat 1, by simp [X.slcV, boundV, hlu, h0.1, h0.2.2], .inr ⟨b, off + l.toNat, blk, by rw [hlen]; simp, h2, by omega, fun i hi => ?_⟩⟩
      rw [hlen] at hi
      rw [show off + l.toNat + i = off + (l.toNat + i) by omega, h4 _ (by omega)]
      simp [List.getD_eq_getElem?_getD, List.getElem?_take, List.getElem?_drop, hi]
    · have e : l = u := by omega
      subst e
      exact ⟨.slice none 0 1, by simp [X.slcV, boundV, h0.1, h0.2.2], .inl ⟨by simp, 1, by omega, rfl⟩⟩
theorem Vals.slcV_lo {h : AH} {v : Value} {cs : List Value} (hv : Vals h v cs) {k1 : IntKind} {l : Int} (h0 : 0 ≤ l ∧ l ≤ cs.length) :
    ∃ v', X.slcV 1 v (some (.int k1 l)) none = some v' ∧ Vals h v' (cs.drop l.toNat) := by
  obtain ⟨v', h1, h2⟩ := hv.slcV (k1 := k1) (k2 := .i64) (l := l) (u := cs.length) (by omega)
  refine ⟨v', ?_, ?_⟩
  · rw [← h1]
    rcases hv with ⟨rfl, t, ht, rfl⟩ | ⟨b, off, blk, rfl, h2, h3, h4⟩ <;> simp [X.slcV, boundV]
  · rw [List.take_of_length_le (by simp; omega)] at h2
    exact h2
theorem Vals.ints {h : AH} {v : Value} {ns : List Int} (hv : Vals h v (ns.map (Value.int .i64))) : Ints h v ns := by
  rcases hv with ⟨e, t, ht, rfl⟩ | ⟨b, off, blk, rfl, h2, h3, h4⟩
  · exact .inl ⟨by simpa using e, t, ht, rfl⟩
  · refine .inr ⟨b, off, blk, by simp, h2, by simpa using h3, fun i hi => ?_⟩
    rw [h4 i (by simpa using hi)]
    simp [List.getD_eq_getElem?_getD, List.getElem?_eq_getElem hi]
theorem Ints.slcV {h : AH} {v : Value} {ns : List Int} (hv : Ints h v ns) {k1 k2 : IntKind} {l u : Int} (h0 : 0 ≤ l ∧ l ≤ u ∧ u ≤ ns.length) :
    ∃ v', X.slcV 1 v (some (.int k1 l)) (some (.int k2 u)) = some v' ∧ Ints h v' ((ns.drop l.toNat).take (u - l).toNat) := by
  obtain ⟨v', h1, h2⟩ := hv.vals.slcV (k1 := k1) (k2 := k2) (l := l) (u := u) (by simpa using h0)
  exact ⟨v', h1, Vals.ints (by simpa [List.map_drop, List.map_take] using h2)⟩

/-- A copy: a block of its own, not made longer yet. -/
theorem i_CloneB {v : Value} {ns : List Int} {h : AH} {Q : Value → AH → Prop} (hv : Ints h v ns) (h0 : 0 < ns.length) (hl : (ns.length : Int) ≤ 1048576)
    (hQ : ∀ n h', h.length ≤ n → h <+: h' → OwnB h' n (ns.map (Value.int .i64)) false → Q (.slice (some ⟨n, 0, none⟩) ns.length 1) h') : WF S 126 [v] h Q := by
  refine WF_fn (fn := c126) rfl rfl ?_
  unfold c126
  obtain ⟨n, off, rfl, hr⟩ := hv.vals.rdn (by simpa using h0)
  try simp (maxSteps := 3000000) (disch := first | omega | (simp only [len_new, len_put, len_kill]; omega)) only [↓xpre, xpost, ↓reduceIte, Nat.reduceEqDiff, Nat.reduceAdd, Nat.reduceSub, Nat.reduceLeDiff, Nat.zero_add, Nat.sub_zero, ↓WX_isnil, isnilV_some, fillL, zrep]
  rw [List.length_map] at hr ⊢
  rw [app_zero get_new_same (show AH.rdn (AH.new h _) n off ns.length = _ by rw [rdn_eq] at hr ⊢; obtain ⟨b, hb, hc⟩ := Option.bind_eq_some_iff.1 hr; rw [get_new_any hb]; exact hc) h0 (by omega)]
  try simp (maxSteps := 3000000) (disch := first | omega | (simp only [len_new, len_put, len_kill]; omega)) only [↓xpre, xpost, ↓reduceIte, Nat.reduceEqDiff, Nat.reduceAdd, Nat.reduceSub, Nat.reduceLeDiff, Nat.zero_add, Nat.sub_zero]
  exact hQ _ _ (by rw [len_new]; omega) (pre_new (pre_kill (pre_new (List.prefix_refl _)) (Nat.le_refl _))) ⟨_, get_new_eq (by rw [len_kill])⟩

theorem firstAt_pivot {T : List (List Int)} {c r : Nat} : ∀ {m i : Nat}, firstAt (fun i => decide (tb T (r + i) c ≠ 0)) m i = if pivot T c m (r + i) = r + i + m then -1 else ((pivot T c m (r + i) - r : Nat) : Int)
  | 0, i => by simp [firstAt, pivot]
  | m + 1, i => by
    unfold firstAt pivot
    by_cases h : tb T (r + i) c = 0
    · have e : (decide (tb T (r + i) c ≠ 0)) = false := by simp [h]
      rw [e, if_neg (by simp), if_pos h, firstAt_pivot (m := m) (i := i + 1), show r + (i + 1) = r + i + 1 by omega, show r + i + 1 + m = r + i + (m + 1) by omega]
    · have e : (decide (tb T (r + i) c ≠ 0)) = true := by simp [h]
      rw [e, if_pos rfl, if_neg h, if_neg (by omega), show r + i - r = i by omega]

/-- A row changed as far as l. -/
def mixed (g : Nat → Int) (row : List Int) (l : Nat) : List Int := gen row.length fun x => if x < l then g x else row.getD x 0
theorem mixed_len {g : Nat → Int} {row : List Int} {l : Nat} : (mixed g row l).length = row.length := gen_len
theorem mixed_zero {g : Nat → Int} {row : List Int} : mixed g row 0 = row := by
  symm
  exact gen_ext rfl fun l hl => by simp
theorem mixed_next {g : Nat → Int} {row : List Int} {l : Nat} (hl : l < row.length) : (mixed g row l).set l (g l) = mixed g row (l + 1) := by
  refine gen_ext (by rw [List.length_set, mixed_len]) fun x hx => ?_
  rw [set_getD (by rw [mixed_len]; exact hl)]
  by_cases h : x = l
  · subst h; rw [if_pos rfl, if_pos (by omega)]
  · rw [if_neg h]
    unfold mixed
    rw [gen_get hx]
    by_cases h2 : x < l
    · rw [if_pos h2, if_pos (by omega)]
    · rw [if_neg h2, if_neg (by omega)]
theorem mixed_full {g : Nat → Int} {row : List Int} : mixed g row row.length = gen row.length g := gen_congr fun i hi => if_pos hi
theorem mixed_get {g : Nat → Int} {row : List Int} {l x : Nat} (hx : x < row.length) (hl : l ≤ x) : (mixed g row l).getD x 0 = row.getD x 0 := by
  unfold mixed
  rw [gen_get hx, if_neg (by omega)]
theorem OwnT.rdk {h0 h : AH} {lo n0 : Nat} {bs : List Nat} {T : List (List Int)} (s : OwnT h0 h lo n0 bs T) {k N : Nat} (hN : T.length = N) (hk : k < N) :
    ixsV 1 (.slice (some ⟨n0, 0, none⟩) N 1) (I64 k) = some (.pointer (some ⟨n0, k, none⟩)) ∧ h.rd1 n0 k = some (.slice (some ⟨bs.getD k 0, 0, none⟩) (T.getD k []).length 1) := by
  obtain ⟨e, hg⟩ := s.g
  subst hN
  refine ⟨?_, ?_⟩
  · rw [ixsV_some, if_pos (by omega)]
    simp
  · rw [rd1_of hg]
    simp only [List.getElem?_mapIdx, List.getElem?_eq_getElem hk, Option.map_some, List.getD_eq_getElem?_getD, Option.getD_some]
theorem OwnT.rdc {h0 h : AH} {lo n0 : Nat} {bs : List Nat} {T : List (List Int)} (s : OwnT h0 h lo n0 bs T) {k l W : Nat} (hk : k < T.length) (hW : (T.getD k []).length = W) (hl : l < W) :
    ixsV 1 (.slice (some ⟨bs.getD k 0, 0, none⟩) W 1) (I64 l) = some (.pointer (some ⟨bs.getD k 0, l, none⟩)) ∧ h.rd1 (bs.getD k 0) l = some (I64 ((T.getD k []).getD l 0)) := by
  obtain ⟨e, hg⟩ := (s.rows k hk).2
  subst hW
  refine ⟨?_, ?_⟩
  · rw [ixsV_some, if_pos (by omega)]
    simp
  · rw [rd1_of hg]
    generalize T.getD k [] = row at hl
    rw [List.getElem?_map, List.getElem?_eq_getElem hl, List.getD_eq_getElem?_getD, List.getElem?_eq_getElem hl]
    rfl
end Go.Proofs.Ytilpnbejpndgpaa.X

/- The program's rank. -/
set_option linter.unusedVariables false
set_option linter.unusedSimpArgs false
set_option maxRecDepth 20000
set_option maxHeartbeats 4000000
namespace Go.Proofs.Ytilpnbejpndgpaa.X
open Go Go.RowKit

def rowV (p : Nat × List Int) : Value := .slice (some ⟨p.1, 0, none⟩) p.2.length 1
/-- The state while the rows are copied. -/
structure CloneS (h0 h : AH) (nb : Nat) (full : Bool) (L : List (Nat × List Int)) : Prop where
  hp : h0 <+: h
  lo : h0.length ≤ nb
  g : h.get nb = some ⟨L.map rowV, 22, false, full⟩
  rows : ∀ p, p ∈ L → (h0.length ≤ p.1 ∧ p.1 ≠ nb) ∧ OwnB h p.1 (p.2.map (Value.int .i64)) false
  dist : L.Pairwise (fun p q => p.1 ≠ q.1)
theorem OwnB.kill_ne {h : AH} {c : List Value} {full : Bool} {n m : Nat} (o : OwnB h n c full) (e : m ≠ n) : OwnB (h.kill m) n c full := by
  obtain ⟨t, hg⟩ := o
  exact ⟨t, by rw [get_kill_ne e]; exact hg⟩
theorem OwnB.new {h : AH} {c : List Value} {full : Bool} {n : Nat} {b : Blk} (o : OwnB h n c full) : OwnB (h.new b) n c full := by
  obtain ⟨t, hg⟩ := o
  exact ⟨t, get_new_any hg⟩
theorem CloneS.app {h0 h1 h2 : AH} {nb n : Nat} {full fu : Bool} {L : List (Nat × List Int)} {r : List Int} {e : TypeId} (s : CloneS h0 h1 nb full L) (hn : h1.length ≤ n) (p : h1 <+: h2) (ob : OwnB h2 n (r.map (Value.int .i64)) false)
    (hl : (L.length : Int) ≤ 1048576) {Q : Value → AH → Prop}
    (hQ : ∀ nb' H', CloneS h0 H' nb' false (L ++ [(n, r)]) → Q (.slice (some ⟨nb', 0, none⟩) (L ++ [(n, r)]).length 1) H') :
    OQ (appV 22 1 24 (.slice (some ⟨nb, 0, none⟩) L.length 1) (.slice (some ⟨h2.length, 0, none⟩) 1 1) (h2.new ⟨[.slice (some ⟨n, 0, none⟩) r.length 1], e, false, fu⟩)) Q := by
  have hrd : (h2.new ⟨[.slice (some ⟨n, 0, none⟩) r.length 1], e, false, fu⟩).rdn h2.length 0 1 = some [.slice (some ⟨n, 0, none⟩) r.length 1] := by rw [rdn_new_same]; rfl
  have hk : (h2.new ⟨[.slice (some ⟨n, 0, none⟩) r.length 1], e, false, fu⟩).get nb = some ⟨L.map rowV, 22, false, full⟩ := get_new_any (pre_get p s.g)
  have l1 := get_lt s.g
  have l2 := pre_len p
  have l3 := ob.lt
  have l0 := pre_len s.hp
  rw [app_own hk (by simp) hrd (by omega), OQ_some]
  have key : CloneS h0 (((h2.new ⟨[.slice (some ⟨n, 0, none⟩) r.length 1], e, false, fu⟩).kill nb).new ⟨L.map rowV ++ [.slice (some ⟨n, 0, none⟩) r.length 1], 22, false, false⟩) (h2.new ⟨[.slice (some ⟨n, 0, none⟩) r.length 1], e, false, fu⟩).length false (L ++ [(n, r)]) := by
    refine ⟨pre_new (pre_kill (pre_new (s.hp.trans p)) s.lo), by rw [len_new]; omega, ?_, fun q hq => ?_, ?_⟩
    · rw [get_new_eq (by rw [len_kill])]
      simp [rowV]
    · rw [len_new]
      rcases List.mem_append.1 hq with hq | hq
      · have a := s.rows q hq
        have := a.2.lt
        exact ⟨⟨a.1.1, by omega⟩, (((a.2.pre p).new).kill_ne (fun e => a.1.2 e.symm)).new⟩
      · rw [List.mem_singleton] at hq
        subst hq
        exact ⟨⟨show h0.length ≤ n by omega, show n ≠ h2.length + 1 by omega⟩, (ob.new.kill_ne (show nb ≠ n by omega)).new⟩
    · rw [List.pairwise_append]
      refine ⟨s.dist, by simp, fun a ha b hb => ?_⟩
      rw [List.mem_singleton] at hb
      subst hb
      have := (s.rows a ha).2.lt
      show a.1 ≠ n
      omega
  have := hQ _ _ key
  rw [List.length_append, List.length_singleton] at this
  exact this
theorem CloneS.own {h0 h : AH} {nb : Nat} {L : List (Nat × List Int)} (s : CloneS h0 h nb false L) : OwnT h0 h 0 nb (L.map Prod.fst) (L.map Prod.snd) := by
  have e0 : ((L.map Prod.snd).mapIdx fun i r => Value.slice (some ⟨(L.map Prod.fst).getD i 0, 0, none⟩) r.length 1) = L.map rowV := by
    refine List.ext_getElem? fun j => ?_
    rw [List.getElem?_mapIdx, List.getElem?_map, List.getElem?_map, List.getD_eq_getElem?_getD, List.getElem?_map]
    cases L[j]? <;> rfl
  have ei : ∀ i, i < L.length → ∃ hi : i < L.length, (L.map Prod.fst).getD i 0 = (L[i]).1 ∧ (L.map Prod.snd).getD i [] = (L[i]).2 := fun i hi => ⟨hi, by simp [List.getD_eq_getElem?_getD, hi], by simp [List.getD_eq_getElem?_getD, hi]⟩
  refine ⟨s.hp, ⟨s.lo, get_lt s.g⟩, ⟨22, by rw [e0]; exact s.g⟩, by simp, fun i hi => ?_, fun i j hi hj hij => ?_⟩
  · obtain ⟨hi', e1, e2⟩ := ei i (by simpa using hi)
    rw [e1, e2]
    exact s.rows _ (List.getElem_mem hi')
  · obtain ⟨hi', e1, -⟩ := ei i (by simpa using hi)
    obtain ⟨hj', e2, -⟩ := ei j (by simpa using hj)
    rw [e1, e2]
    have := List.pairwise_iff_getElem.1 s.dist
    rcases Nat.lt_or_gt_of_ne hij with h | h
    · exact this i j hi' hj' h
    · exact fun e => this j i hj' hi' h e.symm
theorem set_self {α : Type} {d : α} {l : List α} {k : Nat} (hk : k < l.length) : l.set k (l.getD k d) = l := by
  rw [List.getD_eq_getElem?_getD, List.getElem?_eq_getElem hk]
  simp
theorem put_put {h : AH} {n : Nat} {a b : Blk} : (h.put n a).put n b = h.put n b := by simp [AH.put]

theorem i_rank : RankDoes 148 := by
  intro v rows p W h Q hv hp hN gd hW hQ
  refine WF_fn (fn := c148) rfl rfl ?_
  unfold c148
  have hp5 := isP_in hp
  obtain ⟨cs, hvv, hcl, hr⟩ := hv
  try simp (maxSteps := 3000000) (disch := first | omega | (simp only [len_new, len_put, len_kill]; omega)) only [↓xpre, xpost, ↓reduceIte, Nat.reduceEqDiff, Nat.reduceAdd, Nat.reduceSub, Nat.reduceLeDiff, Nat.zero_add, Nat.sub_zero, fillL, zrep, hvv.len, hcl]
  generalize hH : AH.new h _ = H0
  obtain ⟨hb0, p0, n0⟩ := new_facts hH
  have st0 : CloneS h H0 h.length true [] := ⟨p0, Nat.le_refl _, hb0, by simp, by simp⟩
  refine WC_loop_inv (fun m f K1 => ∃ (i : Nat) (nb : Nat) (full : Bool) (L : List (Nat × List Int)), m = rows.length - i ∧ i ≤ rows.length ∧ f 0 = I64 p ∧ f 5 = .slice (some ⟨nb, 0, none⟩) L.length 1 ∧ f 16 = v ∧ f 17 = I64 rows.length ∧ f 18 = I64 i ∧ (CloneS h K1 nb full L) ∧ (L.map Prod.snd = rows.take i) ∧ (0 < i → full = false)) ?_ (rows.length - 0) _ _ ⟨0, h.length, true, [], rfl, by omega, (by first | rfl | (simp [upd_apply]; done)), (by first | rfl | (simp [upd_apply]; done)), (by first | rfl | (simp [upd_apply]; done)), (by first | rfl | (simp [upd_apply]; done)), (by first | rfl | (simp [upd_apply]; done)), st0, (by simp), (by omega)⟩
  rintro m f K1 ⟨i, nb, full, L, rfl, hi, f0, f5, f16, f17, f18, st, hL, hfu⟩
  have hLl : L.length = i := by
    have := congrArg List.length hL
    rw [List.length_map, List.length_take] at this
    omega
  try simp (maxSteps := 3000000) (disch := first | omega | (simp only [len_new, len_put, len_kill]; omega)) only [↓xpre, xpost, ↓reduceIte, Nat.reduceEqDiff, Nat.reduceAdd, Nat.reduceSub, Nat.reduceLeDiff, Nat.zero_add, Nat.sub_zero, f0, f5, f16, f17, f18, IfW_dec]
  refine ⟨fun hlt => ?_, fun hge => ?_⟩
  · have hi' : i < rows.length := by omega
    have hvK := hvv.pre st.hp
    have hix := hvK.ix (k := .i64) (j := i) (by omega) (by omega)
    have hrd := hvK.rd (j := i) (by omega) (by omega)
    try simp (maxSteps := 3000000) (disch := first | omega | (simp only [len_new, len_put, len_kill]; omega)) only [↓xpre, xpost, ↓reduceIte, Nat.reduceEqDiff, Nat.reduceAdd, Nat.reduceSub, Nat.reduceLeDiff, Nat.zero_add, Nat.sub_zero, f0, f5, f16, f17, f18, hix, hrd, Int.toNat_natCast]
    refine i_CloneB ((hr i hi').pre st.hp) (by rw [(gd i hi').1]; omega) (by rw [(gd i hi').1]; omega) fun n h2 hn p2 ob => ?_
    try simp (maxSteps := 3000000) (disch := first | omega | (simp only [len_new, len_put, len_kill]; omega)) only [↓xpre, xpost, ↓reduceIte, Nat.reduceEqDiff, Nat.reduceAdd, Nat.reduceSub, Nat.reduceLeDiff, Nat.zero_add, Nat.sub_zero, f0, f5, f16, f17, f18, fillL, zrep]
    refine st.app hn p2 ob (by omega) fun nb' H' st' => ?_
    try simp (maxSteps := 3000000) (disch := first | omega | (simp only [len_new, len_put, len_kill]; omega)) only [↓xpre, xpost, ↓reduceIte, Nat.reduceEqDiff, Nat.reduceAdd, Nat.reduceSub, Nat.reduceLeDiff, Nat.zero_add, Nat.sub_zero, f0, f5, f16, f17, f18, wrap64_in]
    refine InvQ_go (rows.length - (i + 1)) (by omega) ⟨(i + 1), nb', false, (L ++ [(n, rows.getD i [])]), rfl, by omega, (by first | rfl | exact f0 | (simp only [upd_apply]; rfl) | (show I64 _ = _; congr 1; omega)), (by first | rfl | exact f5 | (simp only [upd_apply]; rfl) | (show I64 _ = _; congr 1; omega)), (by first | rfl | exact f16 | (simp only [upd_apply]; rfl) | (show I64 _ = _; congr 1; omega)), (by first | rfl | exact f17 | (simp only [upd_apply]; rfl) | (show I64 _ = _; congr 1; omega)), (by first | rfl | exact f18 | (simp only [upd_apply]; rfl) | (show I64 _ = _; congr 1; omega)), st', ?_, (fun _ => rfl)⟩
    rw [List.map_append, hL, List.take_succ_eq_append_getElem hi']
    simp [List.getD_eq_getElem?_getD, hi']
  · have e : i = rows.length := by omega
    subst e
    rw [List.take_length] at hL
    have hf' := hfu (by omega)
    subst hf'
    have stT := st.own
    rw [hL] at stT
    rw [hLl] at f5
    have blt : ∀ i, i < rows.length → (L.map Prod.fst).getD i 0 < K1.length := fun i hi => (stT.rows i hi).2.lt
    have nlt := stT.lo0.2
    try simp (maxSteps := 3000000) (disch := first | omega | (simp only [len_new, len_put, len_kill]; omega)) only [↓xpre, xpost, ↓reduceIte, Nat.reduceEqDiff, Nat.reduceAdd, Nat.reduceSub, Nat.reduceLeDiff, Nat.zero_add, Nat.sub_zero, f0, f5, f16, f17, f18]
    generalize hH2 : AH.new K1 _ = H2
    obtain ⟨hb2, p2, n2⟩ := new_facts hH2
    have hrk : elim p rows 0 0 (W - 0) = rankN p rows := by
      unfold rankN
      rw [(gd 0 (by omega)).1]
      rfl
    refine WC_loop_inv (fun m f K2 => ∃ (c : Nat) (r : Nat) (bs : List Nat) (T : List (List Int)) (bx : Nat), m = W - c ∧ c ≤ W ∧ f 0 = I64 p ∧ f 5 = .slice (some ⟨nb, 0, none⟩) rows.length 1 ∧ f 8 = I64 r ∧ f 9 = .pointer (some ⟨bx, 0, none⟩) ∧ (OwnT h K2 0 nb bs T) ∧ (OwnB K2 bx [I64 c] true) ∧ (nb < bx) ∧ (∀ i, i < T.length → bs.getD i 0 < bx) ∧ (r ≤ rows.length) ∧ (T.length = rows.length) ∧ (Good p T W) ∧ (elim p T r c (W - c) = rankN p rows)) ?_ (W - 0) _ _ ⟨0, 0, (L.map Prod.fst), rows, K1.length, rfl, by omega, (by first | rfl | exact f0 | (simp [upd_apply]; done)), (by first | rfl | exact f5 | (simp [upd_apply]; done)), (by first | rfl | (simp [upd_apply]; done)), (by first | rfl | (simp [upd_apply]; done)), stT.pre p2, ⟨_, hb2⟩, nlt, blt, (by omega), rfl, gd, hrk⟩
    rintro m f K2 ⟨c, r, bs, T, bx, rfl, hc, f0, f5, f8, f9, so, hbx, hlo, hlb, hrN, hT, g, hel⟩
    clear stT blt nlt hb2 hH2 p2 n2 hrk st hr hvv hcl
    obtain ⟨eb, hgb⟩ := hbx
    by_cases hrn : r < rows.length
    case neg =>
      try simp (maxSteps := 3000000) (disch := first | omega | (simp only [len_new, len_put, len_kill]; omega)) only [↓xpre, xpost, ↓reduceIte, Nat.reduceEqDiff, Nat.reduceAdd, Nat.reduceSub, Nat.reduceLeDiff, Nat.zero_add, Nat.sub_zero, f0, f5, f8, f9, decide_eq_false (show ¬ ((r : Int) < (rows.length : Int)) by omega)]
      have := hQ _ so.hp
      rw [← hel, elim_full (by omega)] at this
      exact this
    have g0 := (g 0 (by omega)).1
    have rd0 := so.rdk (k := 0) hT (by omega)
    rw [g0] at rd0
    have rx0 : ixsV 1 (.slice (some ⟨nb, 0, none⟩) rows.length 1) (I64 0) = _ := rd0.1
    try simp (maxSteps := 3000000) (disch := first | omega | (simp only [len_new, len_put, len_kill]; omega)) only [↓xpre, xpost, ↓reduceIte, Nat.reduceEqDiff, Nat.reduceAdd, Nat.reduceSub, Nat.reduceLeDiff, Nat.zero_add, Nat.sub_zero, f0, f5, f8, f9, decide_eq_true (show (r : Int) < (rows.length : Int) by omega), rx0, rd0.2, rd1_of hgb, IfW_dec]
    refine ⟨fun hlt => ?_, fun hge => ?_⟩
    · have hvT := so.vals
      rw [hT] at hvT
      obtain ⟨v', hs1, hs2⟩ := hvT.slcV_lo (k1 := .i64) (l := r) ⟨by omega, by rw [List.length_mapIdx]; omega⟩
      rw [Int.toNat_natCast] at hs2
      try simp (maxSteps := 3000000) (disch := first | omega | (simp only [len_new, len_put, len_kill]; omega)) only [↓xpre, xpost, ↓reduceIte, Nat.reduceEqDiff, Nat.reduceAdd, Nat.reduceSub, Nat.reduceLeDiff, Nat.zero_add, Nat.sub_zero, f0, f5, f8, f9, ↓WX_slc, omapF_some, omapF_none, hs1]
      refine i_IndexRows (q := fun i => decide (tb T (r + i) c ≠ 0)) hs2 (by rw [List.length_drop, List.length_mapIdx]; omega) (fun i hi Q hq => ?_) ?_
      · rw [List.length_drop, List.length_mapIdx] at hi
        have e1 : ((T.mapIdx fun i r => Value.slice (some ⟨bs.getD i 0, 0, none⟩) r.length 1).drop r).getD i undef = .slice (some ⟨bs.getD (r + i) 0, 0, none⟩) (T.getD (r + i) []).length 1 := by
          rw [← outer_get (bs := bs) (show r + i < T.length by omega), List.getD_eq_getElem?_getD, List.getElem?_drop, List.getD_eq_getElem?_getD]
        rw [e1]
        simp only [WK_func]
        exact i_rank1 (so.row (k := r + i) (by omega)) (by rw [(g (r + i) (by omega)).1]; omega) hgb hq
      · have hlen : ((T.mapIdx fun i r => Value.slice (some ⟨bs.getD i 0, 0, none⟩) r.length 1).drop r).length = rows.length - r := by rw [List.length_drop, List.length_mapIdx, hT]
        have hfa := firstAt_pivot (T := T) (c := c) (r := r) (m := rows.length - r) (i := 0)
        rw [Nat.add_zero, show r + (rows.length - r) = rows.length by omega] at hfa
        rw [hlen, hfa]
        have hpl := pivot_le (T := T) (c := c) (m := rows.length - r) (r := r)
        by_cases hpv : pivot T c (rows.length - r) r = rows.length
        · rw [if_pos hpv]
          try simp (maxSteps := 3000000) (disch := first | omega | (simp only [len_new, len_put, len_kill]; omega)) only [↓xpre, xpost, ↓reduceIte, Nat.reduceEqDiff, Nat.reduceAdd, Nat.reduceSub, Nat.reduceLeDiff, Nat.zero_add, Nat.sub_zero, f0, f5, f8, f9, decide_eq_true (show (-1 : Int) < 0 by decide), rd1_of hgb, wrap64_in]
          have hcs : colStep p T r c = (T, r) := by
            unfold colStep
            rw [hT, if_pos hpv]
          have lbx := get_lt hgb
          refine InvQ_go (W - (c + 1)) (by omega) ⟨(c + 1), r, bs, T, K2.length, rfl, by omega, (by first | rfl | exact f0 | (simp only [upd_apply]; rfl) | (show I64 _ = _; congr 1; omega)), (by first | rfl | exact f5 | (simp only [upd_apply]; rfl) | (show I64 _ = _; congr 1; omega)), (by first | rfl | exact f8 | (simp only [upd_apply]; rfl) | (show I64 _ = _; congr 1; omega)), (by first | rfl | exact f9 | (simp only [upd_apply]; rfl) | (show I64 _ = _; congr 1; omega)), (so.pre (pre_new (List.prefix_refl _))), ⟨_, get_new_same⟩, so.lo0.2, (fun i hi => (so.rows i hi).2.lt), hrN, hT, g, ?_⟩
          rw [← hel, show W - c = (W - (c + 1)) + 1 by omega]
          conv => rhs; unfold elim
          rw [hcs]
        · rw [if_neg hpv]
          have hpne := pivot_ne (T := T) (c := c) (m := rows.length - r) (r := r) (by omega)
          have hcs : colStep p T r c = (swept p (swapped T r (pivot T c (rows.length - r) r)) r c rows.length, r + 1) := by
            unfold colStep
            rw [hT, if_neg hpv]
          generalize hbq : pivot T c (rows.length - r) r = b at hpl hpv hpne hcs ⊢
          have hbN : b < rows.length := by omega
          have rr := so.rdk (k := r) hT hrn
          have rb := so.rdk (k := b) hT hbN
          obtain ⟨e, hg⟩ := so.g
          have sw := so.swap (r := r) (b := b) (e := e) (by omega) (by omega) rfl
          have hbx2 : OwnB (K2.put nb ⟨((T.mapIdx fun i r => Value.slice (some ⟨bs.getD i 0, 0, none⟩) r.length 1).set r (.slice (some ⟨bs.getD b 0, 0, none⟩) (T.getD b []).length 1)).set b (.slice (some ⟨bs.getD r 0, 0, none⟩) (T.getD r []).length 1), e, false, false⟩) bx [I64 c] true := OwnB.put_ne ⟨eb, hgb⟩ (by omega)
          have nlt := so.lo0.2
          have sp1 : splice (T.mapIdx fun i r => Value.slice (some ⟨bs.getD i 0, 0, none⟩) r.length 1) r [.slice (some ⟨bs.getD b 0, 0, none⟩) (T.getD b []).length 1] = (T.mapIdx fun i r => Value.slice (some ⟨bs.getD i 0, 0, none⟩) r.length 1).set r (.slice (some ⟨bs.getD b 0, 0, none⟩) (T.getD b []).length 1) := splice_set (by rw [List.length_mapIdx]; omega)
          have sp2 : splice ((T.mapIdx fun i r => Value.slice (some ⟨bs.getD i 0, 0, none⟩) r.length 1).set r (.slice (some ⟨bs.getD b 0, 0, none⟩) (T.getD b []).length 1)) b [.slice (some ⟨bs.getD r 0, 0, none⟩) (T.getD r []).length 1] = _ := splice_set (by rw [List.length_set, List.length_mapIdx]; omega)
          have t1l : (swapped T r b).length = rows.length := by rw [swapped_len, hT]
          have t1r : (swapped T r b).getD r [] = T.getD b [] := by rw [swapped_get (by omega) (by omega), if_pos rfl]
          have g1 := g.swapped (r := r) (i := b) (by omega) (by omega)
          have lb1 : ∀ i, i < rows.length → (swapB bs r b).getD i 0 < bx := fun i hi => by
            rw [swapB_get (by rw [so.len]; omega) (by rw [so.len]; omega)]
            split
            · exact hlb b (by omega)
            · split
              · exact hlb r (by omega)
              · exact hlb i (by omega)
          generalize hT1 : swapped T r b = T1 at *
          generalize hB1 : swapB bs r b = bs1 at *
          have gr := g1 r (by omega)
          have rr1 := sw.rdk (k := r) t1l hrn
          rw [gr.1, rd1_put_same nlt] at rr1
          have rc1 := sw.rdc (k := r) (l := c) (W := W) (by omega) gr.1 (by omega)
          have gb := (g b (by omega)).2 c (by omega)
          have nz : 1 ≤ (T1.getD r []).getD c 0 ∧ (T1.getD r []).getD c 0 < p := by
            rw [t1r]; unfold tb at gb hpne; omega
          try simp (maxSteps := 3000000) (disch := first | omega | (simp only [len_new, len_put, len_kill]; omega)) only [↓xpre, xpost, ↓reduceIte, Nat.reduceEqDiff, Nat.reduceAdd, Nat.reduceSub, Nat.reduceLeDiff, Nat.zero_add, Nat.sub_zero, f0, f5, f8, f9, decide_eq_false (show ¬ (((b - r : Nat) : Int) < 0) by omega), wrap64_in, show ((r : Int) + ((b - r : Nat) : Int)) = (b : Int) by omega, rr.1, rr.2, rb.1, rb.2, wr_of hg, sp1, sp2, List.length_mapIdx, List.length_set, rr1.2, rd1_of hgb, rc1.1, rc1.2]
          refine ⟨by omega, by omega, ?_⟩
          generalize hG : AH.put _ _ _ = G2 at sw hbx2 ⊢
          obtain ⟨eb2, hgb2⟩ := hbx2
          refine i_inverse hp5 nz (invN_is hp nz) ?_
          generalize hiv : invN p ((T1.getD r []).getD c 0) = iv
          have ivb : 1 ≤ iv ∧ iv < p := by have := invN_is hp nz; rw [hiv] at this; exact ⟨this.1, this.2.1⟩
          try simp (maxSteps := 3000000) (disch := first | omega | (simp only [len_new, len_put, len_kill]; omega)) only [↓xpre, xpost, ↓reduceIte, Nat.reduceEqDiff, Nat.reduceAdd, Nat.reduceSub, Nat.reduceLeDiff, Nat.zero_add, Nat.sub_zero, f0, f5, f8, f9, wrap64_in]
          refine WC_loop_inv (fun m f K3 => ∃ (k : Nat), m = rows.length - k ∧ k ≤ rows.length ∧ f 0 = I64 p ∧ f 5 = .slice (some ⟨nb, 0, none⟩) rows.length 1 ∧ f 8 = I64 r ∧ f 9 = .pointer (some ⟨bx, 0, none⟩) ∧ f 11 = I64 iv ∧ f 12 = I64 k ∧ (OwnT h K3 0 nb bs1 (swept p T1 r c k)) ∧ (OwnB K3 bx [I64 c] true) ∧ (r + 1 ≤ k)) ?_ (rows.length - (r+1)) _ _ ⟨(r+1), rfl, by omega, (by first | rfl | exact f0 | (simp [upd_apply]; done)), (by first | rfl | exact f5 | (simp [upd_apply]; done)), (by first | rfl | exact f8 | (simp [upd_apply]; done)), (by first | rfl | exact f9 | (simp [upd_apply]; done)), (by first | rfl | (simp [upd_apply]; done)), (by first | rfl | (simp [upd_apply]; done)), (by rw [swept_start]; exact sw), ⟨_, hgb2⟩, Nat.le_refl _⟩
          rintro m f K3 ⟨k, rfl, hk, f0, f5, f8, f9, f11, f12, sk, hb3, hrk⟩
          clear sw rr1 rc1 hG hgb2
          obtain ⟨eb3, hgb3⟩ := hb3
          try simp (maxSteps := 3000000) (disch := first | omega | (simp only [len_new, len_put, len_kill]; omega)) only [↓xpre, xpost, ↓reduceIte, Nat.reduceEqDiff, Nat.reduceAdd, Nat.reduceSub, Nat.reduceLeDiff, Nat.zero_add, Nat.sub_zero, f0, f5, f8, f9, f11, f12, IfW_dec]
          refine ⟨fun hltk => ?_, fun hgek => ?_⟩
          · have hk' : k < rows.length := by omega
            have ek : (swept p T1 r c k).getD k [] = T1.getD k [] := by rw [swept_get (by omega), if_neg (by omega)]
            have er : (swept p T1 r c k).getD r [] = T1.getD r [] := by rw [swept_get (by omega), if_neg (by omega)]
            have sl0 : (swept p T1 r c k).length = rows.length := by rw [swept_len, t1l]
            have enx : swept p T1 r c (k + 1) = (swept p T1 r c k).set k (rowOp p (T1.getD r []) (T1.getD k []) c) := swept_next (by omega) (by omega)
            have gk := g1 k (by omega)
            have rk := sk.rdk (k := k) sl0 hk'
            have rc := sk.rdc (k := k) (l := c) (W := W) (by omega) (by rw [ek]; exact gk.1) (by omega)
            rw [ek, gk.1] at rk
            rw [ek] at rc
            have gkc := gk.2 c (by omega)
            have bm := mul_in (a := (T1.getD k []).getD c 0) (b := iv) (A := 5) (B := 5) (by unfold tb at gkc; omega) (by omega)
            generalize hsd : ((T1.getD k []).getD c 0 * iv).tmod p = sN
            have sb : 0 ≤ sN ∧ sN < p := by rw [← hsd]; exact tmod_nn bm.1 (by omega)
            try simp (maxSteps := 3000000) (disch := first | omega | (simp only [len_new, len_put, len_kill]; omega)) only [↓xpre, xpost, ↓reduceIte, Nat.reduceEqDiff, Nat.reduceAdd, Nat.reduceSub, Nat.reduceLeDiff, Nat.zero_add, Nat.sub_zero, f0, f5, f8, f9, f11, f12, rk.1, rk.2, rd1_of hgb3, rc.1, rc.2, wrap64_in, bin_rem, hsd]
            obtain ⟨G, hGx⟩ : ∃ G : Nat → Int, ∀ x, G x = md p ((T1.getD k []).getD x 0 - sN * (T1.getD r []).getD x 0) := ⟨_, fun _ => rfl⟩
            refine WC_loop_inv (fun m f K4 => ∃ (l : Nat), m = W - l ∧ l ≤ W ∧ f 0 = I64 p ∧ f 5 = .slice (some ⟨nb, 0, none⟩) rows.length 1 ∧ f 8 = I64 r ∧ f 9 = .pointer (some ⟨bx, 0, none⟩) ∧ f 11 = I64 iv ∧ f 12 = I64 k ∧ f 13 = I64 sN ∧ f 99 = I64 W ∧ f 100 = I64 l ∧ (OwnT h K4 0 nb bs1 ((swept p T1 r c k).set k (mixed G (T1.getD k []) l))) ∧ (OwnB K4 bx [I64 c] true)) ?_ (W - 0) _ _ ⟨0, rfl, by omega, (by first | rfl | exact f0 | (simp [upd_apply]; done)), (by first | rfl | exact f5 | (simp [upd_apply]; done)), (by first | rfl | exact f8 | (simp [upd_apply]; done)), (by first | rfl | exact f9 | (simp [upd_apply]; done)), (by first | rfl | exact f11 | (simp [upd_apply]; done)), (by first | rfl | exact f12 | (simp [upd_apply]; done)), (by first | rfl | (simp [upd_apply]; done)), (by first | rfl | (simp [upd_apply]; done)), (by first | rfl | (simp [upd_apply]; done)), (by rw [mixed_zero, ← ek, set_self (by omega)]; exact sk), ⟨_, hgb3⟩⟩
            rintro m f K4 ⟨l, rfl, hl, f0, f5, f8, f9, f11, f12, f13, f99, f100, sl, hb4⟩
            try simp (maxSteps := 3000000) (disch := first | omega | (simp only [len_new, len_put, len_kill]; omega)) only [↓xpre, xpost, ↓reduceIte, Nat.reduceEqDiff, Nat.reduceAdd, Nat.reduceSub, Nat.reduceLeDiff, Nat.zero_add, Nat.sub_zero, f0, f5, f8, f9, f11, f12, f13, f99, f100, IfW_dec]
            refine ⟨fun hltl => ?_, fun hgel => ?_⟩
            · have hl' : l < W := by omega
              have ek4 : ((swept p T1 r c k).set k (mixed G (T1.getD k []) l)).getD k [] = mixed G (T1.getD k []) l := by rw [set_getD' (by omega), if_pos rfl]
              have er4 : ((swept p T1 r c k).set k (mixed G (T1.getD k []) l)).getD r [] = T1.getD r [] := by rw [set_getD' (by omega), if_neg (by omega), er]
              have ml : (mixed G (T1.getD k []) l).length = W := by rw [mixed_len, gk.1]
              have sll : ((swept p T1 r c k).set k (mixed G (T1.getD k []) l)).length = rows.length := by rw [List.length_set, sl0]
              have rk4 := sl.rdk (k := k) sll hk'
              have rr4 := sl.rdk (k := r) sll hrn
              have rkc := sl.rdc (k := k) (l := l) (W := W) (by omega) (by rw [ek4, ml]) hl'
              have rrc := sl.rdc (k := r) (l := l) (W := W) (by omega) (by rw [er4]; exact gr.1) hl'
              rw [ek4, ml] at rk4
              rw [er4, gr.1] at rr4
              rw [ek4, mixed_get (by rw [gk.1]; exact hl') (Nat.le_refl _)] at rkc
              rw [er4] at rrc
              have b1 := gk.2 l hl'
              have b2 := gr.2 l hl'
              unfold tb at b1 b2
              have b3 := mul_in (a := sN) (b := (T1.getD r []).getD l 0) (A := 5) (B := 5) (by omega) (by omega)
              have b4 := tmod_bound (x := (T1.getD k []).getD l 0 - sN * (T1.getD r []).getD l 0) hp5.1
              have b5 := hGx l
              unfold md at b5
              obtain ⟨e4, hg4⟩ := (sl.rows k (by omega)).2
              have sc := sl.cell (k := k) (l := l) (x := G l) (by omega) (by rw [ek4, ml]; exact hl') (e := e4) hg4
              rw [ek4] at hg4 sc
              rw [List.set_set, mixed_next (by rw [gk.1]; exact hl')] at sc
              have hm : splice ((mixed G (T1.getD k []) l).map (Value.int .i64)) l [I64 (G l)] = (mixed G (T1.getD k []) (l + 1)).map (Value.int .i64) := by rw [splice_set (by rw [List.length_map, ml]; exact hl'), ← mixed_next (by rw [gk.1]; exact hl'), List.map_set]
              have ne4 := lb1 k hk'
              try simp (maxSteps := 3000000) (disch := first | omega | (simp only [len_new, len_put, len_kill]; omega)) only [↓xpre, xpost, ↓reduceIte, Nat.reduceEqDiff, Nat.reduceAdd, Nat.reduceSub, Nat.reduceLeDiff, Nat.zero_add, Nat.sub_zero, f0, f5, f8, f9, f11, f12, f13, f99, f100, rk4.1, rk4.2, rr4.1, rr4.2, rkc.1, rkc.2, rrc.1, rrc.2, wrap64_in, bin_rem, ← b5, wr_of hg4, splice_set, List.length_map, ml, hm]
              refine ⟨by omega, ?_⟩
              refine InvQ_go (W - (l + 1)) (by omega) ⟨(l + 1), rfl, by omega, (by first | rfl | exact f0 | (simp only [upd_apply]; rfl) | (show I64 _ = _; congr 1; omega)), (by first | rfl | exact f5 | (simp only [upd_apply]; rfl) | (show I64 _ = _; congr 1; omega)), (by first | rfl | exact f8 | (simp only [upd_apply]; rfl) | (show I64 _ = _; congr 1; omega)), (by first | rfl | exact f9 | (simp only [upd_apply]; rfl) | (show I64 _ = _; congr 1; omega)), (by first | rfl | exact f11 | (simp only [upd_apply]; rfl) | (show I64 _ = _; congr 1; omega)), (by first | rfl | exact f12 | (simp only [upd_apply]; rfl) | (show I64 _ = _; congr 1; omega)), (by first | rfl | exact f13 | (simp only [upd_apply]; rfl) | (show I64 _ = _; congr 1; omega)), (by first | rfl | exact f99 | (simp only [upd_apply]; rfl) | (show I64 _ = _; congr 1; omega)), (by first | rfl | exact f100 | (simp only [upd_apply]; rfl) | (show I64 _ = _; congr 1; omega)), sc, (hb4.put_ne (by omega))⟩
            · have e : l = W := by omega
              subst e
              have em : mixed G (T1.getD k []) l = rowOp p (T1.getD r []) (T1.getD k []) c := by
                have q := mixed_full (g := G) (row := T1.getD k [])
                rw [gk.1] at q
                rw [q]
                unfold rowOp
                rw [gk.1]
                exact gen_congr fun x _ => by rw [hGx, hiv, hsd]
              rw [em, ← enx] at sl
              try simp (maxSteps := 3000000) (disch := first | omega | (simp only [len_new, len_put, len_kill]; omega)) only [↓xpre, xpost, ↓reduceIte, Nat.reduceEqDiff, Nat.reduceAdd, Nat.reduceSub, Nat.reduceLeDiff, Nat.zero_add, Nat.sub_zero, f0, f5, f8, f9, f11, f12, f13, f99, f100, wrap64_in]
              refine InvQ_go (rows.length - (k + 1)) (by omega) ⟨(k + 1), rfl, by omega, (by first | rfl | exact f0 | (simp only [upd_apply]; rfl) | (show I64 _ = _; congr 1; omega)), (by first | rfl | exact f5 | (simp only [upd_apply]; rfl) | (show I64 _ = _; congr 1; omega)), (by first | rfl | exact f8 | (simp only [upd_apply]; rfl) | (show I64 _ = _; congr 1; omega)), (by first | rfl | exact f9 | (simp only [upd_apply]; rfl) | (show I64 _ = _; congr 1; omega)), (by first | rfl | exact f11 | (simp only [upd_apply]; rfl) | (show I64 _ = _; congr 1; omega)), (by first | rfl | exact f12 | (simp only [upd_apply]; rfl) | (show I64 _ = _; congr 1; omega)), sl, hb4, (by omega)⟩
          · have e : k = rows.length := by omega
            subst e
            try simp (maxSteps := 3000000) (disch := first | omega | (simp only [len_new, len_put, len_kill]; omega)) only [↓xpre, xpost, ↓reduceIte, Nat.reduceEqDiff, Nat.reduceAdd, Nat.reduceSub, Nat.reduceLeDiff, Nat.zero_add, Nat.sub_zero, f0, f5, f8, f9, f11, f12, rd1_of hgb3, wrap64_in]
            refine InvQ_go (W - (c + 1)) (by omega) ⟨(c + 1), (r + 1), bs1, (swept p T1 r c rows.length), K3.length, rfl, by omega, (by first | rfl | exact f0 | (simp only [upd_apply]; rfl) | (show I64 _ = _; congr 1; omega)), (by first | rfl | exact f5 | (simp only [upd_apply]; rfl) | (show I64 _ = _; congr 1; omega)), (by first | rfl | exact f8 | (simp only [upd_apply]; rfl) | (show I64 _ = _; congr 1; omega)), (by first | rfl | exact f9 | (simp only [upd_apply]; rfl) | (show I64 _ = _; congr 1; omega)), (sk.pre (pre_new (List.prefix_refl _))), ⟨_, get_new_same⟩, sk.lo0.2, (fun i hi => (sk.rows i hi).2.lt), (by omega), (by rw [swept_len, t1l]), (g1.swept hp5.1), ?_⟩
            rw [← hel, show W - c = (W - (c + 1)) + 1 by omega]
            conv => rhs; unfold elim
            rw [hcs]
    · have : c = W := by omega
      subst this
      try simp (maxSteps := 3000000) (disch := first | omega | (simp only [len_new, len_put, len_kill]; omega)) only [↓xpre, xpost, ↓reduceIte, Nat.reduceEqDiff, Nat.reduceAdd, Nat.reduceSub, Nat.reduceLeDiff, Nat.zero_add, Nat.sub_zero, f0, f5, f8, f9]
      have := hQ _ so.hp
      rw [← hel] at this
      simpa [elim] using this
end Go.Proofs.Ytilpnbejpndgpaa.X

/- Tables under way: rows in blocks of their own, appended one by one. Tensors turned some times. -/
set_option linter.unusedVariables false
set_option linter.unusedSimpArgs false
set_option maxRecDepth 20000
set_option maxHeartbeats 4000000
namespace Go.Proofs.Ytilpnbejpndgpaa.X
open Go Go.RowKit

structure TabS (h0 h : AH) (nb : Nat) (full : Bool) (L : List (Nat × List Int)) : Prop where
  hp : h0 <+: h
  lo : h0.length ≤ nb
  g : h.get nb = some ⟨L.map rowV, 22, false, full⟩
  rows : ∀ p, p ∈ L → (h0.length ≤ p.1 ∧ p.1 ≠ nb) ∧ ∃ fu, OwnB h p.1 (p.2.map (Value.int .i64)) fu
  dist : L.Pairwise (fun p q => p.1 ≠ q.1)
theorem TabS.lt {h0 h : AH} {nb : Nat} {full : Bool} {L : List (Nat × List Int)} (s : TabS h0 h nb full L) : nb < h.length ∧ ∀ p, p ∈ L → p.1 < h.length :=
  ⟨get_lt s.g, fun p hp => (s.rows p hp).2.choose_spec.lt⟩
theorem TabS.pre {h0 h h' : AH} {nb : Nat} {full : Bool} {L : List (Nat × List Int)} (s : TabS h0 h nb full L) (p : h <+: h') : TabS h0 h' nb full L :=
  ⟨s.hp.trans p, s.lo, pre_get p s.g, fun q hq => ⟨(s.rows q hq).1, by obtain ⟨fu, o⟩ := (s.rows q hq).2; exact ⟨fu, o.pre p⟩⟩, s.dist⟩
theorem TabS.keeps {h0 h h' : AH} {nb lo : Nat} {full : Bool} {L : List (Nat × List Int)} (s : TabS h0 h nb full L) (k : Keeps lo h h') (hh : h0 <+: h') (h1 : nb < lo) (h2 : ∀ p, p ∈ L → p.1 < lo) : TabS h0 h' nb full L :=
  ⟨hh, s.lo, k.2 _ _ h1 s.g, fun q hq => ⟨(s.rows q hq).1, by obtain ⟨fu, e, o⟩ := (s.rows q hq).2; exact ⟨fu, e, k.2 _ _ (h2 q hq) o⟩⟩, s.dist⟩
theorem TabS.app {h0 h2 : AH} {nb n : Nat} {full fu fw : Bool} {L : List (Nat × List Int)} {r : List Int} {e : TypeId} (s : TabS h0 h2 nb full L) (hn : h0.length ≤ n ∧ n ≠ nb ∧ ∀ p, p ∈ L → p.1 ≠ n) (ob : OwnB h2 n (r.map (Value.int .i64)) fw)
    (hl : (L.length : Int) ≤ 1048576) {Q : Value → AH → Prop}
    (hQ : ∀ nb' H', TabS h0 H' nb' false (L ++ [(n, r)]) → Q (.slice (some ⟨nb', 0, none⟩) (L ++ [(n, r)]).length 1) H') :
    OQ (appV 22 1 24 (.slice (some ⟨nb, 0, none⟩) L.length 1) (.slice (some ⟨h2.length, 0, none⟩) 1 1) (h2.new ⟨[.slice (some ⟨n, 0, none⟩) r.length 1], e, false, fu⟩)) Q := by
  have hrd : (h2.new ⟨[.slice (some ⟨n, 0, none⟩) r.length 1], e, false, fu⟩).rdn h2.length 0 1 = some [.slice (some ⟨n, 0, none⟩) r.length 1] := by rw [rdn_new_same]; rfl
  have hk : (h2.new ⟨[.slice (some ⟨n, 0, none⟩) r.length 1], e, false, fu⟩).get nb = some ⟨L.map rowV, 22, false, full⟩ := get_new_any s.g
  have l1 := get_lt s.g
  have l3 := ob.lt
  have l0 := pre_len s.hp
  rw [app_own hk (by simp) hrd (by omega), OQ_some]
  have key : TabS h0 (((h2.new ⟨[.slice (some ⟨n, 0, none⟩) r.length 1], e, false, fu⟩).kill nb).new ⟨L.map rowV ++ [.slice (some ⟨n, 0, none⟩) r.length 1], 22, false, false⟩) (h2.new ⟨[.slice (some ⟨n, 0, none⟩) r.length 1], e, false, fu⟩).length false (L ++ [(n, r)]) := by
    refine ⟨pre_new (pre_kill (pre_new s.hp) s.lo), by rw [len_new]; omega, ?_, fun q hq => ?_, ?_⟩
    · rw [get_new_eq (by rw [len_kill])]
      simp [rowV]
    · rw [len_new]
      rcases List.mem_append.1 hq with hq | hq
      · have a := s.rows q hq
        obtain ⟨fa, oa⟩ := a.2
        have := oa.lt
        exact ⟨⟨a.1.1, by omega⟩, fa, (oa.new.kill_ne (fun e => a.1.2 e.symm)).new⟩
      · rw [List.mem_singleton] at hq
        subst hq
        exact ⟨⟨hn.1, show n ≠ h2.length + 1 by omega⟩, fw, (ob.new.kill_ne (fun e => hn.2.1 e.symm)).new⟩
    · rw [List.pairwise_append]
      refine ⟨s.dist, by simp, fun a ha b hb => ?_⟩
      rw [List.mem_singleton] at hb
      subst hb
      exact hn.2.2 a ha
  have := hQ _ _ key
  rw [List.length_append, List.length_singleton] at this
  exact this
theorem TabS.own {h0 h : AH} {nb : Nat} {full : Bool} {L : List (Nat × List Int)} (s : TabS h0 h nb full L) : OwnRows h0 h (.slice (some ⟨nb, 0, none⟩) L.length 1) (L.map Prod.snd) := by
  have ei : ∀ i, (hi : i < L.length) → (L.map rowV).getD i undef = rowV (L[i]) ∧ (L.map Prod.snd).getD i [] = (L[i]).2 := fun i hi => ⟨by simp [List.getD_eq_getElem?_getD, hi], by simp [List.getD_eq_getElem?_getD, hi]⟩
  refine .inr ⟨nb, _, full, L.map rowV, s.lo, by rw [List.length_map], s.g, by simp, fun i hi => ?_, fun i j hij hj b hb => ?_⟩
  · have hi' : i < L.length := by simpa using hi
    obtain ⟨e1, e2⟩ := ei i hi'
    have a := s.rows _ (List.getElem_mem hi')
    obtain ⟨fu, e, o⟩ := a.2
    rw [e1, e2]
    refine ⟨.inr ⟨_, e, fu, a.1.1, rfl, o⟩, fun q => a.1.2 ?_⟩
    simpa [rowV, blkOf] using q
  · have hj' : j < L.length := by simpa using hj
    rw [(ei i (by omega)).1] at hb
    rw [(ei j hj').1]
    have := List.pairwise_iff_getElem.1 s.dist i j (by omega) hj' hij
    simp only [rowV, blkOf, Option.some.injEq] at hb ⊢
    exact fun e => this (hb.trans (Option.some.inj e).symm)

/-! ### Turned tensors -/
theorem TF.turned {t : Ten} (f : TF t) : TF (turnT t) := by
  have jk := mul_in1 (A := 9) (B := 9) f.j f.k
  have jki := mul_in1 (A := 81) (B := 9) jk f.i
  have hl : (((turnT t).ns.length : Nat) : Int) = t.j * t.k * t.i := by
    show ((gen _ _).length : Int) = _
    rw [gen_len]
    omega
  refine ⟨f.p, f.j, f.k, f.i, hl, fun x h0 hx => ?_, jk, jki⟩
  rw [hl] at hx
  have h1 : nth (turnT t).ns x = turnG t x.toNat := by
    show (gen _ _).getD _ 0 = _
    exact gen_get (by omega)
  have h := places (n := x) (i := t.j) (j := t.k) (k := t.i) (by omega) f.k.1 f.i.1
  rw [h1]
  unfold turnG
  rw [show ((x.toNat : Nat) : Int) = x by omega]
  exact tat_in f h.2.2 h.1 h.2.1
def turnN : Nat → Ten → Ten
  | 0, t => t
  | n + 1, t => turnN n (turnT t)
theorem TF.turnN : ∀ {n : Nat} {t : Ten}, TF t → TF (turnN n t)
  | 0, _, f => f
  | n + 1, _, f => TF.turnN (n := n) f.turned
theorem turnN_p : ∀ {n : Nat} {t : Ten}, (turnN n t).p = t.p
  | 0, _ => rfl
  | n + 1, t => turnN_p (n := n) (t := turnT t)
theorem TF.le {t : Ten} (f : TF t) : (t.ns.length : Int) ≤ 1048576 := by
  have := f.len
  have := f.ijk
  omega
theorem i_turned {v : Value} {t : Ten} {k : Nat} {h : AH} {Q : Value → AH → Prop} (hv : Ints h v t.ns) (f : TF t) (hk : k ≤ 2)
    (hQ : ∀ v' h', h <+: h' → Ints h' v' (turnN k t).ns → Q (tenV (turnN k t) v') h') : WF S 147 [tenV t v, I64 k] h Q := by
  refine WF_fn (fn := c147) rfl rfl ?_
  unfold c147
  try simp (maxSteps := 3000000) (disch := first | omega | (simp only [len_new, len_put, len_kill]; omega)) only [↓xpre, xpost, ↓reduceIte, Nat.reduceEqDiff, Nat.reduceAdd, Nat.reduceSub, Nat.reduceLeDiff, Nat.zero_add, Nat.sub_zero, tenV, hv.one]
  generalize hH1 : AH.new h _ = H1
  obtain ⟨hb1, p1, n1⟩ := new_facts hH1
  generalize hH2 : AH.new H1 _ = H2
  obtain ⟨hb2, p2, n2⟩ := new_facts hH2
  rw [n1] at hb2
  rw [n1]
  have hlt := hv.lt
  refine WC_loop_inv (fun m f K1 => ∃ (j : Nat) (u : Ten) (w : Value), m = k - j ∧ j ≤ k ∧ f 5 = I64 k ∧ f 6 = I64 j ∧ f 2 = .pointer (some ⟨h.length, 0, none⟩) ∧ f 4 = .pointer (some ⟨h.length + 1, 0, none⟩) ∧ (h <+: K1) ∧ (OwnB K1 h.length [I64 u.p, I64 u.i, I64 u.j, I64 u.k, w] true) ∧ (OwnB K1 (h.length + 1) [I64 0, I64 0, I64 0, I64 0, .slice none 0 0] true) ∧ (Ints K1 w u.ns) ∧ (blkOf w ≠ some h.length ∧ blkOf w ≠ some (h.length + 1)) ∧ (TF u) ∧ (turnN (k - j) u = turnN k t)) ?_ (k - 0) _ _ ⟨0, t, v, rfl, by omega, (by first | rfl | (simp [upd_apply]; done)), (by first | rfl | (simp [upd_apply]; done)), (by first | rfl | (simp [upd_apply]; done)), (by first | rfl | (simp [upd_apply]; done)), p1.trans p2, ⟨_, pre_get p2 hb1⟩, ⟨_, hb2⟩, hv.pre (p1.trans p2), ⟨fun e => by have := hlt _ e; omega, fun e => by have := hlt _ e; omega⟩, f, rfl⟩
  rintro m f K1 ⟨j, u, w, rfl, hj, f5, f6, f2, f4, ph, hb, hb4, hw, hne, fu, hn⟩
  obtain ⟨e, hb⟩ := hb
  obtain ⟨e4, hb4⟩ := hb4
  have hlt1 := get_lt hb
  have hlt4 := get_lt hb4
  try simp (maxSteps := 3000000) (disch := first | omega | (simp only [len_new, len_put, len_kill]; omega)) only [↓xpre, xpost, ↓reduceIte, Nat.reduceEqDiff, Nat.reduceAdd, Nat.reduceSub, Nat.reduceLeDiff, Nat.zero_add, Nat.sub_zero, f5, f6, f2, f4, IfW_dec]
  refine ⟨fun hlt => ?_, fun hge => ?_⟩
  · try simp (maxSteps := 3000000) (disch := first | omega | (simp only [len_new, len_put, len_kill]; omega)) only [↓xpre, xpost, ↓reduceIte, Nat.reduceEqDiff, Nat.reduceAdd, Nat.reduceSub, Nat.reduceLeDiff, Nat.zero_add, Nat.sub_zero, f5, f6, f2, f4, rdn_of hb]
    refine i_turn hw fu fun w' H p o => ?_
    have hb' := pre_get p hb
    have pl := pre_len p
    try simp (maxSteps := 3000000) (disch := first | omega | (simp only [len_new, len_put, len_kill]; omega)) only [↓xpre, xpost, ↓reduceIte, Nat.reduceEqDiff, Nat.reduceAdd, Nat.reduceSub, Nat.reduceLeDiff, Nat.zero_add, Nat.sub_zero, f5, f6, f2, f4, tenV, o.ints.one, wr_of hb', wrap64_in]
    have bk := o.blk
    refine InvQ_go (k - (j + 1)) (by omega) ⟨(j + 1), (turnT u), w', rfl, by omega, (by first | rfl | exact f5 | (simp only [upd_apply]; rfl) | (show I64 _ = _; congr 1; omega)), (by first | rfl | exact f6 | (simp only [upd_apply]; rfl) | (show I64 _ = _; congr 1; omega)), (by first | rfl | exact f2 | (simp only [upd_apply]; rfl) | (show I64 _ = _; congr 1; omega)), (by first | rfl | exact f4 | (simp only [upd_apply]; rfl) | (show I64 _ = _; congr 1; omega)), (pre_put (ph.trans p) (Nat.le_refl _)), ⟨_, get_put_same (get_lt hb')⟩, ⟨_, by rw [get_put_ne (by omega)]; exact pre_get p hb4⟩, (o.put_ne (by omega)).ints, ⟨fun e => by have := bk _ e; omega, fun e => by have := bk _ e; omega⟩, fu.turned, ?_⟩
    rw [← hn, show k - j = (k - (j + 1)) + 1 by omega]
    rfl
  · have ej : k - j = 0 := by omega
    rw [ej] at hn
    have hn' : u = turnN k t := hn
    subst hn'
    try simp (maxSteps := 3000000) (disch := first | omega | (simp only [len_new, len_put, len_kill]; omega)) only [↓xpre, xpost, ↓reduceIte, Nat.reduceEqDiff, Nat.reduceAdd, Nat.reduceSub, Nat.reduceLeDiff, Nat.zero_add, Nat.sub_zero, f5, f6, f2, f4, rdn_of hb, tenV, hw.one, wr_of hb4]
    exact hQ w _ (pre_put ph (by omega)) (hw.put_ne hne.2)
end Go.Proofs.Ytilpnbejpndgpaa.X

/- Indices of arrays; parts of lists; slices of tensors. -/
set_option linter.unusedVariables false
set_option linter.unusedSimpArgs false
set_option maxRecDepth 20000
set_option maxHeartbeats 4000000
namespace Go.Proofs.Ytilpnbejpndgpaa.X
open Go Go.RowKit

def ixaV (len sz : Nat) (x i : Value) : Option Value := match x, i with
  | .pointer (some ⟨n, off, _⟩), .int _ j => if 0 ≤ j ∧ j < len then some (.pointer (some ⟨n, off + j.toNat * sz, none⟩)) else none
  | _, _ => none
def idx1V (len : Nat) (x i : Value) : Option Value := match x, i with
  | .agg cs, .int _ j => if 0 ≤ j ∧ j < len then cs.toList[j.toNat]? else none
  | _, _ => none
def idxnV (len sz : Nat) (x i : Value) : Option Value := match x, i with
  | .agg cs, .int _ j => if 0 ≤ j ∧ j < len ∧ j.toNat * sz + sz ≤ cs.toList.length then some (.agg ((cs.toList.drop (j.toNat * sz)).take sz).toArray) else none
  | _, _ => none
theorem WX_of {S : XS} {o : XOp} {f : Fr} {h : AH} {Q : Value → AH → Prop} {r : Option Value} (ho : ∀ C, xrun C o f h = xop o f h) (e : xop o f h = r.map (·, h)) : WX S o f h Q = WV r fun v => Q v h := by
  rw [WX_op ho, e]
  cases r <;> simp [OQ_some, WV_some, OQ_none, WV_none]
theorem WX_ixa {S : XS} {f : Fr} {h : AH} {Q : Value → AH → Prop} {n sz : Nat} {x y : Operand} : WX S (.ixa n sz x y) f h Q = WV (ixaV n sz (ev f x) (ev f y)) fun v => Q v h := by
  refine WX_of (fun _ => rfl) ?_
  simp only [xop, ixaV]
  generalize ev f x = a
  generalize ev f y = b
  split
  · dsimp only
    split <;> rfl
  · rename_i q
    split
    · exact absurd rfl (q _ _ _ _ _ rfl)
    · rfl
theorem ixaV_ptr {len sz n off : Nat} {k : IntKind} {j : Int} (h : 0 ≤ j ∧ j < len) : ixaV len sz (.pointer (some ⟨n, off, none⟩)) (.int k j) = some (.pointer (some ⟨n, off + j.toNat * sz, none⟩)) := by
  simp [ixaV, h]
theorem WX_idx1 {S : XS} {f : Fr} {h : AH} {Q : Value → AH → Prop} {n : Nat} {x y : Operand} : WX S (.idx1 n x y) f h Q = WV (idx1V n (ev f x) (ev f y)) fun v => Q v h := by
  refine WX_of (fun _ => rfl) ?_
  simp only [xop, idx1V]
  generalize ev f x = a
  generalize ev f y = b
  split
  · dsimp only
    split
    · rename_i cs _ j _
      cases cs.toList[j.toNat]? <;> rfl
    · rfl
  · rename_i q
    split
    · exact absurd rfl (q _ _ _ rfl)
    · rfl
theorem WX_idxn {S : XS} {f : Fr} {h : AH} {Q : Value → AH → Prop} {n sz : Nat} {x y : Operand} : WX S (.idxn n sz x y) f h Q = WV (idxnV n sz (ev f x) (ev f y)) fun v => Q v h := by
  refine WX_of (fun _ => rfl) ?_
  simp only [xop, idxnV]
  generalize ev f x = a
  generalize ev f y = b
  split
  · dsimp only
    split <;> rfl
  · rename_i q
    split
    · exact absurd rfl (q _ _ _ rfl)
    · rfl

/-! ### Parts -/
def parts (ns : List Int) (w n : Nat) : List (List Int) := (List.range n).map fun i => (ns.drop (i * w)).take w
theorem parts_len {ns : List Int} {w n : Nat} : (parts ns w n).length = n := by simp [parts]
theorem parts_get {ns : List Int} {w n i : Nat} (hi : i < n) : (parts ns w n).getD i [] = (ns.drop (i * w)).take w := by
  simp [parts, List.getD_eq_getElem?_getD, List.getElem?_map, List.getElem?_range hi]
theorem take_next {α : Type} {d : α} {l : List α} {i : Nat} (hi : i < l.length) : l.take (i + 1) = l.take i ++ [l.getD i d] := by
  rw [List.take_succ_eq_append_getElem hi]
  simp [List.getD_eq_getElem?_getD, hi]
theorem OwnRows.lo {h0 h1 h : AH} {v : Value} {rows : List (List Int)} (o : OwnRows h0 h v rows) (p : h1.length ≤ h0.length) : OwnRows h1 h v rows := by
  rcases o with ⟨rfl, rfl⟩ | ⟨n, e, full, cs, h1, rfl, h2, h3, h4, h5⟩
  · exact .inl ⟨rfl, rfl⟩
  · exact .inr ⟨n, e, full, cs, by omega, rfl, h2, h3, fun i hi => ⟨(h4 i hi).1.lo p, (h4 i hi).2⟩, h5⟩
theorem mul_row {i n w : Nat} (hi : i < n) : i * w + w ≤ n * w := by
  have := Nat.mul_le_mul_right w (show i + 1 ≤ n by omega)
  rw [Nat.succ_mul] at this
  exact this

theorem i_parted {v : Value} {ns : List Int} {w n : Nat} {h : AH} {Q : Value → AH → Prop} (hv : Ints h v ns) (hl : (ns.length : Int) ≤ 1048576) (hw : 1 ≤ w) (hn : ns.length = n * w)
    (hQ : ∀ v' h', h <+: h' → OwnRows h h' v' (parts ns w n) → Q v' h') : WF S 103 [v, I64 w] h Q := by
  refine WF_fn (fn := c103) rfl rfl ?_
  unfold c103
  try simp (maxSteps := 3000000) (disch := first | omega | (simp only [len_new, len_put, len_kill]; omega)) only [↓xpre, xpost, ↓reduceIte, Nat.reduceEqDiff, Nat.reduceAdd, Nat.reduceSub, Nat.reduceLeDiff, Nat.zero_add, Nat.sub_zero, fillL, zrep]
  generalize hH1 : AH.new h _ = H1
  obtain ⟨hb1, p1, n1⟩ := new_facts hH1
  have st0 : TabS h H1 h.length true [] := ⟨p1, Nat.le_refl _, hb1, by simp, by simp⟩
  have hnw : n ≤ n * w := Nat.le_mul_of_pos_right _ (by omega)
  refine WC_loop_inv (fun m f K1 => ∃ (i : Nat) (nb : Nat) (full : Bool) (L : List (Nat × List Int)), m = n - i ∧ i ≤ n ∧ f 0 = v ∧ f 1 = I64 w ∧ f 5 = .slice (some ⟨nb, 0, none⟩) L.length 1 ∧ f 6 = I64 ((i * w : Nat) : Int) ∧ (TabS h K1 nb full L) ∧ (L.map Prod.snd = (parts ns w n).take i)) ?_ (n - 0) _ _ ⟨0, h.length, true, [], rfl, by omega, (by first | rfl | (simp [upd_apply]; done)), (by first | rfl | (simp [upd_apply]; done)), (by first | rfl | (simp [upd_apply]; done)), (by first | rfl | (simp [upd_apply]; done)), st0, (by simp)⟩
  rintro m f K1 ⟨i, nb, full, L, rfl, hi, f0, f1, f5, f6, st, hL⟩
  have hLl : L.length = i := by
    have := congrArg List.length hL
    rw [List.length_map, List.length_take, parts_len] at this
    omega
  have hvK := hv.pre st.hp
  try simp (maxSteps := 3000000) (disch := first | omega | (simp only [len_new, len_put, len_kill]; omega)) only [↓xpre, xpost, ↓reduceIte, Nat.reduceEqDiff, Nat.reduceAdd, Nat.reduceSub, Nat.reduceLeDiff, Nat.zero_add, Nat.sub_zero, f0, f1, f5, f6, hvK.len, IfW_dec]
  refine ⟨fun hlt => ?_, fun hge => ?_⟩
  · have hi' : i < n := by
      apply Decidable.byContradiction
      intro hc
      have : i = n := by omega
      subst this
      omega
    have hrow := mul_row (w := w) hi'
    obtain ⟨v', e1, e2⟩ := hvK.slcV (k1 := .i64) (k2 := .i64) (l := ((i * w : Nat) : Int)) (u := ((i * w : Nat) : Int) + (w : Int)) (by omega)
    rw [Int.toNat_natCast, show (((i * w : Nat) : Int) + (w : Int) - ((i * w : Nat) : Int)).toNat = w by omega] at e2
    have rl : ((ns.drop (i * w)).take w).length = w := by rw [List.length_take, List.length_drop]; omega
    try simp (maxSteps := 3000000) (disch := first | omega | (simp only [len_new, len_put, len_kill]; omega)) only [↓xpre, xpost, ↓reduceIte, Nat.reduceEqDiff, Nat.reduceAdd, Nat.reduceSub, Nat.reduceLeDiff, Nat.zero_add, Nat.sub_zero, f0, f1, f5, f6, wrap64_in, ↓WX_slc, omapF_some, omapF_none, e1]
    refine i_CloneB e2 (by omega) (by omega) fun n' h2 hn' p2 ob => ?_
    try simp (maxSteps := 3000000) (disch := first | omega | (simp only [len_new, len_put, len_kill]; omega)) only [↓xpre, xpost, ↓reduceIte, Nat.reduceEqDiff, Nat.reduceAdd, Nat.reduceSub, Nat.reduceLeDiff, Nat.zero_add, Nat.sub_zero, f0, f1, f5, f6, fillL, zrep]
    have lt := st.lt
    refine (st.pre p2).app ⟨by have := pre_len st.hp; omega, by omega, fun p hp => by have := lt.2 p hp; omega⟩ ob (by omega) fun nb' H' st' => ?_
    try simp (maxSteps := 3000000) (disch := first | omega | (simp only [len_new, len_put, len_kill]; omega)) only [↓xpre, xpost, ↓reduceIte, Nat.reduceEqDiff, Nat.reduceAdd, Nat.reduceSub, Nat.reduceLeDiff, Nat.zero_add, Nat.sub_zero, f0, f1, f5, f6, wrap64_in]
    refine InvQ_go (n - (i + 1)) (by omega) ⟨(i + 1), nb', false, (L ++ [(n', (ns.drop (i * w)).take w)]), rfl, by omega, (by first | rfl | exact f0 | (simp only [upd_apply]; rfl) | (show I64 _ = _; congr 1; omega)), (by first | rfl | exact f1 | (simp only [upd_apply]; rfl) | (show I64 _ = _; congr 1; omega)), (by first | rfl | exact f5 | (simp only [upd_apply]; rfl) | (show I64 _ = _; congr 1; omega)), (by show I64 _ = _; rw [Nat.succ_mul]; rfl), st', ?_⟩
    rw [List.map_append, hL, take_next (d := []) (by rw [parts_len]; exact hi'), parts_get hi']
    rfl
  · have e : i = n := by
      apply Decidable.byContradiction
      intro hc
      have := mul_row (w := w) (show i < n by omega)
      omega
    subst e
    rw [List.take_of_length_le (by rw [parts_len]; exact Nat.le_refl _)] at hL
    try simp (maxSteps := 3000000) (disch := first | omega | (simp only [len_new, len_put, len_kill]; omega)) only [↓xpre, xpost, ↓reduceIte, Nat.reduceEqDiff, Nat.reduceAdd, Nat.reduceSub, Nat.reduceLeDiff, Nat.zero_add, Nat.sub_zero, f0, f1, f5, f6]
    have o := st.own
    rw [hL] at o
    exact hQ _ _ st.hp o
end Go.Proofs.Ytilpnbejpndgpaa.X

/- Two tensors; their sum. -/
set_option linter.unusedVariables false
set_option linter.unusedSimpArgs false
set_option maxRecDepth 20000
set_option maxHeartbeats 4000000
namespace Go.Proofs.Ytilpnbejpndgpaa.X
open Go Go.RowKit

def addG (t u : Ten) (c : Int) (n : Nat) : Int := (nth t.ns n + c * nth u.ns n).tmod t.p
def addT (t u : Ten) (c : Int) : Ten := ⟨t.p, t.i, t.j, t.k, gen (t.i * t.j * t.k).toNat (addG t u c)⟩
def addR (t u : Ten) (c : Int) : Ten × Int :=
  if isT t = true ∧ isT u = true then (if t.p = u.p ∧ t.i = u.i ∧ t.j = u.j ∧ t.k = u.k ∧ 0 ≤ c ∧ c < t.p then (addT t u c, 0) else (noT, 2)) else (noT, 1)
theorem tenT_len {t : Ten} {g : Nat → Int} (f : TF t) : (((gen (t.i * t.j * t.k).toNat g).length : Nat) : Int) ≤ 1048576 := by
  have := f.ijk
  rw [gen_len]
  omega
theorem addR_len (t u : Ten) (c : Int) : (((addR t u c).1.ns.length : Nat) : Int) ≤ 1048576 := by
  unfold addR
  split
  · rename_i h
    split
    · exact tenT_len (isT_facts h.1)
    · simp [noT]
  · simp [noT]
theorem add_in {t u : Ten} {c : Int} (f : TF t) (fu : TF u) (e : t.p = u.p) (hc : 0 ≤ c ∧ c < t.p) {n m : Int} (hn : 0 ≤ n ∧ n < t.ns.length) (hm : 0 ≤ m ∧ m < u.ns.length) :
    (0 ≤ nth t.ns n ∧ nth t.ns n ≤ 5) ∧ (0 ≤ c * nth u.ns m ∧ c * nth u.ns m ≤ 25) := by
  have h1 := f.num n hn.1 hn.2
  have h2 := fu.num m hm.1 hm.2
  have h3 := f.p
  have h4 := mul_in (a := c) (b := nth u.ns m) (A := 5) (B := 5) (by omega) (by omega)
  omega

/-- The state of the reference's sum. -/
structure AddS (t u : Ten) (v w : Value) (h0 h : AH) (b8 nb : Nat) (l : List Int) : Prop where
  hp : h0 <+: h
  lo : h0.length + 3 ≤ nb ∧ nb < b8
  g1 : OwnB h h0.length [I64 t.p, I64 t.i, I64 t.j, I64 t.k, v] true
  g2 : OwnB h (h0.length + 1) [I64 u.p, I64 u.i, I64 u.j, I64 u.k, w] true
  g3 : ∃ c, c.length = 5 ∧ OwnB h (h0.length + 2) c true
  g8 : OwnB h b8 [I64 t.p, I64 t.i, I64 t.j, I64 t.k, .slice (some ⟨nb, 0, none⟩) (t.i * t.j * t.k).toNat 1] true
  gn : OwnB h nb (l.map (Value.int .i64)) true

theorem tat_nth {t : Ten} {n : Int} : tat t (n / t.k / t.j) (n / t.k % t.j) (n % t.k) = nth t.ns n := by
  unfold tat
  rw [enc (n / t.k) t.j, enc n t.k]
theorem add_eq {t u : Ten} {c : Int} (he : t.i = u.i ∧ t.j = u.j ∧ t.k = u.k) : tenT t.p t.i t.j t.k (fun i j k => tat t i j k + c * tat u i j k) = addT t u c := by
  unfold tenT addT
  congr 1
  refine gen_congr fun n hn => ?_
  unfold tenG addG
  show (tat t _ _ _ + c * tat u _ _ _).tmod t.p = _
  rw [tat_nth]
  rw [he.2.1, he.2.2, tat_nth]

end Go.Proofs.Ytilpnbejpndgpaa.X

/- Slices and flattenings of tensors. -/
set_option linter.unusedVariables false
set_option linter.unusedSimpArgs false
set_option maxRecDepth 20000
set_option maxHeartbeats 4000000
namespace Go.Proofs.Ytilpnbejpndgpaa.X
open Go Go.RowKit

theorem Keeps.of_pre {lo : Nat} {h h' : AH} (p : h <+: h') : Keeps lo h h' := ⟨pre_len p, fun n b _ hb => pre_get p hb⟩
theorem Keeps.trans {lo : Nat} {h h' h'' : AH} (k : Keeps lo h h') (k' : Keeps lo h' h'') : Keeps lo h h'' := ⟨Nat.le_trans k.1 k'.1, fun n b hn hb => k'.2 n b hn (k.2 n b hn hb)⟩
theorem WayF.pre {h h' : AH} {lo : Nat} {sv : Value} {l : List Int} (w : WayF h lo sv l) (p : h <+: h') : WayF h' lo sv l := by
  obtain ⟨kb, full, e, h1, h2⟩ := w
  exact ⟨kb, full, e, h1, pre_get p h2⟩
def sliceT (u : Ten) (a : Int) : List (List Int) := (List.range u.j.toNat).map fun j : Nat => gen u.k.toNat fun k => tat u a j k
theorem sliceT_len {u : Ten} {a : Int} : (sliceT u a).length = u.j.toNat := by simp [sliceT]
theorem sliceT_get {u : Ten} {a : Int} {j : Nat} (hj : j < u.j.toNat) : (sliceT u a).getD j [] = gen u.k.toNat fun k => tat u a j k := by
  simp [sliceT, List.getD_eq_getElem?_getD, List.getElem?_map, List.getElem?_range hj]

/-- A copy: a block of its own. -/
theorem s_l01Own {v : Value} {ns : List Int} {h : AH} {Q : Value → AH → Prop} (hv : Ints h v ns) (h0 : 0 < ns.length) (hl : (ns.length : Int) ≤ 1048576)
    (hQ : ∀ n h', h.length ≤ n → h <+: h' → OwnB h' n (ns.map (Value.int .i64)) false → Q (.slice (some ⟨n, 0, none⟩) ns.length 1) h') : WF S 113 [v] h Q := by
  refine WF_fn (fn := c113) rfl rfl ?_
  unfold c113
  obtain ⟨n, off, rfl, hr⟩ := hv.vals.rdn (by simpa using h0)
  try simp (maxSteps := 3000000) (disch := first | omega | (simp only [len_new, len_put, len_kill]; omega)) only [↓xpre, xpost, ↓reduceIte, Nat.reduceEqDiff, Nat.reduceAdd, Nat.reduceSub, Nat.reduceLeDiff, Nat.zero_add, Nat.sub_zero, fillL, zrep]
  rw [List.length_map] at hr ⊢
  rw [app_zero get_new_same (show AH.rdn (AH.new h _) n off ns.length = _ by rw [rdn_eq] at hr ⊢; obtain ⟨b, hb, hc⟩ := Option.bind_eq_some_iff.1 hr; rw [get_new_any hb]; exact hc) h0 (by omega)]
  try simp (maxSteps := 3000000) (disch := first | omega | (simp only [len_new, len_put, len_kill]; omega)) only [↓xpre, xpost, ↓reduceIte, Nat.reduceEqDiff, Nat.reduceAdd, Nat.reduceSub, Nat.reduceLeDiff, Nat.zero_add, Nat.sub_zero]
  exact hQ _ _ (by rw [len_new]; omega) (pre_new (pre_kill (pre_new (List.prefix_refl _)) (Nat.le_refl _))) ⟨_, get_new_eq (by rw [len_kill])⟩
end Go.Proofs.Ytilpnbejpndgpaa.X

/- Data of one's own within a range of blocks; what the laws do with them: sizes, copies, comparisons, marks and holds, one form for each kind. -/
set_option linter.unusedVariables false
set_option linter.unusedSimpArgs false
set_option maxRecDepth 20000
set_option maxHeartbeats 4000000
namespace Go.Proofs.Ytilpnbejpndgpaa.X
open Go Go.RowKit

/-- Only blocks within a range change. -/
structure OnlyR (a b : Nat) (h h' : AH) : Prop where
  len : h'.length = h.length
  same : ∀ n, ¬ (a ≤ n ∧ n < b) → h'[n]? = h[n]?
theorem OnlyR.refl (a b : Nat) (h : AH) : OnlyR a b h h := ⟨rfl, fun _ _ => rfl⟩
theorem OnlyR.trans {a b : Nat} {h h' h'' : AH} (w : OnlyR a b h h') (w' : OnlyR a b h' h'') : OnlyR a b h h'' := ⟨w'.len.trans w.len, fun n hn => (w'.same n hn).trans (w.same n hn)⟩
theorem OnlyR.get {a b n : Nat} {h h' : AH} (w : OnlyR a b h h') (hn : ¬ (a ≤ n ∧ n < b)) : h'.get n = h.get n := by
  unfold AH.get
  rw [w.same n hn]
theorem OnlyR.get' {a b n : Nat} {h h' : AH} {c : Blk} (w : OnlyR a b h h') (hb : h.get n = some c) (hn : n < a ∨ b ≤ n) : h'.get n = some c := by
  rw [w.get (by omega)]
  exact hb
theorem OnlyR.pre {a b : Nat} {h0 h h' : AH} (w : OnlyR a b h h') (p : h0 <+: h) (hn : h0.length ≤ a) : h0 <+: h' := by
  rw [List.prefix_iff_getElem?] at p ⊢
  intro i hi
  rw [w.same i (by omega)]
  exact p i hi
theorem Only.range {o : Option Nat} {a b : Nat} {h h' : AH} (w : Only o h h') (hn : ∀ n, o = some n → a ≤ n ∧ n < b) : OnlyR a b h h' := ⟨w.len, fun n q => w.same n (fun e => q (hn n e))⟩

/-! ### Lists of numbers -/
def InS (a b : Nat) (h : AH) (v : Value) (ns : List Int) : Prop :=
  (v = .slice none 0 0 ∧ ns = []) ∨ ∃ n e full, (a ≤ n ∧ n < b) ∧ v = .slice (some ⟨n, 0, none⟩) ns.length 1 ∧ h.get n = some ⟨ns.map (Value.int .i64), e, false, full⟩
section
variable {a b c d : Nat} {h h' h0 : AH} {v : Value} {ns : List Int}
theorem InS.rd (o : InS a b h v ns) : Ints h v ns := by
  rcases o with ⟨rfl, rfl⟩ | ⟨n, e, full, h1, rfl, h2⟩
  · exact .inl ⟨rfl, 0, by omega, rfl⟩
  · exact Ints.own h2 rfl
theorem InS.pre (o : InS a b h v ns) (p : h <+: h') : InS a b h' v ns := by
  rcases o with ⟨rfl, rfl⟩ | ⟨n, e, full, h1, rfl, h2⟩
  · exact .inl ⟨rfl, rfl⟩
  · exact .inr ⟨n, e, full, h1, rfl, pre_get p h2⟩
theorem InS.only (o : InS a b h v ns) (w : OnlyR c d h h') (hd : b ≤ c ∨ d ≤ a) : InS a b h' v ns := by
  rcases o with ⟨rfl, rfl⟩ | ⟨n, e, full, h1, rfl, h2⟩
  · exact .inl ⟨rfl, rfl⟩
  · exact .inr ⟨n, e, full, h1, rfl, w.get' h2 (by omega)⟩
theorem InS.wide (o : InS a b h v ns) (h1 : c ≤ a) (h2 : b ≤ d) : InS c d h v ns := by
  rcases o with ⟨rfl, rfl⟩ | ⟨n, e, full, h1, rfl, h2⟩
  · exact .inl ⟨rfl, rfl⟩
  · exact .inr ⟨n, e, full, by omega, rfl, h2⟩
theorem OwnR.inS (o : OwnR h0 h v ns) : InS h0.length h.length h v ns := by
  rcases o with ⟨rfl, rfl⟩ | ⟨n, e, full, h1, rfl, h2⟩
  · exact .inl ⟨rfl, rfl⟩
  · exact .inr ⟨n, e, full, ⟨h1, get_lt h2⟩, rfl, h2⟩
theorem InS.ownR (o : InS a b h v ns) : OwnR (List.replicate a none) h v ns := by
  rcases o with ⟨rfl, rfl⟩ | ⟨n, e, full, h1, rfl, h2⟩
  · exact .inl ⟨rfl, rfl⟩
  · exact .inr ⟨n, e, full, by simpa using h1.1, rfl, h2⟩
theorem InS.blk (o : InS a b h v ns) : ∀ n, blkOf v = some n → a ≤ n ∧ n < b := by
  rcases o with ⟨rfl, rfl⟩ | ⟨n, e, full, h1, rfl, h2⟩
  · intro n hn; cases hn
  · intro m hm
    cases hm
    exact h1
theorem OwnR.back {k : List (Option Blk)} (o : OwnR k h v ns) (hb : ∀ n, blkOf v = some n → a ≤ n ∧ n < b) : InS a b h v ns := by
  rcases o with ⟨rfl, rfl⟩ | ⟨n, e, full, h1, rfl, h2⟩
  · exact .inl ⟨rfl, rfl⟩
  · exact .inr ⟨n, e, full, hb n rfl, rfl, h2⟩
end
def SmallS (ns : List Int) : Prop := (ns.length : Int) ≤ 1048576
def cntS (ns : List Int) : Int := ns.length
theorem gsz_S {v : Value} {ns : List Int} {n : Int} {h : AH} {Q : Value → AH → Prop} (hv : Ints h v ns) (h0 : 0 ≤ n ∧ n ≤ 1048576) (hl : (ns.length : Int) ≤ 9223372036854775807)
    (hQ : ∀ (m : Int) h', h <+: h' → m ≤ n → (0 ≤ m → SmallS ns) → Q (I64 m) h') : WF S 64 [v, I64 n] h Q :=
  l_szInt64S hv h0 hl fun m h1 h2 => hQ m h (List.prefix_refl _) h1 fun h3 => by have := (h2 h3).1; unfold SmallS; omega
theorem gto_S {v : Value} {ns : List Int} {h : AH} {Q : Value → AH → Prop} (hv : Ints h v ns) (hl : SmallS ns)
    (hQ : ∀ v' h', h <+: h' → InS h.length h'.length h' v' ns → Q v' h') : WF S 36 [v] h Q :=
  l_toInt64S hv hl fun v' h' p o => hQ v' h' p o.ownR.inS
theorem geq_S {v v' : Value} {ns : List Int} {h : AH} {Q : Value → AH → Prop} (hv : Ints h v ns) (hv' : Ints h v' ns) (hl : SmallS ns)
    (hQ : ∀ h', h <+: h' → Q (.bool true) h') : WF S 30 [v, v'] h Q :=
  l_eqInt64S hv hv' hl (by rw [decide_eq_true rfl]; exact hQ h (List.prefix_refl _))
theorem gmark_S {v : Value} {ns : List Int} {k : Int} {a b : Nat} {h : AH} {Q : Value → AH → Prop} (o : InS a b h v ns) (hl : SmallS ns) (hk : 0 ≤ k ∧ k ≤ 1099511627776)
    (hQ : ∀ J h', h <+: J → OnlyR a b J h' → InS a b h' v (marks k ns.length) → Q (I64 (k + cntS ns)) h') : WF S 33 [v, I64 k] h Q :=
  l_markInt64S o.ownR hl hk fun h' w o' => hQ h h' (List.prefix_refl _) (w.range o.blk) (o'.back o.blk)
theorem gheld_S {v : Value} {ns : List Int} {k : Int} {h : AH} {Q : Value → AH → Prop} (hv : Ints h v (marks k ns.length)) (hl : SmallS ns) (hk : 0 ≤ k ∧ k ≤ 1099511627776)
    (hQ : ∀ h', h <+: h' → Q (I64 (k + cntS ns)) h') : WF S 34 [v, I64 k] h Q :=
  l_heldInt64S hv hl hk (hQ h (List.prefix_refl _))

theorem cntS_le {ns : List Int} (h : SmallS ns) : 0 ≤ cntS ns ∧ cntS ns ≤ 1048576 := ⟨Int.natCast_nonneg _, h⟩

/-! ### Tensors -/
theorem gsz_T {v : Value} {t : Ten} {n : Int} {h : AH} {Q : Value → AH → Prop} (hv : Ints h v t.ns) (h0 : 0 ≤ n ∧ n ≤ 1048576) (hl : (t.ns.length : Int) ≤ 9223372036854775807)
    (hQ : ∀ (m : Int) h', h <+: h' → m ≤ n → (0 ≤ m → SmallS t.ns) → Q (I64 m) h') : WF S 15 [tenV t v, I64 n] h Q :=
  l_szTensor hv h0 hl fun m h' p h1 h2 => hQ m h' p h1 fun h3 => by have := (h2 h3).1; unfold SmallS; omega
theorem gto_T {v : Value} {t : Ten} {h : AH} {Q : Value → AH → Prop} (hv : Ints h v t.ns) (hl : SmallS t.ns)
    (hQ : ∀ v' h', h <+: h' → InS h.length h'.length h' v' t.ns → Q (tenV t v') h') : WF S 17 [tenV t v] h Q :=
  l_toTensor hv hl fun v' h' p o => hQ v' h' p o.ownR.inS
theorem geq_T {v v' : Value} {t : Ten} {h : AH} {Q : Value → AH → Prop} (hv : Ints h v t.ns) (hv' : Ints h v' t.ns) (hl : SmallS t.ns)
    (hQ : ∀ h', h <+: h' → Q (.bool true) h') : WF S 19 [tenV t v, tenV t v'] h Q :=
  l_eqTensor hv hv' hl fun h' p => by rw [decide_eq_true rfl]; exact hQ h' p
theorem gmark_T {v : Value} {t : Ten} {k : Int} {a b : Nat} {h : AH} {Q : Value → AH → Prop} (o : InS a b h v t.ns) (hl : SmallS t.ns) (hk : 0 ≤ k ∧ k ≤ 1099511627776)
    (hQ : ∀ J h', h <+: J → OnlyR a b J h' → InS a b h' v (marks k t.ns.length) → Q (I64 (k + cntS t.ns)) h') : WF S 23 [tenV t v, I64 k] h Q :=
  l_markTensor o.ownR hl hk fun J h' p w o' => hQ J h' p (w.range o.blk) (o'.back o.blk)
/-! ### Lists of lists -/
def InM (a b : Nat) (h : AH) (v : Value) (rows : List (List Int)) : Prop :=
  (v = .slice none 0 0 ∧ rows = []) ∨ ∃ n e full cs, (a ≤ n ∧ n < b) ∧ v = .slice (some ⟨n, 0, none⟩) cs.length 1 ∧ h.get n = some ⟨cs, e, false, full⟩ ∧ cs.length = rows.length ∧
    (∀ i, i < rows.length → InS a b h (cs.getD i undef) (rows.getD i []) ∧ blkOf (cs.getD i undef) ≠ some n) ∧
    ∀ i j, i < j → j < rows.length → ∀ q, blkOf (cs.getD i undef) = some q → blkOf (cs.getD j undef) ≠ some q
section
variable {a b c d : Nat} {h h' h0 : AH} {v : Value} {rows : List (List Int)}
theorem InM.rd (o : InM a b h v rows) : Rows h v rows := by
  rcases o with ⟨rfl, rfl⟩ | ⟨n, e, full, cs, h1, rfl, h2, h3, h4, h5⟩
  · exact ⟨[], .inl ⟨rfl, 0, by omega, rfl⟩, rfl, fun i hi => by simp at hi⟩
  · refine ⟨cs, .inr ⟨n, 0, _, rfl, h2, by simp, fun i hi => ?_⟩, h3, fun i hi => (h4 i hi).1.rd⟩
    rw [Nat.zero_add, List.getD_eq_getElem?_getD, List.getElem?_eq_getElem hi]
    rfl
theorem InM.pre (o : InM a b h v rows) (p : h <+: h') : InM a b h' v rows := by
  rcases o with ⟨rfl, rfl⟩ | ⟨n, e, full, cs, h1, rfl, h2, h3, h4, h5⟩
  · exact .inl ⟨rfl, rfl⟩
  · exact .inr ⟨n, e, full, cs, h1, rfl, pre_get p h2, h3, fun i hi => ⟨(h4 i hi).1.pre p, (h4 i hi).2⟩, h5⟩
theorem InM.only (o : InM a b h v rows) (w : OnlyR c d h h') (hd : b ≤ c ∨ d ≤ a) : InM a b h' v rows := by
  rcases o with ⟨rfl, rfl⟩ | ⟨n, e, full, cs, h1, rfl, h2, h3, h4, h5⟩
  · exact .inl ⟨rfl, rfl⟩
  · exact .inr ⟨n, e, full, cs, h1, rfl, w.get' h2 (by omega), h3, fun i hi => ⟨(h4 i hi).1.only w hd, (h4 i hi).2⟩, h5⟩
theorem OwnRows.inM (o : OwnRows h0 h v rows) : InM h0.length h.length h v rows := by
  rcases o with ⟨rfl, rfl⟩ | ⟨n, e, full, cs, h1, rfl, h2, h3, h4, h5⟩
  · exact .inl ⟨rfl, rfl⟩
  · exact .inr ⟨n, e, full, cs, ⟨h1, get_lt h2⟩, rfl, h2, h3, fun i hi => ⟨(h4 i hi).1.inS, (h4 i hi).2⟩, h5⟩
end
def SmallM (rows : List (List Int)) : Prop := (rows.length : Int) ≤ 1048576 ∧ (∀ i, i < rows.length → ((rows.getD i []).length : Int) ≤ 1048576) ∧ tot rows rows.length ≤ 1048576
def cntM (rows : List (List Int)) : Int := tot rows rows.length
@[simp] theorem tot_zero {rows : List (List Int)} : tot rows 0 = 0 := by simp [tot]
theorem tot_nn {rows : List (List Int)} : ∀ {i : Nat}, 0 ≤ tot rows i
  | 0 => by simp [tot]
  | i + 1 => by
    by_cases h : i < rows.length
    · rw [tot_succ h]
      have := tot_nn (rows := rows) (i := i)
      omega
    · have := tot_nn (rows := rows) (i := i)
      unfold tot at *
      rw [List.take_of_length_le (by omega)] at *
      exact this
theorem tot_le {rows : List (List Int)} {i : Nat} : ∀ {m : Nat}, tot rows i ≤ tot rows (i + m)
  | 0 => Int.le_refl _
  | m + 1 => by
    have q := tot_le (rows := rows) (i := i) (m := m)
    by_cases h : i + m < rows.length
    · have := tot_succ h
      rw [show i + (m + 1) = i + m + 1 by omega]
      omega
    · unfold tot at *
      rw [List.take_of_length_le (show rows.length ≤ i + (m + 1) by omega)]
      rw [List.take_of_length_le (show rows.length ≤ i + m by omega)] at q
      exact q
theorem gsz_M {v : Value} {rows : List (List Int)} {n : Int} {h : AH} {Q : Value → AH → Prop} (hv : Rows h v rows) (h0 : 0 ≤ n ∧ n ≤ 1048576) (hl : (rows.length : Int) ≤ 9223372036854775807)
    (hl' : ∀ i, i < rows.length → ((rows.getD i []).length : Int) ≤ 9223372036854775807)
    (hQ : ∀ (m : Int) h', h <+: h' → m ≤ n → (0 ≤ m → SmallM rows) → Q (I64 m) h') : WF S 41 [v, I64 n] h Q :=
  l_szInt64SS hv h0 hl hl' fun m h1 h2 => hQ m h (List.prefix_refl _) h1 fun h3 => by
    obtain ⟨e1, e2⟩ := h2 h3
    have := tot_nn (rows := rows) (i := rows.length)
    exact ⟨by omega, fun i hi => by have := e2 i hi; omega, by omega⟩
theorem gto_M {v : Value} {rows : List (List Int)} {h : AH} {Q : Value → AH → Prop} (hv : Rows h v rows) (hl : SmallM rows)
    (hQ : ∀ v' h', h <+: h' → InM h.length h'.length h' v' rows → Q v' h') : WF S 43 [v] h Q :=
  l_toInt64SS hv hl.1 hl.2.1 fun v' h' p o => hQ v' h' p o.inM
theorem geq_M {v v' : Value} {rows : List (List Int)} {h : AH} {Q : Value → AH → Prop} (hv : Rows h v rows) (hv' : Rows h v' rows) (hl : SmallM rows)
    (hQ : ∀ h', h <+: h' → Q (.bool true) h') : WF S 22 [v, v'] h Q :=
  l_eqInt64SS hv hv' hl.1 hl.2.1 (by rw [decide_eq_true rfl]; exact hQ h (List.prefix_refl _))
theorem cntM_le {rows : List (List Int)} (h : SmallM rows) : 0 ≤ cntM rows ∧ cntM rows ≤ 1048576 := ⟨tot_nn, h.2.2⟩
def markM (k : Int) (rows : List (List Int)) (i : Nat) : List (List Int) := (List.range rows.length).map fun j => if j < i then marks (k + tot rows j) (rows.getD j []).length else rows.getD j []
theorem markM_len {k : Int} {rows : List (List Int)} {i : Nat} : (markM k rows i).length = rows.length := by simp [markM]
theorem markM_get {k : Int} {rows : List (List Int)} {i j : Nat} (hj : j < rows.length) : (markM k rows i).getD j [] = if j < i then marks (k + tot rows j) (rows.getD j []).length else rows.getD j [] := by
  simp [markM, List.getD_eq_getElem?_getD, List.getElem?_map, List.getElem?_range hj]
theorem gmark_M {v : Value} {rows : List (List Int)} {k : Int} {a b : Nat} {h : AH} {Q : Value → AH → Prop} (o : InM a b h v rows) (hl : SmallM rows) (hk : 0 ≤ k ∧ k ≤ 549755813888)
    (hQ : ∀ J h', h <+: J → OnlyR a b J h' → InM a b h' v (markM k rows rows.length) → Q (I64 (k + cntM rows)) h') : WF S 24 [v, I64 k] h Q := by
  refine WF_fn (fn := c24) rfl rfl ?_
  unfold c24
  try simp (maxSteps := 3000000) (disch := first | omega | (simp only [len_new, len_put, len_kill]; omega)) only [↓xpre, xpost, ↓reduceIte, Nat.reduceEqDiff, Nat.reduceAdd, Nat.reduceSub, Nat.reduceLeDiff, Nat.zero_add, Nat.sub_zero]
  rcases o with ⟨rfl, rfl⟩ | ⟨n, e, full, cs, hab, rfl, hg, hcl, hr, hd⟩
  · refine WC_loop ?_
    try simp (maxSteps := 3000000) (disch := first | omega | (simp only [len_new, len_put, len_kill]; omega)) only [↓xpre, xpost, ↓reduceIte, Nat.reduceEqDiff, Nat.reduceAdd, Nat.reduceSub, Nat.reduceLeDiff, Nat.zero_add, Nat.sub_zero, IfW_dec]
    refine ⟨fun hlt => by simp at hlt, fun _ => ?_⟩
    have := hQ h _ (List.prefix_refl _) (OnlyR.refl _ _ _) (.inl ⟨rfl, by simp [markM]⟩)
    simpa [cntM, tot] using this
  · obtain ⟨l1, l2, l3⟩ := hl
    rw [hcl]
    refine WC_loop_inv (fun m f K1 => ∃ (i : Nat), m = rows.length - i ∧ i ≤ rows.length ∧ f 0 = .slice (some ⟨n, 0, none⟩) rows.length 1 ∧ f 1 = I64 (k + tot rows i) ∧ f 5 = I64 i ∧ (K1.get n = some ⟨cs, e, false, full⟩) ∧ (OnlyR a b h K1) ∧ (∀ j, j < rows.length → InS a b K1 (cs.getD j undef) ((markM k rows i).getD j []))) ?_ (rows.length - 0) _ _ ⟨0, rfl, by omega, (by first | rfl | (simp [upd_apply]; done)), (by first | rfl | (simp [upd_apply]; done)), (by first | rfl | (simp [upd_apply]; done)), hg, OnlyR.refl _ _ _, fun j hj => by rw [markM_get hj, if_neg (by omega)]; exact (hr j hj).1⟩
    rintro m f K1 ⟨i, rfl, hi, f0, f1, f5, hg1, w1, hin⟩
    have tn := tot_nn (rows := rows) (i := i)
    have tl := tot_le (rows := rows) (i := i) (m := rows.length - i)
    rw [show i + (rows.length - i) = rows.length by omega] at tl
    try simp (maxSteps := 3000000) (disch := first | omega | (simp only [len_new, len_put, len_kill]; omega)) only [↓xpre, xpost, ↓reduceIte, Nat.reduceEqDiff, Nat.reduceAdd, Nat.reduceSub, Nat.reduceLeDiff, Nat.zero_add, Nat.sub_zero, f0, f1, f5, IfW_dec, hcl]
    refine ⟨fun hlt => ?_, fun hge => ?_⟩
    · have hi' : i < rows.length := by omega
      have hix : ixsV 1 (.slice (some ⟨n, 0, none⟩) rows.length 1) (I64 i) = some (.pointer (some ⟨n, i, none⟩)) := by
        rw [ixsV_some, if_pos (by omega)]
        simp
      have hrd : K1.rd1 n i = some (cs.getD i undef) := by
        rw [rd1_of hg1, List.getD_eq_getElem?_getD]
        simp only
        rw [List.getElem?_eq_getElem (show i < cs.length by omega)]
        rfl
      have oi := hin i hi'
      rw [markM_get hi', if_neg (by omega)] at oi
      have ts := tot_succ hi'
      try simp (maxSteps := 3000000) (disch := first | omega | (simp only [len_new, len_put, len_kill]; omega)) only [↓xpre, xpost, ↓reduceIte, Nat.reduceEqDiff, Nat.reduceAdd, Nat.reduceSub, Nat.reduceLeDiff, Nat.zero_add, Nat.sub_zero, f0, f1, f5, hix, hrd, hcl]
      refine l_markInt64S oi.ownR (l2 i hi') (by omega) fun h' w o' => ?_
      try simp (maxSteps := 3000000) (disch := first | omega | (simp only [len_new, len_put, len_kill]; omega)) only [↓xpre, xpost, ↓reduceIte, Nat.reduceEqDiff, Nat.reduceAdd, Nat.reduceSub, Nat.reduceLeDiff, Nat.zero_add, Nat.sub_zero, f0, f1, f5, wrap64_in]
      have bi := oi.blk
      have ni := (hr i hi').2
      refine InvQ_go (rows.length - (i + 1)) (by omega) ⟨(i + 1), rfl, by omega, (by first | rfl | exact f0 | (simp only [upd_apply]; rfl) | (show I64 _ = _; congr 1; omega)), (by show I64 _ = I64 _; rw [ts, Int.add_assoc]), (by first | rfl | exact f5 | (simp only [upd_apply]; rfl) | (show I64 _ = _; congr 1; omega)), (by rw [w.get n ni]; exact hg1), (w1.trans (w.range bi)), (fun j hj => ?_)⟩
      rw [markM_get hj]
      by_cases hji : j = i
      · subst hji
        rw [if_pos (by omega)]
        exact o'.back bi
      · have oj := hin j hj
        rw [markM_get hj] at oj
        have e1 : (if j < i + 1 then marks (k + tot rows j) (rows.getD j []).length else rows.getD j []) = if j < i then marks (k + tot rows j) (rows.getD j []).length else rows.getD j [] := by
          by_cases h1 : j < i
          · rw [if_pos h1, if_pos (by omega)]
          · rw [if_neg h1, if_neg (by omega)]
        rw [e1]
        refine (oj.ownR.only' w fun m hm => .inr fun em => ?_).back oj.blk
        rcases Nat.lt_or_gt_of_ne hji with q | q
        · exact hd j i q hi' m em hm
        · exact hd i j q hj m hm em
    · have ei : i = rows.length := by omega
      subst ei
      try simp (maxSteps := 3000000) (disch := first | omega | (simp only [len_new, len_put, len_kill]; omega)) only [↓xpre, xpost, ↓reduceIte, Nat.reduceEqDiff, Nat.reduceAdd, Nat.reduceSub, Nat.reduceLeDiff, Nat.zero_add, Nat.sub_zero, f0, f1, f5]
      refine hQ h _ (List.prefix_refl _) w1 (.inr ⟨n, e, full, cs, hab, rfl, hg1, by rw [markM_len]; exact hcl, fun j hj => ?_, fun x y hxy hy => hd x y hxy (by rw [markM_len] at hy; exact hy)⟩)
      rw [markM_len] at hj
      exact ⟨hin j hj, (hr j hj).2⟩
theorem gheld_M {v : Value} {rows : List (List Int)} {k : Int} {h : AH} {Q : Value → AH → Prop} (hv : Rows h v (markM k rows rows.length)) (hl : SmallM rows) (hk : 0 ≤ k ∧ k ≤ 549755813888)
    (hQ : ∀ h', h <+: h' → Q (I64 (k + cntM rows)) h') : WF S 25 [v, I64 k] h Q := by
  refine WF_fn (fn := c25) rfl rfl ?_
  unfold c25
  try simp (maxSteps := 3000000) (disch := first | omega | (simp only [len_new, len_put, len_kill]; omega)) only [↓xpre, xpost, ↓reduceIte, Nat.reduceEqDiff, Nat.reduceAdd, Nat.reduceSub, Nat.reduceLeDiff, Nat.zero_add, Nat.sub_zero]
  obtain ⟨cs, hvv, hcl, hr⟩ := hv
  rw [markM_len] at hcl hr
  obtain ⟨l1, l2, l3⟩ := hl
  refine WC_loop_inv (fun m f K1 => ∃ (i : Nat), m = rows.length - i ∧ i ≤ rows.length ∧ f 0 = v ∧ f 1 = I64 (k + tot rows i) ∧ f 5 = I64 i ∧ K1 = h) ?_ (rows.length - 0) _ _ ⟨0, rfl, by omega, (by first | rfl | (simp [upd_apply]; done)), (by first | rfl | (simp [upd_apply]; done)), (by first | rfl | (simp [upd_apply]; done)), rfl⟩
  rintro m f K1 ⟨i, rfl, hi, f0, f1, f5, rfl⟩
  have tn := tot_nn (rows := rows) (i := i)
  have tl := tot_le (rows := rows) (i := i) (m := rows.length - i)
  rw [show i + (rows.length - i) = rows.length by omega] at tl
  try simp (maxSteps := 3000000) (disch := first | omega | (simp only [len_new, len_put, len_kill]; omega)) only [↓xpre, xpost, ↓reduceIte, Nat.reduceEqDiff, Nat.reduceAdd, Nat.reduceSub, Nat.reduceLeDiff, Nat.zero_add, Nat.sub_zero, f0, f1, f5, hvv.len, hcl, IfW_dec]
  refine ⟨fun hlt => ?_, fun hge => ?_⟩
  · have hi' : i < rows.length := by omega
    have hix := hvv.ix (k := .i64) (j := i) (by omega) (by omega)
    have hrd := hvv.rd (j := i) (by omega) (by omega)
    have ri := hr i hi'
    rw [markM_get hi', if_pos hi'] at ri
    have ts := tot_succ hi'
    try simp (maxSteps := 3000000) (disch := first | omega | (simp only [len_new, len_put, len_kill]; omega)) only [↓xpre, xpost, ↓reduceIte, Nat.reduceEqDiff, Nat.reduceAdd, Nat.reduceSub, Nat.reduceLeDiff, Nat.zero_add, Nat.sub_zero, f0, f1, f5, hix, hrd, Int.toNat_natCast]
    refine l_heldInt64S ri (l2 i hi') (by omega) ?_
    try simp (maxSteps := 3000000) (disch := first | omega | (simp only [len_new, len_put, len_kill]; omega)) only [↓xpre, xpost, ↓reduceIte, Nat.reduceEqDiff, Nat.reduceAdd, Nat.reduceSub, Nat.reduceLeDiff, Nat.zero_add, Nat.sub_zero, f0, f1, f5, IfW_dec]
    refine ⟨fun hlt => by omega, fun _ => ?_⟩
    try simp (maxSteps := 3000000) (disch := first | omega | (simp only [len_new, len_put, len_kill]; omega)) only [↓xpre, xpost, ↓reduceIte, Nat.reduceEqDiff, Nat.reduceAdd, Nat.reduceSub, Nat.reduceLeDiff, Nat.zero_add, Nat.sub_zero, f0, f1, f5, wrap64_in]
    refine InvQ_go (rows.length - (i + 1)) (by omega) ⟨(i + 1), rfl, by omega, (by first | rfl | exact f0 | (simp only [upd_apply]; rfl) | (show I64 _ = _; congr 1; omega)), (by show I64 _ = I64 _; rw [ts, Int.add_assoc]), (by first | rfl | exact f5 | (simp only [upd_apply]; rfl) | (show I64 _ = _; congr 1; omega)), rfl⟩
  · have ei : i = rows.length := by omega
    subst ei
    try simp (maxSteps := 3000000) (disch := first | omega | (simp only [len_new, len_put, len_kill]; omega)) only [↓xpre, xpost, ↓reduceIte, Nat.reduceEqDiff, Nat.reduceAdd, Nat.reduceSub, Nat.reduceLeDiff, Nat.zero_add, Nat.sub_zero, f0, f1, f5]
    exact hQ _ (List.prefix_refl _)
end Go.Proofs.Ytilpnbejpndgpaa.X

/- Slices of elements of some whole numbers each (products of schemes, steps of programs). -/
set_option linter.unusedVariables false
set_option linter.unusedSimpArgs false
set_option maxRecDepth 20000
set_option maxHeartbeats 4000000
namespace Go.Proofs.Ytilpnbejpndgpaa.X
open Go Go.RowKit

/-- Cells of whole numbers. -/
def cel (k : IntKind) (q : List Int) : List Value := q.map (Value.int k)
theorem cel_len {k : IntKind} {q : List Int} : (cel k q).length = q.length := List.length_map _
theorem cel_all {k : IntKind} {q : List Int} : (cel k q).all isOne = true := by
  unfold cel
  induction q with
  | nil => rfl
  | cons a l ih => simp only [List.map_cons, List.all_cons, ih, Bool.and_true]; rfl
theorem cel_get {k : IntKind} {q : List Int} {j : Nat} (hj : j < q.length) : (cel k q)[j]? = some (.int k (q.getD j 0)) := by
  simp [cel, List.getD_eq_getElem?_getD, hj]
theorem cel_take {k : IntKind} {q : List Int} {n : Nat} : (cel k q).take n = cel k (q.take n) := by simp [cel, List.map_take]
theorem cel_drop {k : IntKind} {q : List Int} {n : Nat} : (cel k q).drop n = cel k (q.drop n) := by simp [cel, List.map_drop]
theorem cel_app {k : IntKind} {q r : List Int} : cel k q ++ cel k r = cel k (q ++ r) := by simp [cel]
theorem cel_set {k : IntKind} {q : List Int} {j : Nat} {x : Int} (hj : j < q.length) : splice (cel k q) j [.int k x] = cel k (q.set j x) := by
  rw [splice_set (by rw [cel_len]; exact hj)]
  simp [cel, List.map_set]
theorem cel_splice {k : IntKind} {q r : List Int} {j : Nat} : splice (cel k q) j (cel k r) = cel k (q.take j ++ r ++ q.drop (j + r.length)) := by
  rw [splice_eq]
  simp [cel, List.map_take, List.map_drop]
theorem cellsL_cel {k : IntKind} {q : List Int} : cellsL (.agg (cel k q).toArray) = cel k q := by rw [cellsL_agg]
/-- A slice of elements of w numbers each. -/
def Els (k : IntKind) (w : Nat) (h : AH) (v : Value) (L : List (List Int)) : Prop :=
  (L = [] ∧ ∃ t, t ≤ 2 ∧ v = .slice none 0 t) ∨
  ∃ b off blk, v = .slice (some ⟨b, off, none⟩) L.length w ∧ h.get b = some blk ∧ ∀ i, i < L.length → off + i * w + w ≤ blk.c.length ∧ (blk.c.drop (off + i * w)).take w = cel k (L.getD i [])
section
variable {k : IntKind} {w : Nat} {h h' : AH} {v : Value} {L : List (List Int)}
theorem Els.pre (e : Els k w h v L) (p : h <+: h') : Els k w h' v L := by
  rcases e with e | ⟨b, off, blk, h1, h2, h3⟩
  · exact .inl e
  · exact .inr ⟨b, off, blk, h1, pre_get p h2, h3⟩
theorem Els.len (e : Els k w h v L) : lenV v = some (.int .i64 L.length) := by
  rcases e with ⟨rfl, t, _, rfl⟩ | ⟨b, off, blk, rfl, h2, h3⟩ <;> rfl
theorem Els.one (e : Els k w h v L) : isOne v = true := by
  rcases e with ⟨rfl, t, _, rfl⟩ | ⟨b, off, blk, rfl, h2, h3⟩ <;> rfl
theorem Els.cells (e : Els k w h v L) : cellsL v = [v] := by
  rcases e with ⟨rfl, t, _, rfl⟩ | ⟨b, off, blk, rfl, h2, h3⟩ <;> rfl
theorem Els.wid (e : Els k w h v L) {i : Nat} (hi : i < L.length) : (L.getD i []).length = w := by
  rcases e with ⟨rfl, t, _, rfl⟩ | ⟨b, off, blk, rfl, h2, h3⟩
  · simp at hi
  · obtain ⟨h4, h5⟩ := h3 i hi
    have := congrArg List.length h5
    rw [cel_len, List.length_take, List.length_drop] at this
    omega
/-- The element's address, and what is read there. -/
theorem Els.at (e : Els k w h v L) {i : Nat} (hi : i < L.length) : ∃ n off, (∀ kk : IntKind, ixsV w v (.int kk i) = some (.pointer (some ⟨n, off, none⟩))) ∧
    (∀ o m, o + m ≤ w → h.rdn n (off + o) m = some (cel k (((L.getD i []).drop o).take m))) ∧ ∀ o, o < w → h.rd1 n (off + o) = some (.int k ((L.getD i []).getD o 0)) := by
  have hw := e.wid hi
  rcases e with ⟨rfl, t, _, rfl⟩ | ⟨b, off, blk, rfl, h2, h3⟩
  · simp at hi
  · obtain ⟨h4, h5⟩ := h3 i hi
    refine ⟨b, off + i * w, fun kk => ?_, fun o m hom => ?_, fun o ho => ?_⟩
    · rw [ixsV_some, if_pos (by omega), Int.toNat_natCast]
    · rw [rdn_of h2, if_pos (by omega)]
      congr 1
      rw [← cel_take, ← cel_drop, ← h5, List.drop_take, List.drop_drop, List.take_take, Nat.min_eq_left (by omega)]
    · rw [rd1_of h2]
      have := cel_get (k := k) (q := L.getD i []) (j := o) (by omega)
      rw [← h5, List.getElem?_take, if_pos ho, List.getElem?_drop] at this
      exact this
end
end Go.Proofs.Ytilpnbejpndgpaa.X
