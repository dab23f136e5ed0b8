/- The rank of the reference. -/
import Derived.Test.YtnjhhgfpclngcaaXF21
set_option linter.unusedVariables false
set_option linter.unusedSimpArgs false
set_option maxRecDepth 20000
set_option maxHeartbeats 4000000
namespace Go.Proofs.Ytnjhhgfpclngcaa.X
open Go Go.RowKit

theorem ownB_new'' {h : AH} {c : List Value} {e : TypeId} {full : Bool} {n : Nat} (hn : n = h.length) : OwnB (h.new ⟨c, e, false, full⟩) n c full := by subst hn; exact ownB_new
/-- A list under way in a block of its own. -/
def WayF (h : AH) (lo : Nat) (sv : Value) (l : List Int) : Prop :=
  ∃ kb full, sv = .slice (some ⟨kb, 0, none⟩) l.length 1 ∧ lo ≤ kb ∧ h.get kb = some ⟨l.map (Value.int .i64), 2, false, full⟩
/-- What lies below a place stays. -/
def Keeps (lo : Nat) (h h' : AH) : Prop := h.length ≤ h'.length ∧ ∀ n b, n < lo → h.get n = some b → h'.get n = some b
theorem Ints.keeps {lo : Nat} {h h' : AH} {v : Value} {ns : List Int} (hv : Ints h v ns) (k : Keeps lo h h') (hb : ∀ n, blkOf v = some n → n < lo) : Ints h' v ns := by
  rcases hv with hv | ⟨m, off, blk, rfl, h2, h3, h4⟩
  · exact .inl hv
  · exact .inr ⟨m, off, blk, rfl, k.2 m blk (hb m rfl) h2, h3, h4⟩
theorem WayF.app {H : AH} {lo : Nat} {sv : Value} {l : List Int} {x : Int} {e : TypeId} {full : Bool} (w : WayF H lo sv l) (hl : (l.length : Int) ≤ 1048576) {Q : Value → AH → Prop}
    (hQ : ∀ sv' H', Keeps lo H H' → (∀ h0 : AH, h0.length ≤ lo → h0 <+: H → h0 <+: H') → WayF H' lo sv' (l ++ [x]) → Q sv' H') :
    OQ (appV 2 1 8 sv (.slice (some ⟨H.length, 0, none⟩) 1 1) (H.new ⟨[I64 x], e, false, full⟩)) Q := by
  have hn : (H.new ⟨[I64 x], e, false, full⟩).rdn H.length 0 1 = some [I64 x] := by rw [rdn_new_same]; rfl
  obtain ⟨kb, fu, rfl, h2, h3⟩ := w
  have hk : (H.new ⟨[I64 x], e, false, full⟩).get kb = some ⟨l.map (Value.int .i64), 2, false, fu⟩ := get_new_any h3
  have hkb := get_lt h3
  rw [app_own hk (by simp) hn (by omega), OQ_some]
  refine hQ _ _ ⟨by rw [len_new, len_kill, len_new]; omega, fun n b hn hb => get_new_any (by rw [get_kill_ne (by omega)]; exact get_new_any hb)⟩ (fun h0 q p => pre_new (pre_kill (pre_new p) (by omega))) ?_
  refine ⟨(H.new ⟨[I64 x], e, false, full⟩).length, false, by simp, by rw [len_new]; omega, ?_⟩
  rw [get_new_eq (by rw [len_kill])]
  simp

/-- The state of an elimination by new rows. -/
structure RankS (h0 h : AH) (n0 : Nat) (cs : List Value) (T : List (List Int)) : Prop where
  hp : h0 <+: h
  lo : h0.length ≤ n0
  g : OwnB h n0 cs false
  len : cs.length = T.length
  rows : ∀ i, i < T.length → Ints h (cs.getD i undef) (T.getD i []) ∧ blkOf (cs.getD i undef) ≠ some n0
theorem RankS.vals {h0 h : AH} {n0 : Nat} {cs : List Value} {T : List (List Int)} (s : RankS h0 h n0 cs T) : Vals h (.slice (some ⟨n0, 0, none⟩) T.length 1) cs := by
  obtain ⟨e, hg⟩ := s.g
  refine .inr ⟨n0, 0, _, by rw [s.len], hg, by simp, fun i hi => ?_⟩
  rw [Nat.zero_add, List.getD_eq_getElem?_getD, List.getElem?_eq_getElem hi]
  rfl
theorem RankS.lt {h0 h : AH} {n0 : Nat} {cs : List Value} {T : List (List Int)} (s : RankS h0 h n0 cs T) : n0 < h.length := s.g.choose_spec |> get_lt
theorem RankS.pre {h0 h h' : AH} {n0 : Nat} {cs : List Value} {T : List (List Int)} (s : RankS h0 h n0 cs T) (p : h <+: h') : RankS h0 h' n0 cs T := by
  obtain ⟨e, hg⟩ := s.g
  exact ⟨s.hp.trans p, s.lo, ⟨e, pre_get p hg⟩, s.len, fun i hi => ⟨(s.rows i hi).1.pre p, (s.rows i hi).2⟩⟩
theorem RankS.keeps {h0 h h' : AH} {n0 lo : Nat} {cs : List Value} {T : List (List Int)} (s : RankS h0 h n0 cs T) (k : Keeps lo h h') (hh : h0 <+: h') (h1 : n0 < lo) (h2 : ∀ i, i < T.length → ∀ n, blkOf (cs.getD i undef) = some n → n < lo) : RankS h0 h' n0 cs T := by
  obtain ⟨e, hg⟩ := s.g
  exact ⟨hh, s.lo, ⟨e, k.2 _ _ h1 hg⟩, s.len, fun i hi => ⟨(s.rows i hi).1.keeps k (h2 i hi), (s.rows i hi).2⟩⟩
/-- A row put in. -/
theorem RankS.put {h0 h : AH} {n0 : Nat} {cs : List Value} {T T' : List (List Int)} (s : RankS h0 h n0 cs T) {i : Nat} {x : Value} {r : List Int} {e : TypeId} (hi : i < T.length) (hT : T' = T.set i r)
    (hx : Ints h x r) (hb : blkOf x ≠ some n0) : RankS h0 (h.put n0 ⟨cs.set i x, e, false, false⟩) n0 (cs.set i x) T' := by
  subst hT
  have hlt := s.lt
  refine ⟨pre_put s.hp s.lo, s.lo, ⟨e, get_put_same hlt⟩, by simp [s.len], fun j hj => ?_⟩
  have hl := s.len
  rw [List.length_set] at hj
  rw [set_getD' (by omega), set_getD' hi]
  by_cases h : j = i
  · rw [if_pos h, if_pos h]
    exact ⟨hx.put_ne hb, hb⟩
  · rw [if_neg h, if_neg h]
    exact ⟨(s.rows j hj).1.put_ne (s.rows j hj).2, (s.rows j hj).2⟩
theorem RankS.blk {h0 h : AH} {n0 : Nat} {cs : List Value} {T : List (List Int)} (s : RankS h0 h n0 cs T) : ∀ i, i < T.length → ∀ n, blkOf (cs.getD i undef) = some n → n < h.length := fun i hi => (s.rows i hi).1.lt
end Go.Proofs.Ytnjhhgfpclngcaa.X
