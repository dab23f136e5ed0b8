/- Texts of one claim, put together by merge.py: XP8. -/
import Derived.Test.YtilpnbejpndgpaaM6
/- Elements under way beside other things under way; lists of truth values. -/
set_option linter.unusedVariables false
set_option linter.unusedSimpArgs false
set_option maxRecDepth 20000
set_option maxHeartbeats 4000000
namespace Go.Proofs.Ytilpnbejpndgpaa.X
open Go Go.RowKit

/-- Elements under way: nil, or a block of one's own behind a place and other than some blocks. -/
def WayX (e : TypeId) (k : IntKind) (w : Nat) (h : AH) (lo : Nat) (ex : List Nat) (sv : Value) (L : List (List Int)) : Prop :=
  Wid w L ∧ ((sv = .slice none 0 0 ∧ L = []) ∨ ∃ kb full, sv = .slice (some ⟨kb, 0, none⟩) L.length w ∧ lo ≤ kb ∧ kb ∉ ex ∧ h.get kb = some ⟨cel k L.flatten, e, false, full⟩)
section
variable {e : TypeId} {k : IntKind} {w : Nat} {h h' : AH} {lo : Nat} {ex : List Nat} {sv : Value} {L : List (List Int)}
theorem WayX.pre (o : WayX e k w h lo ex sv L) (p : h <+: h') : WayX e k w h' lo ex sv L := by
  obtain ⟨hw, o | ⟨kb, full, h1, h2, h3, h4⟩⟩ := o
  · exact ⟨hw, .inl o⟩
  · exact ⟨hw, .inr ⟨kb, full, h1, h2, h3, pre_get p h4⟩⟩
theorem WayX.one (o : WayX e k w h lo ex sv L) : isOne sv = true := by
  obtain ⟨hw, ⟨rfl, _⟩ | ⟨kb, full, rfl, h2, h3, h4⟩⟩ := o <;> rfl
theorem WayX.cells (o : WayX e k w h lo ex sv L) : cellsL sv = [sv] := by
  obtain ⟨hw, ⟨rfl, _⟩ | ⟨kb, full, rfl, h2, h3, h4⟩⟩ := o <;> rfl
theorem WayX.len (o : WayX e k w h lo ex sv L) : lenV sv = some (I64 L.length) := by
  obtain ⟨hw, ⟨rfl, rfl⟩ | ⟨kb, full, rfl, h2, h3, h4⟩⟩ := o <;> rfl
theorem WayX.put {n : Nat} {b : Blk} (o : WayX e k w h lo ex sv L) (hn : n < lo ∨ n ∈ ex) : WayX e k w (h.put n b) lo ex sv L := by
  obtain ⟨hw, o | ⟨kb, full, h1, h2, h3, h4⟩⟩ := o
  · exact ⟨hw, .inl o⟩
  · refine ⟨hw, .inr ⟨kb, full, h1, h2, h3, ?_⟩⟩
    rw [get_put_ne]
    · exact h4
    · rintro rfl
      rcases hn with hn | hn
      · omega
      · exact h3 hn
/-- Other excluded blocks. -/
theorem WayX.exc {ex' : List Nat} (o : WayX e k w h lo ex sv L) (he : ∀ m, m ∈ ex' → m ∈ ex ∨ h.length ≤ m ∨ m < lo) : WayX e k w h lo ex' sv L := by
  obtain ⟨hw, o | ⟨kb, full, h1, h2, h3, h4⟩⟩ := o
  · exact ⟨hw, .inl o⟩
  · refine ⟨hw, .inr ⟨kb, full, h1, h2, fun hk => ?_, h4⟩⟩
    have := get_lt h4
    rcases he _ hk with h | h | h
    · exact h3 h
    · omega
    · omega
/-- What keeps all blocks but some excluded ones. -/
theorem WayX.keep (o : WayX e k w h lo ex sv L) (hk : ∀ m c f, m ∉ ex → lo ≤ m → h.get m = some ⟨c, e, false, f⟩ → h'.get m = some ⟨c, e, false, f⟩) : WayX e k w h' lo ex sv L := by
  obtain ⟨hw, o | ⟨kb, full, h1, h2, h3, h4⟩⟩ := o
  · exact ⟨hw, .inl o⟩
  · exact ⟨hw, .inr ⟨kb, full, h1, h2, h3, hk _ _ _ h3 h2 h4⟩⟩
/-- The blocks that hold it. -/
theorem WayX.hold (o : WayX e k w h lo ex sv L) : ∃ E : List Nat, (∀ m, m ∈ E → lo ≤ m ∧ m < h.length ∧ m ∉ ex) ∧ ∀ h' : AH, (∀ m b, m ∈ E → h.get m = some b → h'.get m = some b) → WayX e k w h' lo ex sv L ∧ InE k w lo h.length h' sv L := by
  obtain ⟨hw, o | ⟨kb, full, h1, h2, h3, h4⟩⟩ := o
  · exact ⟨[], fun m hm => by simp at hm, fun h' _ => ⟨⟨hw, .inl o⟩, .inl o⟩⟩
  · refine ⟨[kb], fun m hm => ?_, fun h' hk => ⟨⟨hw, .inr ⟨kb, full, h1, h2, h3, hk _ _ (by simp) h4⟩⟩, .inr ⟨kb, e, full, ⟨h2, get_lt h4⟩, h1, hk _ _ (by simp) h4, hw⟩⟩⟩
    rw [List.mem_singleton] at hm
    subst hm
    exact ⟨h2, get_lt h4, h3⟩
theorem WayX.mlo {lo' : Nat} (o : WayX e k w h lo ex sv L) (hl : lo' ≤ lo) : WayX e k w h lo' ex sv L := by
  obtain ⟨hw, o | ⟨kb, full, h1, h2, h3, h4⟩⟩ := o
  · exact ⟨hw, .inl o⟩
  · exact ⟨hw, .inr ⟨kb, full, h1, by omega, h3, h4⟩⟩
theorem WayX.inE (o : WayX e k w h lo ex sv L) : InE k w lo h.length h sv L := by
  obtain ⟨hw, o | ⟨kb, full, h1, h2, h3, h4⟩⟩ := o
  · exact .inl o
  · exact .inr ⟨kb, e, full, ⟨h2, get_lt h4⟩, h1, h4, hw⟩
theorem WayX.app {H : AH} {q : List Int} {e' : TypeId} {ro full : Bool} {bytes : Nat} (o : WayX e k w H lo ex sv L) (hq : q.length = w) (hl : ((L.length : Int) + 1) * bytes ≤ 140737488355328) (hn : (L.length : Int) < 1048576) (hlo : lo ≤ H.length) (hex : ∀ m, m ∈ ex → m < H.length)
    {Q : Value → AH → Prop} (hQ : ∀ (sv' : Value) (H' : AH), H'.length = H.length + 2 → (∀ h0 : AH, h0.length ≤ lo → h0 <+: H → h0 <+: H') → (∀ m b, m < lo ∨ m ∈ ex → H.get m = some b → H'.get m = some b) → WayX e k w H' H.length ex sv' (L ++ [q]) → Q sv' H') :
    OQ (appV e w bytes sv (.slice (some ⟨H.length, 0, none⟩) 1 w) (H.new ⟨cel k q, e', ro, full⟩)) Q := by
  have hr : (H.new ⟨cel k q, e', ro, full⟩).rdn H.length 0 w = some (cel k q) := by
    rw [rdn_of get_new_same]
    simp only
    rw [if_pos (by rw [cel_len, hq]; omega), List.drop_zero, List.take_of_length_le (by rw [cel_len, hq]; omega)]
  obtain ⟨hw, ⟨rfl, rfl⟩ | ⟨kb, fu, rfl, h2, h3, h4⟩⟩ := o
  · rw [app_nilW (.inl rfl) hr (by simp only [List.length_nil] at hl; omega), OQ_some]
    refine hQ _ _ (by rw [len_new, len_new]) (fun h0 _ p => pre_new (pre_new p)) (fun m b hm o => get_new_any (get_new_any o)) ⟨?_, .inr ⟨_, false, rfl, by rw [len_new]; omega, fun hm => by have := hex _ hm; rw [len_new] at this; omega, ?_⟩⟩
    · intro r hr
      rw [List.nil_append, List.mem_singleton] at hr
      rw [hr, hq]
    · rw [get_new_same]
      simp
  · have hk : (H.new ⟨cel k q, e', ro, full⟩).get kb = some ⟨cel k L.flatten, e, false, fu⟩ := get_new_any h4
    have hkb := get_lt h4
    rw [app_ownW hk (by rw [cel_len, flat_len hw]) hr ⟨hl, by omega⟩, OQ_some]
    refine hQ _ _ (by rw [len_new, len_kill, len_new]) (fun h0 q p => pre_new (pre_kill (pre_new p) (by omega))) (fun m b hm o => ?_) ⟨?_, .inr ⟨(H.new ⟨cel k q, e', ro, full⟩).length, false, by simp, by rw [len_new]; omega, fun hm => by have := hex _ hm; rw [len_new] at this; omega, ?_⟩⟩
    · refine get_new_any ?_
      rw [get_kill_ne]
      · exact get_new_any o
      · rintro rfl
        rcases hm with hm | hm
        · omega
        · exact h3 hm
    · intro r hr
      rcases List.mem_append.1 hr with hr | hr
      · exact hw r hr
      · rw [List.mem_singleton.1 hr, hq]
    · rw [get_new_eq (by rw [len_kill])]
      simp [cel_app]
end

/-! ### Lists of truth values -/
def Bls (h : AH) (n : Nat) (bs : List Bool) : Prop := h.get n = some ⟨bs.map Value.bool, 4, false, true⟩
section
variable {h h' : AH} {n : Nat} {bs : List Bool}
theorem Bls.pre (o : Bls h n bs) (p : h <+: h') : Bls h' n bs := pre_get p o
theorem Bls.lt (o : Bls h n bs) : n < h.length := get_lt o
theorem Bls.rd {j : Nat} (o : Bls h n bs) (hj : j < bs.length) : h.rd1 n j = some (.bool (bs.getD j false)) := by
  rw [rd1_of o]
  simp [List.getD_eq_getElem?_getD, hj]
theorem Bls.put_ne {m : Nat} {b : Blk} (o : Bls h n bs) (e : m ≠ n) : Bls (h.put m b) n bs := by
  unfold Bls
  rw [get_put_ne e]
  exact o
theorem Bls.wr {j : Nat} {x : Bool} (o : Bls h n bs) (hj : j < bs.length) : ∃ h', h.wr n j [.bool x] = some h' ∧ h' = h.put n ⟨(bs.set j x).map Value.bool, 4, false, true⟩ ∧ Bls h' n (bs.set j x) := by
  have e : splice (bs.map Value.bool) j [.bool x] = (bs.set j x).map Value.bool := by
    rw [splice_set (by simpa using hj)]
    simp [List.map_set]
  refine ⟨_, ?_, rfl, get_put_same o.lt⟩
  rw [wr_of o, if_pos ⟨rfl, by simp only [List.length_map, List.length_singleton]; omega⟩, e]
end
theorem Lst.app3 {n : Nat} {l : List Int} {full : Bool} {H : AH} {x : Int} {e' : TypeId} {ro fu : Bool} (o : Lst H n l full) (hl : (l.length : Int) ≤ 1048576) {Q : Value → AH → Prop}
    (hQ : ∀ H' : AH, H'.length = H.length + 2 → (∀ h0 : AH, h0.length ≤ n → h0 <+: H → h0 <+: H') → (∀ m b, m ≠ n → H.get m = some b → H'.get m = some b) → Lst H' (H.length + 1) (l ++ [x]) false → Q (sl (H.length + 1) (l ++ [x]).length) H') :
    OQ (appV 2 1 8 (sl n l.length) (.slice (some ⟨H.length, 0, none⟩) 1 1) (H.new ⟨[I64 x], e', ro, fu⟩)) Q := by
  have hn : (H.new ⟨[I64 x], e', ro, fu⟩).rdn H.length 0 1 = some [I64 x] := by rw [rdn_new_same]; rfl
  have hk : (H.new ⟨[I64 x], e', ro, fu⟩).get n = some ⟨l.map (Value.int .i64), 2, false, full⟩ := get_new_any o
  have hkb := o.lt
  unfold sl
  rw [app_own hk (by simp) hn (by omega), OQ_some]
  have := hQ (((H.new ⟨[I64 x], e', ro, fu⟩).kill n).new ⟨l.map (Value.int .i64) ++ [I64 x], 2, false, false⟩) (by rw [len_new, len_kill, len_new]) (fun h0 q p => pre_new (pre_kill (pre_new p) q))
    (fun m b hm o => get_new_any (by rw [get_kill_ne (fun e => hm e.symm)]; exact get_new_any o)) (by unfold Lst; rw [get_new_eq (by rw [len_kill, len_new])]; simp)
  unfold sl at this
  rw [len_new]
  rw [List.length_append, List.length_singleton] at this
  exact this
theorem zrep_bools : ∀ n, zrep n [.bool false] = (List.replicate n false).map Value.bool
  | 0 => rfl
  | n + 1 => by simp [zrep, zrep_bools n, List.replicate_succ]
theorem InP.inP {a b : Nat} {h : AH} {v w : Value} {x : Prg} (o : InP a b h v w x) : InP a b h v w x := o
end Go.Proofs.Ytilpnbejpndgpaa.X
