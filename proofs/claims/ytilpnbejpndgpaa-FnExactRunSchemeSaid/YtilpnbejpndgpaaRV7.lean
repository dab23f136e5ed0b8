/- Texts of one claim, put together by merge.py: XE2, XP1, XP2, XP3, XP8, XP4, XP6, XP12, XP13, XT2. -/
import Derived.Test.YtilpnbejpndgpaaRV6
import Derived.Test.YtilpnbejpndgpaaRV5
/- Slices of elements of some whole numbers each: appends. -/
set_option linter.unusedVariables false
set_option linter.unusedSimpArgs false
set_option maxRecDepth 20000
set_option maxHeartbeats 4000000
namespace Go.Proofs.Ytilpnbejpndgpaa.X
open Go Go.RowKit

theorem getD_app_l {α : Type} {l r : List α} {i : Nat} {d : α} (hi : i < l.length) : (l ++ r).getD i d = l.getD i d := by
  rw [List.getD_eq_getElem?_getD, List.getD_eq_getElem?_getD, List.getElem?_append_left hi]
theorem getD_app_r {α : Type} {l r : List α} {i : Nat} {d : α} (hi : l.length ≤ i) : (l ++ r).getD i d = r.getD (i - l.length) d := by
  rw [List.getD_eq_getElem?_getD, List.getD_eq_getElem?_getD, List.getElem?_append_right hi]
theorem app_ownW {e : TypeId} {w bytes : Nat} {h : AH} {k n n' : Nat} {c vs : List Value} {full : Bool} (hk : h.get k = some ⟨c, e, false, full⟩) (hc : c.length = n * w) (hn : h.rdn n' 0 w = some vs)
    (hs : (n + 1 : Int) * bytes ≤ 140737488355328 ∧ (n + 1 : Int) ≤ 9223372036854775807) :
    appV e w bytes (.slice (some ⟨k, 0, none⟩) n w) (.slice (some ⟨n', 0, none⟩) 1 w) h = some (.slice (some ⟨h.length, 0, none⟩) (n + 1) w, (h.kill k).new ⟨c ++ vs, e, false, false⟩) := by
  simp only [appV, xop, ev, if_true, Nat.one_mul, hn, hk]
  rw [if_pos (by simpa using hs)]
  simp [hc]
theorem app_nilW {e : TypeId} {w bytes : Nat} {h : AH} {n' t : Nat} {vs : List Value} (ht : t = 0 ∨ t = 2) (hn : h.rdn n' 0 w = some vs) (hs : (1 : Int) * bytes ≤ 140737488355328) :
    appV e w bytes (.slice none 0 t) (.slice (some ⟨n', 0, none⟩) 1 w) h = some (.slice (some ⟨h.length, 0, none⟩) 1 w, h.new ⟨vs, e, false, false⟩) := by
  simp only [appV, xop, ev, if_true, Nat.one_mul, hn]
  rw [if_pos (by simpa using hs)]
  simp [ht]
/-- Elements under way: nil, or a block of one's own behind a place, other than the box that holds the slice. -/
def WayE (e : TypeId) (k : IntKind) (w : Nat) (h : AH) (lo bx : Nat) (sv : Value) (L : List (List Int)) : Prop :=
  Wid w L ∧ ((sv = .slice none 0 0 ∧ L = []) ∨ ∃ kb full, sv = .slice (some ⟨kb, 0, none⟩) L.length w ∧ lo ≤ kb ∧ kb ≠ bx ∧ h.get kb = some ⟨cel k L.flatten, e, false, full⟩)
section
variable {e : TypeId} {k : IntKind} {w : Nat} {h h' : AH} {lo bx : Nat} {sv : Value} {L : List (List Int)}
theorem WayE.pre (o : WayE e k w h lo bx sv L) (p : h <+: h') : WayE e k w h' lo bx sv L := by
  obtain ⟨hw, o | ⟨kb, full, h1, h2, h3, h4⟩⟩ := o
  · exact ⟨hw, .inl o⟩
  · exact ⟨hw, .inr ⟨kb, full, h1, h2, h3, pre_get p h4⟩⟩
theorem WayE.one (o : WayE e k w h lo bx sv L) : isOne sv = true := by
  obtain ⟨hw, ⟨rfl, _⟩ | ⟨kb, full, rfl, h2, h3, h4⟩⟩ := o <;> rfl
theorem WayE.cells (o : WayE e k w h lo bx sv L) : cellsL sv = [sv] := by
  obtain ⟨hw, ⟨rfl, _⟩ | ⟨kb, full, rfl, h2, h3, h4⟩⟩ := o <;> rfl
theorem WayE.put {b : Blk} (o : WayE e k w h lo bx sv L) : WayE e k w (h.put bx b) lo bx sv L := by
  obtain ⟨hw, o | ⟨kb, full, h1, h2, h3, h4⟩⟩ := o
  · exact ⟨hw, .inl o⟩
  · exact ⟨hw, .inr ⟨kb, full, h1, h2, h3, by rw [get_put_ne (fun x => h3 x.symm)]; exact h4⟩⟩
theorem WayE.inE (o : WayE e k w h lo bx sv L) : InE k w lo h.length h sv L := by
  obtain ⟨hw, o | ⟨kb, full, h1, h2, h3, h4⟩⟩ := o
  · exact .inl o
  · exact .inr ⟨kb, e, full, ⟨h2, get_lt h4⟩, h1, h4, hw⟩
/-- One element more. -/
theorem WayE.app {H : AH} {q : List Int} {e' : TypeId} {ro full : Bool} {bytes : Nat} (o : WayE e k w H lo bx sv L) (hq : q.length = w) (hl : ((L.length : Int) + 1) * bytes ≤ 140737488355328) (hn : (L.length : Int) < 1048576) (hlo : lo ≤ H.length) (hbx : bx < H.length)
    {Q : Value → AH → Prop} (hQ : ∀ sv' H', H'.length = H.length + 2 → (∀ h0 : AH, h0.length ≤ lo → h0 <+: H → h0 <+: H') → (∀ n c f, n < lo → OwnB H n c f → OwnB H' n c f) → (∀ c f, OwnB H bx c f → OwnB H' bx c f) → WayE e k w H' lo bx sv' (L ++ [q]) → Q sv' H') :
    OQ (appV e w bytes sv (.slice (some ⟨H.length, 0, none⟩) 1 w) (H.new ⟨cel k q, e', ro, full⟩)) Q := by
  have hr : (H.new ⟨cel k q, e', ro, full⟩).rdn H.length 0 w = some (cel k q) := by
    rw [rdn_of get_new_same]
    simp only
    rw [if_pos (by rw [cel_len, hq]; omega), List.drop_zero, List.take_of_length_le (by rw [cel_len, hq]; omega)]
  obtain ⟨hw, ⟨rfl, rfl⟩ | ⟨kb, fu, rfl, h2, h3, h4⟩⟩ := o
  · rw [app_nilW (.inl rfl) hr (by simp only [List.length_nil] at hl; omega), OQ_some]
    refine hQ _ _ (by rw [len_new, len_new]) (fun h0 _ p => pre_new (pre_new p)) (fun n c f hn o => (o.pre (pre_new (List.prefix_refl _))).pre (pre_new (List.prefix_refl _))) (fun c f o => (o.pre (pre_new (List.prefix_refl _))).pre (pre_new (List.prefix_refl _))) ⟨?_, .inr ⟨_, false, rfl, by rw [len_new]; omega, by rw [len_new]; omega, ?_⟩⟩
    · intro r hr
      rw [List.nil_append, List.mem_singleton] at hr
      rw [hr, hq]
    · rw [get_new_same]
      simp
  · have hk : (H.new ⟨cel k q, e', ro, full⟩).get kb = some ⟨cel k L.flatten, e, false, fu⟩ := get_new_any h4
    have hkb := get_lt h4
    rw [app_ownW hk (by rw [cel_len, flat_len hw]) hr ⟨hl, by omega⟩, OQ_some]
    refine hQ _ _ (by rw [len_new, len_kill, len_new]) (fun h0 q p => pre_new (pre_kill (pre_new p) (by omega))) (fun n c f hn o => ?_) (fun c f o => ?_) ⟨?_, .inr ⟨(H.new ⟨cel k q, e', ro, full⟩).length, false, by simp, by rw [len_new]; omega, by rw [len_new]; omega, ?_⟩⟩
    · obtain ⟨e', o⟩ := o
      exact ⟨e', get_new_any (by rw [get_kill_ne (by omega)]; exact get_new_any o)⟩
    · obtain ⟨e', o⟩ := o
      exact ⟨e', get_new_any (by rw [get_kill_ne h3]; exact get_new_any o)⟩
    · intro r hr
      rcases List.mem_append.1 hr with hr | hr
      · exact hw r hr
      · rw [List.mem_singleton.1 hr, hq]
    · rw [get_new_eq (by rw [len_kill])]
      simp [cel_app]
end
theorem InE.mono {k : IntKind} {w a b a' b' : Nat} {h : AH} {v : Value} {L : List (List Int)} (o : InE k w a b h v L) (ha : a' ≤ a) (hb : b ≤ b') : InE k w a' b' h v L := by
  rcases o with o | ⟨m, e, full, h1, rfl, h2, h3⟩
  · exact .inl o
  · exact .inr ⟨m, e, full, ⟨by omega, by omega⟩, rfl, h2, h3⟩
end Go.Proofs.Ytilpnbejpndgpaa.X

/- Programs of additions: sizes, copies, comparisons, marks (printed by wip/tools/mkP.py). -/
set_option linter.unusedVariables false
set_option linter.unusedSimpArgs false
set_option maxRecDepth 20000
set_option maxHeartbeats 4000000
namespace Go.Proofs.Ytilpnbejpndgpaa.X
open Go Go.RowKit

theorem all3 {q : List Int} (h : q.length = 3) : ∃ a b c, q = [a, b, c] := by
  match q, h with
  | [a, b, c], _ => exact ⟨a, b, c, rfl⟩
theorem all2 {q : List Int} (h : q.length = 2) : ∃ a b, q = [a, b] := by
  match q, h with
  | [a, b], _ => exact ⟨a, b, rfl⟩
theorem cel_3 {k : IntKind} {a b c : Int} : cel k [a, b, c] = [.int k a, .int k b, .int k c] := rfl
theorem cel_2 {k : IntKind} {a b : Int} : cel k [a, b] = [.int k a, .int k b] := rfl
theorem Els.rdw {k : IntKind} {w : Nat} {h : AH} {v : Value} {L : List (List Int)} (e : Els k w h v L) {i : Nat} (hi : i < L.length) :
    ∃ n off, (∀ kk : IntKind, ixsV w v (.int kk i) = some (.pointer (some ⟨n, off, none⟩))) ∧ h.rdn n off w = some (cel k (L.getD i [])) := by
  obtain ⟨n, off, hix, hrn, hr1⟩ := e.at hi
  have r := hrn 0 w (by omega)
  rw [List.drop_zero, List.take_of_length_le (by rw [e.wid hi]; exact Nat.le_refl _), Nat.add_zero] at r
  exact ⟨n, off, hix, r⟩

/-- A program. -/
structure Prg where
  p : Int
  n : Int
  st : List (List Int)
  out : List (List Int)
def prgV (x : Prg) (v w : Value) : Value := .agg #[I64 x.p, I64 x.n, v, w]
def PrgR (h : AH) (v w : Value) (x : Prg) : Prop := Els .i64 3 h v x.st ∧ Els .i64 2 h w x.out
def InP (a b : Nat) (h : AH) (v w : Value) (x : Prg) : Prop := ∃ c, a ≤ c ∧ c ≤ b ∧ InE .i64 3 a c h v x.st ∧ InE .i64 2 c b h w x.out
section
variable {a b c d : Nat} {h h' : AH} {v w : Value} {x : Prg}
theorem PrgR.pre (o : PrgR h v w x) (p : h <+: h') : PrgR h' v w x := ⟨o.1.pre p, o.2.pre p⟩
theorem InP.rd (o : InP a b h v w x) : PrgR h v w x := by
  obtain ⟨c, h1, h2, h3, h4⟩ := o
  exact ⟨h3.rd, h4.rd⟩
theorem InP.pre (o : InP a b h v w x) (p : h <+: h') : InP a b h' v w x := by
  obtain ⟨c, h1, h2, h3, h4⟩ := o
  exact ⟨c, h1, h2, h3.pre p, h4.pre p⟩
theorem InP.only (o : InP a b h v w x) (u : OnlyR c d h h') (hd : b ≤ c ∨ d ≤ a) : InP a b h' v w x := by
  obtain ⟨e, h1, h2, h3, h4⟩ := o
  exact ⟨e, h1, h2, h3.only u (by omega), h4.only u (by omega)⟩
theorem InP.mono {a' b' : Nat} (o : InP a b h v w x) (ha : a' ≤ a) (hb : b ≤ b') : InP a' b' h v w x := by
  obtain ⟨e, h1, h2, h3, h4⟩ := o
  exact ⟨e, by omega, by omega, h3.mono ha (Nat.le_refl _), h4.mono (Nat.le_refl _) hb⟩
end
end Go.Proofs.Ytilpnbejpndgpaa.X

/- What programs are, both sides (printed by wip/tools/mkP2.py). -/
set_option linter.unusedVariables false
set_option linter.unusedSimpArgs false
set_option maxRecDepth 20000
set_option maxHeartbeats 4000000
namespace Go.Proofs.Ytilpnbejpndgpaa.X
open Go Go.RowKit

def allN : Nat → (Nat → Bool) → Bool
  | 0, _ => true
  | n + 1, f => allN n f && f n
theorem allN_true {f : Nat → Bool} : ∀ {n : Nat}, (∀ j, j < n → f j = true) → allN n f = true
  | 0, _ => rfl
  | n + 1, h => by rw [allN, allN_true (n := n) (fun j hj => h j (by omega)), h n (by omega)]; rfl
theorem allN_at {f : Nat → Bool} {j : Nat} : ∀ {n : Nat}, allN n f = true → j < n → f j = true
  | 0, _, h => by omega
  | n + 1, e, h => by
    rw [allN, Bool.and_eq_true] at e
    by_cases hj : j = n
    · subst hj
      exact e.2
    · exact allN_at (n := n) e.1 (by omega)
def okStep (p n : Int) (q : List Int) : Bool := decide (0 ≤ q.getD 0 0 ∧ q.getD 0 0 < n ∧ 0 ≤ q.getD 1 0 ∧ q.getD 1 0 < n ∧ q.getD 0 0 ≠ q.getD 1 0 ∧ 1 ≤ q.getD 2 0 ∧ q.getD 2 0 < p)
def okOut (p n : Int) (q : List Int) : Bool := decide (0 ≤ q.getD 0 0 ∧ q.getD 0 0 < n ∧ 0 ≤ q.getD 1 0 ∧ q.getD 1 0 < p ∧ ¬ (q.getD 1 0 = 0 ∧ q.getD 0 0 ≠ 0))
theorem okStep_3 {p n a b c : Int} : okStep p n [a, b, c] = decide (0 ≤ a ∧ a < n ∧ 0 ≤ b ∧ b < n ∧ a ≠ b ∧ 1 ≤ c ∧ c < p) := rfl
theorem okOut_2 {p n a b : Int} : okOut p n [a, b] = decide (0 ≤ a ∧ a < n ∧ 0 ≤ b ∧ b < p ∧ ¬ (b = 0 ∧ a ≠ 0)) := rfl
def headP (x : Prg) : Bool := isP x.p && decide (1 ≤ x.n ∧ x.n ≤ 30 ∧ x.st.length ≤ 900 ∧ 1 ≤ x.out.length ∧ x.out.length ≤ 30)
def isPrg (x : Prg) : Bool := headP x && allN x.st.length (fun i => okStep x.p (x.n + i) (x.st.getD i [])) && allN x.out.length (fun i => okOut x.p (x.n + x.st.length) (x.out.getD i []))
theorem isPrg_all {x : Prg} (h : headP x = true) (h1 : ∀ i, i < x.st.length → okStep x.p (x.n + i) (x.st.getD i []) = true) (h2 : ∀ i, i < x.out.length → okOut x.p (x.n + x.st.length) (x.out.getD i []) = true) : isPrg x = true := by
  unfold isPrg
  rw [h, allN_true h1, allN_true h2]
  rfl
end Go.Proofs.Ytilpnbejpndgpaa.X

/- Lists under way in known blocks; what programs make: RunProgram of both sides. -/
set_option linter.unusedVariables false
set_option linter.unusedSimpArgs false
set_option maxRecDepth 20000
set_option maxHeartbeats 4000000
namespace Go.Proofs.Ytilpnbejpndgpaa.X
open Go Go.RowKit

theorem map_get {l : List Int} {j : Nat} (hj : j < l.length) : (l.map (Value.int .i64))[j]? = some (I64 (l.getD j 0)) := by
  simp [List.getD_eq_getElem?_getD, hj]
theorem map_set {l : List Int} {j : Nat} {x : Int} (hj : j < l.length) : splice (l.map (Value.int .i64)) j [I64 x] = (l.set j x).map (Value.int .i64) := by
  rw [splice_set (by simpa using hj)]
  simp [List.map_set]
/-- A list in a block of one's own that is known. -/
def Lst (h : AH) (n : Nat) (l : List Int) (full : Bool) : Prop := h.get n = some ⟨l.map (Value.int .i64), 2, false, full⟩
def sl (n len : Nat) : Value := .slice (some ⟨n, 0, none⟩) len 1
section
variable {h h' : AH} {n : Nat} {l : List Int} {full : Bool}
theorem Lst.pre (o : Lst h n l full) (p : h <+: h') : Lst h' n l full := pre_get p o
theorem Lst.lt (o : Lst h n l full) : n < h.length := get_lt o
theorem Lst.own (o : Lst h n l full) : OwnB h n (l.map (Value.int .i64)) full := ⟨_, o⟩
theorem Lst.put_ne {m : Nat} {b : Blk} (o : Lst h n l full) (e : m ≠ n) : Lst (h.put m b) n l full := by
  unfold Lst
  rw [get_put_ne e]
  exact o
theorem Lst.ix {j : Int} {len : Nat} (h0 : 0 ≤ j ∧ j < len) : ixsV 1 (sl n len) (I64 j) = some (.pointer (some ⟨n, j.toNat, none⟩)) := by
  unfold sl
  rw [ixsV_some, if_pos ⟨h0.1, h0.2, rfl⟩]
  simp
theorem Lst.rd {j : Nat} (o : Lst h n l full) (hj : j < l.length) : h.rd1 n j = some (I64 (l.getD j 0)) := by
  rw [rd1_of o]
  exact map_get hj
theorem Lst.wr {j : Nat} {x : Int} (o : Lst h n l full) (hj : j < l.length) : ∃ h', h.wr n j [I64 x] = some h' ∧ h' = h.put n ⟨(l.set j x).map (Value.int .i64), 2, false, full⟩ ∧ Lst h' n (l.set j x) full := by
  refine ⟨_, ?_, rfl, get_put_same o.lt⟩
  rw [wr_of o, if_pos ⟨rfl, by simp only [List.length_map, List.length_singleton]; omega⟩, map_set hj]
theorem Lst.ints (o : Lst h n l full) : Ints h (sl n l.length) l := Ints.own o rfl
theorem Lst.ownR {h0 : AH} (o : Lst h n l full) (hn : h0.length ≤ n) : OwnR h0 h (sl n l.length) l := OwnR.of hn rfl o
theorem Lst.app {H : AH} {x : Int} {e' : TypeId} {ro fu : Bool} (o : Lst H n l full) (hl : (l.length : Int) ≤ 1048576) {Q : Value → AH → Prop}
    (hQ : ∀ H', H'.length = H.length + 2 → (∀ h0 : AH, h0.length ≤ n → h0 <+: H → h0 <+: H') → (∀ m c f, m ≠ n → OwnB H m c f → OwnB H' m c f) → (∀ m c f, m ≠ n → Lst H m c f → Lst H' m c f) → Lst H' (H.length + 1) (l ++ [x]) false → Q (sl (H.length + 1) (l ++ [x]).length) H') :
    OQ (appV 2 1 8 (sl n l.length) (.slice (some ⟨H.length, 0, none⟩) 1 1) (H.new ⟨[I64 x], e', ro, fu⟩)) Q := by
  have hn : (H.new ⟨[I64 x], e', ro, fu⟩).rdn H.length 0 1 = some [I64 x] := by rw [rdn_new_same]; rfl
  have hk : (H.new ⟨[I64 x], e', ro, fu⟩).get n = some ⟨l.map (Value.int .i64), 2, false, full⟩ := get_new_any o
  have hkb := o.lt
  unfold sl
  rw [app_own hk (by simp) hn (by omega), OQ_some]
  have := hQ (((H.new ⟨[I64 x], e', ro, fu⟩).kill n).new ⟨l.map (Value.int .i64) ++ [I64 x], 2, false, false⟩) (by rw [len_new, len_kill, len_new]) (fun h0 q p => pre_new (pre_kill (pre_new p) q))
    (fun m c f hm o => (o.new.kill_ne (fun e => hm e.symm)).new) (fun m c f hm o => get_new_any (by rw [get_kill_ne (fun e => hm e.symm)]; exact get_new_any o)) (by unfold Lst; rw [get_new_eq (by rw [len_kill, len_new])]; simp)
  unfold sl at this
  rw [len_new]
  rw [List.length_append, List.length_singleton] at this
  exact this
end
theorem s_OwnT {v : Value} {ns : List Int} {h : AH} {Q : Value → AH → Prop} (hv : Ints h v ns) (h0 : 0 < ns.length) (hl : (ns.length : Int) ≤ 1048576)
    (hQ : ∀ n h', h.length ≤ n → h <+: h' → Lst h' n ns false → Q (sl n ns.length) h') : WF S 113 [v] h Q := by
  refine WF_fn (fn := c113) rfl rfl ?_
  unfold c113
  obtain ⟨n, off, rfl, hr⟩ := hv.vals.rdn (by simpa using h0)
  try simp (maxSteps := 3000000) (disch := first | omega | (simp only [len_new, len_put, len_kill]; omega)) only [↓xpre, xpost, ↓reduceIte, Nat.reduceEqDiff, Nat.reduceAdd, Nat.reduceSub, Nat.reduceLeDiff, Nat.zero_add, Nat.sub_zero, fillL, zrep]
  rw [List.length_map] at hr ⊢
  rw [app_zero get_new_same (show AH.rdn (AH.new h _) n off ns.length = _ by rw [rdn_eq] at hr ⊢; obtain ⟨b, hb, hc⟩ := Option.bind_eq_some_iff.1 hr; rw [get_new_any hb]; exact hc) h0 (by omega)]
  try simp (maxSteps := 3000000) (disch := first | omega | (simp only [len_new, len_put, len_kill]; omega)) only [↓xpre, xpost, ↓reduceIte, Nat.reduceEqDiff, Nat.reduceAdd, Nat.reduceSub, Nat.reduceLeDiff, Nat.zero_add, Nat.sub_zero]
  exact hQ _ _ (by rw [len_new]; omega) (pre_new (pre_kill (pre_new (List.prefix_refl _)) (Nat.le_refl _))) (get_new_eq (by rw [len_kill]))
theorem i_CloneT {v : Value} {ns : List Int} {h : AH} {Q : Value → AH → Prop} (hv : Ints h v ns) (h0 : 0 < ns.length) (hl : (ns.length : Int) ≤ 1048576)
    (hQ : ∀ n h', h.length ≤ n → h <+: h' → Lst h' n ns false → Q (sl n ns.length) h') : WF S 126 [v] h Q := by
  refine WF_fn (fn := c126) rfl rfl ?_
  unfold c126
  obtain ⟨n, off, rfl, hr⟩ := hv.vals.rdn (by simpa using h0)
  try simp (maxSteps := 3000000) (disch := first | omega | (simp only [len_new, len_put, len_kill]; omega)) only [↓xpre, xpost, ↓reduceIte, Nat.reduceEqDiff, Nat.reduceAdd, Nat.reduceSub, Nat.reduceLeDiff, Nat.zero_add, Nat.sub_zero, ↓WX_isnil, isnilV_some, fillL, zrep]
  rw [List.length_map] at hr ⊢
  rw [app_zero get_new_same (show AH.rdn (AH.new h _) n off ns.length = _ by rw [rdn_eq] at hr ⊢; obtain ⟨b, hb, hc⟩ := Option.bind_eq_some_iff.1 hr; rw [get_new_any hb]; exact hc) h0 (by omega)]
  try simp (maxSteps := 3000000) (disch := first | omega | (simp only [len_new, len_put, len_kill]; omega)) only [↓xpre, xpost, ↓reduceIte, Nat.reduceEqDiff, Nat.reduceAdd, Nat.reduceSub, Nat.reduceLeDiff, Nat.zero_add, Nat.sub_zero]
  exact hQ _ _ (by rw [len_new]; omega) (pre_new (pre_kill (pre_new (List.prefix_refl _)) (Nat.le_refl _))) (get_new_eq (by rw [len_kill]))

/-! ### What programs make -/
def nq (q : List Int) (i : Nat) : Nat := (q.getD i 0).toNat
def valS (p : Int) (st : List (List Int)) (ns : List Int) : Nat → List Int
  | 0 => ns
  | i + 1 => valS p st ns i ++ [((valS p st ns i).getD (nq (st.getD i []) 0) 0 + (st.getD i []).getD 2 0 * (valS p st ns i).getD (nq (st.getD i []) 1) 0).tmod p]
theorem valS_len {p : Int} {st : List (List Int)} {ns : List Int} : ∀ {i : Nat}, (valS p st ns i).length = ns.length + i
  | 0 => rfl
  | i + 1 => by simp [valS, valS_len (i := i)]; omega
def outS (p : Int) (out : List (List Int)) (vs : List Int) : Nat → List Int
  | 0 => []
  | i + 1 => outS p out vs i ++ [((out.getD i []).getD 1 0 * vs.getD (nq (out.getD i []) 0) 0).tmod p]
theorem outS_len {p : Int} {out : List (List Int)} {vs : List Int} : ∀ {i : Nat}, (outS p out vs i).length = i
  | 0 => rfl
  | i + 1 => by simp [outS, outS_len (i := i)]
def runP (x : Prg) (ns : List Int) : List Int := outS x.p x.out (valS x.p x.st ns x.st.length) x.out.length
theorem runP_len {x : Prg} {ns : List Int} : (runP x ns).length = x.out.length := outS_len
theorem allIn_app {p : Int} {l : List Int} {x : Int} (h : allIn p l = true) (hx : 0 ≤ x ∧ x < p) : allIn p (l ++ [x]) = true := by
  unfold allIn at h ⊢
  rw [List.all_append, h]
  simp [hx]
/-- The facts of a program. -/
structure PrgF (x : Prg) : Prop where
  p : 2 ≤ x.p ∧ x.p ≤ 5
  n : 1 ≤ x.n ∧ x.n ≤ 30
  st : x.st.length ≤ 900
  out : 1 ≤ x.out.length ∧ x.out.length ≤ 30
  step : ∀ i, i < x.st.length → okStep x.p (x.n + (i : Nat)) (x.st.getD i []) = true
  outs : ∀ i, i < x.out.length → okOut x.p (x.n + x.st.length) (x.out.getD i []) = true
theorem isPrg_facts {x : Prg} (h : isPrg x = true) : PrgF x := by
  unfold isPrg headP at h
  simp only [Bool.and_eq_true, decide_eq_true_eq] at h
  obtain ⟨⟨⟨h1, h2, h3, h4, h5, h6⟩, h7⟩, h8⟩ := h
  exact ⟨isP_in h1, ⟨h2, h3⟩, h4, ⟨h5, h6⟩, fun i hi => allN_at (f := fun i : Nat => okStep x.p (x.n + i) (x.st.getD i [])) h7 hi, fun i hi => allN_at (f := fun i : Nat => okOut x.p (x.n + x.st.length) (x.out.getD i [])) h8 hi⟩
theorem PrgF.st3 {x : Prg} (f : PrgF x) {i : Nat} {a b d : Int} (hi : i < x.st.length) (hq : x.st.getD i [] = [a, b, d]) : 0 ≤ a ∧ a < x.n + i ∧ 0 ≤ b ∧ b < x.n + i ∧ a ≠ b ∧ 1 ≤ d ∧ d < x.p := by
  have := f.step i hi
  rw [hq, okStep_3, decide_eq_true_eq] at this
  exact this
theorem PrgF.out2 {x : Prg} (f : PrgF x) {i : Nat} {a b : Int} (hi : i < x.out.length) (hq : x.out.getD i [] = [a, b]) : 0 ≤ a ∧ a < x.n + x.st.length ∧ 0 ≤ b ∧ b < x.p ∧ ¬ (b = 0 ∧ a ≠ 0) := by
  have := f.outs i hi
  rw [hq, okOut_2, decide_eq_true_eq] at this
  exact this
theorem valS_in {x : Prg} {h : AH} {v w : Value} (f : PrgF x) (hv : PrgR h v w x) {ns : List Int} (hn : allIn x.p ns = true) (hl : (ns.length : Int) = x.n) : ∀ {i : Nat}, i ≤ x.st.length → allIn x.p (valS x.p x.st ns i) = true
  | 0, _ => hn
  | i + 1, hi => by
    have ih := valS_in f hv hn hl (i := i) (by omega)
    obtain ⟨a, b, d, hq⟩ := all3 (hv.1.wid (show i < x.st.length by omega))
    have s3 := f.st3 (by omega) hq
    have fp := f.p
    refine allIn_app ih ?_
    rw [hq]
    have hA := allIn_iff.1 ih a.toNat (by rw [valS_len]; omega)
    have hB := allIn_iff.1 ih b.toNat (by rw [valS_len]; omega)
    have m := mul_in (A := 4) (B := 4) (a := d) (b := (valS x.p x.st ns i).getD b.toNat 0) (by omega) (by omega)
    exact tmod_nn (by show 0 ≤ (valS x.p x.st ns i).getD a.toNat 0 + d * (valS x.p x.st ns i).getD b.toNat 0; omega) (by omega)

theorem s_run {v w u : Value} {x : Prg} {ns : List Int} {h : AH} {Q : Value → AH → Prop} (hv : PrgR h v w x) (pf : PrgF x) (hu : Ints h u ns) (hn : allIn x.p ns = true) (hl : (ns.length : Int) = x.n)
    (hQ : ∀ n full h', h.length ≤ n → h <+: h' → Lst h' n (runP x ns) full → Q (sl n (runP x ns).length) h') : WF S 84 [prgV x v w, u] h Q := by
  refine WF_fn (fn := c84) rfl rfl ?_
  unfold c84
  have fp := pf.p
  have fn := pf.n
  have fst := pf.st
  have fout := pf.out
  ((try simp (maxSteps := 3000000) (dsimp := false) (disch := first | omega | (simp only [len_new, len_put, len_kill]; omega)) only [↓ypre, ypost, ↓reduceIte, Nat.reduceEqDiff, Nat.reduceAdd, Nat.reduceSub, Nat.reduceLeDiff, Nat.zero_add, Nat.sub_zero, ynew, prgV, hv.1.one, hv.2.one]); try simp only [yback])
  generalize hH1 : AH.new h _ = H1
  obtain ⟨hb1, p1, n1⟩ := new_facts hH1
  refine s_OwnT (hu.pre p1) (by omega) (by omega) fun kv H2 hkv p2 lv => ?_
  have hb2 := pre_get p2 hb1
  have ltv := lv.lt
  ((try simp (maxSteps := 3000000) (dsimp := false) (disch := first | omega | (simp only [len_new, len_put, len_kill]; omega)) only [↓ypre, ypost, ↓reduceIte, Nat.reduceEqDiff, Nat.reduceAdd, Nat.reduceSub, Nat.reduceLeDiff, Nat.zero_add, Nat.sub_zero, ynew, rd1_of hb2, hv.1.len]); try simp only [yback])
  generalize hH3 : AH.new H2 _ = H3
  obtain ⟨hb3, p3, n3⟩ := new_facts hH3
  have lo : Lst H3 H2.length [] true := hb3
  refine WC_loop_inv (fun m f K1 => ∃ (i : Nat) (kv : Nat) (fu : Bool), m = x.st.length - i ∧ i ≤ x.st.length ∧ f 2 = .pointer (some ⟨h.length, 0, none⟩) ∧ f 5 = sl kv (valS x.p x.st ns i).length ∧ f 6 = sl H2.length 0 ∧ f 7 = I64 i ∧ (H1 <+: K1) ∧ (Lst K1 kv (valS x.p x.st ns i) fu) ∧ (Lst K1 H2.length [] true) ∧ (H1.length ≤ kv ∧ kv ≠ H2.length)) ?_ (x.st.length - 0) _ _ ⟨0, kv, false, rfl, by omega, (by first | rfl | (simp [upd_apply]; done)), (by first | rfl | (simp [upd_apply]; done)), (by first | rfl | (simp [upd_apply]; done)), (by first | rfl | (simp [upd_apply]; done)), p2.trans p3, lv.pre p3, lo, ⟨hkv, by omega⟩⟩
  rintro m f K1 ⟨i, kv, fu, rfl, hi, f2, f5, f6, f7, pp, lv, lo, hk⟩
  have hbK := pre_get pp hb1
  have ltK := get_lt hbK
  have hvK := hv.pre (p1.trans pp)
  have ltv := lv.lt
  have vl := valS_len (p := x.p) (st := x.st) (ns := ns) (i := i)
  by_cases hlt : (i : Int) < x.st.length
  · have hi' : i < x.st.length := by omega
    obtain ⟨n, off, hix, hrn⟩ := hvK.1.rdw hi'
    obtain ⟨a, b, d, hq⟩ := all3 (hvK.1.wid hi')
    rw [hq, cel_3] at hrn
    have s3 := pf.st3 hi' hq
    have va := valS_in pf hv hn hl (i := i) (by omega)
    have hA := allIn_iff.1 va a.toNat (by omega)
    have hB := allIn_iff.1 va b.toNat (by omega)
    have m := mul_in (A := 4) (B := 4) (a := d) (b := (valS x.p x.st ns i).getD b.toNat 0) (by omega) (by omega)
    have ixa := Lst.ix (n := kv) (j := a) (len := (valS x.p x.st ns i).length) (by omega)
    have ixb := Lst.ix (n := kv) (j := b) (len := (valS x.p x.st ns i).length) (by omega)
    have rda := lv.rd (j := a.toNat) (by omega)
    have rdb := lv.rd (j := b.toNat) (by omega)
    have ev : valS x.p x.st ns (i + 1) = valS x.p x.st ns i ++ [((valS x.p x.st ns i).getD a.toNat 0 + d * (valS x.p x.st ns i).getD b.toNat 0).tmod x.p] := by
      rw [valS, hq]
      rfl
    ((try simp (maxSteps := 3000000) (dsimp := false) (disch := first | omega | (simp only [len_new, len_put, len_kill]; omega)) only [↓ypre, ypost, ↓reduceIte, Nat.reduceEqDiff, Nat.reduceAdd, Nat.reduceSub, Nat.reduceLeDiff, Nat.zero_add, Nat.sub_zero, ynew, f2, f5, f6, f7, rd1_of hbK, hvK.1.len, decide_eq_true hlt, hix, hrn, ixa, ixb, rda, rdb, wrap64_in, bin_rem]); try simp only [yback])
    generalize hH4 : AH.new K1 _ = H4
    obtain ⟨hb4, p4, n4⟩ := new_facts hH4
    refine (lv.pre p4).app (by omega) fun H5 l5 pre5 own5 lst5 lv5 => ?_
    ((try simp (maxSteps := 3000000) (dsimp := false) (disch := first | omega | (simp only [len_new, len_put, len_kill]; omega)) only [↓ypre, ypost, ↓reduceIte, Nat.reduceEqDiff, Nat.reduceAdd, Nat.reduceSub, Nat.reduceLeDiff, Nat.zero_add, Nat.sub_zero, ynew, f2, f5, f6, f7, wrap64_in]); try simp only [yback])
    rw [← ev] at lv5
    refine InvQ_go (x.st.length - (i + 1)) (by omega) ⟨(i + 1), (H4.length + 1), false, rfl, by omega, (by first | rfl | exact f2 | (simp only [upd_apply]; rfl) | (show I64 _ = _; congr 1; omega)), (by show sl _ _ = _; rw [ev]), (by first | rfl | exact f6 | (simp only [upd_apply]; rfl) | (show I64 _ = _; congr 1; omega)), (by first | rfl | exact f7 | (simp only [upd_apply]; rfl) | (show I64 _ = _; congr 1; omega)), (pre5 _ hk.1 (pp.trans p4)), lv5, (lst5 _ _ _ (fun e => hk.2 e.symm) (lo.pre p4)), ⟨by have := pre_len pp; omega, by have := lo.lt; omega⟩⟩
  have ei : i = x.st.length := by omega
  subst ei
  ((try simp (maxSteps := 3000000) (dsimp := false) (disch := first | omega | (simp only [len_new, len_put, len_kill]; omega)) only [↓ypre, ypost, ↓reduceIte, Nat.reduceEqDiff, Nat.reduceAdd, Nat.reduceSub, Nat.reduceLeDiff, Nat.zero_add, Nat.sub_zero, ynew, f2, f5, f6, f7, rd1_of hbK, hvK.1.len, hvK.2.len, decide_eq_false hlt]); try simp only [yback])
  have va := valS_in pf hv hn hl (i := x.st.length) (Nat.le_refl _)
  unfold runP at hQ
  generalize valS x.p x.st ns x.st.length = vs at *
  have lo' : Lst K1 H2.length (outS x.p x.out vs 0) true := lo
  refine WC_loop_inv (fun m f K2 => ∃ (i : Nat) (ko : Nat) (fo : Bool), m = x.out.length - i ∧ i ≤ x.out.length ∧ f 2 = .pointer (some ⟨h.length, 0, none⟩) ∧ f 5 = sl kv vs.length ∧ f 6 = sl ko (outS x.p x.out vs i).length ∧ f 9 = I64 i ∧ (H1 <+: K2) ∧ (Lst K2 kv vs fu) ∧ (Lst K2 ko (outS x.p x.out vs i) fo) ∧ (H1.length ≤ ko ∧ kv ≠ ko)) ?_ (x.out.length - 0) _ _ ⟨0, H2.length, true, rfl, by omega, (by first | rfl | exact f2 | (simp [upd_apply]; done)), (by first | rfl | exact f5 | (simp [upd_apply]; done)), (by first | rfl | exact f6 | (simp [upd_apply]; done)), (by first | rfl | (simp [upd_apply]; done)), pp, lv, lo', ⟨by have := pre_len p2; omega, hk.2⟩⟩
  rintro m f K2 ⟨i, ko, fo, rfl, hi, f2, f5, f6, f9, pp, lv, lo, hk⟩
  have hbK := pre_get pp hb1
  have ltK := get_lt hbK
  have hvK := hv.pre (p1.trans pp)
  have ltv := lv.lt
  have lto := lo.lt
  have ol := outS_len (p := x.p) (out := x.out) (vs := vs) (i := i)
  by_cases hlt : (i : Int) < x.out.length
  · have hi' : i < x.out.length := by omega
    obtain ⟨n, off, hix, hrn⟩ := hvK.2.rdw hi'
    obtain ⟨n', off', hix', hrn', hr1⟩ := hvK.2.at hi'
    obtain ⟨a, b, hq⟩ := all2 (hvK.2.wid hi')
    have r0 := hr1 0 (by omega)
    have r1 := hr1 1 (by omega)
    rw [hq, cel_2] at hrn
    rw [hq] at r0 r1
    simp only [Nat.add_zero, List.getD_cons_zero, List.getD_cons_succ] at r0 r1
    have s2 := pf.out2 hi' hq
    have hA := allIn_iff.1 va a.toNat (by omega)
    have m := mul_in (A := 4) (B := 4) (a := b) (b := vs.getD a.toNat 0) (by omega) (by omega)
    have ixa := Lst.ix (n := kv) (j := a) (len := vs.length) (by omega)
    have rda := lv.rd (j := a.toNat) (by omega)
    have ev : outS x.p x.out vs (i + 1) = outS x.p x.out vs i ++ [(b * vs.getD a.toNat 0).tmod x.p] := by
      rw [outS, hq]
      rfl
    ((try simp (maxSteps := 3000000) (dsimp := false) (disch := first | omega | (simp only [len_new, len_put, len_kill]; omega)) only [↓ypre, ypost, ↓reduceIte, Nat.reduceEqDiff, Nat.reduceAdd, Nat.reduceSub, Nat.reduceLeDiff, Nat.zero_add, Nat.sub_zero, ynew, f2, f5, f6, f9, Nat.add_zero, rd1_of hbK, hvK.2.len, decide_eq_true hlt, hix', r0, r1, ixa, rda, wrap64_in, bin_rem]); try simp only [yback])
    refine lo.app (by omega) fun H5 l5 pre5 own5 lst5 lo5 => ?_
    ((try simp (maxSteps := 3000000) (dsimp := false) (disch := first | omega | (simp only [len_new, len_put, len_kill]; omega)) only [↓ypre, ypost, ↓reduceIte, Nat.reduceEqDiff, Nat.reduceAdd, Nat.reduceSub, Nat.reduceLeDiff, Nat.zero_add, Nat.sub_zero, ynew, f2, f5, f6, f9, wrap64_in]); try simp only [yback])
    rw [← ev] at lo5
    refine InvQ_go (x.out.length - (i + 1)) (by omega) ⟨(i + 1), (K2.length + 1), false, rfl, by omega, (by first | rfl | exact f2 | (simp only [upd_apply]; rfl) | (show I64 _ = _; congr 1; omega)), (by first | rfl | exact f5 | (simp only [upd_apply]; rfl) | (show I64 _ = _; congr 1; omega)), (by show sl _ _ = _; rw [ev]), (by first | rfl | exact f9 | (simp only [upd_apply]; rfl) | (show I64 _ = _; congr 1; omega)), (pre5 _ hk.1 pp), (lst5 _ _ _ hk.2 lv), lo5, ⟨by have := pre_len pp; omega, by omega⟩⟩
  have ei : i = x.out.length := by omega
  subst ei
  ((try simp (maxSteps := 3000000) (dsimp := false) (disch := first | omega | (simp only [len_new, len_put, len_kill]; omega)) only [↓ypre, ypost, ↓reduceIte, Nat.reduceEqDiff, Nat.reduceAdd, Nat.reduceSub, Nat.reduceLeDiff, Nat.zero_add, Nat.sub_zero, ynew, f2, f5, f6, f9, rd1_of hbK, hvK.2.len, decide_eq_false hlt]); try simp only [yback])
  exact hQ ko fo _ (by omega) (p1.trans pp) lo
theorem i_run {v w u : Value} {x : Prg} {ns : List Int} {h : AH} {Q : Value → AH → Prop} (hv : PrgR h v w x) (pf : PrgF x) (hu : Ints h u ns) (hn : allIn x.p ns = true) (hl : (ns.length : Int) = x.n)
    (hQ : ∀ n full h', h.length ≤ n → h <+: h' → Lst h' n (runP x ns) full → Q (sl n (runP x ns).length) h') : WF S 86 [prgV x v w, u] h Q := by
  refine WF_fn (fn := c86) rfl rfl ?_
  unfold c86
  have fp := pf.p
  have fn := pf.n
  have fst := pf.st
  have fout := pf.out
  ((try simp (maxSteps := 3000000) (dsimp := false) (disch := first | omega | (simp only [len_new, len_put, len_kill]; omega)) only [↓ypre, ypost, ↓reduceIte, Nat.reduceEqDiff, Nat.reduceAdd, Nat.reduceSub, Nat.reduceLeDiff, Nat.zero_add, Nat.sub_zero, ynew, prgV, hv.1.one, hv.2.one]); try simp only [yback])
  generalize hH1 : AH.new h _ = H1
  obtain ⟨hb1, p1, n1⟩ := new_facts hH1
  refine i_CloneT (hu.pre p1) (by omega) (by omega) fun kv H2 hkv p2 lv => ?_
  have hb2 := pre_get p2 hb1
  have ltv := lv.lt
  ((try simp (maxSteps := 3000000) (dsimp := false) (disch := first | omega | (simp only [len_new, len_put, len_kill]; omega)) only [↓ypre, ypost, ↓reduceIte, Nat.reduceEqDiff, Nat.reduceAdd, Nat.reduceSub, Nat.reduceLeDiff, Nat.zero_add, Nat.sub_zero, ynew, rd1_of hb2, hv.1.len]); try simp only [yback])
  refine WC_loop_inv (fun m f K1 => ∃ (i : Nat) (kv : Nat) (fu : Bool), m = x.st.length - i ∧ i ≤ x.st.length ∧ f 2 = .pointer (some ⟨h.length, 0, none⟩) ∧ f 5 = sl kv (valS x.p x.st ns i).length ∧ f 14 = v ∧ f 15 = I64 x.st.length ∧ f 16 = I64 i ∧ (H1 <+: K1) ∧ (Lst K1 kv (valS x.p x.st ns i) fu) ∧ (H1.length ≤ kv)) ?_ (x.st.length - 0) _ _ ⟨0, kv, false, rfl, by omega, (by first | rfl | (simp [upd_apply]; done)), (by first | rfl | (simp [upd_apply]; done)), (by first | rfl | (simp [upd_apply]; done)), (by first | rfl | (simp [upd_apply]; done)), (by first | rfl | (simp [upd_apply]; done)), p2, lv, hkv⟩
  rintro m f K1 ⟨i, kv, fu, rfl, hi, f2, f5, f14, f15, f16, pp, lv, hk⟩
  have hbK := pre_get pp hb1
  have ltK := get_lt hbK
  have hvK := hv.pre (p1.trans pp)
  have ltv := lv.lt
  have vl := valS_len (p := x.p) (st := x.st) (ns := ns) (i := i)
  by_cases hlt : (i : Int) < x.st.length
  · have hi' : i < x.st.length := by omega
    obtain ⟨n, off, hix, hrn⟩ := hvK.1.rdw hi'
    obtain ⟨a, b, d, hq⟩ := all3 (hvK.1.wid hi')
    rw [hq, cel_3] at hrn
    have s3 := pf.st3 hi' hq
    have va := valS_in pf hv hn hl (i := i) (by omega)
    have hA := allIn_iff.1 va a.toNat (by omega)
    have hB := allIn_iff.1 va b.toNat (by omega)
    have m := mul_in (A := 4) (B := 4) (a := d) (b := (valS x.p x.st ns i).getD b.toNat 0) (by omega) (by omega)
    have ixa := Lst.ix (n := kv) (j := a) (len := (valS x.p x.st ns i).length) (by omega)
    have ixb := Lst.ix (n := kv) (j := b) (len := (valS x.p x.st ns i).length) (by omega)
    have rda := lv.rd (j := a.toNat) (by omega)
    have rdb := lv.rd (j := b.toNat) (by omega)
    have ev : valS x.p x.st ns (i + 1) = valS x.p x.st ns i ++ [((valS x.p x.st ns i).getD a.toNat 0 + d * (valS x.p x.st ns i).getD b.toNat 0).tmod x.p] := by
      rw [valS, hq]
      rfl
    ((try simp (maxSteps := 3000000) (dsimp := false) (disch := first | omega | (simp only [len_new, len_put, len_kill]; omega)) only [↓ypre, ypost, ↓reduceIte, Nat.reduceEqDiff, Nat.reduceAdd, Nat.reduceSub, Nat.reduceLeDiff, Nat.zero_add, Nat.sub_zero, ynew, f2, f5, f14, f15, f16, rd1_of hbK, hvK.1.len, decide_eq_true hlt, hix, hrn, ixa, ixb, rda, rdb, wrap64_in, bin_rem]); try simp only [yback])
    generalize hH4 : AH.new K1 _ = H4
    obtain ⟨hb4, p4, n4⟩ := new_facts hH4
    refine (lv.pre p4).app (by omega) fun H5 l5 pre5 own5 lst5 lv5 => ?_
    ((try simp (maxSteps := 3000000) (dsimp := false) (disch := first | omega | (simp only [len_new, len_put, len_kill]; omega)) only [↓ypre, ypost, ↓reduceIte, Nat.reduceEqDiff, Nat.reduceAdd, Nat.reduceSub, Nat.reduceLeDiff, Nat.zero_add, Nat.sub_zero, ynew, f2, f5, f14, f15, f16, wrap64_in]); try simp only [yback])
    rw [← ev] at lv5
    refine InvQ_go (x.st.length - (i + 1)) (by omega) ⟨(i + 1), (H4.length + 1), false, rfl, by omega, (by first | rfl | exact f2 | (simp only [upd_apply]; rfl) | (show I64 _ = _; congr 1; omega)), (by show sl _ _ = _; rw [ev]), (by first | rfl | exact f14 | (simp only [upd_apply]; rfl) | (show I64 _ = _; congr 1; omega)), (by first | rfl | exact f15 | (simp only [upd_apply]; rfl) | (show I64 _ = _; congr 1; omega)), (by first | rfl | exact f16 | (simp only [upd_apply]; rfl) | (show I64 _ = _; congr 1; omega)), (pre5 _ hk (pp.trans p4)), lv5, (by have := pre_len pp; omega)⟩
  have ei : i = x.st.length := by omega
  subst ei
  ((try simp (maxSteps := 3000000) (dsimp := false) (disch := first | omega | (simp only [len_new, len_put, len_kill]; omega)) only [↓ypre, ypost, ↓reduceIte, Nat.reduceEqDiff, Nat.reduceAdd, Nat.reduceSub, Nat.reduceLeDiff, Nat.zero_add, Nat.sub_zero, ynew, f2, f5, f14, f15, f16, rd1_of hbK, hvK.1.len, hvK.2.len, decide_eq_false hlt]); try simp only [yback])
  have va := valS_in pf hv hn hl (i := x.st.length) (Nat.le_refl _)
  unfold runP at hQ
  generalize valS x.p x.st ns x.st.length = vs at *
  generalize hH6 : AH.new K1 _ = H6
  obtain ⟨hb6, p6, n6⟩ := new_facts hH6
  have lo' : Lst H6 K1.length (outS x.p x.out vs 0) true := hb6
  ((try simp (maxSteps := 3000000) (dsimp := false) (disch := first | omega | (simp only [len_new, len_put, len_kill]; omega)) only [↓ypre, ypost, ↓reduceIte, Nat.reduceEqDiff, Nat.reduceAdd, Nat.reduceSub, Nat.reduceLeDiff, Nat.zero_add, Nat.sub_zero, ynew, f2, f5, f14, f15, f16, rd1_of (pre_get p6 hbK), hvK.2.len]); try simp only [yback])
  refine WC_loop_inv (fun m f K2 => ∃ (i : Nat) (ko : Nat) (fo : Bool), m = x.out.length - i ∧ i ≤ x.out.length ∧ f 2 = .pointer (some ⟨h.length, 0, none⟩) ∧ f 5 = sl kv vs.length ∧ f 8 = sl ko (outS x.p x.out vs i).length ∧ f 43 = w ∧ f 44 = I64 x.out.length ∧ f 45 = I64 i ∧ (H1 <+: K2) ∧ (Lst K2 kv vs fu) ∧ (Lst K2 ko (outS x.p x.out vs i) fo) ∧ (H1.length ≤ ko ∧ kv ≠ ko)) ?_ (x.out.length - 0) _ _ ⟨0, K1.length, true, rfl, by omega, (by first | rfl | exact f2 | (simp [upd_apply]; done)), (by first | rfl | exact f5 | (simp [upd_apply]; done)), (by first | rfl | (simp [upd_apply]; done)), (by first | rfl | (simp [upd_apply]; done)), (by first | rfl | (simp [upd_apply]; done)), (by first | rfl | (simp [upd_apply]; done)), pp.trans p6, lv.pre p6, lo', ⟨by have := pre_len pp; omega, by omega⟩⟩
  rintro m f K2 ⟨i, ko, fo, rfl, hi, f2, f5, f8, f43, f44, f45, pp, lv, lo, hk⟩
  have hbK := pre_get pp hb1
  have ltK := get_lt hbK
  have hvK := hv.pre (p1.trans pp)
  have ltv := lv.lt
  have lto := lo.lt
  have ol := outS_len (p := x.p) (out := x.out) (vs := vs) (i := i)
  by_cases hlt : (i : Int) < x.out.length
  · have hi' : i < x.out.length := by omega
    obtain ⟨n, off, hix, hrn⟩ := hvK.2.rdw hi'
    obtain ⟨n', off', hix', hrn', hr1⟩ := hvK.2.at hi'
    obtain ⟨a, b, hq⟩ := all2 (hvK.2.wid hi')
    have r0 := hr1 0 (by omega)
    have r1 := hr1 1 (by omega)
    rw [hq, cel_2] at hrn
    rw [hq] at r0 r1
    simp only [Nat.add_zero, List.getD_cons_zero, List.getD_cons_succ] at r0 r1
    have s2 := pf.out2 hi' hq
    have hA := allIn_iff.1 va a.toNat (by omega)
    have m := mul_in (A := 4) (B := 4) (a := b) (b := vs.getD a.toNat 0) (by omega) (by omega)
    have ixa := Lst.ix (n := kv) (j := a) (len := vs.length) (by omega)
    have rda := lv.rd (j := a.toNat) (by omega)
    have ev : outS x.p x.out vs (i + 1) = outS x.p x.out vs i ++ [(b * vs.getD a.toNat 0).tmod x.p] := by
      rw [outS, hq]
      rfl
    ((try simp (maxSteps := 3000000) (dsimp := false) (disch := first | omega | (simp only [len_new, len_put, len_kill]; omega)) only [↓ypre, ypost, ↓reduceIte, Nat.reduceEqDiff, Nat.reduceAdd, Nat.reduceSub, Nat.reduceLeDiff, Nat.zero_add, Nat.sub_zero, ynew, f2, f5, f8, f43, f44, f45, rd1_of hbK, hvK.2.len, decide_eq_true hlt, hix, hrn, ixa, rda, wrap64_in, bin_rem]); try simp only [yback])
    generalize hH7 : AH.new K2 _ = H7
    obtain ⟨hb7, p7, n7⟩ := new_facts hH7
    refine (lo.pre p7).app (by omega) fun H5 l5 pre5 own5 lst5 lo5 => ?_
    ((try simp (maxSteps := 3000000) (dsimp := false) (disch := first | omega | (simp only [len_new, len_put, len_kill]; omega)) only [↓ypre, ypost, ↓reduceIte, Nat.reduceEqDiff, Nat.reduceAdd, Nat.reduceSub, Nat.reduceLeDiff, Nat.zero_add, Nat.sub_zero, ynew, f2, f5, f8, f43, f44, f45, wrap64_in]); try simp only [yback])
    rw [← ev] at lo5
    refine InvQ_go (x.out.length - (i + 1)) (by omega) ⟨(i + 1), (H7.length + 1), false, rfl, by omega, (by first | rfl | exact f2 | (simp only [upd_apply]; rfl) | (show I64 _ = _; congr 1; omega)), (by first | rfl | exact f5 | (simp only [upd_apply]; rfl) | (show I64 _ = _; congr 1; omega)), (by show sl _ _ = _; rw [ev]), (by first | rfl | exact f43 | (simp only [upd_apply]; rfl) | (show I64 _ = _; congr 1; omega)), (by first | rfl | exact f44 | (simp only [upd_apply]; rfl) | (show I64 _ = _; congr 1; omega)), (by first | rfl | exact f45 | (simp only [upd_apply]; rfl) | (show I64 _ = _; congr 1; omega)), (pre5 _ hk.1 (pp.trans p7)), (lst5 _ _ _ hk.2 (lv.pre p7)), lo5, ⟨by have := pre_len pp; omega, by omega⟩⟩
  have ei : i = x.out.length := by omega
  subst ei
  ((try simp (maxSteps := 3000000) (dsimp := false) (disch := first | omega | (simp only [len_new, len_put, len_kill]; omega)) only [↓ypre, ypost, ↓reduceIte, Nat.reduceEqDiff, Nat.reduceAdd, Nat.reduceSub, Nat.reduceLeDiff, Nat.zero_add, Nat.sub_zero, ynew, f2, f5, f8, f43, f44, f45, rd1_of hbK, hvK.2.len, decide_eq_false hlt]); try simp only [yback])
  exact hQ ko fo _ (by omega) (p1.trans pp) lo
def mmx (b : Bool) (x y : Value) : Option Value := match x, y with
  | .int k a, .int _ c => some (.int k (if b then (if c > a then c else a) else (if c < a then c else a)))
  | _, _ => none
theorem yWX_mmx {S : XS} {f : Fr} {h : AH} {Q : Value → AH → Prop} {b : Bool} {x y : Operand} : WX S (.mm b x [y]) f h Q = yWV (mmx b (ev f x) (ev f y)) (fun v => Q v h) .mk := by
  refine WX_of (fun _ => rfl) ?_
  simp only [xop, List.map_cons, List.map_nil]
  generalize ev f x = vx
  generalize ev f y = vy
  cases vx <;> first | rfl | skip
  cases vy <;> rfl
theorem mmx_max {a c : Int} {k k' : IntKind} : mmx true (.int k a) (.int k' c) = some (.int k (if c > a then c else a)) := rfl

end Go.Proofs.Ytilpnbejpndgpaa.X

/- Elements under way beside other things under way; lists of truth values. -/
set_option linter.unusedVariables false
set_option linter.unusedSimpArgs false
set_option maxRecDepth 20000
set_option maxHeartbeats 4000000
namespace Go.Proofs.Ytilpnbejpndgpaa.X
open Go Go.RowKit

/-- Elements under way: nil, or a block of one's own behind a place and other than some blocks. -/
def WayX (e : TypeId) (k : IntKind) (w : Nat) (h : AH) (lo : Nat) (ex : List Nat) (sv : Value) (L : List (List Int)) : Prop :=
  Wid w L ∧ ((sv = .slice none 0 0 ∧ L = []) ∨ ∃ kb full, sv = .slice (some ⟨kb, 0, none⟩) L.length w ∧ lo ≤ kb ∧ kb ∉ ex ∧ h.get kb = some ⟨cel k L.flatten, e, false, full⟩)
section
variable {e : TypeId} {k : IntKind} {w : Nat} {h h' : AH} {lo : Nat} {ex : List Nat} {sv : Value} {L : List (List Int)}
theorem WayX.pre (o : WayX e k w h lo ex sv L) (p : h <+: h') : WayX e k w h' lo ex sv L := by
  obtain ⟨hw, o | ⟨kb, full, h1, h2, h3, h4⟩⟩ := o
  · exact ⟨hw, .inl o⟩
  · exact ⟨hw, .inr ⟨kb, full, h1, h2, h3, pre_get p h4⟩⟩
theorem WayX.one (o : WayX e k w h lo ex sv L) : isOne sv = true := by
  obtain ⟨hw, ⟨rfl, _⟩ | ⟨kb, full, rfl, h2, h3, h4⟩⟩ := o <;> rfl
theorem WayX.cells (o : WayX e k w h lo ex sv L) : cellsL sv = [sv] := by
  obtain ⟨hw, ⟨rfl, _⟩ | ⟨kb, full, rfl, h2, h3, h4⟩⟩ := o <;> rfl
theorem WayX.len (o : WayX e k w h lo ex sv L) : lenV sv = some (I64 L.length) := by
  obtain ⟨hw, ⟨rfl, rfl⟩ | ⟨kb, full, rfl, h2, h3, h4⟩⟩ := o <;> rfl
theorem WayX.put {n : Nat} {b : Blk} (o : WayX e k w h lo ex sv L) (hn : n < lo ∨ n ∈ ex) : WayX e k w (h.put n b) lo ex sv L := by
  obtain ⟨hw, o | ⟨kb, full, h1, h2, h3, h4⟩⟩ := o
  · exact ⟨hw, .inl o⟩
  · refine ⟨hw, .inr ⟨kb, full, h1, h2, h3, ?_⟩⟩
    rw [get_put_ne]
    · exact h4
    · rintro rfl
      rcases hn with hn | hn
      · omega
      · exact h3 hn
/-- Other excluded blocks. -/
theorem WayX.exc {ex' : List Nat} (o : WayX e k w h lo ex sv L) (he : ∀ m, m ∈ ex' → m ∈ ex ∨ h.length ≤ m ∨ m < lo) : WayX e k w h lo ex' sv L := by
  obtain ⟨hw, o | ⟨kb, full, h1, h2, h3, h4⟩⟩ := o
  · exact ⟨hw, .inl o⟩
  · refine ⟨hw, .inr ⟨kb, full, h1, h2, fun hk => ?_, h4⟩⟩
    have := get_lt h4
    rcases he _ hk with h | h | h
    · exact h3 h
    · omega
    · omega
/-- What keeps all blocks but some excluded ones. -/
theorem WayX.keep (o : WayX e k w h lo ex sv L) (hk : ∀ m c f, m ∉ ex → lo ≤ m → h.get m = some ⟨c, e, false, f⟩ → h'.get m = some ⟨c, e, false, f⟩) : WayX e k w h' lo ex sv L := by
  obtain ⟨hw, o | ⟨kb, full, h1, h2, h3, h4⟩⟩ := o
  · exact ⟨hw, .inl o⟩
  · exact ⟨hw, .inr ⟨kb, full, h1, h2, h3, hk _ _ _ h3 h2 h4⟩⟩
/-- The blocks that hold it. -/
theorem WayX.hold (o : WayX e k w h lo ex sv L) : ∃ E : List Nat, (∀ m, m ∈ E → lo ≤ m ∧ m < h.length ∧ m ∉ ex) ∧ ∀ h' : AH, (∀ m b, m ∈ E → h.get m = some b → h'.get m = some b) → WayX e k w h' lo ex sv L ∧ InE k w lo h.length h' sv L := by
  obtain ⟨hw, o | ⟨kb, full, h1, h2, h3, h4⟩⟩ := o
  · exact ⟨[], fun m hm => by simp at hm, fun h' _ => ⟨⟨hw, .inl o⟩, .inl o⟩⟩
  · refine ⟨[kb], fun m hm => ?_, fun h' hk => ⟨⟨hw, .inr ⟨kb, full, h1, h2, h3, hk _ _ (by simp) h4⟩⟩, .inr ⟨kb, e, full, ⟨h2, get_lt h4⟩, h1, hk _ _ (by simp) h4, hw⟩⟩⟩
    rw [List.mem_singleton] at hm
    subst hm
    exact ⟨h2, get_lt h4, h3⟩
theorem WayX.mlo {lo' : Nat} (o : WayX e k w h lo ex sv L) (hl : lo' ≤ lo) : WayX e k w h lo' ex sv L := by
  obtain ⟨hw, o | ⟨kb, full, h1, h2, h3, h4⟩⟩ := o
  · exact ⟨hw, .inl o⟩
  · exact ⟨hw, .inr ⟨kb, full, h1, by omega, h3, h4⟩⟩
theorem WayX.inE (o : WayX e k w h lo ex sv L) : InE k w lo h.length h sv L := by
  obtain ⟨hw, o | ⟨kb, full, h1, h2, h3, h4⟩⟩ := o
  · exact .inl o
  · exact .inr ⟨kb, e, full, ⟨h2, get_lt h4⟩, h1, h4, hw⟩
theorem WayX.app {H : AH} {q : List Int} {e' : TypeId} {ro full : Bool} {bytes : Nat} (o : WayX e k w H lo ex sv L) (hq : q.length = w) (hl : ((L.length : Int) + 1) * bytes ≤ 140737488355328) (hn : (L.length : Int) < 1048576) (hlo : lo ≤ H.length) (hex : ∀ m, m ∈ ex → m < H.length)
    {Q : Value → AH → Prop} (hQ : ∀ (sv' : Value) (H' : AH), H'.length = H.length + 2 → (∀ h0 : AH, h0.length ≤ lo → h0 <+: H → h0 <+: H') → (∀ m b, m < lo ∨ m ∈ ex → H.get m = some b → H'.get m = some b) → WayX e k w H' H.length ex sv' (L ++ [q]) → Q sv' H') :
    OQ (appV e w bytes sv (.slice (some ⟨H.length, 0, none⟩) 1 w) (H.new ⟨cel k q, e', ro, full⟩)) Q := by
  have hr : (H.new ⟨cel k q, e', ro, full⟩).rdn H.length 0 w = some (cel k q) := by
    rw [rdn_of get_new_same]
    simp only
    rw [if_pos (by rw [cel_len, hq]; omega), List.drop_zero, List.take_of_length_le (by rw [cel_len, hq]; omega)]
  obtain ⟨hw, ⟨rfl, rfl⟩ | ⟨kb, fu, rfl, h2, h3, h4⟩⟩ := o
  · rw [app_nilW (.inl rfl) hr (by simp only [List.length_nil] at hl; omega), OQ_some]
    refine hQ _ _ (by rw [len_new, len_new]) (fun h0 _ p => pre_new (pre_new p)) (fun m b hm o => get_new_any (get_new_any o)) ⟨?_, .inr ⟨_, false, rfl, by rw [len_new]; omega, fun hm => by have := hex _ hm; rw [len_new] at this; omega, ?_⟩⟩
    · intro r hr
      rw [List.nil_append, List.mem_singleton] at hr
      rw [hr, hq]
    · rw [get_new_same]
      simp
  · have hk : (H.new ⟨cel k q, e', ro, full⟩).get kb = some ⟨cel k L.flatten, e, false, fu⟩ := get_new_any h4
    have hkb := get_lt h4
    rw [app_ownW hk (by rw [cel_len, flat_len hw]) hr ⟨hl, by omega⟩, OQ_some]
    refine hQ _ _ (by rw [len_new, len_kill, len_new]) (fun h0 q p => pre_new (pre_kill (pre_new p) (by omega))) (fun m b hm o => ?_) ⟨?_, .inr ⟨(H.new ⟨cel k q, e', ro, full⟩).length, false, by simp, by rw [len_new]; omega, fun hm => by have := hex _ hm; rw [len_new] at this; omega, ?_⟩⟩
    · refine get_new_any ?_
      rw [get_kill_ne]
      · exact get_new_any o
      · rintro rfl
        rcases hm with hm | hm
        · omega
        · exact h3 hm
    · intro r hr
      rcases List.mem_append.1 hr with hr | hr
      · exact hw r hr
      · rw [List.mem_singleton.1 hr, hq]
    · rw [get_new_eq (by rw [len_kill])]
      simp [cel_app]
end

/-! ### Lists of truth values -/
def Bls (h : AH) (n : Nat) (bs : List Bool) : Prop := h.get n = some ⟨bs.map Value.bool, 4, false, true⟩
section
variable {h h' : AH} {n : Nat} {bs : List Bool}
theorem Bls.pre (o : Bls h n bs) (p : h <+: h') : Bls h' n bs := pre_get p o
theorem Bls.lt (o : Bls h n bs) : n < h.length := get_lt o
theorem Bls.rd {j : Nat} (o : Bls h n bs) (hj : j < bs.length) : h.rd1 n j = some (.bool (bs.getD j false)) := by
  rw [rd1_of o]
  simp [List.getD_eq_getElem?_getD, hj]
theorem Bls.put_ne {m : Nat} {b : Blk} (o : Bls h n bs) (e : m ≠ n) : Bls (h.put m b) n bs := by
  unfold Bls
  rw [get_put_ne e]
  exact o
theorem Bls.wr {j : Nat} {x : Bool} (o : Bls h n bs) (hj : j < bs.length) : ∃ h', h.wr n j [.bool x] = some h' ∧ h' = h.put n ⟨(bs.set j x).map Value.bool, 4, false, true⟩ ∧ Bls h' n (bs.set j x) := by
  have e : splice (bs.map Value.bool) j [.bool x] = (bs.set j x).map Value.bool := by
    rw [splice_set (by simpa using hj)]
    simp [List.map_set]
  refine ⟨_, ?_, rfl, get_put_same o.lt⟩
  rw [wr_of o, if_pos ⟨rfl, by simp only [List.length_map, List.length_singleton]; omega⟩, e]
end
theorem Lst.app3 {n : Nat} {l : List Int} {full : Bool} {H : AH} {x : Int} {e' : TypeId} {ro fu : Bool} (o : Lst H n l full) (hl : (l.length : Int) ≤ 1048576) {Q : Value → AH → Prop}
    (hQ : ∀ H' : AH, H'.length = H.length + 2 → (∀ h0 : AH, h0.length ≤ n → h0 <+: H → h0 <+: H') → (∀ m b, m ≠ n → H.get m = some b → H'.get m = some b) → Lst H' (H.length + 1) (l ++ [x]) false → Q (sl (H.length + 1) (l ++ [x]).length) H') :
    OQ (appV 2 1 8 (sl n l.length) (.slice (some ⟨H.length, 0, none⟩) 1 1) (H.new ⟨[I64 x], e', ro, fu⟩)) Q := by
  have hn : (H.new ⟨[I64 x], e', ro, fu⟩).rdn H.length 0 1 = some [I64 x] := by rw [rdn_new_same]; rfl
  have hk : (H.new ⟨[I64 x], e', ro, fu⟩).get n = some ⟨l.map (Value.int .i64), 2, false, full⟩ := get_new_any o
  have hkb := o.lt
  unfold sl
  rw [app_own hk (by simp) hn (by omega), OQ_some]
  have := hQ (((H.new ⟨[I64 x], e', ro, fu⟩).kill n).new ⟨l.map (Value.int .i64) ++ [I64 x], 2, false, false⟩) (by rw [len_new, len_kill, len_new]) (fun h0 q p => pre_new (pre_kill (pre_new p) q))
    (fun m b hm o => get_new_any (by rw [get_kill_ne (fun e => hm e.symm)]; exact get_new_any o)) (by unfold Lst; rw [get_new_eq (by rw [len_kill, len_new])]; simp)
  unfold sl at this
  rw [len_new]
  rw [List.length_append, List.length_singleton] at this
  exact this
theorem InP.inP {a b : Nat} {h : AH} {v w : Value} {x : Prg} (o : InP a b h v w x) : InP a b h v w x := o
end Go.Proofs.Ytilpnbejpndgpaa.X

/- RunProgram and DepthsOf, both sides. -/
set_option linter.unusedVariables false
set_option linter.unusedSimpArgs false
set_option maxRecDepth 20000
set_option maxHeartbeats 4000000
namespace Go.Proofs.Ytilpnbejpndgpaa.X
open Go Go.RowKit

/-! ### RunProgram -/
def rpOK (x : Prg) (ns : List Int) : Prop := allIn x.p ns = true ∧ (ns.length : Int) = x.n
instance {x : Prg} {ns : List Int} : Decidable (rpOK x ns) := by unfold rpOK; infer_instance
/-! ### DepthsOf -/
end Go.Proofs.Ytilpnbejpndgpaa.X

/- Tables under way, tables turned over: FormsOf of both sides. -/
set_option linter.unusedVariables false
set_option linter.unusedSimpArgs false
set_option maxRecDepth 20000
set_option maxHeartbeats 4000000
namespace Go.Proofs.Ytilpnbejpndgpaa.X
open Go Go.RowKit

theorem Ints.cell {h : AH} {v : Value} {ns : List Int} (hv : Ints h v ns) {j : Nat} (hj : j < ns.length) : ∃ n off, (∀ kk : IntKind, ixsV 1 v (.int kk (j : Int)) = some (.pointer (some ⟨n, off, none⟩))) ∧ h.rd1 n off = some (I64 (ns.getD j 0)) := by
  rcases hv with ⟨rfl, t, _, rfl⟩ | ⟨b, off, blk, rfl, h2, h3, h4⟩
  · simp at hj
  · refine ⟨b, off + j, fun kk => ?_, ?_⟩
    · rw [ixsV_some, if_pos (by omega)]
      simp
    · rw [rd1_of h2]
      exact h4 j hj
theorem Rows.len {h : AH} {v : Value} {rows : List (List Int)} (hv : Rows h v rows) : lenV v = some (I64 rows.length) := by
  obtain ⟨cs, h1, h2, h3⟩ := hv
  rw [h1.len, h2]
theorem Rows.row {h : AH} {v : Value} {rows : List (List Int)} (hv : Rows h v rows) {i : Nat} (hi : i < rows.length) :
    ∃ n off x, (∀ kk : IntKind, ixsV 1 v (.int kk (i : Int)) = some (.pointer (some ⟨n, off, none⟩))) ∧ h.rd1 n off = some x ∧ Ints h x (rows.getD i []) := by
  obtain ⟨cs, hc, hl, hr⟩ := hv
  rcases hc with ⟨rfl, t, _, rfl⟩ | ⟨b, off, blk, rfl, h2, h3, h4⟩
  · simp at hl
    omega
  · refine ⟨b, off + i, cs.getD i undef, fun kk => ?_, ?_, hr i hi⟩
    · rw [ixsV_some, if_pos (by omega)]
      simp
    · rw [rd1_of h2]
      exact h4 i (by omega)
theorem sl_cells {n l : Nat} : cellsL (sl n l) = [sl n l] := rfl
theorem sl_one {n l : Nat} : isOne (sl n l) = true := rfl
/-- A row appended; other blocks stay. -/
theorem TabS.app2 {h0 h2 : AH} {nb n : Nat} {full fu fw : Bool} {L : List (Nat × List Int)} {r : List Int} {e : TypeId} (s : TabS h0 h2 nb full L) (hn : h0.length ≤ n ∧ n ≠ nb ∧ ∀ p, p ∈ L → p.1 ≠ n) (ob : OwnB h2 n (r.map (Value.int .i64)) fw)
    (hl : (L.length : Int) ≤ 1048576) {Q : Value → AH → Prop}
    (hQ : ∀ nb' H', TabS h0 H' nb' false (L ++ [(n, r)]) → H'.length = h2.length + 2 → nb' = h2.length + 1 → (∀ m c fl, m ≠ nb → OwnB h2 m c fl → OwnB H' m c fl) → (∀ h9 : AH, h9.length ≤ nb → h9 <+: h2 → h9 <+: H') → Q (sl nb' (L ++ [(n, r)]).length) H') :
    OQ (appV 22 1 24 (sl nb L.length) (.slice (some ⟨h2.length, 0, none⟩) 1 1) (h2.new ⟨[sl n r.length], e, false, fu⟩)) Q := by
  have hrd : (h2.new ⟨[.slice (some ⟨n, 0, none⟩) r.length 1], e, false, fu⟩).rdn h2.length 0 1 = some [.slice (some ⟨n, 0, none⟩) r.length 1] := by rw [rdn_new_same]; rfl
  have hk : (h2.new ⟨[.slice (some ⟨n, 0, none⟩) r.length 1], e, false, fu⟩).get nb = some ⟨L.map rowV, 22, false, full⟩ := get_new_any s.g
  have l1 := get_lt s.g
  have key := s.app (e := e) (fu := fu) hn ob hl (Q := fun v H' => ∃ nb', v = .slice (some ⟨nb', 0, none⟩) (L ++ [(n, r)]).length 1 ∧ TabS h0 H' nb' false (L ++ [(n, r)])) (fun nb' H' st => ⟨nb', rfl, st⟩)
  unfold sl at hQ ⊢
  rw [app_own hk (by simp) hrd (by omega), OQ_some] at key ⊢
  obtain ⟨nb', e1, st⟩ := key
  have e2 : nb' = h2.length + 1 := by
    simp only [Value.slice.injEq, Option.some.injEq, Addr.mk.injEq] at e1
    rw [← e1.1.1, len_new]
  have := hQ nb' _ st (by rw [len_new, len_kill, len_new]) e2 (fun m c fl hm o => (o.new.kill_ne (fun e => hm e.symm)).new) (fun h9 hh p => pre_new (pre_kill (pre_new p) hh))
  rw [← e1] at this
  exact this
/-- A number put into a row. -/
theorem TabS.cell {h0 h : AH} {nb i j : Nat} {full : Bool} {L : List (Nat × List Int)} {x : Int} {n : Nat} {r : List Int} (s : TabS h0 h nb full L) (hi : i < L.length) (hL : L[i] = (n, r)) (hj : j < r.length) :
    ∃ e fu, h.get n = some ⟨r.map (Value.int .i64), e, false, fu⟩ ∧ TabS h0 (h.put n ⟨(r.set j x).map (Value.int .i64), e, false, fu⟩) nb full (L.set i (n, r.set j x)) := by
  have a := s.rows _ (List.getElem_mem hi)
  rw [hL] at a
  obtain ⟨⟨a1, a2⟩, fu, e, o⟩ := a
  refine ⟨e, fu, o, pre_put s.hp a1, s.lo, ?_, fun q hq => ?_, ?_⟩
  · rw [get_put_ne a2, s.g]
    congr 2
    rw [List.map_set]
    have : rowV (n, r.set j x) = (L.map rowV)[i]'(by simpa using hi) := by
      rw [List.getElem_map, hL]
      simp [rowV]
    rw [this, List.set_getElem_self]
  · obtain ⟨m, hm, rfl⟩ := List.mem_iff_getElem.1 hq
    have hm' : m < L.length := by simpa using hm
    by_cases hmi : m = i
    · subst hmi
      rw [List.getElem_set_self]
      exact ⟨⟨a1, a2⟩, fu, e, get_put_same (get_lt o)⟩
    · rw [List.getElem_set_ne (fun q => hmi q.symm)]
      have b := s.rows _ (List.getElem_mem hm')
      obtain ⟨b1, fq, oq⟩ := b
      refine ⟨b1, fq, oq.put_ne ?_⟩
      have hd := List.pairwise_iff_getElem.1 s.dist
      rcases Nat.lt_or_gt_of_ne hmi with hlt | hgt
      · have := hd m i hm' hi hlt
        rw [hL] at this
        exact fun q => this q.symm
      · have := hd i m hi hm' hgt
        rw [hL] at this
        exact this
  · have e1 : (L.set i (n, r.set j x)).map Prod.fst = L.map Prod.fst := by
      rw [List.map_set]
      have : (n, r.set j x).1 = (L.map Prod.fst)[i]'(by simpa using hi) := by rw [List.getElem_map, hL]
      rw [this, List.set_getElem_self]
    have h1 := List.pairwise_map (f := Prod.fst) (R := fun a b : Nat => a ≠ b) (l := L)
    have h2 := List.pairwise_map (f := Prod.fst) (R := fun a b : Nat => a ≠ b) (l := L.set i (n, r.set j x))
    rw [← h2, e1, h1]
    exact s.dist

def trL (rows : List (List Int)) (w : Nat) : List (List Int) := (List.range w).map fun j => gen rows.length fun i => (rows.getD i []).getD j 0
theorem trL_len {rows : List (List Int)} {w : Nat} : (trL rows w).length = w := by simp [trL]
theorem trL_get {rows : List (List Int)} {w j : Nat} (hj : j < w) : (trL rows w).getD j [] = gen rows.length fun i => (rows.getD i []).getD j 0 := by
  simp [trL, List.getD_eq_getElem?_getD, List.getElem?_map, List.getElem?_range hj]
theorem i_transposed {v : Value} {rows : List (List Int)} {w : Nat} {h : AH} {Q : Value → AH → Prop} (hv : Rows h v rows) (h0 : 0 < rows.length) (hl : (rows.length : Int) ≤ 1048576) (hr : ∀ i, i < rows.length → (rows.getD i []).length = w) (hw : (w : Int) ≤ 1048576)
    (hQ : ∀ v' h', h <+: h' → OwnRows h h' v' (trL rows w) → Q v' h') : WF S 94 [v] h Q := by
  refine WF_fn (fn := c94) rfl rfl ?_
  unfold c94
  obtain ⟨n0, off0, x0, hix0, hrd0, i0⟩ := hv.row h0
  have hx0 := hix0 .i64
  rw [show ((0 : Nat) : Int) = 0 from rfl] at hx0
  ((try simp (maxSteps := 3000000) (dsimp := false) (disch := first | omega | (simp only [len_new, len_put, len_kill]; omega)) only [↓ypre, ypost, ↓reduceIte, Nat.reduceEqDiff, Nat.reduceAdd, Nat.reduceSub, Nat.reduceLeDiff, Nat.zero_add, Nat.sub_zero, ynew]); try simp only [yback])
  generalize hH1 : AH.new h _ = H1
  obtain ⟨hb1, p1, n1⟩ := new_facts hH1
  have lt0 : n0 < h.length := by
    unfold AH.rd1 at hrd0
    obtain ⟨b, hb, _⟩ := Option.bind_eq_some_iff.1 hrd0
    exact get_lt hb
  have hrd1 : H1.rd1 n0 off0 = some x0 := by rw [← hH1, rd1_new_lt lt0]; exact hrd0
  ((try simp (maxSteps := 3000000) (dsimp := false) (disch := first | omega | (simp only [len_new, len_put, len_kill]; omega)) only [↓ypre, ypost, ↓reduceIte, Nat.reduceEqDiff, Nat.reduceAdd, Nat.reduceSub, Nat.reduceLeDiff, Nat.zero_add, Nat.sub_zero, ynew, hx0, hrd1, hrd0, i0.len, hr 0 h0]); try simp only [yback])
  refine WC_loop_inv (fun m f K1 => ∃ (j : Nat) (nb : Nat) (full : Bool) (L : List (Nat × List Int)), m = w - j ∧ j ≤ w ∧ f 0 = v ∧ f 3 = sl nb L.length ∧ f 12 = I64 w ∧ f 13 = I64 j ∧ (TabS h K1 nb full L) ∧ (L.map Prod.snd = (trL rows w).take j)) ?_ (w - 0) _ _ ⟨0, h.length, true, [], rfl, by omega, (by first | rfl | (simp [upd_apply]; done)), (by first | rfl | (simp [upd_apply]; done)), (by first | rfl | (simp [upd_apply]; done)), (by first | rfl | (simp [upd_apply]; done)), ⟨p1, Nat.le_refl _, hb1, by simp, by simp⟩, (by simp)⟩
  rintro m f K1 ⟨j, nb, full, L, rfl, hj, f0, f3, f12, f13, st, hL⟩
  have hLl : L.length = j := by
    have := congrArg List.length hL
    rw [List.length_map, List.length_take, trL_len] at this
    omega
  have lt := st.lt
  have lh := pre_len st.hp
  by_cases hlt : (j : Int) < w
  · have hj' : j < w := by omega
    ((try simp (maxSteps := 3000000) (dsimp := false) (disch := first | omega | (simp only [len_new, len_put, len_kill]; omega)) only [↓ypre, ypost, ↓reduceIte, Nat.reduceEqDiff, Nat.reduceAdd, Nat.reduceSub, Nat.reduceLeDiff, Nat.zero_add, Nat.sub_zero, ynew, f0, f3, f12, f13, decide_eq_true hlt]); try simp only [yback])
    generalize hH3 : AH.new K1 _ = H3
    obtain ⟨hb3, p3, n3⟩ := new_facts hH3
    have l0 : Lst H3 K1.length (gen 0 fun i => (rows.getD i []).getD j 0) true := hb3
    ((try simp (maxSteps := 3000000) (dsimp := false) (disch := first | omega | (simp only [len_new, len_put, len_kill]; omega)) only [↓ypre, ypost, ↓reduceIte, Nat.reduceEqDiff, Nat.reduceAdd, Nat.reduceSub, Nat.reduceLeDiff, Nat.zero_add, Nat.sub_zero, ynew, f0, f3, f12, f13, hv.len]); try simp only [yback])
    refine WC_loop_inv (fun m f K2 => ∃ (i : Nat) (kb : Nat) (fu : Bool), m = rows.length - i ∧ i ≤ rows.length ∧ f 0 = v ∧ f 3 = sl nb L.length ∧ f 12 = I64 w ∧ f 13 = I64 j ∧ f 4 = I64 j ∧ f 17 = v ∧ f 18 = I64 rows.length ∧ f 19 = I64 i ∧ f 5 = sl kb (gen i fun i => (rows.getD i []).getD j 0).length ∧ (K1 <+: K2) ∧ (K1.length ≤ kb) ∧ (Lst K2 kb (gen i fun i => (rows.getD i []).getD j 0) fu)) ?_ (rows.length - 0) _ _ ⟨0, K1.length, true, rfl, by omega, (by first | rfl | exact f0 | (simp [upd_apply]; done)), (by first | rfl | exact f3 | (simp [upd_apply]; done)), (by first | rfl | exact f12 | (simp [upd_apply]; done)), (by first | rfl | exact f13 | (simp [upd_apply]; done)), (by first | rfl | (simp [upd_apply]; done)), (by first | rfl | (simp [upd_apply]; done)), (by first | rfl | (simp [upd_apply]; done)), (by first | rfl | (simp [upd_apply]; done)), (by first | rfl | (simp [upd_apply]; done)), p3, Nat.le_refl _, l0⟩
    rintro m f K2 ⟨i, kb, fu, rfl, hi, f0, f3, f12, f13, f4, f17, f18, f19, f5, q2, kb1, li⟩
    by_cases hlti : (i : Int) < rows.length
    · have hi' : i < rows.length := by omega
      obtain ⟨n, off, x, hix, hrd, ix⟩ := (hv.pre (st.hp.trans q2)).row hi'
      obtain ⟨n', off', hix', hrd'⟩ := ix.cell (j := j) (by rw [hr i hi']; exact hj')
      ((try simp (maxSteps := 3000000) (dsimp := false) (disch := first | omega | (simp only [len_new, len_put, len_kill]; omega)) only [↓ypre, ypost, ↓reduceIte, Nat.reduceEqDiff, Nat.reduceAdd, Nat.reduceSub, Nat.reduceLeDiff, Nat.zero_add, Nat.sub_zero, ynew, f0, f3, f12, f13, f4, f17, f18, f19, f5, decide_eq_true hlti, hix, hrd, hix', hrd']); try simp only [yback])
      refine li.app (by rw [gen_len]; omega) fun H5 l5 pre5 own5 lst5 li5 => ?_
      ((try simp (maxSteps := 3000000) (dsimp := false) (disch := first | omega | (simp only [len_new, len_put, len_kill]; omega)) only [↓ypre, ypost, ↓reduceIte, Nat.reduceEqDiff, Nat.reduceAdd, Nat.reduceSub, Nat.reduceLeDiff, Nat.zero_add, Nat.sub_zero, ynew, f0, f3, f12, f13, f4, f17, f18, f19, f5, wrap64_in]); try simp only [yback])
      have eg : gen i (fun i => (rows.getD i []).getD j 0) ++ [(rows.getD i []).getD j 0] = gen (i + 1) fun i => (rows.getD i []).getD j 0 := gen_succ.symm
      rw [eg] at li5
      refine InvQ_go (rows.length - (i + 1)) (by omega) ⟨(i + 1), (K2.length + 1), false, rfl, by omega, (by first | rfl | exact f0 | (simp only [upd_apply]; rfl) | (show I64 _ = _; congr 1; omega)), (by first | rfl | exact f3 | (simp only [upd_apply]; rfl) | (show I64 _ = _; congr 1; omega)), (by first | rfl | exact f12 | (simp only [upd_apply]; rfl) | (show I64 _ = _; congr 1; omega)), (by first | rfl | exact f13 | (simp only [upd_apply]; rfl) | (show I64 _ = _; congr 1; omega)), (by first | rfl | exact f4 | (simp only [upd_apply]; rfl) | (show I64 _ = _; congr 1; omega)), (by first | rfl | exact f17 | (simp only [upd_apply]; rfl) | (show I64 _ = _; congr 1; omega)), (by first | rfl | exact f18 | (simp only [upd_apply]; rfl) | (show I64 _ = _; congr 1; omega)), (by first | rfl | exact f19 | (simp only [upd_apply]; rfl) | (show I64 _ = _; congr 1; omega)), (by show sl _ _ = _; rw [eg]), (pre5 _ kb1 q2), (by have := pre_len q2; omega), li5⟩
    · have ei : i = rows.length := by omega
      subst ei
      ((try simp (maxSteps := 3000000) (dsimp := false) (disch := first | omega | (simp only [len_new, len_put, len_kill]; omega)) only [↓ypre, ypost, ↓reduceIte, Nat.reduceEqDiff, Nat.reduceAdd, Nat.reduceSub, Nat.reduceLeDiff, Nat.zero_add, Nat.sub_zero, ynew, f0, f3, f12, f13, f4, f17, f18, f19, f5, decide_eq_false hlti, sl_cells, sl_one]); try simp only [yback])
      refine (st.pre q2).app2 ⟨by omega, by omega, fun q hq => by have := lt.2 q hq; omega⟩ li.own (by omega) fun nb' H' st' l' e' own' pre' => ?_
      ((try simp (maxSteps := 3000000) (dsimp := false) (disch := first | omega | (simp only [len_new, len_put, len_kill]; omega)) only [↓ypre, ypost, ↓reduceIte, Nat.reduceEqDiff, Nat.reduceAdd, Nat.reduceSub, Nat.reduceLeDiff, Nat.zero_add, Nat.sub_zero, ynew, f0, f3, f12, f13, f4, f17, f18, f19, f5, wrap64_in]); try simp only [yback])
      refine InvQ_go (w - (j + 1)) (by omega) ⟨(j + 1), nb', false, (L ++ [(kb, gen rows.length fun i => (rows.getD i []).getD j 0)]), rfl, by omega, (by first | rfl | exact f0 | (simp only [upd_apply]; rfl) | (show I64 _ = _; congr 1; omega)), (by first | rfl | exact f3 | (simp only [upd_apply]; rfl) | (show I64 _ = _; congr 1; omega)), (by first | rfl | exact f12 | (simp only [upd_apply]; rfl) | (show I64 _ = _; congr 1; omega)), (by first | rfl | exact f13 | (simp only [upd_apply]; rfl) | (show I64 _ = _; congr 1; omega)), st', ?_⟩
      rw [List.map_append, hL, take_next (d := []) (by rw [trL_len]; exact hj'), trL_get hj']
      rfl
  · have ej : j = w := by omega
    subst ej
    rw [List.take_of_length_le (by rw [trL_len]; exact Nat.le_refl _)] at hL
    ((try simp (maxSteps := 3000000) (dsimp := false) (disch := first | omega | (simp only [len_new, len_put, len_kill]; omega)) only [↓ypre, ypost, ↓reduceIte, Nat.reduceEqDiff, Nat.reduceAdd, Nat.reduceSub, Nat.reduceLeDiff, Nat.zero_add, Nat.sub_zero, ynew, f0, f3, f12, f13, decide_eq_false hlt]); try simp only [yback])
    have o := st.own
    rw [hL] at o
    exact hQ _ _ st.hp o
end Go.Proofs.Ytilpnbejpndgpaa.X

/- Programs of lists: a row behind a program, on both sides. -/
set_option linter.unusedVariables false
set_option linter.unusedSimpArgs false
set_option maxRecDepth 20000
set_option maxHeartbeats 4000000
namespace Go.Proofs.Ytilpnbejpndgpaa.X
open Go Go.RowKit

/-- Elements under way, with all blocks of other types kept. -/
theorem WayX.app2 {e : TypeId} {k : IntKind} {w : Nat} {lo : Nat} {sv : Value} {L : List (List Int)} {H : AH} {q : List Int} {e' : TypeId} {ro full : Bool} {bytes : Nat} (o : WayX e k w H lo [] sv L) (hq : q.length = w) (hl : ((L.length : Int) + 1) * bytes ≤ 140737488355328) (hn : (L.length : Int) < 1048576) (hlo : lo ≤ H.length)
    {Q : Value → AH → Prop} (hQ : ∀ (sv' : Value) (H' : AH), H'.length = H.length + 2 → (∀ h0 : AH, h0.length ≤ lo → h0 <+: H → h0 <+: H') → (∀ m b, b.e ≠ e → H.get m = some b → H'.get m = some b) → WayX e k w H' H.length [] sv' (L ++ [q]) → Q sv' H') :
    OQ (appV e w bytes sv (.slice (some ⟨H.length, 0, none⟩) 1 w) (H.new ⟨cel k q, e', ro, full⟩)) Q := by
  have hr : (H.new ⟨cel k q, e', ro, full⟩).rdn H.length 0 w = some (cel k q) := by
    rw [rdn_of get_new_same]
    simp only
    rw [if_pos (by rw [cel_len, hq]; omega), List.drop_zero, List.take_of_length_le (by rw [cel_len, hq]; omega)]
  obtain ⟨hw, ⟨rfl, rfl⟩ | ⟨kb, fu, rfl, h2, h3, h4⟩⟩ := o
  · rw [app_nilW (.inl rfl) hr (by simp only [List.length_nil] at hl; omega), OQ_some]
    refine hQ _ _ (by rw [len_new, len_new]) (fun h0 _ p => pre_new (pre_new p)) (fun m b _ o => get_new_any (get_new_any o)) ⟨?_, .inr ⟨_, false, rfl, by rw [len_new]; omega, by simp, ?_⟩⟩
    · intro r hr
      rw [List.nil_append, List.mem_singleton] at hr
      rw [hr, hq]
    · rw [get_new_same]
      simp
  · have hk : (H.new ⟨cel k q, e', ro, full⟩).get kb = some ⟨cel k L.flatten, e, false, fu⟩ := get_new_any h4
    have hkb := get_lt h4
    rw [app_ownW hk (by rw [cel_len, flat_len hw]) hr ⟨hl, by omega⟩, OQ_some]
    refine hQ _ _ (by rw [len_new, len_kill, len_new]) (fun h0 q p => pre_new (pre_kill (pre_new p) (by omega))) (fun m b hm o => ?_) ⟨?_, .inr ⟨(H.new ⟨cel k q, e', ro, full⟩).length, false, by simp, by rw [len_new]; omega, by simp, ?_⟩⟩
    · refine get_new_any ?_
      rw [get_kill_ne]
      · exact get_new_any o
      · rintro rfl
        rw [h4] at o
        cases o
        exact hm rfl
    · intro r hr
      rcases List.mem_append.1 hr with hr | hr
      · exact hw r hr
      · rw [List.mem_singleton.1 hr, hq]
    · rw [get_new_eq (by rw [len_kill])]
      simp [cel_app]
theorem WayX.types {e e' : TypeId} {k : IntKind} {w : Nat} {h h' : AH} {lo : Nat} {sv : Value} {L : List (List Int)} (o : WayX e k w h lo [] sv L) (he : e ≠ e') (hk : ∀ m b, b.e ≠ e' → h.get m = some b → h'.get m = some b) : WayX e k w h' lo [] sv L :=
  o.keep fun m c f _ _ g => hk _ _ he g
theorem WayX.put_ty {e : TypeId} {k : IntKind} {w : Nat} {h : AH} {lo n : Nat} {ex : List Nat} {sv : Value} {L : List (List Int)} {b b' : Blk} (o : WayX e k w h lo ex sv L) (g : h.get n = some b') (hb : b'.e ≠ e) : WayX e k w (h.put n b) lo ex sv L :=
  o.keep fun m c f _ _ g' => by
    rw [get_put_ne]
    · exact g'
    · rintro rfl
      rw [g'] at g
      cases g
      exact hb rfl
/-- What stays while a program is made. -/
structure Stay (lo : Nat) (h h' : AH) : Prop where
  len : h.length ≤ h'.length
  pre : ∀ h0 : AH, h0.length ≤ lo → h0 <+: h → h0 <+: h'
  get : ∀ m b, h.get m = some b → b.e ≠ 96 → b.e ≠ 98 → h'.get m = some b
theorem Stay.refl {lo : Nat} {h : AH} : Stay lo h h := ⟨Nat.le_refl _, fun _ _ p => p, fun _ _ g _ _ => g⟩
theorem Stay.of {lo : Nat} {h h' : AH} (p : h <+: h') : Stay lo h h' := ⟨pre_len p, fun _ _ q => q.trans p, fun _ _ g _ _ => pre_get p g⟩
theorem Stay.trans {lo : Nat} {h h1 h2 : AH} (a : Stay lo h h1) (b : Stay lo h1 h2) : Stay lo h h2 :=
  ⟨Nat.le_trans a.len b.len, fun h0 hl p => b.pre h0 hl (a.pre h0 hl p), fun m c g h1 h2 => b.get m c (a.get m c g h1 h2) h1 h2⟩
theorem Stay.put {lo : Nat} {h h' : AH} {n : Nat} {b : Blk} (a : Stay lo h h') (hn : h.length ≤ n) (hlo : lo ≤ n) : Stay lo h (h'.put n b) :=
  ⟨by rw [len_put]; exact a.len, fun h0 hl p => pre_put (a.pre h0 hl p) (by omega), fun m c g h1 h2 => by
    have := get_lt g
    rw [get_put_ne (by omega)]
    exact a.get m c g h1 h2⟩

/-! ### Plainly -/
def invP (p n : Int) : Int := if (1 * n).tmod p = 1 then 1 else if (2 * n).tmod p = 1 then 2 else if (3 * n).tmod p = 1 then 3 else 4
theorem invP_is {p n : Int} (hp : isP p = true) (hn : 1 ≤ n ∧ n < p) : IsInv p n (invP p n) := by
  obtain ⟨w, h1, h2, h3, h4⟩ := inv_is hp hn
  have hp5 := isP_in hp
  have hc : w = 1 ∨ w = 2 ∨ w = 3 ∨ w = 4 := by omega
  have e : invP p n = w := by
    unfold invP
    rcases hc with rfl | rfl | rfl | rfl
    · rw [if_pos h3]
    · rw [if_neg (h4 1 (by omega) (by omega)), if_pos h3]
    · rw [if_neg (h4 1 (by omega) (by omega)), if_neg (h4 2 (by omega) (by omega)), if_pos h3]
    · rw [if_neg (h4 1 (by omega) (by omega)), if_neg (h4 2 (by omega) (by omega)), if_neg (h4 3 (by omega) (by omega))]
  rw [e]
  exact ⟨h1, h2, h3, h4⟩
structure RS where
  st : List (List Int)
  val : Int
  fac : Int
def rowSt (p n : Int) (st0 : List (List Int)) (row : List Int) : Nat → RS
  | 0 => ⟨st0, -1, 0⟩
  | k + 1 =>
    let s := rowSt p n st0 row k
    if row.getD k 0 = 0 then s else if s.val < 0 then ⟨s.st, k, row.getD k 0⟩
    else ⟨s.st ++ [[s.val, k, (row.getD k 0 * invP p s.fac).tmod p]], n + ((s.st.length : Int) + 1) - 1, s.fac⟩
def rowP (x : Prg) (row : List Int) : Prg :=
  let s := rowSt x.p x.n x.st row row.length
  ⟨x.p, x.n, s.st, x.out ++ [[max s.val 0, s.fac]]⟩
theorem rowSt_facts {p n : Int} {st0 : List (List Int)} {row : List Int} (hp : isP p = true) (hr : allIn p row = true) (hn : 1 ≤ n ∧ n ≤ 30) : ∀ {k : Nat}, k ≤ row.length →
    st0.length ≤ (rowSt p n st0 row k).st.length ∧ (rowSt p n st0 row k).st.length ≤ st0.length + k ∧ (-1 ≤ (rowSt p n st0 row k).val ∧ (rowSt p n st0 row k).val ≤ n + st0.length + k) ∧ (0 ≤ (rowSt p n st0 row k).fac ∧ (rowSt p n st0 row k).fac < p) ∧
    ((rowSt p n st0 row k).val < 0 ↔ (rowSt p n st0 row k).fac = 0)
  | 0, _ => by
    have := isP_in hp
    unfold rowSt
    dsimp only
    refine ⟨by omega, by omega, ⟨by omega, by omega⟩, ⟨by omega, by omega⟩, by omega⟩
  | k + 1, hk => by
    have ih := rowSt_facts (st0 := st0) hp hr hn (k := k) (by omega)
    have hrk := allIn_iff.1 hr k (by omega)
    unfold rowSt
    simp only
    split
    · omega
    · rename_i h0
      split
      · simp only
        omega
      · simp only [List.length_append, List.length_singleton]
        omega
theorem rowP_out {x : Prg} {row : List Int} : (rowP x row).out.length = x.out.length + 1 := by simp [rowP]
def finP (x : Prg) (rows : List (List Int)) : Nat → Prg
  | 0 => x
  | i + 1 => rowP (finP x rows i) (rows.getD i [])
theorem finP_facts {x : Prg} {rows : List (List Int)} {N : Nat} (hp : isP x.p = true) (hr : ∀ i, i < rows.length → allIn x.p (rows.getD i []) = true ∧ (rows.getD i []).length ≤ N) (hn : 1 ≤ x.n ∧ x.n ≤ 30) : ∀ {i : Nat}, i ≤ rows.length →
    (finP x rows i).p = x.p ∧ (finP x rows i).n = x.n ∧ (finP x rows i).st.length ≤ x.st.length + i * N ∧ (finP x rows i).out.length = x.out.length + i
  | 0, _ => ⟨rfl, rfl, by simp [finP], rfl⟩
  | i + 1, hi => by
    obtain ⟨h1, h2, h3, h4⟩ := finP_facts hp hr hn (i := i) (by omega)
    have f := rowSt_facts (st0 := (finP x rows i).st) (p := (finP x rows i).p) (n := (finP x rows i).n) (row := rows.getD i []) (by rw [h1]; exact hp) (by rw [h1]; exact (hr i (by omega)).1) (by rw [h2]; exact hn) (k := (rows.getD i []).length) (Nat.le_refl _)
    have hN := (hr i (by omega)).2
    unfold finP
    refine ⟨h1, h2, ?_, by rw [rowP_out, h4]; omega⟩
    show (rowSt (finP x rows i).p (finP x rows i).n (finP x rows i).st (rows.getD i []) (rows.getD i []).length).st.length ≤ _
    rw [Nat.add_mul, Nat.one_mul]
    omega

/-- What a program under way is. -/
structure Way2 (h : AH) (lo : Nat) (v w : Value) (x : Prg) : Prop where
  st : WayX (96) .i64 3 h lo [] v x.st
  out : WayX (98) .i64 2 h lo [] w x.out
theorem Way2.pre {h h' : AH} {lo : Nat} {v w : Value} {x : Prg} (o : Way2 h lo v w x) (p : h <+: h') : Way2 h' lo v w x := ⟨o.st.pre p, o.out.pre p⟩
theorem Way2.rd {h : AH} {lo : Nat} {v w : Value} {x : Prg} (o : Way2 h lo v w x) : PrgR h v w x := ⟨o.st.inE.rd, o.out.inE.rd⟩
theorem Way2.mlo {h : AH} {lo lo' : Nat} {v w : Value} {x : Prg} (o : Way2 h lo v w x) (hl : lo' ≤ lo) : Way2 h lo' v w x := ⟨o.st.mlo hl, o.out.mlo hl⟩

/-- The one block ahead of the other. -/
def OrdB (v w : Value) : Prop := ∀ a b la lb wa wb, v = .slice (some ⟨a, 0, none⟩) la wa → w = .slice (some ⟨b, 0, none⟩) lb wb → a < b
theorem WayX.ord {e e' : TypeId} {k : IntKind} {w w' : Nat} {h h' : AH} {lo : Nat} {ex ex' : List Nat} {sv so : Value} {L L' : List (List Int)} (o : WayX e k w h lo ex sv L) (o' : WayX e' k w' h' h.length ex' so L') : OrdB sv so := by
  intro a b la lb wa wb e1 e2
  obtain ⟨hw, ⟨h1, _⟩ | ⟨kb, full, h1, h2, h3, h4⟩⟩ := o
  · rw [e1] at h1
    cases h1
  · obtain ⟨hw', ⟨h1', _⟩ | ⟨kb', full', h1', h2', h3', h4'⟩⟩ := o'
    · rw [e2] at h1'
      cases h1'
    · rw [e1] at h1
      rw [e2] at h1'
      simp only [Value.slice.injEq, Option.some.injEq, Addr.mk.injEq, and_true] at h1 h1'
      have := get_lt h4
      omega
theorem Way2.inP {h : AH} {lo : Nat} {v w : Value} {x : Prg} (o : Way2 h lo v w x) (ho : OrdB v w) (hlo : lo ≤ h.length) : InP lo h.length h v w x := by
  obtain ⟨⟨hw, h1⟩, ⟨hw', h1'⟩⟩ := o
  rcases h1' with h1' | ⟨kb', full', e1', h2', h3', h4'⟩
  · refine ⟨h.length, hlo, Nat.le_refl _, ?_, .inl h1'⟩
    rcases h1 with h1 | ⟨kb, full, e1, h2, h3, h4⟩
    · exact .inl h1
    · exact .inr ⟨kb, _, full, ⟨h2, get_lt h4⟩, e1, h4, hw⟩
  · refine ⟨kb', h2', by have := get_lt h4'; omega, ?_, .inr ⟨kb', _, full', ⟨Nat.le_refl _, get_lt h4'⟩, e1', h4', hw'⟩⟩
    rcases h1 with h1 | ⟨kb, full, e1, h2, h3, h4⟩
    · exact .inl h1
    · exact .inr ⟨kb, _, full, ⟨h2, ho _ _ _ _ _ _ e1 e1'⟩, e1, h4, hw⟩

theorem s_l07Row {v w u : Value} {x : Prg} {row : List Int} {lo : Nat} {h : AH} {Q : Value → AH → Prop} (hp : isP x.p = true) (hn : 1 ≤ x.n ∧ x.n ≤ 30) (o : Way2 h lo v w x) (hlo : lo ≤ h.length)
    (hu : ∀ h', Stay lo h h' → Ints h' u row) (hr : allIn x.p row = true) (hl : row.length ≤ 10000) (hs : x.st.length ≤ 500000) (ho : x.out.length ≤ 500000)
    (hQ : ∀ v' w' h', Stay lo h h' → Way2 h' lo v' w' (rowP x row) → OrdB v' w' → Q (prgV (rowP x row) v' w') h') : WF S 127 [prgV x v w, u] h Q := by
  refine WF_fn (fn := c127) rfl rfl ?_
  unfold c127
  have hp5 := isP_in hp
  ((try simp (maxSteps := 3000000) (dsimp := false) (disch := first | omega | (simp only [len_new, len_put, len_kill]; omega)) only [↓ypre, ypost, ↓reduceIte, Nat.reduceEqDiff, Nat.reduceAdd, Nat.reduceSub, Nat.reduceLeDiff, Nat.zero_add, Nat.sub_zero, ynew, prgV, o.st.one, o.out.one]); try simp only [yback])
  generalize hH1 : AH.new h _ = H1
  obtain ⟨hb1, p1, n1⟩ := new_facts hH1
  generalize hH2 : AH.new H1 _ = H2
  obtain ⟨hb2, p2, n2⟩ := new_facts hH2
  have p12 := p1.trans p2
  refine WC_loop_inv (fun m f K1 => ∃ (k : Nat) (sv : Value), m = row.length - k ∧ k ≤ row.length ∧ f 1 = u ∧ f 2 = .pointer (some ⟨h.length, 0, none⟩) ∧ f 4 = .pointer (some ⟨H1.length, 0, none⟩) ∧ f 5 = I64 (rowSt x.p x.n x.st row k).val ∧ f 6 = I64 (rowSt x.p x.n x.st row k).fac ∧ f 7 = I64 k ∧ (Stay lo h K1) ∧ (WayX (96) .i64 3 K1 lo [] sv (rowSt x.p x.n x.st row k).st) ∧ (WayX (98) .i64 2 K1 lo [] w x.out) ∧ (K1.get h.length = some ⟨[I64 x.p, I64 x.n, sv, w], 48, false, true⟩) ∧ (K1.get H1.length = some ⟨[I64 0, I64 0, .slice none 0 0, .slice none 0 0], 48, false, true⟩)) ?_ (row.length - 0) _ _ ⟨0, v, rfl, by omega, (by first | rfl | (simp [upd_apply]; done)), (by first | rfl | (simp [upd_apply]; done)), (by first | rfl | (simp [upd_apply]; done)), (by first | rfl | (simp [upd_apply]; done)), (by first | rfl | (simp [upd_apply]; done)), (by first | rfl | (simp [upd_apply]; done)), Stay.of p12, o.st.pre p12, o.out.pre p12, pre_get p2 hb1, hb2⟩
  rintro m f K1 ⟨k, sv, rfl, hk, f1, f2, f4, f5, f6, f7, sy, wv, ww, g1, g2⟩
  have hu' := hu _ sy
  have lt1 := get_lt g1
  have lt2 := get_lt g2
  have sl := sy.len
  have fc := rowSt_facts (st0 := x.st) hp hr hn (k := k) hk
  by_cases hlt : (k : Int) < row.length
  · have hk' : k < row.length := by omega
    have hrk := allIn_iff.1 hr k hk'
    have fc' := rowSt_facts (st0 := x.st) hp hr hn (k := k + 1) hk'
    have er : rowSt x.p x.n x.st row (k + 1) = if row.getD k 0 = 0 then rowSt x.p x.n x.st row k else if (rowSt x.p x.n x.st row k).val < 0 then ⟨(rowSt x.p x.n x.st row k).st, k, row.getD k 0⟩
      else ⟨(rowSt x.p x.n x.st row k).st ++ [[(rowSt x.p x.n x.st row k).val, k, (row.getD k 0 * invP x.p (rowSt x.p x.n x.st row k).fac).tmod x.p]], x.n + (((rowSt x.p x.n x.st row k).st.length : Int) + 1) - 1, (rowSt x.p x.n x.st row k).fac⟩ := rfl
    generalize hS : rowSt x.p x.n x.st row k = S0 at *
    have ix := hu'.ix (k := .i64) (j := k) (by omega) (by omega)
    have rd := hu'.rd (j := k) (by omega) (by omega)
    by_cases h0 : row.getD k 0 = 0
    · rw [if_pos h0] at er
      ((try simp (maxSteps := 3000000) (dsimp := false) (disch := first | omega | (simp only [len_new, len_put, len_kill]; omega)) only [↓ypre, ypost, ↓reduceIte, Nat.reduceEqDiff, Nat.reduceAdd, Nat.reduceSub, Nat.reduceLeDiff, Nat.zero_add, Nat.sub_zero, ynew, f1, f2, f4, f5, f6, f7, hu'.len, decide_eq_true hlt, ix, rd, nth, Int.toNat_natCast, h0, decide_eq_true (show (0 : Int) = 0 from rfl), wrap64_in]); try simp only [yback])
      refine InvQ_go (row.length - (k + 1)) (by omega) ⟨(k + 1), sv, rfl, by omega, (by first | rfl | exact f1 | (simp only [upd_apply]; rfl) | (show I64 _ = _; congr 1; omega)), (by first | rfl | exact f2 | (simp only [upd_apply]; rfl) | (show I64 _ = _; congr 1; omega)), (by first | rfl | exact f4 | (simp only [upd_apply]; rfl) | (show I64 _ = _; congr 1; omega)), (by rw [er]; exact f5), (by rw [er]; exact f6), (by first | rfl | exact f7 | (simp only [upd_apply]; rfl) | (show I64 _ = _; congr 1; omega)), sy, (by rw [er]; exact wv), ww, g1, g2⟩
    rw [if_neg h0] at er
    by_cases h1 : S0.val < 0
    · rw [if_pos h1] at er
      ((try simp (maxSteps := 3000000) (dsimp := false) (disch := first | omega | (simp only [len_new, len_put, len_kill]; omega)) only [↓ypre, ypost, ↓reduceIte, Nat.reduceEqDiff, Nat.reduceAdd, Nat.reduceSub, Nat.reduceLeDiff, Nat.zero_add, Nat.sub_zero, ynew, f1, f2, f4, f5, f6, f7, hu'.len, decide_eq_true hlt, ix, rd, nth, Int.toNat_natCast, decide_eq_false h0, decide_eq_true h1, wrap64_in]); try simp only [yback])
      refine InvQ_go (row.length - (k + 1)) (by omega) ⟨(k + 1), sv, rfl, by omega, (by first | rfl | exact f1 | (simp only [upd_apply]; rfl) | (show I64 _ = _; congr 1; omega)), (by first | rfl | exact f2 | (simp only [upd_apply]; rfl) | (show I64 _ = _; congr 1; omega)), (by first | rfl | exact f4 | (simp only [upd_apply]; rfl) | (show I64 _ = _; congr 1; omega)), (by rw [er]; rfl), (by rw [er]; rfl), (by first | rfl | exact f7 | (simp only [upd_apply]; rfl) | (show I64 _ = _; congr 1; omega)), sy, (by rw [er]; exact wv), ww, g1, g2⟩
    rw [if_neg h1] at er
    have iv := invP_is hp (n := S0.fac) (by omega)
    ((try simp (maxSteps := 3000000) (dsimp := false) (disch := first | omega | (simp only [len_new, len_put, len_kill]; omega)) only [↓ypre, ypost, ↓reduceIte, Nat.reduceEqDiff, Nat.reduceAdd, Nat.reduceSub, Nat.reduceLeDiff, Nat.zero_add, Nat.sub_zero, ynew, f1, f2, f4, f5, f6, f7, hu'.len, decide_eq_true hlt, ix, rd, nth, Int.toNat_natCast, decide_eq_false h0, decide_eq_false h1, rd1_of g1, wrap64_in]); try simp only [yback])
    refine s_l01Inverse hp5 (by omega) iv ?_
    have b := mul_in (A := 5) (B := 5) (a := row.getD k 0) (b := invP x.p S0.fac) (by omega) (by have := iv.1; have := iv.2.1; omega)
    ((try simp (maxSteps := 3000000) (dsimp := false) (disch := first | omega | (simp only [len_new, len_put, len_kill]; omega)) only [↓ypre, ypost, ↓reduceIte, Nat.reduceEqDiff, Nat.reduceAdd, Nat.reduceSub, Nat.reduceLeDiff, Nat.zero_add, Nat.sub_zero, ynew, f1, f2, f4, f5, f6, f7, rd1_of g1, wrap64_in, bin_rem]); try simp only [yback])
    refine ⟨List.prefix_refl _, ?_⟩
    refine wv.app2 (q := [S0.val, k, (row.getD k 0 * invP x.p S0.fac).tmod x.p]) rfl (by omega) (by omega) (by omega) fun sv' H' l' pre' keep' wv0 => ?_
    have wv' := wv0.mlo (lo' := lo) (by omega)
    have g1' := keep' _ _ (by simp) g1
    have g2' := keep' _ _ (by simp) g2
    have ww' := ww.types (by simp) keep'
    have lt1' := get_lt g1'
    have wl := wv'.len
    rw [List.length_append, List.length_singleton] at wl
    have l1' : h.length < (H'.put h.length ⟨[I64 x.p, I64 x.n, sv', w], 48, false, true⟩).length := by rw [len_put]; exact lt1'
    ((try simp (maxSteps := 3000000) (dsimp := false) (disch := first | omega | (simp only [len_new, len_put, len_kill]; omega)) only [↓ypre, ypost, ↓reduceIte, Nat.reduceEqDiff, Nat.reduceAdd, Nat.reduceSub, Nat.reduceLeDiff, Nat.zero_add, Nat.sub_zero, ynew, f1, f2, f4, f5, f6, f7, wv'.one, wv'.cells, wr_of g1', rd1_of (get_put_same lt1'), wl, wrap64_in]); try simp only [yback])
    refine InvQ_go (row.length - (k + 1)) (by omega) ⟨(k + 1), sv', rfl, by omega, (by first | rfl | exact f1 | (simp only [upd_apply]; rfl) | (show I64 _ = _; congr 1; omega)), (by first | rfl | exact f2 | (simp only [upd_apply]; rfl) | (show I64 _ = _; congr 1; omega)), (by first | rfl | exact f4 | (simp only [upd_apply]; rfl) | (show I64 _ = _; congr 1; omega)), (by rw [er]; show I64 _ = I64 _; congr 1), (by rw [er]; exact f6), (by first | rfl | exact f7 | (simp only [upd_apply]; rfl) | (show I64 _ = _; congr 1; omega)), ((sy.trans ⟨by omega, pre', fun m' b' g q _ => keep' m' b' q g⟩).put (Nat.le_refl _) hlo), (by rw [er]; exact wv'.put_ty g1' (by simp)), (ww'.put_ty g1' (by simp)), (get_put_same lt1'), (by rw [get_put_ne (by omega)]; exact g2')⟩
  have ek : k = row.length := by omega
  subst ek
  generalize hS : rowSt x.p x.n x.st row row.length = S0 at *
  have emx : (if (0 : Int) > S0.val then (0 : Int) else S0.val) = max S0.val 0 := by split <;> omega
  ((try simp (maxSteps := 3000000) (dsimp := false) (disch := first | omega | (simp only [len_new, len_put, len_kill]; omega)) only [↓ypre, ypost, ↓reduceIte, Nat.reduceEqDiff, Nat.reduceAdd, Nat.reduceSub, Nat.reduceLeDiff, Nat.zero_add, Nat.sub_zero, ynew, f1, f2, f4, f5, f6, f7, hu'.len, decide_eq_false hlt, rd1_of g1, ↓yWX_mmx, mmx_max, emx, wrap64_in]); try simp only [yback])
  refine ww.app2 (q := [max S0.val 0, S0.fac]) rfl (by omega) (by omega) (by omega) fun so' H' l' pre' keep' ww0' => ?_
  have ww' := ww0'.mlo (lo' := lo) (by omega)
  have g1' := keep' _ _ (by simp) g1
  have g2' := keep' _ _ (by simp) g2
  have wv' := wv.types (by simp) keep'
  have lt1' := get_lt g1'
  have lt2' := get_lt g2'
  have g2'' : (H'.put h.length ⟨[I64 x.p, I64 x.n, sv, so'], 48, false, true⟩).get H1.length = some ⟨[I64 0, I64 0, .slice none 0 0, .slice none 0 0], 48, false, true⟩ := by rw [get_put_ne (by omega)]; exact g2'
  ((try simp (maxSteps := 3000000) (dsimp := false) (disch := first | omega | (simp only [len_new, len_put, len_kill]; omega)) only [↓ypre, ypost, ↓reduceIte, Nat.reduceEqDiff, Nat.reduceAdd, Nat.reduceSub, Nat.reduceLeDiff, Nat.zero_add, Nat.sub_zero, ynew, f1, f2, f4, f5, f6, f7, ww'.one, ww'.cells, wv'.one, wv'.cells, wr_of g1', rdn_of (get_put_same lt1'), wr_of g2'']); try simp only [yback])
  refine hQ sv so' _ (((sy.trans ⟨by omega, pre', fun m' b' g _ q => keep' m' b' q g⟩).put (Nat.le_refl _) hlo).put (by omega) (by omega)) ⟨?_, ?_⟩ (wv.ord ww0')
  · show WayX _ _ _ _ _ _ _ (rowSt x.p x.n x.st row row.length).st
    rw [hS]
    exact (wv'.put_ty g1' (by simp)).put_ty g2'' (by simp)
  · show WayX _ _ _ _ _ _ _ (x.out ++ [[max (rowSt x.p x.n x.st row row.length).val 0, (rowSt x.p x.n x.st row row.length).fac]])
    rw [hS]
    exact (ww'.put_ty g1' (by simp)).put_ty g2'' (by simp)
/-- Rows that stay. -/
def RowsS (lo : Nat) (h : AH) (u : Value) (rows : List (List Int)) : Prop :=
  ∃ cs, (∀ h', Stay lo h h' → Vals h' u cs) ∧ cs.length = rows.length ∧ ∀ i, i < rows.length → ∀ h', Stay lo h h' → Ints h' (cs.getD i undef) (rows.getD i [])
theorem Rows.stays {h : AH} {u : Value} {rows : List (List Int)} (o : Rows h u rows) : RowsS h.length h u rows := by
  obtain ⟨cs, h1, h2, h3⟩ := o
  exact ⟨cs, fun h' s => h1.pre (s.pre _ (Nat.le_refl _) (List.prefix_refl _)), h2, fun i hi h' s => (h3 i hi).pre (s.pre _ (Nat.le_refl _) (List.prefix_refl _))⟩
theorem RowsS.trans {lo : Nat} {h h1 : AH} {u : Value} {rows : List (List Int)} (o : RowsS lo h u rows) (s : Stay lo h h1) : RowsS lo h1 u rows := by
  obtain ⟨cs, c1, c2, c3⟩ := o
  exact ⟨cs, fun h' t => c1 _ (s.trans t), c2, fun i hi h' t => c3 i hi _ (s.trans t)⟩

theorem i_finished {v w u : Value} {x : Prg} {rows : List (List Int)} {lo : Nat} {h : AH} {Q : Value → AH → Prop} (hp : isP x.p = true) (hn : 1 ≤ x.n ∧ x.n ≤ 30) (o : Way2 h lo v w x) (hlo : lo ≤ h.length)
    (hu : RowsS lo h u rows) (hr : ∀ i, i < rows.length → allIn x.p (rows.getD i []) = true ∧ (rows.getD i []).length ≤ 10000) (hl : rows.length ≤ 30) (hs : x.st.length ≤ 100000) (ho : x.out.length ≤ 100000)
    (hQ : ∀ v' w' h', Stay lo h h' → Way2 h' lo v' w' (finP x rows rows.length) → (0 < rows.length → OrdB v' w') → Q (prgV (finP x rows rows.length) v' w') h') : WF S 92 [prgV x v w, u] h Q := by
  refine WF_fn (fn := c92) rfl rfl ?_
  unfold c92
  have hp5 := isP_in hp
  obtain ⟨cs, hv, hcl, hri⟩ := hu
  ((try simp (maxSteps := 3000000) (dsimp := false) (disch := first | omega | (simp only [len_new, len_put, len_kill]; omega)) only [↓ypre, ypost, ↓reduceIte, Nat.reduceEqDiff, Nat.reduceAdd, Nat.reduceSub, Nat.reduceLeDiff, Nat.zero_add, Nat.sub_zero, ynew, prgV, o.st.one, o.out.one]); try simp only [yback])
  generalize hH1 : AH.new h _ = H1
  obtain ⟨hb1, p1, n1⟩ := new_facts hH1
  generalize hH2 : AH.new H1 _ = H2
  obtain ⟨hb2, p2, n2⟩ := new_facts hH2
  have p12 := p1.trans p2
  ((try simp (maxSteps := 3000000) (dsimp := false) (disch := first | omega | (simp only [len_new, len_put, len_kill]; omega)) only [↓ypre, ypost, ↓reduceIte, Nat.reduceEqDiff, Nat.reduceAdd, Nat.reduceSub, Nat.reduceLeDiff, Nat.zero_add, Nat.sub_zero, ynew, (hv _ (Stay.of p12)).len, hcl]); try simp only [yback])
  refine WC_loop_inv (fun m f K1 => ∃ (i : Nat) (sv : Value) (so : Value), m = rows.length - i ∧ i ≤ rows.length ∧ f 2 = .pointer (some ⟨h.length, 0, none⟩) ∧ f 4 = .pointer (some ⟨H1.length, 0, none⟩) ∧ f 10 = u ∧ f 11 = I64 rows.length ∧ f 12 = I64 i ∧ (Stay lo h K1) ∧ (Way2 K1 lo sv so (finP x rows i)) ∧ (0 < i → OrdB sv so) ∧ (K1.get h.length = some ⟨[I64 x.p, I64 x.n, sv, so], 48, false, true⟩) ∧ (K1.get H1.length = some ⟨[I64 0, I64 0, .slice none 0 0, .slice none 0 0], 48, false, true⟩)) ?_ (rows.length - 0) _ _ ⟨0, v, w, rfl, by omega, (by first | rfl | (simp [upd_apply]; done)), (by first | rfl | (simp [upd_apply]; done)), (by first | rfl | (simp [upd_apply]; done)), (by first | rfl | (simp [upd_apply]; done)), (by first | rfl | (simp [upd_apply]; done)), Stay.of p12, o.pre p12, (by omega), pre_get p2 hb1, hb2⟩
  rintro m f K1 ⟨i, sv, so, rfl, hi, f2, f4, f10, f11, f12, sy, o2, ob, g1, g2⟩
  obtain ⟨ep, en, sle, ole⟩ := finP_facts hp hr hn (i := i) hi
  have lt1 := get_lt g1
  have lt2 := get_lt g2
  have sl := sy.len
  by_cases hlt : (i : Int) < rows.length
  · have hi' : i < rows.length := by omega
    obtain ⟨hra, hrl⟩ := hr i hi'
    have ix := (hv _ sy).ix (k := .i64) (j := i) (by omega) (by omega)
    have rd := (hv _ sy).rd (j := i) (by omega) (by omega)
    have hri := hri i hi'
    rw [Int.toNat_natCast] at rd
    generalize cs.getD i undef = rv at *
    have fin1 : finP x rows (i + 1) = rowP (finP x rows i) (rows.getD i []) := rfl
    generalize hX : finP x rows i = X at *
    generalize hR : rows.getD i [] = row at *
    ((try simp (maxSteps := 3000000) (dsimp := false) (disch := first | omega | (simp only [len_new, len_put, len_kill]; omega)) only [↓ypre, ypost, ↓reduceIte, Nat.reduceEqDiff, Nat.reduceAdd, Nat.reduceSub, Nat.reduceLeDiff, Nat.zero_add, Nat.sub_zero, ynew, f2, f4, f10, f11, f12, decide_eq_true hlt, ix, rd, nth, Int.toNat_natCast, wrap64_in]); try simp only [yback])
    generalize hHB : AH.new K1 _ = HB
    obtain ⟨hbB, pB, nB⟩ := new_facts hHB
    have syB := sy.trans (Stay.of pB)
    ((try simp (maxSteps := 3000000) (dsimp := false) (disch := first | omega | (simp only [len_new, len_put, len_kill]; omega)) only [↓ypre, ypost, ↓reduceIte, Nat.reduceEqDiff, Nat.reduceAdd, Nat.reduceSub, Nat.reduceLeDiff, Nat.zero_add, Nat.sub_zero, ynew, f2, f4, f10, f11, f12, (hri _ syB).len]); try simp only [yback])
    have wwB : WayX (98) .i64 2 HB lo [K1.length] so X.out := (o2.out.exc (fun m' hm => by simp at hm; omega)).pre pB
    refine WC_loop_inv (fun m f K2 => ∃ (k : Nat) (sv : Value), m = row.length - k ∧ k ≤ row.length ∧ f 2 = .pointer (some ⟨h.length, 0, none⟩) ∧ f 4 = .pointer (some ⟨H1.length, 0, none⟩) ∧ f 7 = .pointer (some ⟨K1.length, 0, none⟩) ∧ f 10 = u ∧ f 11 = I64 rows.length ∧ f 12 = I64 i ∧ f 17 = rv ∧ f 18 = I64 row.length ∧ f 19 = I64 k ∧ (Stay lo h K2) ∧ (WayX (96) .i64 3 K2 lo [] sv (rowSt X.p X.n X.st row k).st) ∧ (WayX (98) .i64 2 K2 lo [K1.length] so X.out) ∧ (K2.get h.length = some ⟨[I64 x.p, I64 x.n, sv, so], 48, false, true⟩) ∧ (K2.get H1.length = some ⟨[I64 0, I64 0, .slice none 0 0, .slice none 0 0], 48, false, true⟩) ∧ (K2.get K1.length = some ⟨[I64 (max (rowSt X.p X.n X.st row k).val 0), I64 (rowSt X.p X.n X.st row k).fac], 98, false, true⟩)) ?_ (row.length - 0) _ _ ⟨0, sv, rfl, by omega, (by first | rfl | exact f2 | (simp [upd_apply]; done)), (by first | rfl | exact f4 | (simp [upd_apply]; done)), (by first | rfl | (simp [upd_apply]; done)), (by first | rfl | exact f10 | (simp [upd_apply]; done)), (by first | rfl | exact f11 | (simp [upd_apply]; done)), (by first | rfl | exact f12 | (simp [upd_apply]; done)), (by first | rfl | (simp [upd_apply]; done)), (by first | rfl | (simp [upd_apply]; done)), (by first | rfl | (simp [upd_apply]; done)), syB, o2.st.pre pB, wwB, pre_get pB g1, pre_get pB g2, hbB⟩
    rintro m f K2 ⟨k, sv, rfl, hk, f2, f4, f7, f10, f11, f12, f17, f18, f19, sy, wv, ww, g1, g2, g7⟩
    have hu' := hri _ sy
    have lt1' := get_lt g1
    have lt2' := get_lt g2
    have lt7 := get_lt g7
    have sl2 := sy.len
    have fc := rowSt_facts (p := X.p) (n := X.n) (st0 := X.st) (by rw [ep]; exact hp) (by rw [ep]; exact hra) (by rw [en]; exact hn) (k := k) hk
    by_cases hltk : (k : Int) < row.length
    · have hk' : k < row.length := by omega
      have hrk := allIn_iff.1 hra k hk'
      have fc' := rowSt_facts (p := X.p) (n := X.n) (st0 := X.st) (by rw [ep]; exact hp) (by rw [ep]; exact hra) (by rw [en]; exact hn) (k := k + 1) hk'
      have er : rowSt X.p X.n X.st row (k + 1) = if row.getD k 0 = 0 then rowSt X.p X.n X.st row k else if (rowSt X.p X.n X.st row k).val < 0 then ⟨(rowSt X.p X.n X.st row k).st, k, row.getD k 0⟩
        else ⟨(rowSt X.p X.n X.st row k).st ++ [[(rowSt X.p X.n X.st row k).val, k, (row.getD k 0 * invP X.p (rowSt X.p X.n X.st row k).fac).tmod X.p]], X.n + (((rowSt X.p X.n X.st row k).st.length : Int) + 1) - 1, (rowSt X.p X.n X.st row k).fac⟩ := rfl
      generalize hS : rowSt X.p X.n X.st row k = S0 at *
      have ix := hu'.ix (k := .i64) (j := k) (by omega) (by omega)
      have rd := hu'.rd (j := k) (by omega) (by omega)
      by_cases h0 : row.getD k 0 = 0
      · rw [if_pos h0] at er
        ((try simp (maxSteps := 3000000) (dsimp := false) (disch := first | omega | (simp only [len_new, len_put, len_kill]; omega)) only [↓ypre, ypost, ↓reduceIte, Nat.reduceEqDiff, Nat.reduceAdd, Nat.reduceSub, Nat.reduceLeDiff, Nat.zero_add, Nat.sub_zero, ynew, f2, f4, f7, f10, f11, f12, f17, f18, f19, decide_eq_true hltk, ix, rd, nth, Int.toNat_natCast, h0, decide_eq_true (show (0 : Int) = 0 from rfl), wrap64_in]); try simp only [yback])
        refine InvQ_go (row.length - (k + 1)) (by omega) ⟨(k + 1), sv, rfl, by omega, (by first | rfl | exact f2 | (simp only [upd_apply]; rfl) | (show I64 _ = _; congr 1; omega)), (by first | rfl | exact f4 | (simp only [upd_apply]; rfl) | (show I64 _ = _; congr 1; omega)), (by first | rfl | exact f7 | (simp only [upd_apply]; rfl) | (show I64 _ = _; congr 1; omega)), (by first | rfl | exact f10 | (simp only [upd_apply]; rfl) | (show I64 _ = _; congr 1; omega)), (by first | rfl | exact f11 | (simp only [upd_apply]; rfl) | (show I64 _ = _; congr 1; omega)), (by first | rfl | exact f12 | (simp only [upd_apply]; rfl) | (show I64 _ = _; congr 1; omega)), (by first | rfl | exact f17 | (simp only [upd_apply]; rfl) | (show I64 _ = _; congr 1; omega)), (by first | rfl | exact f18 | (simp only [upd_apply]; rfl) | (show I64 _ = _; congr 1; omega)), (by first | rfl | exact f19 | (simp only [upd_apply]; rfl) | (show I64 _ = _; congr 1; omega)), sy, (by rw [er]; exact wv), ww, g1, g2, (by rw [er]; exact g7)⟩
      rw [if_neg h0] at er
      by_cases h1 : S0.val < 0
      · rw [if_pos h1] at er
        have f0 : S0.fac = 0 := fc.2.2.2.2.1 h1
        ((try simp (maxSteps := 3000000) (dsimp := false) (disch := first | omega | (simp only [len_new, len_put, len_kill]; omega)) only [↓ypre, ypost, ↓reduceIte, Nat.reduceEqDiff, Nat.reduceAdd, Nat.reduceSub, Nat.reduceLeDiff, Nat.zero_add, Nat.sub_zero, ynew, f2, f4, f7, f10, f11, f12, f17, f18, f19, decide_eq_true hltk, ix, rd, nth, Int.toNat_natCast, decide_eq_false h0, rd1_of g7, f0, decide_eq_true (show (0 : Int) = 0 from rfl), wr_of g7, wrap64_in]); try simp only [yback])
        refine InvQ_go (row.length - (k + 1)) (by omega) ⟨(k + 1), sv, rfl, by omega, (by first | rfl | exact f2 | (simp only [upd_apply]; rfl) | (show I64 _ = _; congr 1; omega)), (by first | rfl | exact f4 | (simp only [upd_apply]; rfl) | (show I64 _ = _; congr 1; omega)), (by first | rfl | exact f7 | (simp only [upd_apply]; rfl) | (show I64 _ = _; congr 1; omega)), (by first | rfl | exact f10 | (simp only [upd_apply]; rfl) | (show I64 _ = _; congr 1; omega)), (by first | rfl | exact f11 | (simp only [upd_apply]; rfl) | (show I64 _ = _; congr 1; omega)), (by first | rfl | exact f12 | (simp only [upd_apply]; rfl) | (show I64 _ = _; congr 1; omega)), (by first | rfl | exact f17 | (simp only [upd_apply]; rfl) | (show I64 _ = _; congr 1; omega)), (by first | rfl | exact f18 | (simp only [upd_apply]; rfl) | (show I64 _ = _; congr 1; omega)), (by first | rfl | exact f19 | (simp only [upd_apply]; rfl) | (show I64 _ = _; congr 1; omega)), (sy.put (by omega) (by omega)), (by rw [er]; exact wv.put_ty g7 (by simp)), (ww.put (.inr (by simp))), (by rw [get_put_ne (by omega)]; exact g1), (by rw [get_put_ne (by omega)]; exact g2), ?_⟩
        rw [get_put_same lt7, er]
        show _ = some (⟨[I64 (max (k : Int) 0), _], _, _, _⟩ : Blk)
        rw [show max (k : Int) 0 = k by omega]
      rw [if_neg h1] at er
      have f0 : S0.fac ≠ 0 := fun e => h1 (fc.2.2.2.2.2 e)
      have mv : max S0.val 0 = S0.val := by omega
      have iv := invP_is hp (n := S0.fac) (by omega)
      ((try simp (maxSteps := 3000000) (dsimp := false) (disch := first | omega | (simp only [len_new, len_put, len_kill]; omega)) only [↓ypre, ypost, ↓reduceIte, Nat.reduceEqDiff, Nat.reduceAdd, Nat.reduceSub, Nat.reduceLeDiff, Nat.zero_add, Nat.sub_zero, ynew, f2, f4, f7, f10, f11, f12, f17, f18, f19, decide_eq_true hltk, ix, rd, nth, Int.toNat_natCast, decide_eq_false h0, rd1_of g7, decide_eq_false f0, rd1_of g1, mv, wrap64_in]); try simp only [yback])
      refine i_inverse hp5 (by omega) iv ?_
      have b := mul_in (A := 5) (B := 5) (a := row.getD k 0) (b := invP x.p S0.fac) (by omega) (by have := iv.1; have := iv.2.1; omega)
      ((try simp (maxSteps := 3000000) (dsimp := false) (disch := first | omega | (simp only [len_new, len_put, len_kill]; omega)) only [↓ypre, ypost, ↓reduceIte, Nat.reduceEqDiff, Nat.reduceAdd, Nat.reduceSub, Nat.reduceLeDiff, Nat.zero_add, Nat.sub_zero, ynew, f2, f4, f7, f10, f11, f12, f17, f18, f19, rd1_of g1, wrap64_in, bin_rem]); try simp only [yback])
      refine ⟨List.prefix_refl _, ?_⟩
      refine wv.app2 (q := [S0.val, k, (row.getD k 0 * invP x.p S0.fac).tmod x.p]) rfl (by omega) (by omega) (by omega) fun sv' H' l' pre' keep' wv0 => ?_
      have wv' := wv0.mlo (lo' := lo) (by omega)
      have g1' := keep' _ _ (by simp) g1
      have g2' := keep' _ _ (by simp) g2
      have g7' := keep' _ _ (by simp) g7
      have ww' : WayX (98) .i64 2 H' lo [K1.length] so X.out := ww.keep fun m' c' f' _ _ g => keep' _ _ (by simp) g
      have lt1'' := get_lt g1'
      have lt7'' := get_lt g7'
      have wl := wv'.len
      rw [List.length_append, List.length_singleton] at wl
      have g7'' : (H'.put h.length ⟨[I64 x.p, I64 x.n, sv', so], 48, false, true⟩).get K1.length = some ⟨[I64 (max S0.val 0), I64 S0.fac], 98, false, true⟩ := by rw [get_put_ne (by omega)]; exact g7'
      ((try simp (maxSteps := 3000000) (dsimp := false) (disch := first | omega | (simp only [len_new, len_put, len_kill]; omega)) only [↓ypre, ypost, ↓reduceIte, Nat.reduceEqDiff, Nat.reduceAdd, Nat.reduceSub, Nat.reduceLeDiff, Nat.zero_add, Nat.sub_zero, ynew, f2, f4, f7, f10, f11, f12, f17, f18, f19, wv'.one, wv'.cells, wr_of g1', rd1_of (get_put_same lt1''), wl, wr_of g7'', wrap64_in]); try simp only [yback])
      have lt7p : K1.length < (H'.put h.length ⟨[I64 x.p, I64 x.n, sv', so], 48, false, true⟩).length := by rw [len_put]; exact lt7''
      have er' : rowSt X.p X.n X.st row (k + 1) = ⟨S0.st ++ [[S0.val, k, (row.getD k 0 * invP x.p S0.fac).tmod x.p]], x.n + ((S0.st.length : Int) + 1) - 1, S0.fac⟩ := by
        rw [er, ep, en]
      refine InvQ_go (row.length - (k + 1)) (by omega) ⟨(k + 1), sv', rfl, by omega, (by first | rfl | exact f2 | (simp only [upd_apply]; rfl) | (show I64 _ = _; congr 1; omega)), (by first | rfl | exact f4 | (simp only [upd_apply]; rfl) | (show I64 _ = _; congr 1; omega)), (by first | rfl | exact f7 | (simp only [upd_apply]; rfl) | (show I64 _ = _; congr 1; omega)), (by first | rfl | exact f10 | (simp only [upd_apply]; rfl) | (show I64 _ = _; congr 1; omega)), (by first | rfl | exact f11 | (simp only [upd_apply]; rfl) | (show I64 _ = _; congr 1; omega)), (by first | rfl | exact f12 | (simp only [upd_apply]; rfl) | (show I64 _ = _; congr 1; omega)), (by first | rfl | exact f17 | (simp only [upd_apply]; rfl) | (show I64 _ = _; congr 1; omega)), (by first | rfl | exact f18 | (simp only [upd_apply]; rfl) | (show I64 _ = _; congr 1; omega)), (by first | rfl | exact f19 | (simp only [upd_apply]; rfl) | (show I64 _ = _; congr 1; omega)), (((sy.trans ⟨by omega, pre', fun m' b' g q _ => keep' m' b' q g⟩).put (Nat.le_refl _) hlo).put (by omega) (by omega)), (by rw [er']; exact (wv'.put_ty g1' (by simp)).put_ty g7'' (by simp)), ((ww'.put_ty g1' (by simp)).put (.inr (by simp))), (by rw [get_put_ne (by omega), get_put_same lt1'']), (by rw [get_put_ne (by omega), get_put_ne (by omega)]; exact g2'), ?_⟩
      rw [get_put_same lt7p, er']
      show _ = some (⟨[I64 (max (x.n + ((S0.st.length : Int) + 1) - 1) 0), _], _, _, _⟩ : Blk)
      rw [show max (x.n + ((S0.st.length : Int) + 1) - 1) 0 = x.n + ((S0.st.length : Int) + 1) - 1 by omega]
      rfl
    have ek : k = row.length := by omega
    subst ek
    generalize hS : rowSt X.p X.n X.st row row.length = S0 at *
    ((try simp (maxSteps := 3000000) (dsimp := false) (disch := first | omega | (simp only [len_new, len_put, len_kill]; omega)) only [↓ypre, ypost, ↓reduceIte, Nat.reduceEqDiff, Nat.reduceAdd, Nat.reduceSub, Nat.reduceLeDiff, Nat.zero_add, Nat.sub_zero, ynew, f2, f4, f7, f10, f11, f12, f17, f18, f19, decide_eq_false hltk, rd1_of g1, rdn_of g7]); try simp only [yback])
    have ww0 : WayX (98) .i64 2 K2 lo [] so X.out := ww.exc (by simp)
    refine ww0.app2 (q := [max S0.val 0, S0.fac]) rfl (by omega) (by omega) (by omega) fun so' H' l' pre' keep' ww0' => ?_
    have ww' := ww0'.mlo (lo' := lo) (by omega)
    have g1' := keep' _ _ (by simp) g1
    have g2' := keep' _ _ (by simp) g2
    have wv' := wv.types (by decide) keep'
    have lt1'' := get_lt g1'
    ((try simp (maxSteps := 3000000) (dsimp := false) (disch := first | omega | (simp only [len_new, len_put, len_kill]; omega)) only [↓ypre, ypost, ↓reduceIte, Nat.reduceEqDiff, Nat.reduceAdd, Nat.reduceSub, Nat.reduceLeDiff, Nat.zero_add, Nat.sub_zero, ynew, f2, f4, f7, f10, f11, f12, f17, f18, f19, ww'.one, ww'.cells, wr_of g1', wrap64_in]); try simp only [yback])
    refine InvQ_go (rows.length - (i + 1)) (by omega) ⟨(i + 1), sv, so', rfl, by omega, (by first | rfl | exact f2 | (simp only [upd_apply]; rfl) | (show I64 _ = _; congr 1; omega)), (by first | rfl | exact f4 | (simp only [upd_apply]; rfl) | (show I64 _ = _; congr 1; omega)), (by first | rfl | exact f10 | (simp only [upd_apply]; rfl) | (show I64 _ = _; congr 1; omega)), (by first | rfl | exact f11 | (simp only [upd_apply]; rfl) | (show I64 _ = _; congr 1; omega)), (by first | rfl | exact f12 | (simp only [upd_apply]; rfl) | (show I64 _ = _; congr 1; omega)), ((sy.trans ⟨by omega, pre', fun m' b' g _ q => keep' m' b' q g⟩).put (Nat.le_refl _) hlo), ?_, (fun _ => wv.ord ww0'), (get_put_same lt1''), (by rw [get_put_ne (by omega)]; exact g2')⟩
    rw [fin1]
    refine ⟨?_, ?_⟩
    · show WayX _ _ _ _ _ _ _ (rowSt X.p X.n X.st row row.length).st
      rw [hS]
      exact wv'.put_ty g1' (by simp)
    · show WayX _ _ _ _ _ _ _ (X.out ++ [[max (rowSt X.p X.n X.st row row.length).val 0, (rowSt X.p X.n X.st row row.length).fac]])
      rw [hS]
      exact ww'.put_ty g1' (by simp)
  have ei : i = rows.length := by omega
  subst ei
  ((try simp (maxSteps := 3000000) (dsimp := false) (disch := first | omega | (simp only [len_new, len_put, len_kill]; omega)) only [↓ypre, ypost, ↓reduceIte, Nat.reduceEqDiff, Nat.reduceAdd, Nat.reduceSub, Nat.reduceLeDiff, Nat.zero_add, Nat.sub_zero, ynew, f2, f4, f10, f11, f12, decide_eq_false hlt, rdn_of g1, wr_of g2, o2.st.one, o2.st.cells, o2.out.one, o2.out.cells]); try simp only [yback])
  have := hQ sv so _ (sy.put (b := ⟨[I64 x.p, I64 x.n, sv, so], 48, false, true⟩) (show h.length ≤ H1.length by omega) (by omega)) ⟨o2.st.put_ty g2 (by simp), o2.out.put_ty g2 (by simp)⟩ ob
  unfold prgV at this
  rw [ep, en] at this
  exact this
end Go.Proofs.Ytilpnbejpndgpaa.X

/- PlainProgram of both sides. -/
set_option linter.unusedVariables false
set_option linter.unusedSimpArgs false
set_option maxRecDepth 20000
set_option maxHeartbeats 4000000
namespace Go.Proofs.Ytilpnbejpndgpaa.X
open Go Go.RowKit

def lsOK (p n : Int) (rows : List (List Int)) : Bool := isP p && (decide (1 ≤ n ∧ n ≤ 30) && (decide (1 ≤ (rows.length : Int) ∧ (rows.length : Int) ≤ 30) && isMat p n rows))
theorem lsOK_iff {p n : Int} {rows : List (List Int)} : lsOK p n rows = true ↔ isP p = true ∧ (1 ≤ n ∧ n ≤ 30) ∧ (1 ≤ (rows.length : Int) ∧ (rows.length : Int) ≤ 30) ∧ isMat p n rows = true := by
  simp [lsOK]
def lsC (p n : Int) (rows : List (List Int)) : Int := if lsOK p n rows = true then 0 else 2
theorem s_Plain {u : Value} {p n : Int} {rows : List (List Int)} {h : AH} {Q : Value → AH → Prop} (hu : Rows h u rows) (hok : lsOK p n rows = true)
    (hQ : ∀ v' w' h', Stay h.length h h' → Way2 h' h.length v' w' (finP ⟨p, n, [], []⟩ rows rows.length) → OrdB v' w' → Q (prgV (finP ⟨p, n, [], []⟩ rows rows.length) v' w') h') : WF S 90 [I64 p, I64 n, u] h Q := by
  refine WF_fn (fn := c90) rfl rfl ?_
  unfold c90
  obtain ⟨hp, hn, hl, hm⟩ := lsOK_iff.1 hok
  have hrr : ∀ i, i < rows.length → allIn p (rows.getD i []) = true ∧ (rows.getD i []).length ≤ 10000 := fun i hi => ⟨(isMat_iff.1 hm i hi).2, by have := (isMat_iff.1 hm i hi).1; omega⟩
  obtain ⟨cs, hv, hcl, hr⟩ := hu.stays
  ((try simp (maxSteps := 3000000) (dsimp := false) (disch := first | omega | (simp only [len_new, len_put, len_kill]; omega)) only [↓ypre, ypost, ↓reduceIte, Nat.reduceEqDiff, Nat.reduceAdd, Nat.reduceSub, Nat.reduceLeDiff, Nat.zero_add, Nat.sub_zero, ynew]); try simp only [yback])
  generalize hH1 : AH.new h _ = H1
  obtain ⟨hb1, p1, n1⟩ := new_facts hH1
  generalize hH2 : AH.new H1 _ = H2
  obtain ⟨hb2, p2, n2⟩ := new_facts hH2
  generalize hH3 : AH.new H2 _ = H3
  obtain ⟨hb3, p3, n3⟩ := new_facts hH3
  generalize hH4 : AH.new H3 _ = H4
  obtain ⟨hb4, p4, n4⟩ := new_facts hH4
  have p14 := ((p1.trans p2).trans p3).trans p4
  have o0 : Way2 H4 h.length (.slice (some ⟨H1.length, 0, none⟩) 0 3) (.slice (some ⟨H2.length, 0, none⟩) 0 2) (finP ⟨p, n, [], []⟩ rows 0) :=
    ⟨⟨fun r hr => by simp [finP] at hr, .inr ⟨H1.length, true, rfl, by omega, by simp, pre_get (p3.trans p4) hb2⟩⟩, ⟨fun r hr => by simp [finP] at hr, .inr ⟨H2.length, true, rfl, by omega, by simp, pre_get p4 hb3⟩⟩⟩
  refine WC_loop_inv (fun m f K1 => ∃ (i : Nat) (v : Value) (w : Value), m = rows.length - i ∧ i ≤ rows.length ∧ f 2 = u ∧ f 6 = .pointer (some ⟨h.length, 0, none⟩) ∧ f 7 = .pointer (some ⟨H3.length, 0, none⟩) ∧ f 8 = I64 i ∧ (Stay h.length h K1) ∧ (Way2 K1 h.length v w (finP ⟨p, n, [], []⟩ rows i)) ∧ (0 < i → OrdB v w) ∧ (K1.get H3.length = some ⟨[I64 p, I64 n, v, w], 48, false, true⟩) ∧ (K1.get h.length = some ⟨[I64 0, I64 0, .slice none 0 0, .slice none 0 0], 48, false, true⟩)) ?_ (rows.length - 0) _ _ ⟨0, .slice (some ⟨H1.length, 0, none⟩) 0 3, .slice (some ⟨H2.length, 0, none⟩) 0 2, rfl, by omega, (by first | rfl | (simp [upd_apply]; done)), (by first | rfl | (simp [upd_apply]; done)), (by first | rfl | (simp [upd_apply]; done)), (by first | rfl | (simp [upd_apply]; done)), Stay.of p14, o0, (by omega), hb4, pre_get ((p2.trans p3).trans p4) hb1⟩
  rintro m f K1 ⟨i, v, w, rfl, hi, f2, f6, f7, f8, sy, o2, ob, g7, g6⟩
  obtain ⟨ep, en, sle, ole⟩ := finP_facts (x := ⟨p, n, [], []⟩) (N := 10000) hp hrr hn (i := i) hi
  have lt6 := get_lt g6
  have lt7 := get_lt g7
  have sl := sy.len
  by_cases hlt : (i : Int) < rows.length
  · have hi' : i < rows.length := by omega
    obtain ⟨hra, hrl⟩ := hrr i hi'
    have ix := (hv _ sy).ix (k := .i64) (j := i) (by omega) (by omega)
    have rd := (hv _ sy).rd (j := i) (by omega) (by omega)
    have hri := hr i hi'
    rw [Int.toNat_natCast] at rd
    have fin1 : finP ⟨p, n, [], []⟩ rows (i + 1) = rowP (finP ⟨p, n, [], []⟩ rows i) (rows.getD i []) := rfl
    generalize finP ⟨p, n, [], []⟩ rows i = X at *
    have epv : prgV X v w = .agg #[I64 p, I64 n, v, w] := by unfold prgV; rw [ep, en]
    ((try simp (maxSteps := 3000000) (dsimp := false) (disch := first | omega | (simp only [len_new, len_put, len_kill]; omega)) only [↓ypre, ypost, ↓reduceIte, Nat.reduceEqDiff, Nat.reduceAdd, Nat.reduceSub, Nat.reduceLeDiff, Nat.zero_add, Nat.sub_zero, ynew, f2, f6, f7, f8, (hv _ sy).len, hcl, decide_eq_true hlt, rdn_of g7, ix, rd]); try simp only [yback])
    rw [← epv]
    refine s_l07Row (by rw [ep]; exact hp) (by rw [en]; exact hn) o2 (by omega) (fun h' s' => hri h' (sy.trans s')) (by rw [ep]; exact hra) (by omega) (by simp at sle; omega) (by simp at ole; omega) fun v' w' H' sy' o' ob' => ?_
    have g7' := sy'.get _ _ g7 (by simp) (by simp)
    have g6' := sy'.get _ _ g6 (by simp) (by simp)
    have lt7' := get_lt g7'
    ((try simp (maxSteps := 3000000) (dsimp := false) (disch := first | omega | (simp only [len_new, len_put, len_kill]; omega)) only [↓ypre, ypost, ↓reduceIte, Nat.reduceEqDiff, Nat.reduceAdd, Nat.reduceSub, Nat.reduceLeDiff, Nat.zero_add, Nat.sub_zero, ynew, f2, f6, f7, f8, prgV, o'.st.one, o'.st.cells, o'.out.one, o'.out.cells, wr_of g7', wrap64_in]); try simp only [yback])
    refine InvQ_go (rows.length - (i + 1)) (by omega) ⟨(i + 1), v', w', rfl, by omega, (by first | rfl | exact f2 | (simp only [upd_apply]; rfl) | (show I64 _ = _; congr 1; omega)), (by first | rfl | exact f6 | (simp only [upd_apply]; rfl) | (show I64 _ = _; congr 1; omega)), (by first | rfl | exact f7 | (simp only [upd_apply]; rfl) | (show I64 _ = _; congr 1; omega)), (by first | rfl | exact f8 | (simp only [upd_apply]; rfl) | (show I64 _ = _; congr 1; omega)), ((sy.trans sy').put (by omega) (by omega)), ?_, (fun _ => ob'), ?_, (by rw [get_put_ne (by omega)]; exact g6')⟩
    · rw [fin1]
      exact ⟨o'.st.put_ty g7' (by simp), o'.out.put_ty g7' (by simp)⟩
    · rw [get_put_same lt7']
      show some (⟨[I64 X.p, I64 X.n, v', w'], _, _, _⟩ : Blk) = _
      rw [ep, en]
  have ei : i = rows.length := by omega
  subst ei
  ((try simp (maxSteps := 3000000) (dsimp := false) (disch := first | omega | (simp only [len_new, len_put, len_kill]; omega)) only [↓ypre, ypost, ↓reduceIte, Nat.reduceEqDiff, Nat.reduceAdd, Nat.reduceSub, Nat.reduceLeDiff, Nat.zero_add, Nat.sub_zero, ynew, f2, f6, f7, f8, (hv _ sy).len, hcl, decide_eq_false hlt, rdn_of g7, wr_of g6, o2.st.one, o2.st.cells, o2.out.one, o2.out.cells]); try simp only [yback])
  have := hQ v w _ (sy.put (b := ⟨[I64 p, I64 n, v, w], 48, false, true⟩) (Nat.le_refl _) (Nat.le_refl _)) ⟨o2.st.put_ty g6 (by simp), o2.out.put_ty g6 (by simp)⟩ (ob (by omega))
  unfold prgV at this
  rw [ep, en] at this
  exact this
end Go.Proofs.Ytilpnbejpndgpaa.X

/- Shared programs, plainly: the best pair, the step, the whole. -/
set_option linter.unusedVariables false
set_option linter.unusedSimpArgs false
set_option maxRecDepth 20000
set_option maxHeartbeats 4000000
namespace Go.Proofs.Ytilpnbejpndgpaa.X
open Go Go.RowKit

/-- Row k has numbers in two columns, r times the one in the other. -/
def mkB (p : Int) (T : List (List Int)) (i j r : Nat) (k : Nat) : Bool := decide (tb T k i ≠ 0) && decide (tb T k j = (tb T k i * r).tmod p)
def cntT (p : Int) (T : List (List Int)) (i j r : Nat) : Nat := cntB (mkB p T i j r) T.length
structure BS where
  l : Nat
  j : Nat
  r : Nat
  m : Nat
def upB (s : BS) (i j r c : Nat) : BS := if s.m < c then ⟨i, j, r, c⟩ else s
section
variable (p : Int) (T : List (List Int))
def foldR (i j : Nat) : Nat → BS → BS
  | 0, s => s
  | n + 1, s => upB (foldR i j n s) i j (n + 1) (cntT p T i j (n + 1))
def foldJ (i : Nat) : Nat → BS → BS
  | 0, s => s
  | n + 1, s => foldR p T i (i + 1 + n) (p.toNat - 1) (foldJ i n s)
def foldI (W : Nat) : Nat → BS → BS
  | 0, s => s
  | n + 1, s => foldJ p T n (W - (n + 1)) (foldI W n s)
def bst : BS := foldI p T (T.getD 0 []).length (T.getD 0 []).length ⟨0, 0, 0, 1⟩
end
/-- The reference's best beside the program's, which counts from 1 on. -/
def RelB (s m : BS) : Prop := (s.m < 2 ∧ m.m = 1) ∨ (2 ≤ s.m ∧ m = s)
theorem upB_rel {s m : BS} {i j r c : Nat} (h : RelB s m) : RelB (upB s i j r c) (upB m i j r c) := by
  unfold upB
  rcases h with ⟨h1, h2⟩ | ⟨h1, rfl⟩
  · by_cases hc : 2 ≤ c
    · rw [if_pos (by omega), if_pos (by omega)]
      exact .inr ⟨hc, rfl⟩
    · rw [if_neg (c := m.m < c) (by omega)]
      split
      · exact .inl ⟨by simp only; omega, h2⟩
      · exact .inl ⟨h1, h2⟩
  · split
    · exact .inr ⟨by simp only; omega, rfl⟩
    · exact .inr ⟨h1, rfl⟩
theorem foldR_rel {p : Int} {T : List (List Int)} {i j : Nat} {s m : BS} (h : RelB s m) : ∀ {n : Nat}, RelB (foldR p T i j n s) (foldR p T i j n m)
  | 0 => h
  | n + 1 => upB_rel (foldR_rel h (n := n))
theorem foldJ_rel {p : Int} {T : List (List Int)} {i : Nat} {s m : BS} (h : RelB s m) : ∀ {n : Nat}, RelB (foldJ p T i n s) (foldJ p T i n m)
  | 0 => h
  | n + 1 => foldR_rel (foldJ_rel h (n := n))
theorem foldI_rel {p : Int} {T : List (List Int)} {W : Nat} {s m : BS} (h : RelB s m) : ∀ {n : Nat}, RelB (foldI p T W n s) (foldI p T W n m)
  | 0 => h
  | n + 1 => foldJ_rel (foldI_rel h (n := n))
theorem cntT_le {p : Int} {T : List (List Int)} {i j r : Nat} : cntT p T i j r ≤ cntB (fun k => decide (tb T k i ≠ 0)) T.length := cntB_mono fun k _ h => by
  unfold mkB at h
  exact (Bool.and_eq_true _ _ ▸ h).1
theorem foldR_skip {p : Int} {T : List (List Int)} {i j : Nat} {m : BS} (h : ∀ j r, cntT p T i j r ≤ m.m) : ∀ {n : Nat}, foldR p T i j n m = m
  | 0 => rfl
  | n + 1 => by
    unfold foldR upB
    rw [foldR_skip h (n := n), if_neg (by have := h j (n + 1); omega)]
theorem foldJ_skip {p : Int} {T : List (List Int)} {i : Nat} {m : BS} (h : ∀ j r, cntT p T i j r ≤ m.m) : ∀ {n : Nat}, foldJ p T i n m = m
  | 0 => rfl
  | n + 1 => by
    unfold foldJ
    rw [foldJ_skip h (n := n), foldR_skip h]
/-- What the best is. -/
def BOK (p : Int) (T : List (List Int)) (W : Nat) (s : BS) : Prop := 2 ≤ s.m → s.l < s.j ∧ s.j < W ∧ 1 ≤ s.r ∧ (s.r : Int) < p ∧ s.m = cntT p T s.l s.j s.r
theorem upB_ok {p : Int} {T : List (List Int)} {W i j r : Nat} {s : BS} (h : BOK p T W s) (h1 : i < j ∧ j < W ∧ 1 ≤ r ∧ (r : Int) < p) : BOK p T W (upB s i j r (cntT p T i j r)) := by
  unfold upB
  split
  · exact fun _ => ⟨h1.1, h1.2.1, h1.2.2.1, h1.2.2.2, rfl⟩
  · exact h
theorem foldR_ok {p : Int} {T : List (List Int)} {W i j : Nat} {s : BS} (h : BOK p T W s) (h1 : i < j ∧ j < W) : ∀ {n : Nat}, (n : Int) < p → BOK p T W (foldR p T i j n s)
  | 0, _ => h
  | n + 1, hn => upB_ok (foldR_ok h h1 (n := n) (by omega)) ⟨h1.1, h1.2, by omega, hn⟩
theorem foldJ_ok {p : Int} {T : List (List Int)} {W i : Nat} {s : BS} (hp : 1 ≤ p) (h : BOK p T W s) : ∀ {n : Nat}, i + 1 + n ≤ W → BOK p T W (foldJ p T i n s)
  | 0, _ => h
  | n + 1, hn => foldR_ok (foldJ_ok hp h (n := n) (by omega)) ⟨by omega, by omega⟩ (by omega)
theorem foldI_ok {p : Int} {T : List (List Int)} {W : Nat} {s : BS} (hp : 1 ≤ p) (h : BOK p T W s) : ∀ {n : Nat}, n ≤ W → BOK p T W (foldI p T W n s)
  | 0, _ => h
  | n + 1, hn => foldJ_ok hp (foldI_ok hp h (n := n) (by omega)) (by omega)
theorem foldR_m {p : Int} {T : List (List Int)} {i j : Nat} {s : BS} {B : Nat} (h : s.m ≤ B) (hT : T.length ≤ B) : ∀ {n : Nat}, (foldR p T i j n s).m ≤ B
  | 0 => h
  | n + 1 => by
    have ih := foldR_m (p := p) (T := T) (i := i) (j := j) h hT (n := n)
    have : cntT p T i j (n + 1) ≤ T.length := cntB_le
    unfold foldR upB
    split
    · simp only
      omega
    · exact ih
theorem foldJ_m {p : Int} {T : List (List Int)} {i : Nat} {s : BS} {B : Nat} (h : s.m ≤ B) (hT : T.length ≤ B) : ∀ {n : Nat}, (foldJ p T i n s).m ≤ B
  | 0 => h
  | n + 1 => foldR_m (foldJ_m h hT (n := n)) hT
theorem foldI_m {p : Int} {T : List (List Int)} {W : Nat} {s : BS} {B : Nat} (h : s.m ≤ B) (hT : T.length ≤ B) : ∀ {n : Nat}, (foldI p T W n s).m ≤ B
  | 0 => h
  | n + 1 => foldJ_m (foldI_m h hT (n := n)) hT
/-- r times a number other than 0, by the inverse. -/
theorem inv_mk {p a b r : Int} (hp : isP p = true) (ha : 0 ≤ a ∧ a < p) (hb : 0 ≤ b ∧ b < p) (hr : 1 ≤ r ∧ r < p) :
    (decide (a ≠ 0) && (decide (b ≠ 0) && decide ((b * invP p a).tmod p = r))) = (decide (a ≠ 0) && decide (b = (a * r).tmod p)) := by
  have hpp : p = 2 ∨ p = 3 ∨ p = 5 := by simpa [isP] using hp
  rcases hpp with rfl | rfl | rfl
  · have h1 : a = 0 ∨ a = 1 := by omega
    have h2 : b = 0 ∨ b = 1 := by omega
    have h3 : r = 1 := by omega
    subst h3
    rcases h1 with rfl | rfl <;> rcases h2 with rfl | rfl <;> decide
  · have h1 : a = 0 ∨ a = 1 ∨ a = 2 := by omega
    have h2 : b = 0 ∨ b = 1 ∨ b = 2 := by omega
    have h3 : r = 1 ∨ r = 2 := by omega
    rcases h1 with rfl | rfl | rfl <;> rcases h2 with rfl | rfl | rfl <;> rcases h3 with rfl | rfl <;> decide
  · have h1 : a = 0 ∨ a = 1 ∨ a = 2 ∨ a = 3 ∨ a = 4 := by omega
    have h2 : b = 0 ∨ b = 1 ∨ b = 2 ∨ b = 3 ∨ b = 4 := by omega
    have h3 : r = 1 ∨ r = 2 ∨ r = 3 ∨ r = 4 := by omega
    rcases h1 with rfl | rfl | rfl | rfl | rfl <;> rcases h2 with rfl | rfl | rfl | rfl | rfl <;> rcases h3 with rfl | rfl | rfl | rfl <;> decide
theorem mul_nz {p a r : Int} (hp : isP p = true) (ha : 1 ≤ a ∧ a < p) (hr : 1 ≤ r ∧ r < p) : 1 ≤ (a * r).tmod p ∧ (a * r).tmod p < p := by
  have hpp : p = 2 ∨ p = 3 ∨ p = 5 := by simpa [isP] using hp
  rcases hpp with rfl | rfl | rfl
  · have h1 : a = 1 := by omega
    have h3 : r = 1 := by omega
    subst h1 h3
    decide
  · have h1 : a = 1 ∨ a = 2 := by omega
    have h3 : r = 1 ∨ r = 2 := by omega
    rcases h1 with rfl | rfl <;> rcases h3 with rfl | rfl <;> decide
  · have h1 : a = 1 ∨ a = 2 ∨ a = 3 ∨ a = 4 := by omega
    have h3 : r = 1 ∨ r = 2 ∨ r = 3 ∨ r = 4 := by omega
    rcases h1 with rfl | rfl | rfl | rfl <;> rcases h3 with rfl | rfl | rfl | rfl <;> decide

/-! ### The step -/
def mvOK (p : Int) (l j r : Nat) (row : List Int) : Bool := decide (row.getD l 0 ≠ 0) && decide (row.getD j 0 = (row.getD l 0 * r).tmod p)
def mvRow (p : Int) (l j r : Nat) (row : List Int) : List Int := if mvOK p l j r row = true then ((row.set l 0).set j 0) ++ [row.getD l 0] else row ++ [0]
def mvT (p : Int) (s : BS) (T : List (List Int)) : List (List Int) := T.map (mvRow p s.l s.j s.r)
def GT (p : Int) (W : Nat) (T : List (List Int)) : Prop := ∀ k, k < T.length → (T.getD k []).length = W ∧ ∀ i, i < W → 0 ≤ tb T k i ∧ tb T k i < p
theorem mvRow_len {p : Int} {l j r : Nat} {row : List Int} : (mvRow p l j r row).length = row.length + 1 := by
  unfold mvRow
  split <;> simp
theorem mvT_len {p : Int} {s : BS} {T : List (List Int)} : (mvT p s T).length = T.length := by simp [mvT]
theorem mvT_get {p : Int} {s : BS} {T : List (List Int)} {k : Nat} (hk : k < T.length) : (mvT p s T).getD k [] = mvRow p s.l s.j s.r (T.getD k []) := by
  simp [mvT, List.getD_eq_getElem?_getD, List.getElem?_map, List.getElem?_eq_getElem hk]
theorem mvRow_at {p : Int} {l j r i : Nat} {row : List Int} (hl : l < row.length) (hj : j < row.length) (hi : i ≤ row.length) :
    (mvRow p l j r row).getD i 0 = if i = row.length then (if mvOK p l j r row = true then row.getD l 0 else 0) else if mvOK p l j r row = true ∧ (i = l ∨ i = j) then 0 else row.getD i 0 := by
  unfold mvRow
  by_cases hm : mvOK p l j r row = true
  · rw [if_pos hm, if_pos hm]
    by_cases he : i = row.length
    · subst he
      rw [if_pos rfl, List.getD_eq_getElem?_getD, List.getElem?_append_right (by simp)]
      simp
    · rw [if_neg he, List.getD_eq_getElem?_getD, List.getElem?_append_left (by simp; omega), ← List.getD_eq_getElem?_getD, set_getD (by simp; exact hj), set_getD hl]
      by_cases h1 : i = j
      · rw [if_pos h1, if_pos ⟨hm, .inr h1⟩]
      · rw [if_neg h1]
        by_cases h2 : i = l
        · rw [if_pos h2, if_pos ⟨hm, .inl h2⟩]
        · rw [if_neg h2, if_neg (fun h => h.2.elim h2 h1)]
  · rw [if_neg hm, if_neg hm]
    by_cases he : i = row.length
    · subst he
      rw [if_pos rfl, List.getD_eq_getElem?_getD, List.getElem?_append_right (Nat.le_refl _)]
      simp
    · rw [if_neg he, if_neg (fun h => hm h.1), List.getD_eq_getElem?_getD, List.getElem?_append_left (by omega), ← List.getD_eq_getElem?_getD]
theorem GT.step {p : Int} {W : Nat} {T : List (List Int)} {s : BS} (g : GT p W T) (hp : 1 ≤ p) (h1 : s.l < W) (h2 : s.j < W) : GT p (W + 1) (mvT p s T) := by
  intro k hk
  rw [mvT_len] at hk
  obtain ⟨gl, gi⟩ := g k hk
  refine ⟨by rw [mvT_get hk, mvRow_len, gl], fun i hi => ?_⟩
  have hi' : tb (mvT p s T) k i = (mvRow p s.l s.j s.r (T.getD k [])).getD i 0 := by unfold tb; rw [mvT_get hk]
  rw [hi', mvRow_at (by omega) (by omega) (by omega)]
  have g1 := gi s.l h1
  unfold tb at gi g1
  split
  · split
    · exact g1
    · omega
  · split
    · omega
    · exact gi i (by omega)
/-- Numbers other than 0. -/
def nzR (row : List Int) : Nat := cntB (fun i => decide (row.getD i 0 ≠ 0)) row.length
def sumN (f : Nat → Nat) : Nat → Nat
  | 0 => 0
  | n + 1 => sumN f n + f n
def nzT (T : List (List Int)) : Nat := sumN (fun k => nzR (T.getD k [])) T.length
theorem cntB_flip {f g : Nat → Bool} {l : Nat} (h1 : f l = true) (h2 : g l = false) (h3 : ∀ k, k ≠ l → f k = g k) : ∀ {R : Nat}, l < R → cntB f R = cntB g R + 1
  | 0, h => by omega
  | R + 1, h => by
    unfold cntB
    by_cases e : l = R
    · subst e
      rw [h1, h2, cntB_congr (f := f) (g := g) fun k hk => h3 k (by omega)]
      simp
    · rw [cntB_flip h1 h2 h3 (R := R) (by omega), h3 R (fun q => e q.symm)]
      omega
theorem nzR_mv {p : Int} {l j r : Nat} {row : List Int} (hp : isP p = true) (hl : l < row.length) (hj : j < row.length) (hlj : l ≠ j) (hr : 1 ≤ r ∧ (r : Int) < p) (g : ∀ i, i < row.length → 0 ≤ row.getD i 0 ∧ row.getD i 0 < p) :
    nzR (mvRow p l j r row) + (if mvOK p l j r row = true then 1 else 0) = nzR row := by
  have e : ∀ i, i ≤ row.length → (mvRow p l j r row).getD i 0 = _ := fun i hi => mvRow_at hl hj hi
  unfold nzR
  rw [mvRow_len]
  show cntB _ row.length + (if (decide ((mvRow p l j r row).getD row.length 0 ≠ 0)) = true then 1 else 0) + _ = _
  rw [e row.length (Nat.le_refl _), if_pos rfl]
  by_cases hm : mvOK p l j r row = true
  · have hm' := hm
    unfold mvOK at hm'
    rw [Bool.and_eq_true, decide_eq_true_eq, decide_eq_true_eq] at hm'
    have gl := g l hl
    have nz := mul_nz hp (a := row.getD l 0) (r := r) (by omega) (by omega)
    rw [if_pos hm, if_pos hm, if_pos (decide_eq_true hm'.1)]
    have f1 := cntB_flip (f := fun i => decide (row.getD i 0 ≠ 0)) (g := fun i => if i = l then false else decide (row.getD i 0 ≠ 0)) (l := l) (decide_eq_true hm'.1) (by simp) (fun k hk => by simp [hk]) (R := row.length) hl
    have f2 := cntB_flip (f := fun i => if i = l then false else decide (row.getD i 0 ≠ 0)) (g := fun i => if i = j then false else if i = l then false else decide (row.getD i 0 ≠ 0)) (l := j) (by
      show (if j = l then false else decide (row.getD j 0 ≠ 0)) = true
      rw [if_neg (fun q => hlj q.symm), decide_eq_true (by omega)]) (by simp) (fun k hk => by simp [hk]) (R := row.length) hj
    have f3 : cntB (fun i => decide ((mvRow p l j r row).getD i 0 ≠ 0)) row.length = cntB (fun i => if i = j then false else if i = l then false else decide (row.getD i 0 ≠ 0)) row.length := cntB_congr fun k hk => by
      show decide ((mvRow p l j r row).getD k 0 ≠ 0) = if k = j then false else if k = l then false else decide (row.getD k 0 ≠ 0)
      rw [e k (by omega), if_neg (by omega)]
      by_cases h1 : k = j
      · rw [if_pos ⟨hm, .inr h1⟩, if_pos h1]
        rfl
      · by_cases h2 : k = l
        · rw [if_pos ⟨hm, .inl h2⟩, if_neg h1, if_pos h2]
          rfl
        · rw [if_neg (fun h => h.2.elim h2 h1), if_neg h1, if_neg h2]
    rw [f3, f1, f2]
  · rw [if_neg hm, if_neg hm, if_neg (by simp)]
    refine cntB_congr fun k hk => ?_
    show decide ((mvRow p l j r row).getD k 0 ≠ 0) = _
    rw [e k (by omega), if_neg (by omega), if_neg (fun h => hm h.1)]
theorem sumN_add {f g h : Nat → Nat} : ∀ {n : Nat}, (∀ k, k < n → f k + g k = h k) → sumN f n + sumN g n = sumN h n
  | 0, _ => rfl
  | n + 1, hh => by
    have ih := sumN_add (n := n) fun k hk => hh k (by omega)
    have := hh n (by omega)
    unfold sumN
    omega
theorem sumN_cnt {f : Nat → Bool} : ∀ {n : Nat}, sumN (fun k => if f k = true then 1 else 0) n = cntB f n
  | 0 => rfl
  | n + 1 => by
    unfold sumN cntB
    rw [sumN_cnt (n := n)]
theorem sumN_le {f : Nat → Nat} {B : Nat} : ∀ {n : Nat}, (∀ k, k < n → f k ≤ B) → sumN f n ≤ n * B
  | 0, _ => by simp [sumN]
  | n + 1, h => by
    have ih := sumN_le (n := n) fun k hk => h k (by omega)
    have := h n (by omega)
    unfold sumN
    rw [Nat.add_mul]
    omega
theorem nzT_mv {p : Int} {W : Nat} {T : List (List Int)} {s : BS} (hp : isP p = true) (g : GT p W T) (h1 : s.l < s.j ∧ s.j < W ∧ 1 ≤ s.r ∧ (s.r : Int) < p) : nzT (mvT p s T) + cntT p T s.l s.j s.r = nzT T := by
  unfold nzT cntT
  rw [mvT_len, ← sumN_cnt]
  refine sumN_add fun k hk => ?_
  obtain ⟨gl, gi⟩ := g k hk
  rw [mvT_get hk]
  exact nzR_mv hp (by omega) (by omega) (by omega) ⟨h1.2.2.1, h1.2.2.2⟩ (by rw [gl]; exact gi)
/-! ### The whole -/
structure SS where
  T : List (List Int)
  st : List (List Int)
def stepS (p : Int) (s : SS) : SS := ⟨mvT p (bst p s.T) s.T, s.st ++ [[((bst p s.T).l : Int), ((bst p s.T).j : Int), ((bst p s.T).r : Int)]]⟩
def shF (p : Int) : Nat → SS → SS
  | 0, s => s
  | f + 1, s => if 2 ≤ (bst p s.T).m then shF p f (stepS p s) else s
theorem bst_ok {p : Int} {W : Nat} {T : List (List Int)} (hp : isP p = true) (g : GT p W T) (hT : 1 ≤ T.length) (h : 2 ≤ (bst p T).m) :
    (bst p T).l < (bst p T).j ∧ (bst p T).j < W ∧ 1 ≤ (bst p T).r ∧ ((bst p T).r : Int) < p ∧ (bst p T).m = cntT p T (bst p T).l (bst p T).j (bst p T).r := by
  have hp5 := isP_in hp
  have hw := (g 0 (by omega)).1
  have := foldI_ok (T := T) (W := (T.getD 0 []).length) (s := ⟨0, 0, 0, 1⟩) (show 1 ≤ p by omega) (fun h => by simp only at h; omega) (n := (T.getD 0 []).length) (Nat.le_refl _)
  rw [← hw]
  exact this h
theorem stepS_facts {p : Int} {W : Nat} {s : SS} (hp : isP p = true) (g : GT p W s.T) (hT : 1 ≤ s.T.length) (h : 2 ≤ (bst p s.T).m) :
    GT p (W + 1) (stepS p s).T ∧ (stepS p s).T.length = s.T.length ∧ nzT (stepS p s).T + 2 ≤ nzT s.T := by
  have hp5 := isP_in hp
  obtain ⟨h1, h2, h3, h4, h5⟩ := bst_ok hp g hT h
  refine ⟨g.step (by omega) (by omega) h2, mvT_len, ?_⟩
  have := nzT_mv hp g ⟨h1, h2, h3, h4⟩
  show nzT (mvT p (bst p s.T) s.T) + 2 ≤ _
  omega
theorem shF_same {p : Int} (hp : isP p = true) : ∀ {f g W : Nat} {s : SS}, GT p W s.T → 1 ≤ s.T.length → nzT s.T ≤ f → nzT s.T ≤ g → shF p f s = shF p g s
  | 0, 0, _, _, _, _, _, _ => rfl
  | 0, g + 1, W, s, gt, hT, h1, h2 => by
    unfold shF
    rw [if_neg]
    intro h
    have := (stepS_facts hp gt hT h).2.2
    omega
  | f + 1, 0, W, s, gt, hT, h1, h2 => by
    unfold shF
    rw [if_neg]
    intro h
    have := (stepS_facts hp gt hT h).2.2
    omega
  | f + 1, g + 1, W, s, gt, hT, h1, h2 => by
    unfold shF
    by_cases h : 2 ≤ (bst p s.T).m
    · rw [if_pos h, if_pos h]
      obtain ⟨a, b, c⟩ := stepS_facts hp gt hT h
      exact shF_same hp a (by omega) (by omega) (by omega)
    · rw [if_neg h, if_neg h]
theorem shF_go {p : Int} {W : Nat} {s : SS} (hp : isP p = true) (g : GT p W s.T) (hT : 1 ≤ s.T.length) (h : 2 ≤ (bst p s.T).m) : shF p (nzT s.T) s = shF p (nzT (stepS p s).T) (stepS p s) := by
  obtain ⟨a, b, c⟩ := stepS_facts hp g hT h
  obtain ⟨f, hf⟩ : ∃ f, nzT s.T = f + 1 := ⟨nzT s.T - 1, by omega⟩
  rw [hf]
  show (if 2 ≤ (bst p s.T).m then shF p f (stepS p s) else s) = _
  rw [if_pos h]
  exact shF_same hp a (by omega) (by omega) (Nat.le_refl _)
theorem shF_stop {p : Int} {f : Nat} {s : SS} (h : ¬ 2 ≤ (bst p s.T).m) : shF p f s = s := by
  cases f with
  | zero => rfl
  | succ f =>
    unfold shF
    rw [if_neg h]
/-- Shared programs. -/
def shS (p : Int) (rows : List (List Int)) : SS := shF p (nzT rows) ⟨rows, []⟩
def shP (p n : Int) (rows : List (List Int)) : Prg := finP ⟨p, n, (shS p rows).st, []⟩ (shS p rows).T (shS p rows).T.length
/-- What holds all along. -/
structure ShI (p : Int) (N : Nat) (rows : List (List Int)) (s : SS) : Prop where
  gt : GT p (N + s.st.length) s.T
  len : s.T.length = rows.length
  nz : s.st.length + nzT s.T ≤ 900
  eq : shF p (nzT s.T) s = shS p rows
  wid : Wid 3 s.st
theorem lsOK_gt {p n : Int} {rows : List (List Int)} (h : lsOK p n rows = true) : GT p n.toNat rows := by
  obtain ⟨hp, hn, hl, hm⟩ := lsOK_iff.1 h
  intro k hk
  obtain ⟨h1, h2⟩ := isMat_iff.1 hm k hk
  refine ⟨by omega, fun i hi => ?_⟩
  exact allIn_iff.1 h2 i (by omega)
theorem ShI.start {p n : Int} {rows : List (List Int)} (h : lsOK p n rows = true) : ShI p n.toNat rows ⟨rows, []⟩ := by
  obtain ⟨hp, hn, hl, hm⟩ := lsOK_iff.1 h
  refine ⟨lsOK_gt h, rfl, ?_, rfl, fun q hq => by simp at hq⟩
  have : nzT rows ≤ rows.length * 30 := sumN_le fun k hk => by
    have := (isMat_iff.1 hm k hk).1
    have : nzR (rows.getD k []) ≤ (rows.getD k []).length := cntB_le
    omega
  simp only [List.length_nil]
  have : rows.length * 30 ≤ 30 * 30 := Nat.mul_le_mul_right _ (by omega)
  omega
theorem ShI.go {p : Int} {N : Nat} {rows : List (List Int)} {s : SS} (i : ShI p N rows s) (hp : isP p = true) (hT : 1 ≤ rows.length) (h : 2 ≤ (bst p s.T).m) : ShI p N rows (stepS p s) ∧ nzT (stepS p s).T < nzT s.T := by
  have hT' : 1 ≤ s.T.length := by rw [i.len]; exact hT
  obtain ⟨a, b, c⟩ := stepS_facts hp i.gt hT' h
  have e : (stepS p s).st.length = s.st.length + 1 := by simp [stepS]
  have n := i.nz
  refine ⟨⟨by rw [e]; exact a, by rw [b, i.len], by omega, by rw [← shF_go hp i.gt hT' h]; exact i.eq, ?_⟩, by omega⟩
  intro q hq
  rcases List.mem_append.1 (show q ∈ s.st ++ _ from hq) with hq | hq
  · exact i.wid q hq
  · rw [List.mem_singleton.1 hq]
    rfl
theorem ShI.stop {p : Int} {N : Nat} {rows : List (List Int)} {s : SS} (i : ShI p N rows s) (h : ¬ 2 ≤ (bst p s.T).m) : s = shS p rows := by
  rw [← i.eq, shF_stop h]
/-- At the end. -/
theorem shS_facts {p n : Int} {rows : List (List Int)} (h : lsOK p n rows = true) : ShI p n.toNat rows (shS p rows) := by
  obtain ⟨hp, hn, hl, hm⟩ := lsOK_iff.1 h
  have key : ∀ (f : Nat) (s : SS), nzT s.T ≤ f → ShI p n.toNat rows s → ShI p n.toNat rows (shS p rows) := by
    intro f
    induction f with
    | zero =>
      intro s h1 i
      have : ¬ 2 ≤ (bst p s.T).m := fun hb => by
        have := (i.go hp (by omega) hb).2
        omega
      rw [← i.stop this]
      exact i
    | succ f ih =>
      intro s h1 i
      by_cases hb : 2 ≤ (bst p s.T).m
      · obtain ⟨i', lt⟩ := i.go hp (by omega) hb
        exact ih _ (by omega) i'
      · rw [← i.stop hb]
        exact i
  exact key _ _ (Nat.le_refl _) (ShI.start h)
end Go.Proofs.Ytilpnbejpndgpaa.X
