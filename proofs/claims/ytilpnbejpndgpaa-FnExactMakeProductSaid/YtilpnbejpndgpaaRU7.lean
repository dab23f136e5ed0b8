/- Texts of one claim, put together by merge.py: XP12, XP13, XT2, XT3, XT4, XT5, XT6, XT7, XT8, XT9, XU1, XU2, XU3, XU4, XU5, XV1, XV2, XV3, XV4, XP7, XV5. -/
import Derived.Test.YtilpnbejpndgpaaRU6
import Derived.Test.YtilpnbejpndgpaaRU5
/- Programs of lists: a row behind a program, on both sides. -/
set_option linter.unusedVariables false
set_option linter.unusedSimpArgs false
set_option maxRecDepth 20000
set_option maxHeartbeats 4000000
namespace Go.Proofs.Ytilpnbejpndgpaa.X
open Go Go.RowKit

/-- Elements under way, with all blocks of other types kept. -/
theorem WayX.app2 {e : TypeId} {k : IntKind} {w : Nat} {lo : Nat} {sv : Value} {L : List (List Int)} {H : AH} {q : List Int} {e' : TypeId} {ro full : Bool} {bytes : Nat} (o : WayX e k w H lo [] sv L) (hq : q.length = w) (hl : ((L.length : Int) + 1) * bytes ≤ 140737488355328) (hn : (L.length : Int) < 1048576) (hlo : lo ≤ H.length)
    {Q : Value → AH → Prop} (hQ : ∀ (sv' : Value) (H' : AH), H'.length = H.length + 2 → (∀ h0 : AH, h0.length ≤ lo → h0 <+: H → h0 <+: H') → (∀ m b, b.e ≠ e → H.get m = some b → H'.get m = some b) → WayX e k w H' H.length [] sv' (L ++ [q]) → Q sv' H') :
    OQ (appV e w bytes sv (.slice (some ⟨H.length, 0, none⟩) 1 w) (H.new ⟨cel k q, e', ro, full⟩)) Q := by
  have hr : (H.new ⟨cel k q, e', ro, full⟩).rdn H.length 0 w = some (cel k q) := by
    rw [rdn_of get_new_same]
    simp only
    rw [if_pos (by rw [cel_len, hq]; omega), List.drop_zero, List.take_of_length_le (by rw [cel_len, hq]; omega)]
  obtain ⟨hw, ⟨rfl, rfl⟩ | ⟨kb, fu, rfl, h2, h3, h4⟩⟩ := o
  · rw [app_nilW (.inl rfl) hr (by simp only [List.length_nil] at hl; omega), OQ_some]
    refine hQ _ _ (by rw [len_new, len_new]) (fun h0 _ p => pre_new (pre_new p)) (fun m b _ o => get_new_any (get_new_any o)) ⟨?_, .inr ⟨_, false, rfl, by rw [len_new]; omega, by simp, ?_⟩⟩
    · intro r hr
      rw [List.nil_append, List.mem_singleton] at hr
      rw [hr, hq]
    · rw [get_new_same]
      simp
  · have hk : (H.new ⟨cel k q, e', ro, full⟩).get kb = some ⟨cel k L.flatten, e, false, fu⟩ := get_new_any h4
    have hkb := get_lt h4
    rw [app_ownW hk (by rw [cel_len, flat_len hw]) hr ⟨hl, by omega⟩, OQ_some]
    refine hQ _ _ (by rw [len_new, len_kill, len_new]) (fun h0 q p => pre_new (pre_kill (pre_new p) (by omega))) (fun m b hm o => ?_) ⟨?_, .inr ⟨(H.new ⟨cel k q, e', ro, full⟩).length, false, by simp, by rw [len_new]; omega, by simp, ?_⟩⟩
    · refine get_new_any ?_
      rw [get_kill_ne]
      · exact get_new_any o
      · rintro rfl
        rw [h4] at o
        cases o
        exact hm rfl
    · intro r hr
      rcases List.mem_append.1 hr with hr | hr
      · exact hw r hr
      · rw [List.mem_singleton.1 hr, hq]
    · rw [get_new_eq (by rw [len_kill])]
      simp [cel_app]
theorem WayX.types {e e' : TypeId} {k : IntKind} {w : Nat} {h h' : AH} {lo : Nat} {sv : Value} {L : List (List Int)} (o : WayX e k w h lo [] sv L) (he : e ≠ e') (hk : ∀ m b, b.e ≠ e' → h.get m = some b → h'.get m = some b) : WayX e k w h' lo [] sv L :=
  o.keep fun m c f _ _ g => hk _ _ he g
/-- What stays while a program is made. -/
structure Stay (lo : Nat) (h h' : AH) : Prop where
  len : h.length ≤ h'.length
  pre : ∀ h0 : AH, h0.length ≤ lo → h0 <+: h → h0 <+: h'
  get : ∀ m b, h.get m = some b → b.e ≠ 96 → b.e ≠ 98 → h'.get m = some b
theorem Stay.refl {lo : Nat} {h : AH} : Stay lo h h := ⟨Nat.le_refl _, fun _ _ p => p, fun _ _ g _ _ => g⟩
theorem Stay.of {lo : Nat} {h h' : AH} (p : h <+: h') : Stay lo h h' := ⟨pre_len p, fun _ _ q => q.trans p, fun _ _ g _ _ => pre_get p g⟩
theorem Stay.trans {lo : Nat} {h h1 h2 : AH} (a : Stay lo h h1) (b : Stay lo h1 h2) : Stay lo h h2 :=
  ⟨Nat.le_trans a.len b.len, fun h0 hl p => b.pre h0 hl (a.pre h0 hl p), fun m c g h1 h2 => b.get m c (a.get m c g h1 h2) h1 h2⟩
theorem Stay.put {lo : Nat} {h h' : AH} {n : Nat} {b : Blk} (a : Stay lo h h') (hn : h.length ≤ n) (hlo : lo ≤ n) : Stay lo h (h'.put n b) :=
  ⟨by rw [len_put]; exact a.len, fun h0 hl p => pre_put (a.pre h0 hl p) (by omega), fun m c g h1 h2 => by
    have := get_lt g
    rw [get_put_ne (by omega)]
    exact a.get m c g h1 h2⟩

/-! ### Plainly -/
def invP (p n : Int) : Int := if (1 * n).tmod p = 1 then 1 else if (2 * n).tmod p = 1 then 2 else if (3 * n).tmod p = 1 then 3 else 4
structure RS where
  st : List (List Int)
  val : Int
  fac : Int
def rowSt (p n : Int) (st0 : List (List Int)) (row : List Int) : Nat → RS
  | 0 => ⟨st0, -1, 0⟩
  | k + 1 =>
    let s := rowSt p n st0 row k
    if row.getD k 0 = 0 then s else if s.val < 0 then ⟨s.st, k, row.getD k 0⟩
    else ⟨s.st ++ [[s.val, k, (row.getD k 0 * invP p s.fac).tmod p]], n + ((s.st.length : Int) + 1) - 1, s.fac⟩
def rowP (x : Prg) (row : List Int) : Prg :=
  let s := rowSt x.p x.n x.st row row.length
  ⟨x.p, x.n, s.st, x.out ++ [[max s.val 0, s.fac]]⟩
def finP (x : Prg) (rows : List (List Int)) : Nat → Prg
  | 0 => x
  | i + 1 => rowP (finP x rows i) (rows.getD i [])
/-- What a program under way is. -/
structure Way2 (h : AH) (lo : Nat) (v w : Value) (x : Prg) : Prop where
  st : WayX (96) .i64 3 h lo [] v x.st
  out : WayX (98) .i64 2 h lo [] w x.out
theorem Way2.pre {h h' : AH} {lo : Nat} {v w : Value} {x : Prg} (o : Way2 h lo v w x) (p : h <+: h') : Way2 h' lo v w x := ⟨o.st.pre p, o.out.pre p⟩
theorem Way2.rd {h : AH} {lo : Nat} {v w : Value} {x : Prg} (o : Way2 h lo v w x) : PrgR h v w x := ⟨o.st.inE.rd, o.out.inE.rd⟩
/-- The one block ahead of the other. -/
def OrdB (v w : Value) : Prop := ∀ a b la lb wa wb, v = .slice (some ⟨a, 0, none⟩) la wa → w = .slice (some ⟨b, 0, none⟩) lb wb → a < b
theorem WayX.ord {e e' : TypeId} {k : IntKind} {w w' : Nat} {h h' : AH} {lo : Nat} {ex ex' : List Nat} {sv so : Value} {L L' : List (List Int)} (o : WayX e k w h lo ex sv L) (o' : WayX e' k w' h' h.length ex' so L') : OrdB sv so := by
  intro a b la lb wa wb e1 e2
  obtain ⟨hw, ⟨h1, _⟩ | ⟨kb, full, h1, h2, h3, h4⟩⟩ := o
  · rw [e1] at h1
    cases h1
  · obtain ⟨hw', ⟨h1', _⟩ | ⟨kb', full', h1', h2', h3', h4'⟩⟩ := o'
    · rw [e2] at h1'
      cases h1'
    · rw [e1] at h1
      rw [e2] at h1'
      simp only [Value.slice.injEq, Option.some.injEq, Addr.mk.injEq, and_true] at h1 h1'
      have := get_lt h4
      omega
/-- Rows that stay. -/
def RowsS (lo : Nat) (h : AH) (u : Value) (rows : List (List Int)) : Prop :=
  ∃ cs, (∀ h', Stay lo h h' → Vals h' u cs) ∧ cs.length = rows.length ∧ ∀ i, i < rows.length → ∀ h', Stay lo h h' → Ints h' (cs.getD i undef) (rows.getD i [])
theorem Rows.stays {h : AH} {u : Value} {rows : List (List Int)} (o : Rows h u rows) : RowsS h.length h u rows := by
  obtain ⟨cs, h1, h2, h3⟩ := o
  exact ⟨cs, fun h' s => h1.pre (s.pre _ (Nat.le_refl _) (List.prefix_refl _)), h2, fun i hi h' s => (h3 i hi).pre (s.pre _ (Nat.le_refl _) (List.prefix_refl _))⟩
theorem RowsS.trans {lo : Nat} {h h1 : AH} {u : Value} {rows : List (List Int)} (o : RowsS lo h u rows) (s : Stay lo h h1) : RowsS lo h1 u rows := by
  obtain ⟨cs, c1, c2, c3⟩ := o
  exact ⟨cs, fun h' t => c1 _ (s.trans t), c2, fun i hi h' t => c3 i hi _ (s.trans t)⟩

end Go.Proofs.Ytilpnbejpndgpaa.X

/- PlainProgram of both sides. -/
set_option linter.unusedVariables false
set_option linter.unusedSimpArgs false
set_option maxRecDepth 20000
set_option maxHeartbeats 4000000
namespace Go.Proofs.Ytilpnbejpndgpaa.X
open Go Go.RowKit

end Go.Proofs.Ytilpnbejpndgpaa.X

/- Shared programs, plainly: the best pair, the step, the whole. -/
set_option linter.unusedVariables false
set_option linter.unusedSimpArgs false
set_option maxRecDepth 20000
set_option maxHeartbeats 4000000
namespace Go.Proofs.Ytilpnbejpndgpaa.X
open Go Go.RowKit

/-- Row k has numbers in two columns, r times the one in the other. -/
def mkB (p : Int) (T : List (List Int)) (i j r : Nat) (k : Nat) : Bool := decide (tb T k i ≠ 0) && decide (tb T k j = (tb T k i * r).tmod p)
def cntT (p : Int) (T : List (List Int)) (i j r : Nat) : Nat := cntB (mkB p T i j r) T.length
structure BS where
  l : Nat
  j : Nat
  r : Nat
  m : Nat
def upB (s : BS) (i j r c : Nat) : BS := if s.m < c then ⟨i, j, r, c⟩ else s
section
variable (p : Int) (T : List (List Int))
def foldR (i j : Nat) : Nat → BS → BS
  | 0, s => s
  | n + 1, s => upB (foldR i j n s) i j (n + 1) (cntT p T i j (n + 1))
def foldJ (i : Nat) : Nat → BS → BS
  | 0, s => s
  | n + 1, s => foldR p T i (i + 1 + n) (p.toNat - 1) (foldJ i n s)
def foldI (W : Nat) : Nat → BS → BS
  | 0, s => s
  | n + 1, s => foldJ p T n (W - (n + 1)) (foldI W n s)
def bst : BS := foldI p T (T.getD 0 []).length (T.getD 0 []).length ⟨0, 0, 0, 1⟩
end
/-- What the best is. -/
def BOK (p : Int) (T : List (List Int)) (W : Nat) (s : BS) : Prop := 2 ≤ s.m → s.l < s.j ∧ s.j < W ∧ 1 ≤ s.r ∧ (s.r : Int) < p ∧ s.m = cntT p T s.l s.j s.r
theorem upB_ok {p : Int} {T : List (List Int)} {W i j r : Nat} {s : BS} (h : BOK p T W s) (h1 : i < j ∧ j < W ∧ 1 ≤ r ∧ (r : Int) < p) : BOK p T W (upB s i j r (cntT p T i j r)) := by
  unfold upB
  split
  · exact fun _ => ⟨h1.1, h1.2.1, h1.2.2.1, h1.2.2.2, rfl⟩
  · exact h
theorem foldR_ok {p : Int} {T : List (List Int)} {W i j : Nat} {s : BS} (h : BOK p T W s) (h1 : i < j ∧ j < W) : ∀ {n : Nat}, (n : Int) < p → BOK p T W (foldR p T i j n s)
  | 0, _ => h
  | n + 1, hn => upB_ok (foldR_ok h h1 (n := n) (by omega)) ⟨h1.1, h1.2, by omega, hn⟩
theorem foldJ_ok {p : Int} {T : List (List Int)} {W i : Nat} {s : BS} (hp : 1 ≤ p) (h : BOK p T W s) : ∀ {n : Nat}, i + 1 + n ≤ W → BOK p T W (foldJ p T i n s)
  | 0, _ => h
  | n + 1, hn => foldR_ok (foldJ_ok hp h (n := n) (by omega)) ⟨by omega, by omega⟩ (by omega)
theorem foldI_ok {p : Int} {T : List (List Int)} {W : Nat} {s : BS} (hp : 1 ≤ p) (h : BOK p T W s) : ∀ {n : Nat}, n ≤ W → BOK p T W (foldI p T W n s)
  | 0, _ => h
  | n + 1, hn => foldJ_ok hp (foldI_ok hp h (n := n) (by omega)) (by omega)
theorem mul_nz {p a r : Int} (hp : isP p = true) (ha : 1 ≤ a ∧ a < p) (hr : 1 ≤ r ∧ r < p) : 1 ≤ (a * r).tmod p ∧ (a * r).tmod p < p := by
  have hpp : p = 2 ∨ p = 3 ∨ p = 5 := by simpa [isP] using hp
  rcases hpp with rfl | rfl | rfl
  · have h1 : a = 1 := by omega
    have h3 : r = 1 := by omega
    subst h1 h3
    decide
  · have h1 : a = 1 ∨ a = 2 := by omega
    have h3 : r = 1 ∨ r = 2 := by omega
    rcases h1 with rfl | rfl <;> rcases h3 with rfl | rfl <;> decide
  · have h1 : a = 1 ∨ a = 2 ∨ a = 3 ∨ a = 4 := by omega
    have h3 : r = 1 ∨ r = 2 ∨ r = 3 ∨ r = 4 := by omega
    rcases h1 with rfl | rfl | rfl | rfl <;> rcases h3 with rfl | rfl | rfl | rfl <;> decide

/-! ### The step -/
def mvOK (p : Int) (l j r : Nat) (row : List Int) : Bool := decide (row.getD l 0 ≠ 0) && decide (row.getD j 0 = (row.getD l 0 * r).tmod p)
def mvRow (p : Int) (l j r : Nat) (row : List Int) : List Int := if mvOK p l j r row = true then ((row.set l 0).set j 0) ++ [row.getD l 0] else row ++ [0]
def mvT (p : Int) (s : BS) (T : List (List Int)) : List (List Int) := T.map (mvRow p s.l s.j s.r)
def GT (p : Int) (W : Nat) (T : List (List Int)) : Prop := ∀ k, k < T.length → (T.getD k []).length = W ∧ ∀ i, i < W → 0 ≤ tb T k i ∧ tb T k i < p
theorem mvRow_len {p : Int} {l j r : Nat} {row : List Int} : (mvRow p l j r row).length = row.length + 1 := by
  unfold mvRow
  split <;> simp
theorem mvT_len {p : Int} {s : BS} {T : List (List Int)} : (mvT p s T).length = T.length := by simp [mvT]
theorem mvT_get {p : Int} {s : BS} {T : List (List Int)} {k : Nat} (hk : k < T.length) : (mvT p s T).getD k [] = mvRow p s.l s.j s.r (T.getD k []) := by
  simp [mvT, List.getD_eq_getElem?_getD, List.getElem?_map, List.getElem?_eq_getElem hk]
theorem mvRow_at {p : Int} {l j r i : Nat} {row : List Int} (hl : l < row.length) (hj : j < row.length) (hi : i ≤ row.length) :
    (mvRow p l j r row).getD i 0 = if i = row.length then (if mvOK p l j r row = true then row.getD l 0 else 0) else if mvOK p l j r row = true ∧ (i = l ∨ i = j) then 0 else row.getD i 0 := by
  unfold mvRow
  by_cases hm : mvOK p l j r row = true
  · rw [if_pos hm, if_pos hm]
    by_cases he : i = row.length
    · subst he
      rw [if_pos rfl, List.getD_eq_getElem?_getD, List.getElem?_append_right (by simp)]
      simp
    · rw [if_neg he, List.getD_eq_getElem?_getD, List.getElem?_append_left (by simp; omega), ← List.getD_eq_getElem?_getD, set_getD (by simp; exact hj), set_getD hl]
      by_cases h1 : i = j
      · rw [if_pos h1, if_pos ⟨hm, .inr h1⟩]
      · rw [if_neg h1]
        by_cases h2 : i = l
        · rw [if_pos h2, if_pos ⟨hm, .inl h2⟩]
        · rw [if_neg h2, if_neg (fun h => h.2.elim h2 h1)]
  · rw [if_neg hm, if_neg hm]
    by_cases he : i = row.length
    · subst he
      rw [if_pos rfl, List.getD_eq_getElem?_getD, List.getElem?_append_right (Nat.le_refl _)]
      simp
    · rw [if_neg he, if_neg (fun h => hm h.1), List.getD_eq_getElem?_getD, List.getElem?_append_left (by omega), ← List.getD_eq_getElem?_getD]
theorem GT.step {p : Int} {W : Nat} {T : List (List Int)} {s : BS} (g : GT p W T) (hp : 1 ≤ p) (h1 : s.l < W) (h2 : s.j < W) : GT p (W + 1) (mvT p s T) := by
  intro k hk
  rw [mvT_len] at hk
  obtain ⟨gl, gi⟩ := g k hk
  refine ⟨by rw [mvT_get hk, mvRow_len, gl], fun i hi => ?_⟩
  have hi' : tb (mvT p s T) k i = (mvRow p s.l s.j s.r (T.getD k [])).getD i 0 := by unfold tb; rw [mvT_get hk]
  rw [hi', mvRow_at (by omega) (by omega) (by omega)]
  have g1 := gi s.l h1
  unfold tb at gi g1
  split
  · split
    · exact g1
    · omega
  · split
    · omega
    · exact gi i (by omega)
/-- Numbers other than 0. -/
def nzR (row : List Int) : Nat := cntB (fun i => decide (row.getD i 0 ≠ 0)) row.length
def sumN (f : Nat → Nat) : Nat → Nat
  | 0 => 0
  | n + 1 => sumN f n + f n
def nzT (T : List (List Int)) : Nat := sumN (fun k => nzR (T.getD k [])) T.length
theorem cntB_flip {f g : Nat → Bool} {l : Nat} (h1 : f l = true) (h2 : g l = false) (h3 : ∀ k, k ≠ l → f k = g k) : ∀ {R : Nat}, l < R → cntB f R = cntB g R + 1
  | 0, h => by omega
  | R + 1, h => by
    unfold cntB
    by_cases e : l = R
    · subst e
      rw [h1, h2, cntB_congr (f := f) (g := g) fun k hk => h3 k (by omega)]
      simp
    · rw [cntB_flip h1 h2 h3 (R := R) (by omega), h3 R (fun q => e q.symm)]
      omega
theorem nzR_mv {p : Int} {l j r : Nat} {row : List Int} (hp : isP p = true) (hl : l < row.length) (hj : j < row.length) (hlj : l ≠ j) (hr : 1 ≤ r ∧ (r : Int) < p) (g : ∀ i, i < row.length → 0 ≤ row.getD i 0 ∧ row.getD i 0 < p) :
    nzR (mvRow p l j r row) + (if mvOK p l j r row = true then 1 else 0) = nzR row := by
  have e : ∀ i, i ≤ row.length → (mvRow p l j r row).getD i 0 = _ := fun i hi => mvRow_at hl hj hi
  unfold nzR
  rw [mvRow_len]
  show cntB _ row.length + (if (decide ((mvRow p l j r row).getD row.length 0 ≠ 0)) = true then 1 else 0) + _ = _
  rw [e row.length (Nat.le_refl _), if_pos rfl]
  by_cases hm : mvOK p l j r row = true
  · have hm' := hm
    unfold mvOK at hm'
    rw [Bool.and_eq_true, decide_eq_true_eq, decide_eq_true_eq] at hm'
    have gl := g l hl
    have nz := mul_nz hp (a := row.getD l 0) (r := r) (by omega) (by omega)
    rw [if_pos hm, if_pos hm, if_pos (decide_eq_true hm'.1)]
    have f1 := cntB_flip (f := fun i => decide (row.getD i 0 ≠ 0)) (g := fun i => if i = l then false else decide (row.getD i 0 ≠ 0)) (l := l) (decide_eq_true hm'.1) (by simp) (fun k hk => by simp [hk]) (R := row.length) hl
    have f2 := cntB_flip (f := fun i => if i = l then false else decide (row.getD i 0 ≠ 0)) (g := fun i => if i = j then false else if i = l then false else decide (row.getD i 0 ≠ 0)) (l := j) (by
      show (if j = l then false else decide (row.getD j 0 ≠ 0)) = true
      rw [if_neg (fun q => hlj q.symm), decide_eq_true (by omega)]) (by simp) (fun k hk => by simp [hk]) (R := row.length) hj
    have f3 : cntB (fun i => decide ((mvRow p l j r row).getD i 0 ≠ 0)) row.length = cntB (fun i => if i = j then false else if i = l then false else decide (row.getD i 0 ≠ 0)) row.length := cntB_congr fun k hk => by
      show decide ((mvRow p l j r row).getD k 0 ≠ 0) = if k = j then false else if k = l then false else decide (row.getD k 0 ≠ 0)
      rw [e k (by omega), if_neg (by omega)]
      by_cases h1 : k = j
      · rw [if_pos ⟨hm, .inr h1⟩, if_pos h1]
        rfl
      · by_cases h2 : k = l
        · rw [if_pos ⟨hm, .inl h2⟩, if_neg h1, if_pos h2]
          rfl
        · rw [if_neg (fun h => h.2.elim h2 h1), if_neg h1, if_neg h2]
    rw [f3, f1, f2]
  · rw [if_neg hm, if_neg hm, if_neg (by simp)]
    refine cntB_congr fun k hk => ?_
    show decide ((mvRow p l j r row).getD k 0 ≠ 0) = _
    rw [e k (by omega), if_neg (by omega), if_neg (fun h => hm h.1)]
theorem sumN_add {f g h : Nat → Nat} : ∀ {n : Nat}, (∀ k, k < n → f k + g k = h k) → sumN f n + sumN g n = sumN h n
  | 0, _ => rfl
  | n + 1, hh => by
    have ih := sumN_add (n := n) fun k hk => hh k (by omega)
    have := hh n (by omega)
    unfold sumN
    omega
theorem sumN_cnt {f : Nat → Bool} : ∀ {n : Nat}, sumN (fun k => if f k = true then 1 else 0) n = cntB f n
  | 0 => rfl
  | n + 1 => by
    unfold sumN cntB
    rw [sumN_cnt (n := n)]
theorem nzT_mv {p : Int} {W : Nat} {T : List (List Int)} {s : BS} (hp : isP p = true) (g : GT p W T) (h1 : s.l < s.j ∧ s.j < W ∧ 1 ≤ s.r ∧ (s.r : Int) < p) : nzT (mvT p s T) + cntT p T s.l s.j s.r = nzT T := by
  unfold nzT cntT
  rw [mvT_len, ← sumN_cnt]
  refine sumN_add fun k hk => ?_
  obtain ⟨gl, gi⟩ := g k hk
  rw [mvT_get hk]
  exact nzR_mv hp (by omega) (by omega) (by omega) ⟨h1.2.2.1, h1.2.2.2⟩ (by rw [gl]; exact gi)
/-! ### The whole -/
structure SS where
  T : List (List Int)
  st : List (List Int)
def stepS (p : Int) (s : SS) : SS := ⟨mvT p (bst p s.T) s.T, s.st ++ [[((bst p s.T).l : Int), ((bst p s.T).j : Int), ((bst p s.T).r : Int)]]⟩
def shF (p : Int) : Nat → SS → SS
  | 0, s => s
  | f + 1, s => if 2 ≤ (bst p s.T).m then shF p f (stepS p s) else s
theorem bst_ok {p : Int} {W : Nat} {T : List (List Int)} (hp : isP p = true) (g : GT p W T) (hT : 1 ≤ T.length) (h : 2 ≤ (bst p T).m) :
    (bst p T).l < (bst p T).j ∧ (bst p T).j < W ∧ 1 ≤ (bst p T).r ∧ ((bst p T).r : Int) < p ∧ (bst p T).m = cntT p T (bst p T).l (bst p T).j (bst p T).r := by
  have hp5 := isP_in hp
  have hw := (g 0 (by omega)).1
  have := foldI_ok (T := T) (W := (T.getD 0 []).length) (s := ⟨0, 0, 0, 1⟩) (show 1 ≤ p by omega) (fun h => by simp only at h; omega) (n := (T.getD 0 []).length) (Nat.le_refl _)
  rw [← hw]
  exact this h
theorem stepS_facts {p : Int} {W : Nat} {s : SS} (hp : isP p = true) (g : GT p W s.T) (hT : 1 ≤ s.T.length) (h : 2 ≤ (bst p s.T).m) :
    GT p (W + 1) (stepS p s).T ∧ (stepS p s).T.length = s.T.length ∧ nzT (stepS p s).T + 2 ≤ nzT s.T := by
  have hp5 := isP_in hp
  obtain ⟨h1, h2, h3, h4, h5⟩ := bst_ok hp g hT h
  refine ⟨g.step (by omega) (by omega) h2, mvT_len, ?_⟩
  have := nzT_mv hp g ⟨h1, h2, h3, h4⟩
  show nzT (mvT p (bst p s.T) s.T) + 2 ≤ _
  omega
theorem shF_same {p : Int} (hp : isP p = true) : ∀ {f g W : Nat} {s : SS}, GT p W s.T → 1 ≤ s.T.length → nzT s.T ≤ f → nzT s.T ≤ g → shF p f s = shF p g s
  | 0, 0, _, _, _, _, _, _ => rfl
  | 0, g + 1, W, s, gt, hT, h1, h2 => by
    unfold shF
    rw [if_neg]
    intro h
    have := (stepS_facts hp gt hT h).2.2
    omega
  | f + 1, 0, W, s, gt, hT, h1, h2 => by
    unfold shF
    rw [if_neg]
    intro h
    have := (stepS_facts hp gt hT h).2.2
    omega
  | f + 1, g + 1, W, s, gt, hT, h1, h2 => by
    unfold shF
    by_cases h : 2 ≤ (bst p s.T).m
    · rw [if_pos h, if_pos h]
      obtain ⟨a, b, c⟩ := stepS_facts hp gt hT h
      exact shF_same hp a (by omega) (by omega) (by omega)
    · rw [if_neg h, if_neg h]
theorem shF_go {p : Int} {W : Nat} {s : SS} (hp : isP p = true) (g : GT p W s.T) (hT : 1 ≤ s.T.length) (h : 2 ≤ (bst p s.T).m) : shF p (nzT s.T) s = shF p (nzT (stepS p s).T) (stepS p s) := by
  obtain ⟨a, b, c⟩ := stepS_facts hp g hT h
  obtain ⟨f, hf⟩ : ∃ f, nzT s.T = f + 1 := ⟨nzT s.T - 1, by omega⟩
  rw [hf]
  show (if 2 ≤ (bst p s.T).m then shF p f (stepS p s) else s) = _
  rw [if_pos h]
  exact shF_same hp a (by omega) (by omega) (Nat.le_refl _)
/-- Shared programs. -/
def shS (p : Int) (rows : List (List Int)) : SS := shF p (nzT rows) ⟨rows, []⟩
def shP (p n : Int) (rows : List (List Int)) : Prg := finP ⟨p, n, (shS p rows).st, []⟩ (shS p rows).T (shS p rows).T.length
/-- What holds all along. -/
structure ShI (p : Int) (N : Nat) (rows : List (List Int)) (s : SS) : Prop where
  gt : GT p (N + s.st.length) s.T
  len : s.T.length = rows.length
  nz : s.st.length + nzT s.T ≤ 900
  eq : shF p (nzT s.T) s = shS p rows
  wid : Wid 3 s.st
theorem ShI.go {p : Int} {N : Nat} {rows : List (List Int)} {s : SS} (i : ShI p N rows s) (hp : isP p = true) (hT : 1 ≤ rows.length) (h : 2 ≤ (bst p s.T).m) : ShI p N rows (stepS p s) ∧ nzT (stepS p s).T < nzT s.T := by
  have hT' : 1 ≤ s.T.length := by rw [i.len]; exact hT
  obtain ⟨a, b, c⟩ := stepS_facts hp i.gt hT' h
  have e : (stepS p s).st.length = s.st.length + 1 := by simp [stepS]
  have n := i.nz
  refine ⟨⟨by rw [e]; exact a, by rw [b, i.len], by omega, by rw [← shF_go hp i.gt hT' h]; exact i.eq, ?_⟩, by omega⟩
  intro q hq
  rcases List.mem_append.1 (show q ∈ s.st ++ _ from hq) with hq | hq
  · exact i.wid q hq
  · rw [List.mem_singleton.1 hq]
    rfl
end Go.Proofs.Ytilpnbejpndgpaa.X

/- Shared programs: the reference's best pair. -/
set_option linter.unusedVariables false
set_option linter.unusedSimpArgs false
set_option maxRecDepth 20000
set_option maxHeartbeats 4000000
namespace Go.Proofs.Ytilpnbejpndgpaa.X
open Go Go.RowKit

end Go.Proofs.Ytilpnbejpndgpaa.X

/- Tables whose rows grow; elements under way beside them. -/
set_option linter.unusedVariables false
set_option linter.unusedSimpArgs false
set_option maxRecDepth 20000
set_option maxHeartbeats 4000000
namespace Go.Proofs.Ytilpnbejpndgpaa.X
open Go Go.RowKit

/-- A table in known blocks. -/
structure TabL (h : AH) (lo nb : Nat) (full : Bool) (L : List (Nat × List Int)) : Prop where
  g : h.get nb = some ⟨L.map rowV, 22, false, full⟩
  low : lo ≤ nb
  rows : ∀ i (hi : i < L.length), lo ≤ (L[i]).1 ∧ ∃ fu, Lst h (L[i]).1 (L[i]).2 fu
  dist : ∀ i j (hi : i < L.length) (hj : j < L.length), i ≠ j → (L[i]).1 ≠ (L[j]).1
section
variable {h h' : AH} {lo nb : Nat} {full : Bool} {L : List (Nat × List Int)}
theorem TabL.keep (s : TabL h lo nb full L) (hk : ∀ m b, (b.e = 2 ∨ b.e = 22) → h.get m = some b → h'.get m = some b) : TabL h' lo nb full L :=
  ⟨hk _ _ (.inr rfl) s.g, s.low, fun i hi => ⟨(s.rows i hi).1, by obtain ⟨fu, o⟩ := (s.rows i hi).2; exact ⟨fu, hk _ _ (.inl rfl) o⟩⟩, s.dist⟩
theorem TabL.pre (s : TabL h lo nb full L) (p : h <+: h') : TabL h' lo nb full L := s.keep fun m b _ g => pre_get p g
theorem TabL.put (s : TabL h lo nb full L) {n : Nat} {b b' : Blk} (g : h.get n = some b') (hb : b'.e ≠ 2 ∧ b'.e ≠ 22) : TabL (h.put n b) lo nb full L := s.keep fun m c hc g' => by
  rw [get_put_ne]
  · exact g'
  · rintro rfl
    rw [g] at g'
    cases g'
    rcases hc with hc | hc
    · exact hb.1 hc
    · exact hb.2 hc
theorem TabL.rd (s : TabL h lo nb full L) {i : Nat} (hi : i < L.length) : h.rd1 nb i = some (sl (L[i]).1 (L[i]).2.length) := by
  rw [rd1_of s.g]
  simp [hi, rowV, sl]
theorem TabL.ne (s : TabL h lo nb full L) {i : Nat} (hi : i < L.length) : (L[i]).1 ≠ nb := by
  obtain ⟨fu, o⟩ := (s.rows i hi).2
  intro e
  have g := s.g
  unfold Lst at o
  rw [e, g] at o
  have := congrArg (fun b : Option Blk => b.map (·.e)) o
  simp at this
theorem TabL.vals (s : TabL h lo nb full L) : Vals h (sl nb L.length) (L.map rowV) := by
  refine .inr ⟨nb, 0, _, ?_, s.g, by simp, fun i hi => ?_⟩
  · simp [sl]
  · rw [Nat.zero_add, List.getD_eq_getElem?_getD, List.getElem?_eq_getElem hi]
    rfl
theorem TabL.at (s : TabL h lo nb full L) {i : Nat} (hi : i < L.length) : Ints h ((L.map rowV).getD i undef) ((L.map Prod.snd).getD i []) := by
  obtain ⟨fu, o⟩ := (s.rows i hi).2
  have e1 : (L.map rowV).getD i undef = sl (L[i]).1 (L[i]).2.length := by simp [List.getD_eq_getElem?_getD, hi, rowV, sl]
  have e2 : (L.map Prod.snd).getD i [] = (L[i]).2 := by simp [List.getD_eq_getElem?_getD, hi]
  rw [e1, e2]
  exact o.ints
/-- One row changed. -/
theorem TabL.upd (s : TabL h lo nb full L) {i n' : Nat} {r' : List Int} {fu' : Bool} (hi : i < L.length) (hl : Lst h' n' r' fu') (hlo : lo ≤ n') (hg : h'.get nb = some ⟨(L.set i (n', r')).map rowV, 22, false, full⟩)
    (ho : ∀ j (hj : j < L.length), j ≠ i → ∀ fu, Lst h (L[j]).1 (L[j]).2 fu → Lst h' (L[j]).1 (L[j]).2 fu) (hd : ∀ j (hj : j < L.length), j ≠ i → (L[j]).1 ≠ n') : TabL h' lo nb full (L.set i (n', r')) := by
  refine ⟨hg, s.low, fun j hj => ?_, fun a b ha hb hab => ?_⟩
  · have hj' : j < L.length := by simpa using hj
    rw [List.getElem_set]
    split
    · exact ⟨hlo, fu', hl⟩
    · rename_i hne
      obtain ⟨q1, fu, o⟩ := s.rows j hj'
      exact ⟨q1, fu, ho j hj' (fun e => hne e.symm) fu o⟩
  · have ha' : a < L.length := by simpa using ha
    have hb' : b < L.length := by simpa using hb
    rw [List.getElem_set, List.getElem_set]
    by_cases h1 : i = a
    · rw [if_pos h1, if_neg (by omega)]
      exact fun e => hd b hb' (by omega) e.symm
    · rw [if_neg h1]
      by_cases h2 : i = b
      · rw [if_pos h2]
        exact hd a ha' (by omega)
      · rw [if_neg h2]
        exact s.dist a b ha' hb' hab
theorem TabL.cell (s : TabL h lo nb full L) {i c n : Nat} {r : List Int} {fu : Bool} {x : Int} (hi : i < L.length) (hL : L[i] = (n, r)) (o : Lst h n r fu) :
    TabL (h.put n ⟨(r.set c x).map (Value.int .i64), 2, false, fu⟩) lo nb full (L.set i (n, r.set c x)) := by
  have hne := s.ne hi
  have hr := (s.rows i hi).1
  rw [hL] at hne hr
  refine s.upd hi (fu' := fu) (get_put_same o.lt) hr ?_ (fun j hj hji fu' o' => ?_) (fun j hj hji => ?_)
  · rw [get_put_ne hne, s.g]
    congr 2
    rw [List.map_set]
    have : rowV (n, r.set c x) = (L.map rowV)[i]'(by simpa using hi) := by
      rw [List.getElem_map, hL]
      simp [rowV]
    rw [this, List.set_getElem_self]
  · have := s.dist i j hi hj (fun e => hji e.symm)
    rw [hL] at this
    exact o'.put_ne this
  · have := s.dist j i hj hi hji
    rw [hL] at this
    exact this
/-- A row made anew and stored. -/
theorem TabL.store (s : TabL h lo nb full L) {i n n' : Nat} {r r' : List Int} (hi : i < L.length) (hL : L[i] = (n, r)) (hk : ∀ m b, m ≠ n → h.get m = some b → h'.get m = some b) (hl : Lst h' n' r' false) (hn' : h.length ≤ n') (hlo : lo ≤ h.length) :
    h'.wr nb i [sl n' r'.length] = some (h'.put nb ⟨(L.set i (n', r')).map rowV, 22, false, full⟩) ∧ TabL (h'.put nb ⟨(L.set i (n', r')).map rowV, 22, false, full⟩) lo nb full (L.set i (n', r')) := by
  have hne := s.ne hi
  rw [hL] at hne
  have g' := hk _ _ hne.symm s.g
  have ltn : ∀ j (hj : j < L.length), (L[j]).1 < h.length := fun j hj => by
    obtain ⟨fu, o⟩ := (s.rows j hj).2
    exact o.lt
  have lnb := get_lt s.g
  constructor
  · rw [wr_of g', if_pos ⟨rfl, by simp only [List.length_map, List.length_singleton]; omega⟩]
    congr 3
    rw [splice_set (by simpa using hi), List.map_set]
    rfl
  · refine s.upd hi (fu' := false) (hl.put_ne (by omega)) (by omega) (get_put_same (get_lt g')) (fun j hj hji fu' o' => ?_) (fun j hj hji => by have := ltn j hj; omega)
    have hd := s.dist i j hi hj (fun e => hji e.symm)
    rw [hL] at hd
    have o2 : Lst h' (L[j]).1 (L[j]).2 fu' := hk _ _ hd.symm o'
    exact o2.put_ne (s.ne hj).symm
theorem TabL.app {n : Nat} {fu fw : Bool} {r : List Int} {e : TypeId} {h2 : AH} (s : TabL h2 lo nb full L) (hn : lo ≤ n) (hd : ∀ j (hj : j < L.length), (L[j]).1 ≠ n) (ob : Lst h2 n r fw) (hlo : lo ≤ h2.length)
    (hl : (L.length : Int) ≤ 1048576) {Q : Value → AH → Prop}
    (hQ : ∀ H' : AH, H'.length = h2.length + 2 → TabL H' lo (h2.length + 1) false (L ++ [(n, r)]) → (∀ m b, m ≠ nb → h2.get m = some b → H'.get m = some b) → (∀ h9 : AH, h9.length ≤ nb → h9 <+: h2 → h9 <+: H') → Q (sl (h2.length + 1) (L ++ [(n, r)]).length) H') :
    OQ (appV 22 1 24 (sl nb L.length) (.slice (some ⟨h2.length, 0, none⟩) 1 1) (h2.new ⟨[sl n r.length], e, false, fu⟩)) Q := by
  have hrd : (h2.new ⟨[.slice (some ⟨n, 0, none⟩) r.length 1], e, false, fu⟩).rdn h2.length 0 1 = some [.slice (some ⟨n, 0, none⟩) r.length 1] := by rw [rdn_new_same]; rfl
  have hk : (h2.new ⟨[.slice (some ⟨n, 0, none⟩) r.length 1], e, false, fu⟩).get nb = some ⟨L.map rowV, 22, false, full⟩ := get_new_any s.g
  have l1 := get_lt s.g
  have keep : ∀ m b, m ≠ nb → h2.get m = some b → (((h2.new ⟨[.slice (some ⟨n, 0, none⟩) r.length 1], e, false, fu⟩).kill nb).new ⟨L.map rowV ++ [.slice (some ⟨n, 0, none⟩) r.length 1], 22, false, false⟩).get m = some b := fun m b hm g => get_new_any (by rw [get_kill_ne (fun e => hm e.symm)]; exact get_new_any g)
  unfold sl at hQ ⊢
  rw [app_own hk (by simp) hrd (by omega), OQ_some]
  have := hQ _ (by rw [len_new, len_kill, len_new]) ?_ keep (fun h9 hh p => pre_new (pre_kill (pre_new p) hh))
  · rw [len_new]
    rw [List.length_append, List.length_singleton] at this
    exact this
  · refine ⟨by rw [get_new_eq (by rw [len_kill, len_new])]; simp [rowV], by omega, fun i hi => ?_, fun a b ha hb hab => ?_⟩
    · by_cases hiL : i < L.length
      · rw [List.getElem_append_left hiL]
        obtain ⟨q1, fq, o⟩ := s.rows i hiL
        exact ⟨q1, fq, keep _ _ (s.ne hiL) o⟩
      · have e1 : i = L.length := by simp at hi; omega
        subst e1
        rw [List.getElem_append_right (Nat.le_refl _)]
        simp only [Nat.sub_self, List.getElem_cons_zero]
        refine ⟨hn, fw, keep _ _ ?_ ob⟩
        rintro rfl
        have g := s.g
        unfold Lst at ob
        rw [g] at ob
        have := congrArg (fun b : Option Blk => b.map (·.e)) ob
        simp at this
    · by_cases ha' : a < L.length
      · rw [List.getElem_append_left ha']
        by_cases hb' : b < L.length
        · rw [List.getElem_append_left hb']
          exact s.dist a b ha' hb' hab
        · have e1 : b = L.length := by simp at hb; omega
          subst e1
          rw [List.getElem_append_right (Nat.le_refl _)]
          simp only [Nat.sub_self, List.getElem_cons_zero]
          exact hd a ha'
      · have e1 : a = L.length := by simp at ha; omega
        subst e1
        have hb' : b < L.length := by simp at hb; omega
        rw [List.getElem_append_right (Nat.le_refl _), List.getElem_append_left hb']
        simp only [Nat.sub_self, List.getElem_cons_zero]
        exact (hd b hb').symm
end
/-- What stays while a table changes. -/
structure StayT (lo : Nat) (h h' : AH) : Prop where
  len : h.length ≤ h'.length
  pre : ∀ h0 : AH, h0.length ≤ lo → h0 <+: h → h0 <+: h'
  get : ∀ m b, h.get m = some b → b.e ≠ 2 → b.e ≠ 22 → h'.get m = some b
theorem StayT.refl {lo : Nat} {h : AH} : StayT lo h h := ⟨Nat.le_refl _, fun _ _ p => p, fun _ _ g _ _ => g⟩
theorem StayT.of {lo : Nat} {h h' : AH} (p : h <+: h') : StayT lo h h' := ⟨pre_len p, fun _ _ q => q.trans p, fun _ _ g _ _ => pre_get p g⟩
theorem StayT.trans {lo : Nat} {h h1 h2 : AH} (a : StayT lo h h1) (b : StayT lo h1 h2) : StayT lo h h2 :=
  ⟨Nat.le_trans a.len b.len, fun h0 hl p => b.pre h0 hl (a.pre h0 hl p), fun m c g h1 h2 => b.get m c (a.get m c g h1 h2) h1 h2⟩
theorem StayT.put {lo n : Nat} {h : AH} {b b' : Blk} (g : h.get n = some b') (hb : b'.e = 2 ∨ b'.e = 22) (hlo : lo ≤ n) : StayT lo h (h.put n b) :=
  ⟨by rw [len_put]; exact Nat.le_refl _, fun h0 hl p => pre_put p (by omega), fun m c g' h1 h2 => by
    rw [get_put_ne]
    · exact g'
    · rintro rfl
      rw [g] at g'
      cases g'
      rcases hb with hb | hb
      · exact h1 hb
      · exact h2 hb⟩
/-- What rows need. -/
structure StayI (lo : Nat) (h h' : AH) : Prop where
  len : h.length ≤ h'.length
  pre : ∀ h0 : AH, h0.length ≤ lo → h0 <+: h → h0 <+: h'
  get : ∀ m b, h.get m = some b → (b.e = 2 ∨ b.e = 22) → h'.get m = some b
theorem StayI.refl {lo : Nat} {h : AH} : StayI lo h h := ⟨Nat.le_refl _, fun _ _ p => p, fun _ _ g _ => g⟩
theorem StayI.trans {lo : Nat} {h h1 h2 : AH} (a : StayI lo h h1) (b : StayI lo h1 h2) : StayI lo h h2 :=
  ⟨Nat.le_trans a.len b.len, fun h0 hl p => b.pre h0 hl (a.pre h0 hl p), fun m c g h1 => b.get m c (a.get m c g h1) h1⟩
theorem StayI.put {lo n : Nat} {h : AH} {b b' : Blk} (g : h.get n = some b') (hb : b'.e ≠ 2 ∧ b'.e ≠ 22) (hlo : lo ≤ n) : StayI lo h (h.put n b) :=
  ⟨by rw [len_put]; exact Nat.le_refl _, fun h0 hl p => pre_put p (by omega), fun m c g' h1 => by
    rw [get_put_ne]
    · exact g'
    · rintro rfl
      rw [g] at g'
      cases g'
      rcases h1 with h1 | h1
      · exact hb.1 h1
      · exact hb.2 h1⟩
end Go.Proofs.Ytilpnbejpndgpaa.X

/- SharedProgram of the reference. -/
set_option linter.unusedVariables false
set_option linter.unusedSimpArgs false
set_option maxRecDepth 20000
set_option maxHeartbeats 4000000
namespace Go.Proofs.Ytilpnbejpndgpaa.X
open Go Go.RowKit

end Go.Proofs.Ytilpnbejpndgpaa.X

/- Shared programs of the program: sets of rows, the best pair. -/
set_option linter.unusedVariables false
set_option linter.unusedSimpArgs false
set_option maxRecDepth 20000
set_option maxHeartbeats 4000000
namespace Go.Proofs.Ytilpnbejpndgpaa.X
open Go Go.RowKit

/-- A column: the rows with each number. -/
def Col (T : List (List Int)) (i : Nat) (q : List Int) : Prop := q.length = 5 ∧ ∀ x : Nat, 1 ≤ x → x < 5 → q.getD x 0 = ((bs T.length fun k => decide (tb T k i = x) : Nat) : Int)
theorem Col.at {T : List (List Int)} {i x : Nat} {q : List Int} (c : Col T i q) (h : 1 ≤ x ∧ x < 5) : (cel .u32 q)[x]? = some (U32 (bs T.length fun k => decide (tb T k i = x))) := by
  rw [cel_get (by rw [c.1]; exact h.2), c.2 x h.1 h.2]
  rfl
theorem ixa_u {n off len : Nat} {kk : IntKind} {j : Nat} (h : j < len) : ixaV len 1 (.pointer (some ⟨n, off, none⟩)) (.int kk (j : Int)) = some (.pointer (some ⟨n, off + j, none⟩)) := by
  rw [ixaV_ptr (by omega), Int.toNat_natCast, Nat.mul_one]

end Go.Proofs.Ytilpnbejpndgpaa.X

/- Tables of columns: cells, what the columns are while rows are laid in and moved. -/
set_option linter.unusedVariables false
set_option linter.unusedSimpArgs false
set_option maxRecDepth 20000
set_option maxHeartbeats 4000000
namespace Go.Proofs.Ytilpnbejpndgpaa.X
open Go Go.RowKit

theorem flat_cell {w c x : Nat} {L : List (List Int)} {v : Int} (hw : Wid w L) (hc : c < L.length) (hx : x < w) : L.flatten.set (c * w + x) v = (L.set c ((L.getD c []).set x v)).flatten := by
  have hq : (L.getD c []).length = w := by
    rw [List.getD_eq_getElem?_getD, List.getElem?_eq_getElem hc]
    exact hw _ (List.getElem_mem hc)
  have e0 := flat_set (r := L.getD c []) hw hc
  have e1 := flat_set (r := (L.getD c []).set x v) hw hc
  have es : L.set c (L.getD c []) = L := by
    rw [List.getD_eq_getElem?_getD, List.getElem?_eq_getElem hc]
    exact List.set_getElem_self hc
  rw [es] at e0
  have hrow := mul_row (w := w) hc
  have hl : (L.flatten.take (c * w)).length = c * w := by
    rw [List.length_take, flat_len hw]
    omega
  rw [← e1]
  conv => lhs; rw [← e0]
  rw [List.set_append_left _ _ (by rw [List.length_append, hl, hq]; omega), List.set_append_right _ _ (by rw [hl]; omega), hl, show c * w + x - c * w = x by omega]
/-- A table of columns in a known block. -/
structure ColT (h : AH) (nb : Nat) (full : Bool) (L : List (List Int)) : Prop where
  g : h.get nb = some ⟨cel .u32 L.flatten, 144, false, full⟩
  wid : Wid 5 L
def tv (nb len : Nat) : Value := .slice (some ⟨nb, 0, none⟩) len 5
section
variable {h h' : AH} {nb : Nat} {full : Bool} {L : List (List Int)}
theorem ColT.pre (o : ColT h nb full L) (p : h <+: h') : ColT h' nb full L := ⟨pre_get p o.g, o.wid⟩
theorem ColT.put_ne {m : Nat} {b : Blk} (o : ColT h nb full L) (e : m ≠ nb) : ColT (h.put m b) nb full L := ⟨by rw [get_put_ne e]; exact o.g, o.wid⟩
theorem ColT.get (o : ColT h nb full L) (hk : h'.get nb = h.get nb) : ColT h' nb full L := ⟨by rw [hk]; exact o.g, o.wid⟩
theorem ColT.ix {c len : Nat} {kk : IntKind} (hc : c < len) : ixsV 5 (tv nb len) (.int kk (c : Int)) = some (.pointer (some ⟨nb, c * 5, none⟩)) := by
  unfold tv
  rw [ixsV_some, if_pos (by omega)]
  simp
theorem ColT.row (o : ColT h nb full L) {c : Nat} (hc : c < L.length) : (L.getD c []).length = 5 := by
  rw [List.getD_eq_getElem?_getD, List.getElem?_eq_getElem hc]
  exact o.wid _ (List.getElem_mem hc)
theorem ColT.rd (o : ColT h nb full L) {c x : Nat} (hc : c < L.length) (hx : x < 5) : h.rd1 nb (c * 5 + x) = some (.int .u32 ((L.getD c []).getD x 0)) := by
  rw [rd1_of o.g]
  have hf := flat_len o.wid
  have hrow := mul_row (w := 5) hc
  show (cel .u32 L.flatten)[c * 5 + x]? = _
  rw [cel_get (by omega)]
  have hg := flat_get o.wid hc
  rw [← hg]
  rw [List.getD_eq_getElem?_getD, List.getD_eq_getElem?_getD, List.getElem?_take, if_pos hx, List.getElem?_drop]
theorem ColT.rdn (o : ColT h nb full L) {c : Nat} (hc : c < L.length) : h.rdn nb (c * 5) 5 = some (cel .u32 (L.getD c [])) := by
  rw [rdn_of o.g]
  have hf := flat_len o.wid
  have hrow := mul_row (w := 5) hc
  show (if c * 5 + 5 ≤ (cel .u32 L.flatten).length then some (((cel .u32 L.flatten).drop (c * 5)).take 5) else none) = _
  rw [if_pos (by rw [cel_len]; omega), cel_drop, cel_take, flat_get o.wid hc]
theorem ColT.wr (o : ColT h nb full L) {c x : Nat} {v : Int} (hc : c < L.length) (hx : x < 5) :
    ∃ h', h.wr nb (c * 5 + x) [.int .u32 v] = some h' ∧ h' = h.put nb ⟨cel .u32 (L.set c ((L.getD c []).set x v)).flatten, 144, false, full⟩ ∧ ColT h' nb full (L.set c ((L.getD c []).set x v)) := by
  have hf := flat_len o.wid
  have hrow := mul_row (w := 5) hc
  refine ⟨_, ?_, rfl, get_put_same (get_lt o.g), ?_⟩
  · rw [wr_of o.g, if_pos ⟨rfl, by simp only [cel_len, List.length_singleton]; omega⟩, cel_set (by omega), flat_cell o.wid hc hx]
  · intro q hq
    rcases List.mem_or_eq_of_mem_set hq with hq | rfl
    · exact o.wid q hq
    · rw [List.length_set]
      exact o.row hc
theorem ColT.way (o : ColT h nb full L) {lo : Nat} {ex : List Nat} (h1 : lo ≤ nb) (h2 : nb ∉ ex) : WayX (144) .u32 5 h lo ex (tv nb L.length) L := ⟨o.wid, .inr ⟨nb, full, rfl, h1, h2, o.g⟩⟩
end

/-! ### Rows laid in -/
section
variable {rows : List (List Int)} {N i c : Nat}
end

/-! ### Rows moved -/
section
variable {p : Int} {T : List (List Int)} {s : BS}
end
end Go.Proofs.Ytilpnbejpndgpaa.X

/- SharedProgram of the program. -/
set_option linter.unusedVariables false
set_option linter.unusedSimpArgs false
set_option maxRecDepth 20000
set_option maxHeartbeats 4000000
namespace Go.Proofs.Ytilpnbejpndgpaa.X
open Go Go.RowKit

end Go.Proofs.Ytilpnbejpndgpaa.X

/- SharedProgram of both sides. -/
set_option linter.unusedVariables false
set_option linter.unusedSimpArgs false
set_option maxRecDepth 20000
set_option maxHeartbeats 4000000
namespace Go.Proofs.Ytilpnbejpndgpaa.X
open Go Go.RowKit

end Go.Proofs.Ytilpnbejpndgpaa.X

/- The programs of a scheme: the lists of its forms, plainly; both sides' lists. -/
set_option linter.unusedVariables false
set_option linter.unusedSimpArgs false
set_option maxRecDepth 20000
set_option maxHeartbeats 4000000
namespace Go.Proofs.Ytilpnbejpndgpaa.X
open Go Go.RowKit

/-- So many numbers of one form of each product. -/
def lsF (x : Sch) (i n : Nat) : List (List Int) := x.ps.map fun q => (seg q i).take n
def fmX (x : Sch) (i : Nat) : List (List Int) := if i = 2 then trL (lsF x 2 (x.n * x.k).toNat) (x.n * x.k).toNat else lsF x i (pl x i).toNat
def nuX (x : Sch) (i : Nat) : Int := if i = 2 then x.ps.length else pl x i
def pgO (p n : Int) (rows : List (List Int)) (b : Bool) : Prg := if b = true then shP p n rows else finP ⟨p, n, [], []⟩ rows rows.length
def pgX (x : Sch) (b : Bool) (i : Nat) : Prg := pgO x.p (nuX x i) (fmX x i) b
theorem isX_facts {x : Sch} (h : isX x = true) : SZ x ∧ isP x.p = true ∧ x.ps.length ≤ 30 ∧ ∀ j, j < x.ps.length → okProd x (x.ps.getD j []) = true := by
  unfold isX at h
  simp only [Bool.and_eq_true, decide_eq_true_eq] at h
  obtain ⟨⟨h1, h2⟩, h3⟩ := h
  refine ⟨szX_facts h1, ?_, h2, fun j hj => ?_⟩
  · unfold szX at h1
    simp only [Bool.and_eq_true] at h1
    exact h1.1.1.1
  · rw [List.all_eq_true] at h3
    refine h3 _ ?_
    rw [List.getD_eq_getElem?_getD, List.getElem?_eq_getElem hj]
    exact List.getElem_mem hj
/-! ### The reference's lists -/
end Go.Proofs.Ytilpnbejpndgpaa.X

/- The programs of a scheme: the reference. -/
set_option linter.unusedVariables false
set_option linter.unusedSimpArgs false
set_option maxRecDepth 20000
set_option maxHeartbeats 4000000
namespace Go.Proofs.Ytilpnbejpndgpaa.X
open Go Go.RowKit

def prgC (x : Prg) (v w : Value) : List Value := [I64 x.p, I64 x.n, v, w]
end Go.Proofs.Ytilpnbejpndgpaa.X

/- StepsOf of the reference; the program's lists. -/
set_option linter.unusedVariables false
set_option linter.unusedSimpArgs false
set_option maxRecDepth 20000
set_option maxHeartbeats 4000000
namespace Go.Proofs.Ytilpnbejpndgpaa.X
open Go Go.RowKit

/-- Three programs in one block. -/
structure Pr3 (h : AH) (nb : Nat) (x : Sch) (b : Bool) (v1 w1 v2 w2 v3 w3 : Value) : Prop where
  g : ∃ fl, h.get nb = some ⟨prgC (pgX x b 0) v1 w1 ++ prgC (pgX x b 1) v2 w2 ++ prgC (pgX x b 2) v3 w3, 48, false, fl⟩
  r1 : PrgR h v1 w1 (pgX x b 0)
  r2 : PrgR h v2 w2 (pgX x b 1)
  r3 : PrgR h v3 w3 (pgX x b 2)
section
variable {h h' : AH} {nb : Nat} {x : Sch} {b : Bool} {v1 w1 v2 w2 v3 w3 : Value}
theorem Pr3.pre (o : Pr3 h nb x b v1 w1 v2 w2 v3 w3) (p : h <+: h') : Pr3 h' nb x b v1 w1 v2 w2 v3 w3 :=
  ⟨by obtain ⟨fl, g⟩ := o.g; exact ⟨fl, pre_get p g⟩, o.r1.pre p, o.r2.pre p, o.r3.pre p⟩
theorem Pr3.at (o : Pr3 h nb x b v1 w1 v2 w2 v3 w3) {i : Nat} (hi : i < 3) : ∃ y z, h.rd1 nb (i * 4 + 2) = some y ∧ h.rdn nb (i * 4) 4 = some (prgC (pgX x b i) y z) ∧ PrgR h y z (pgX x b i) := by
  obtain ⟨fl, g⟩ := o.g
  have hc : i = 0 ∨ i = 1 ∨ i = 2 := by omega
  rcases hc with rfl | rfl | rfl
  · exact ⟨v1, w1, by rw [rd1_of g]; rfl, by rw [rdn_of g]; rfl, o.r1⟩
  · exact ⟨v2, w2, by rw [rd1_of g]; rfl, by rw [rdn_of g]; rfl, o.r2⟩
  · exact ⟨v3, w3, by rw [rd1_of g]; rfl, by rw [rdn_of g]; rfl, o.r3⟩
end
/-! ### The program's lists -/
end Go.Proofs.Ytilpnbejpndgpaa.X

/- The programs of a scheme, and StepsOf: the program. -/
set_option linter.unusedVariables false
set_option linter.unusedSimpArgs false
set_option maxRecDepth 20000
set_option maxHeartbeats 4000000
namespace Go.Proofs.Ytilpnbejpndgpaa.X
open Go Go.RowKit

theorem InE.move {k : IntKind} {w a b : Nat} {h h' : AH} {v : Value} {L : List (List Int)} (o : InE k w a b h v L) (hk : ∀ m bl, a ≤ m → m < b → h.get m = some bl → h'.get m = some bl) : InE k w a b h' v L := by
  rcases o with o | ⟨m, e, full, h1, rfl, h2, h3⟩
  · exact .inl o
  · exact .inr ⟨m, e, full, h1, rfl, hk _ _ h1.1 h1.2 h2, h3⟩
theorem InP.move {a b : Nat} {h h' : AH} {v w : Value} {x : Prg} (o : InP a b h v w x) (hk : ∀ m bl, a ≤ m → m < b → h.get m = some bl → h'.get m = some bl) : InP a b h' v w x := by
  obtain ⟨c, h1, h2, h3, h4⟩ := o
  exact ⟨c, h1, h2, h3.move fun m bl q1 q2 g => hk m bl q1 (by omega) g, h4.move fun m bl q1 q2 g => hk m bl (by omega) q2 g⟩
end Go.Proofs.Ytilpnbejpndgpaa.X

/- StepsOf: the program. -/
set_option linter.unusedVariables false
set_option linter.unusedSimpArgs false
set_option maxRecDepth 20000
set_option maxHeartbeats 4000000
namespace Go.Proofs.Ytilpnbejpndgpaa.X
open Go Go.RowKit

end Go.Proofs.Ytilpnbejpndgpaa.X

/- MakeProduct: matrices looked at, forms times matrices. -/
set_option linter.unusedVariables false
set_option linter.unusedSimpArgs false
set_option maxRecDepth 20000
set_option maxHeartbeats 4000000
namespace Go.Proofs.Ytilpnbejpndgpaa.X
open Go Go.RowKit

theorem s_l01Matrix {v : Value} {rows : List (List Int)} {p n cols : Int} {h : AH} {Q : Value → AH → Prop} (hv : Rows h v rows) (hm : SmallM rows) (hp : 2 ≤ p ∧ p ≤ 5)
    (hQ : Q (.bool (isMat p cols rows && decide ((rows.length : Int) = n))) h) : WF S 99 [I64 p, v, I64 n, I64 cols] h Q := by
  refine WF_fn (fn := c99) rfl rfl ?_
  unfold c99
  obtain ⟨hm1, hm2⟩ := hm
  ((try simp (maxSteps := 3000000) (dsimp := false) (disch := first | omega | (simp only [len_new, len_put, len_kill]; omega)) only [↓ypre, ypost, ↓reduceIte, Nat.reduceEqDiff, Nat.reduceAdd, Nat.reduceSub, Nat.reduceLeDiff, Nat.zero_add, Nat.sub_zero, ynew, hv.len]); try simp only [yback])
  by_cases h1 : (rows.length : Int) = n
  case neg =>
    ((try simp (maxSteps := 3000000) (dsimp := false) (disch := first | omega | (simp only [len_new, len_put, len_kill]; omega)) only [↓ypre, ypost, ↓reduceIte, Nat.reduceEqDiff, Nat.reduceAdd, Nat.reduceSub, Nat.reduceLeDiff, Nat.zero_add, Nat.sub_zero, ynew, decide_eq_true (show (rows.length : Int) ≠ n from h1)]); try simp only [yback])
    rw [decide_eq_false h1, Bool.and_false] at hQ
    exact hQ
  rw [decide_eq_true h1, Bool.and_true] at hQ
  ((try simp (maxSteps := 3000000) (dsimp := false) (disch := first | omega | (simp only [len_new, len_put, len_kill]; omega)) only [↓ypre, ypost, ↓reduceIte, Nat.reduceEqDiff, Nat.reduceAdd, Nat.reduceSub, Nat.reduceLeDiff, Nat.zero_add, Nat.sub_zero, ynew, decide_eq_false (show ¬ (rows.length : Int) ≠ n from fun y => y h1)]); try simp only [yback])
  refine WC_loop_inv (fun m f K1 => ∃ (i : Nat), m = rows.length - i ∧ i ≤ rows.length ∧ f 0 = I64 p ∧ f 1 = v ∧ f 3 = I64 cols ∧ f 9 = I64 i ∧ (K1 = h) ∧ (∀ j, j < i → ((rows.getD j []).length : Int) = cols ∧ allIn p (rows.getD j []) = true)) ?_ (rows.length - 0) _ _ ⟨0, rfl, by omega, (by first | rfl | (simp [upd_apply]; done)), (by first | rfl | (simp [upd_apply]; done)), (by first | rfl | (simp [upd_apply]; done)), (by first | rfl | (simp [upd_apply]; done)), rfl, (by omega)⟩
  rintro m f K1 ⟨i, rfl, hi, f0, f1, f3, f9, hK, hj⟩
  subst hK
  by_cases hlt : (i : Int) < rows.length
  · have hi' : i < rows.length := by omega
    obtain ⟨n0, off0, x0, hix0, hrd0, i0⟩ := hv.row hi'
    have bl := hm2.1 i hi'
    by_cases h2 : ((rows.getD i []).length : Int) = cols
    case neg =>
      have d2 := decide_eq_true (show ((rows.getD i []).length : Int) ≠ cols from h2)
      ((try simp (maxSteps := 3000000) (dsimp := false) (disch := first | omega | (simp only [len_new, len_put, len_kill]; omega)) only [↓ypre, ypost, ↓reduceIte, Nat.reduceEqDiff, Nat.reduceAdd, Nat.reduceSub, Nat.reduceLeDiff, Nat.zero_add, Nat.sub_zero, ynew, f0, f1, f3, f9, hv.len, decide_eq_true hlt, hix0, hrd0, i0.len, d2]); try simp only [yback])
      rw [isMat_no hi' (fun h => h2 h.1)] at hQ
      exact hQ
    have d2 := decide_eq_false (show ¬ ((rows.getD i []).length : Int) ≠ cols from fun y => y h2)
    ((try simp (maxSteps := 3000000) (dsimp := false) (disch := first | omega | (simp only [len_new, len_put, len_kill]; omega)) only [↓ypre, ypost, ↓reduceIte, Nat.reduceEqDiff, Nat.reduceAdd, Nat.reduceSub, Nat.reduceLeDiff, Nat.zero_add, Nat.sub_zero, ynew, f0, f1, f3, f9, hv.len, decide_eq_true hlt, hix0, hrd0, i0.len, d2]); try simp only [yback])
    refine WC_loop_inv (fun m f K2 => ∃ (k : Nat), m = ((rows.getD i []).length) - k ∧ k ≤ ((rows.getD i []).length) ∧ f 0 = I64 p ∧ f 1 = v ∧ f 3 = I64 cols ∧ f 9 = I64 i ∧ f 10 = I64 k ∧ (K2 = K1) ∧ (∀ j, j < k → 0 ≤ (rows.getD i []).getD j 0 ∧ (rows.getD i []).getD j 0 < p)) ?_ (((rows.getD i []).length) - 0) _ _ ⟨0, rfl, by omega, (by first | rfl | exact f0 | (simp [upd_apply]; done)), (by first | rfl | exact f1 | (simp [upd_apply]; done)), (by first | rfl | exact f3 | (simp [upd_apply]; done)), (by first | rfl | exact f9 | (simp [upd_apply]; done)), (by first | rfl | (simp [upd_apply]; done)), rfl, (by omega)⟩
    rintro m f K2 ⟨k, rfl, hk, f0, f1, f3, f9, f10, hK2, ha⟩
    subst hK2
    by_cases hlk : (k : Int) < (rows.getD i []).length
    · obtain ⟨n1, off1, hix1, hrd1⟩ := i0.cell (j := k) (by omega)
      ((try simp (maxSteps := 3000000) (dsimp := false) (disch := first | omega | (simp only [len_new, len_put, len_kill]; omega)) only [↓ypre, ypost, ↓reduceIte, Nat.reduceEqDiff, Nat.reduceAdd, Nat.reduceSub, Nat.reduceLeDiff, Nat.zero_add, Nat.sub_zero, ynew, f0, f1, f3, f9, f10, hix0, hrd0, i0.len, decide_eq_true hlk, hix1, hrd1, wrap64_in]); try simp only [yback])
      refine s_l01In ?_
      by_cases h5 : 0 ≤ (rows.getD i []).getD k 0 ∧ (rows.getD i []).getD k 0 ≤ p - 1
      · ((try simp (maxSteps := 3000000) (dsimp := false) (disch := first | omega | (simp only [len_new, len_put, len_kill]; omega)) only [↓ypre, ypost, ↓reduceIte, Nat.reduceEqDiff, Nat.reduceAdd, Nat.reduceSub, Nat.reduceLeDiff, Nat.zero_add, Nat.sub_zero, ynew, f0, f1, f3, f9, f10, decide_eq_true h5, wrap64_in]); try simp only [yback])
        have ha' : ∀ j, j < k + 1 → 0 ≤ (rows.getD i []).getD j 0 ∧ (rows.getD i []).getD j 0 < p := fun j hj' => by
          rcases Nat.lt_succ_iff_lt_or_eq.1 hj' with q | rfl
          · exact ha j q
          · omega
        refine InvQ_go (((rows.getD i []).length) - (k + 1)) (by omega) ⟨(k + 1), rfl, by omega, (by first | rfl | exact f0 | (simp only [upd_apply]; rfl) | (show I64 _ = _; congr 1; omega)), (by first | rfl | exact f1 | (simp only [upd_apply]; rfl) | (show I64 _ = _; congr 1; omega)), (by first | rfl | exact f3 | (simp only [upd_apply]; rfl) | (show I64 _ = _; congr 1; omega)), (by first | rfl | exact f9 | (simp only [upd_apply]; rfl) | (show I64 _ = _; congr 1; omega)), (by first | rfl | exact f10 | (simp only [upd_apply]; rfl) | (show I64 _ = _; congr 1; omega)), rfl, ha'⟩
      · ((try simp (maxSteps := 3000000) (dsimp := false) (disch := first | omega | (simp only [len_new, len_put, len_kill]; omega)) only [↓ypre, ypost, ↓reduceIte, Nat.reduceEqDiff, Nat.reduceAdd, Nat.reduceSub, Nat.reduceLeDiff, Nat.zero_add, Nat.sub_zero, ynew, f0, f1, f3, f9, f10, decide_eq_false h5]); try simp only [yback])
        rw [isMat_no hi' (fun h => h5 (by have := allIn_iff.1 h.2 k (by omega); omega))] at hQ
        exact hQ
    have ek : k = (rows.getD i []).length := by omega
    subst ek
    ((try simp (maxSteps := 3000000) (dsimp := false) (disch := first | omega | (simp only [len_new, len_put, len_kill]; omega)) only [↓ypre, ypost, ↓reduceIte, Nat.reduceEqDiff, Nat.reduceAdd, Nat.reduceSub, Nat.reduceLeDiff, Nat.zero_add, Nat.sub_zero, ynew, f0, f1, f3, f9, f10, hix0, hrd0, i0.len, decide_eq_false hlk, wrap64_in]); try simp only [yback])
    have hj2 : ∀ j, j < i + 1 → ((rows.getD j []).length : Int) = cols ∧ allIn p (rows.getD j []) = true := fun j hj' => by
      rcases Nat.lt_succ_iff_lt_or_eq.1 hj' with q | rfl
      · exact hj j q
      · exact ⟨h2, allIn_iff.2 ha⟩
    refine InvQ_go (rows.length - (i + 1)) (by omega) ⟨(i + 1), rfl, by omega, (by first | rfl | exact f0 | (simp only [upd_apply]; rfl) | (show I64 _ = _; congr 1; omega)), (by first | rfl | exact f1 | (simp only [upd_apply]; rfl) | (show I64 _ = _; congr 1; omega)), (by first | rfl | exact f3 | (simp only [upd_apply]; rfl) | (show I64 _ = _; congr 1; omega)), (by first | rfl | exact f9 | (simp only [upd_apply]; rfl) | (show I64 _ = _; congr 1; omega)), rfl, hj2⟩
  have ei : i = rows.length := by omega
  subst ei
  ((try simp (maxSteps := 3000000) (dsimp := false) (disch := first | omega | (simp only [len_new, len_put, len_kill]; omega)) only [↓ypre, ypost, ↓reduceIte, Nat.reduceEqDiff, Nat.reduceAdd, Nat.reduceSub, Nat.reduceLeDiff, Nat.zero_add, Nat.sub_zero, ynew, f0, f1, f3, f9, hv.len, decide_eq_false hlt]); try simp only [yback])
  rw [isMat_iff.2 hj] at hQ
  exact hQ

def dot (q ns : List Int) : Nat → Int
  | 0 => 0
  | j + 1 => dot q ns j + q.getD j 0 * ns.getD j 0
@[simp] theorem dot_0 {q ns : List Int} : dot q ns 0 = 0 := rfl
theorem dot_in {q ns : List Int} {p : Int} (hq : By 9 q) (hn : allIn p ns = true) (hp : 2 ≤ p ∧ p ≤ 5) : ∀ {j : Nat}, j ≤ ns.length → j ≤ 9 → 0 ≤ dot q ns j ∧ dot q ns j ≤ j * 1275
  | 0, _, _ => by simp [dot]
  | j + 1, h1, h2 => by
    have ih := dot_in hq hn hp (j := j) (by omega) (by omega)
    have b1 := hq.2 j (by omega)
    have b2 := allIn_iff.1 hn j (by omega)
    have m1 := Int.mul_nonneg b1.1 b2.1
    have m2 : q.getD j 0 * ns.getD j 0 ≤ 255 * 5 := Int.le_trans (Int.mul_le_mul_of_nonneg_right (show q.getD j 0 ≤ 255 by omega) b2.1) (Int.mul_le_mul_of_nonneg_left (by omega) (by decide))
    simp only [dot]
    omega
theorem i_atF {p : Int} {q ns : List Int} {v : Value} {h : AH} {Q : Value → AH → Prop} (hq : By 9 q) (hv : Ints h v ns) (hl : ns.length ≤ 9) (hn : allIn p ns = true) (hp : 2 ≤ p ∧ p ≤ 5)
    (hQ : ∀ h', h <+: h' → Q (I64 ((dot q ns ns.length).tmod p)) h') : WF S 137 [I64 p, aggV .u8 q, v] h Q := by
  refine WF_fn (fn := c137) rfl rfl ?_
  unfold c137
  ((try simp (maxSteps := 3000000) (dsimp := false) (disch := first | omega | (simp only [len_new, len_put, len_kill]; omega)) only [↓ypre, ypost, ↓reduceIte, Nat.reduceEqDiff, Nat.reduceAdd, Nat.reduceSub, Nat.reduceLeDiff, Nat.zero_add, Nat.sub_zero, ynew, aggV, cel_all, cellsL_cel]); try simp only [yback])
  generalize hH1 : AH.new h _ = H1
  obtain ⟨hb1, p1, n1⟩ := new_facts hH1
  have hq1 := hq.1
  have hv1 := hv.pre p1
  ((try simp (maxSteps := 3000000) (dsimp := false) (disch := first | omega | (simp only [len_new, len_put, len_kill]; omega)) only [↓ypre, ypost, ↓reduceIte, Nat.reduceEqDiff, Nat.reduceAdd, Nat.reduceSub, Nat.reduceLeDiff, Nat.zero_add, Nat.sub_zero, ynew, hv.len]); try simp only [yback])
  refine WC_loop_inv (fun m f K1 => ∃ (i : Nat), m = ns.length - i ∧ i ≤ ns.length ∧ f 0 = I64 p ∧ f 4 = .pointer (some ⟨h.length, 0, none⟩) ∧ f 7 = I64 (dot q ns i) ∧ f 10 = v ∧ f 11 = I64 ns.length ∧ f 12 = I64 i ∧ K1 = H1) ?_ (ns.length - 0) _ _ ⟨0, rfl, by omega, (by first | rfl | (simp [upd_apply]; done)), (by first | rfl | (simp [upd_apply]; done)), (by first | rfl | (simp [upd_apply]; done)), (by first | rfl | (simp [upd_apply]; done)), (by first | rfl | (simp [upd_apply]; done)), (by first | rfl | (simp [upd_apply]; done)), rfl⟩
  rintro m f K1 ⟨i, rfl, hi, f0, f4, f7, f10, f11, f12, rfl⟩
  by_cases hlt : (i : Int) < ns.length
  · have hi' : i < ns.length := by omega
    obtain ⟨n1', off1, hix1, hrd1⟩ := hv1.cell hi'
    have g1 := cel_get (k := .u8) (q := q) (j := i) (by omega)
    have ixa := ixa_u (n := h.length) (off := 0) (len := 9) (kk := .i64) (j := i) (by omega)
    rw [Nat.zero_add] at ixa
    have b0 := dot_in hq hn hp (j := i) (by omega) (by omega)
    have b1 := dot_in hq hn hp (j := i + 1) (by omega) (by omega)
    have b2 := hq.2 i (by omega)
    have b3 := allIn_iff.1 hn i hi'
    simp only [dot] at b1
    have b4 : 0 ≤ q.getD i 0 * ns.getD i 0 := Int.mul_nonneg b2.1 b3.1
    ((try simp (maxSteps := 3000000) (dsimp := false) (disch := first | omega | (simp only [len_new, len_put, len_kill]; omega)) only [↓ypre, ypost, ↓reduceIte, Nat.reduceEqDiff, Nat.reduceAdd, Nat.reduceSub, Nat.reduceLeDiff, Nat.zero_add, Nat.sub_zero, ynew, f0, f4, f7, f10, f11, f12, decide_eq_true hlt, hix1, hrd1, ixa, rd1_of hb1, g1, wrap64_in]); try simp only [yback])
    refine InvQ_go (ns.length - (i + 1)) (by omega) ⟨(i + 1), rfl, by omega, (by first | rfl | exact f0 | (simp only [upd_apply]; rfl) | (show I64 _ = _; congr 1; omega)), (by first | rfl | exact f4 | (simp only [upd_apply]; rfl) | (show I64 _ = _; congr 1; omega)), (by first | rfl | exact f7 | (simp only [upd_apply]; rfl) | (show I64 _ = _; congr 1; omega)), (by first | rfl | exact f10 | (simp only [upd_apply]; rfl) | (show I64 _ = _; congr 1; omega)), (by first | rfl | exact f11 | (simp only [upd_apply]; rfl) | (show I64 _ = _; congr 1; omega)), (by first | rfl | exact f12 | (simp only [upd_apply]; rfl) | (show I64 _ = _; congr 1; omega)), rfl⟩
  have ei : i = ns.length := by omega
  subst ei
  ((try simp (maxSteps := 3000000) (dsimp := false) (disch := first | omega | (simp only [len_new, len_put, len_kill]; omega)) only [↓ypre, ypost, ↓reduceIte, Nat.reduceEqDiff, Nat.reduceAdd, Nat.reduceSub, Nat.reduceLeDiff, Nat.zero_add, Nat.sub_zero, ynew, f0, f4, f7, f10, f11, f12, decide_eq_false hlt]); try simp only [yback])
  ((try simp (maxSteps := 3000000) (dsimp := false) (disch := first | omega | (simp only [len_new, len_put, len_kill]; omega)) only [↓ypre, ypost, ↓reduceIte, Nat.reduceEqDiff, Nat.reduceAdd, Nat.reduceSub, Nat.reduceLeDiff, Nat.zero_add, Nat.sub_zero, ynew, f0, f4, f7, f10, f11, f12, bin_rem (show p ≠ 0 by omega)]); try simp only [yback])
  exact hQ _ p1
theorem flat_at {w i k : Nat} {L : List (List Int)} (hw : Wid w L) (hi : i < L.length) (hk : k < w) : L.flatten.getD (i * w + k) 0 = (L.getD i []).getD k 0 := by
  have hf := flat_get hw hi
  have h1 := congrArg (fun l => l[k]?) hf
  simp only [List.getElem?_take, hk, if_true, List.getElem?_drop] at h1
  rw [List.getD_eq_getElem?_getD, h1]
  rfl
theorem allIn_flat {w : Nat} {p : Int} {L : List (List Int)} (hm : isMat p w L = true) : allIn p L.flatten = true := by
  simp only [allIn, List.all_eq_true, List.mem_flatten]
  rintro x ⟨r, hr, hx⟩
  simp only [isMat, List.all_eq_true, Bool.and_eq_true] at hm
  have := (hm r hr).2
  simp only [allIn, List.all_eq_true] at this
  exact this x hx
theorem isMat_wid {w : Nat} {p : Int} {L : List (List Int)} (hm : isMat p w L = true) : Wid w L := wid_of fun i hi => by
  have := (isMat_iff.1 hm i hi).1
  omega
theorem s_l01At {p : Int} {q : List Int} {rows : List (List Int)} {w : Nat} {v : Value} {h : AH} {Q : Value → AH → Prop} (hq : By 9 q) (hv : Rows h v rows) (hm : isMat p w rows = true) (hl : rows.length * w ≤ 9) (hp : 2 ≤ p ∧ p ≤ 5) (hw : 1 ≤ w)
    (hQ : ∀ h', h <+: h' → Q (I64 (dot q rows.flatten rows.flatten.length)) h') : WF S 134 [aggV .u8 q, v] h Q := by
  refine WF_fn (fn := c134) rfl rfl ?_
  unfold c134
  ((try simp (maxSteps := 3000000) (dsimp := false) (disch := first | omega | (simp only [len_new, len_put, len_kill]; omega)) only [↓ypre, ypost, ↓reduceIte, Nat.reduceEqDiff, Nat.reduceAdd, Nat.reduceSub, Nat.reduceLeDiff, Nat.zero_add, Nat.sub_zero, ynew, aggV, cel_all, cellsL_cel]); try simp only [yback])
  generalize hH1 : AH.new h _ = H1
  obtain ⟨hb1, p1, n1⟩ := new_facts hH1
  have hq1 := hq.1
  have hv1 := hv.pre p1
  have wd := isMat_wid hm
  have fl := flat_len wd
  have hn := allIn_flat hm
  have hrl : rows.length ≤ 9 := Nat.le_trans (Nat.le_mul_of_pos_right _ hw) hl
  ((try simp (maxSteps := 3000000) (dsimp := false) (disch := first | omega | (simp only [len_new, len_put, len_kill]; omega)) only [↓ypre, ypost, ↓reduceIte, Nat.reduceEqDiff, Nat.reduceAdd, Nat.reduceSub, Nat.reduceLeDiff, Nat.zero_add, Nat.sub_zero, ynew]); try simp only [yback])
  refine WC_loop_inv (fun m f K1 => ∃ (i : Nat), m = rows.length - i ∧ i ≤ rows.length ∧ f 1 = v ∧ f 2 = .pointer (some ⟨h.length, 0, none⟩) ∧ f 5 = I64 (dot q rows.flatten (i * w)) ∧ f 6 = I64 ((i * w : Nat) : Int) ∧ f 7 = I64 i ∧ (K1 = H1)) ?_ (rows.length - 0) _ _ ⟨0, rfl, by omega, (by first | rfl | (simp [upd_apply]; done)), (by first | rfl | (simp [upd_apply]; done)), (by first | rfl | (simp [upd_apply]; done)), (by first | rfl | (simp [upd_apply]; done)), (by first | rfl | (simp [upd_apply]; done)), rfl⟩
  rintro m f K1 ⟨i, rfl, hi, f1, f2, f5, f6, f7, hK⟩
  subst hK
  by_cases hlt : (i : Int) < rows.length
  · have hi' : i < rows.length := by omega
    obtain ⟨n0, off0, x0, hix0, hrd0, i0⟩ := hv1.row hi'
    have hwi : (rows.getD i []).length = w := by
      have := (isMat_iff.1 hm i hi').1
      omega
    have hmw := mul_row (w := w) hi'
    ((try simp (maxSteps := 3000000) (dsimp := false) (disch := first | omega | (simp only [len_new, len_put, len_kill]; omega)) only [↓ypre, ypost, ↓reduceIte, Nat.reduceEqDiff, Nat.reduceAdd, Nat.reduceSub, Nat.reduceLeDiff, Nat.zero_add, Nat.sub_zero, ynew, f1, f2, f5, f6, f7, hv1.len, decide_eq_true hlt]); try simp only [yback])
    refine WC_loop_inv (fun m f K2 => ∃ (k : Nat), m = w - k ∧ k ≤ w ∧ f 1 = v ∧ f 2 = .pointer (some ⟨h.length, 0, none⟩) ∧ f 5 = I64 (dot q rows.flatten (i * w + k)) ∧ f 6 = I64 ((i * w + k : Nat) : Int) ∧ f 7 = I64 i ∧ f 8 = I64 k ∧ (K2 = K1)) ?_ (w - 0) _ _ ⟨0, rfl, by omega, (by first | rfl | exact f1 | (simp [upd_apply]; done)), (by first | rfl | exact f2 | (simp [upd_apply]; done)), (by first | rfl | exact f5 | (simp [upd_apply]; done)), (by first | rfl | exact f6 | (simp [upd_apply]; done)), (by first | rfl | exact f7 | (simp [upd_apply]; done)), (by first | rfl | (simp [upd_apply]; done)), rfl⟩
    rintro m f K2 ⟨k, rfl, hk, f1, f2, f5, f6, f7, f8, hK2⟩
    subst hK2
    by_cases hlk : (k : Int) < w
    · have hk' : k < w := by omega
      obtain ⟨n1, off1, hix1, hrd1⟩ := i0.cell (j := k) (by omega)
      have fa := flat_at wd hi' hk'
      have g1 := cel_get (k := .u8) (q := q) (j := i * w + k) (by omega)
      have ixa := ixa_u (n := h.length) (off := 0) (len := 9) (kk := .i64) (j := i * w + k) (by omega)
      rw [Nat.zero_add] at ixa
      have b0 := dot_in hq hn hp (j := i * w + k) (by omega) (by omega)
      have b1 := dot_in hq hn hp (j := i * w + k + 1) (by omega) (by omega)
      have b2 := hq.2 (i * w + k) (by omega)
      have b3 := allIn_iff.1 hn (i * w + k) (by omega)
      simp only [dot] at b1
      rw [fa] at b1 b3
      have b4 : 0 ≤ q.getD (i * w + k) 0 * (rows.getD i []).getD k 0 := Int.mul_nonneg b2.1 b3.1
      have ed : dot q rows.flatten (i * w + k) + q.getD (i * w + k) 0 * (rows.getD i []).getD k 0 = dot q rows.flatten (i * w + k + 1) := by
        simp only [dot]
        rw [fa]
      have hlk2 : decide ((k : Int) < ((rows.getD i []).length : Int)) = true := decide_eq_true (by omega)
      ((try simp (maxSteps := 3000000) (dsimp := false) (disch := first | omega | (simp only [len_new, len_put, len_kill]; omega)) only [↓ypre, ypost, ↓reduceIte, Nat.reduceEqDiff, Nat.reduceAdd, Nat.reduceSub, Nat.reduceLeDiff, Nat.zero_add, Nat.sub_zero, ynew, f1, f2, f5, f6, f7, f8, hix0, hrd0, i0.len, hlk2, hix1, hrd1, ixa, rd1_of hb1, g1, wrap64_in]); try simp only [yback])
      rw [ed]
      refine InvQ_go (w - (k + 1)) (by omega) ⟨(k + 1), rfl, by omega, (by first | rfl | exact f1 | (simp only [upd_apply]; rfl) | (show I64 _ = _; congr 1; omega)), (by first | rfl | exact f2 | (simp only [upd_apply]; rfl) | (show I64 _ = _; congr 1; omega)), (by first | rfl | exact f5 | (simp only [upd_apply]; rfl) | (show I64 _ = _; congr 1; omega)), (by first | rfl | exact f6 | (simp only [upd_apply]; rfl) | (show I64 _ = _; congr 1; omega)), (by first | rfl | exact f7 | (simp only [upd_apply]; rfl) | (show I64 _ = _; congr 1; omega)), (by first | rfl | exact f8 | (simp only [upd_apply]; rfl) | (show I64 _ = _; congr 1; omega)), rfl⟩
    have ek : k = w := by omega
    subst ek
    have hlk2 : decide ((k : Int) < ((rows.getD i []).length : Int)) = false := decide_eq_false (by omega)
    ((try simp (maxSteps := 3000000) (dsimp := false) (disch := first | omega | (simp only [len_new, len_put, len_kill]; omega)) only [↓ypre, ypost, ↓reduceIte, Nat.reduceEqDiff, Nat.reduceAdd, Nat.reduceSub, Nat.reduceLeDiff, Nat.zero_add, Nat.sub_zero, ynew, f1, f2, f5, f6, f7, f8, hix0, hrd0, i0.len, hlk2, wrap64_in]); try simp only [yback])
    have es : i * k + k = (i + 1) * k := by rw [Nat.succ_mul]
    refine InvQ_go (rows.length - (i + 1)) (by omega) ⟨(i + 1), rfl, by omega, (by first | rfl | exact f1 | (simp only [upd_apply]; rfl) | (show I64 _ = _; congr 1; omega)), (by first | rfl | exact f2 | (simp only [upd_apply]; rfl) | (show I64 _ = _; congr 1; omega)), (by rw [← es]; exact f5), (by rw [← es]; exact f6), (by first | rfl | exact f7 | (simp only [upd_apply]; rfl) | (show I64 _ = _; congr 1; omega)), rfl⟩
  have ei : i = rows.length := by omega
  subst ei
  ((try simp (maxSteps := 3000000) (dsimp := false) (disch := first | omega | (simp only [len_new, len_put, len_kill]; omega)) only [↓ypre, ypost, ↓reduceIte, Nat.reduceEqDiff, Nat.reduceAdd, Nat.reduceSub, Nat.reduceLeDiff, Nat.zero_add, Nat.sub_zero, ynew, f1, f2, f5, f6, f7, hv1.len, decide_eq_false hlt]); try simp only [yback])
  rw [fl] at hQ
  exact hQ _ p1
end Go.Proofs.Ytilpnbejpndgpaa.X

/- Lists put together: the program's Concat. -/
set_option linter.unusedVariables false
set_option linter.unusedSimpArgs false
set_option maxRecDepth 20000
set_option maxHeartbeats 4000000
namespace Go.Proofs.Ytilpnbejpndgpaa.X
open Go Go.RowKit

theorem i_Grow {n : Int} {h : AH} {Q : Value → AH → Prop} (hn : 1 ≤ n ∧ n ≤ 1048576) (hQ : Q (sl h.length 0) (h.new ⟨[], 2, false, false⟩)) : WF S 138 [.slice none 0 0, I64 n] h Q := by
  refine WF_fn (fn := c138) rfl rfl ?_
  unfold c138
  ((try simp (maxSteps := 3000000) (dsimp := false) (disch := first | omega | (simp only [len_new, len_put, len_kill]; omega)) only [↓ypre, ypost, ↓reduceIte, Nat.reduceEqDiff, Nat.reduceAdd, Nat.reduceSub, Nat.reduceLeDiff, Nat.zero_add, Nat.sub_zero, ynew, decide_eq_false (show ¬ n < 0 by omega), capV_nil, show lenV (.slice none 0 0) = some (I64 0) from rfl, wrap64_in, Int.sub_zero, decide_eq_true (show (0 : Int) < n by omega), decide_eq_true (show n > 0 by omega)]); try simp only [yback])
  have s1 : slcV 1 (.slice none 0 0) none (some (I64 0)) = some (.slice none 0 0) := rfl
  ((try simp (maxSteps := 3000000) (dsimp := false) (disch := first | omega | (simp only [len_new, len_put, len_kill]; omega)) only [↓ypre, ypost, ↓reduceIte, Nat.reduceEqDiff, Nat.reduceAdd, Nat.reduceSub, Nat.reduceLeDiff, Nat.zero_add, Nat.sub_zero, ynew, omapF_none, omapF_some, s1]); try simp only [yback])
  have e1 : appzV 2 1 8 (.slice none 0 0) (I64 n) h = some (.slice (some ⟨h.length, 0, none⟩) n.toNat 1, h.new ⟨[], 2, false, false⟩) := by
    rw [appzV_nil, if_pos (by omega)]
  ((try simp (maxSteps := 3000000) (dsimp := false) (disch := first | omega | (simp only [len_new, len_put, len_kill]; omega)) only [↓ypre, ypost, ↓reduceIte, Nat.reduceEqDiff, Nat.reduceAdd, Nat.reduceSub, Nat.reduceLeDiff, Nat.zero_add, Nat.sub_zero, ynew, e1]); try simp only [yback])
  have s2 : slcV 1 (.slice (some ⟨h.length, 0, none⟩) n.toNat 1) none (some (.int .i64 ((0 : Nat) : Int))) = some (sl h.length 0) := by
    simp [slcV, boundV, sl]
  ((try simp (maxSteps := 3000000) (dsimp := false) (disch := first | omega | (simp only [len_new, len_put, len_kill]; omega)) only [↓ypre, ypost, ↓reduceIte, Nat.reduceEqDiff, Nat.reduceAdd, Nat.reduceSub, Nat.reduceLeDiff, Nat.zero_add, Nat.sub_zero, ynew, omapF_none, omapF_some, s2]); try simp only [yback])
  exact hQ
/-- A list appended onto a list of one's own. -/
theorem Lst.appL {H : AH} {n : Nat} {l ns : List Int} {full : Bool} {v : Value} (o : Lst H n l full) (hv : Ints H v ns) (h0 : 0 < ns.length) (hl : (l.length : Int) + ns.length ≤ 1048576) {Q : Value → AH → Prop}
    (hQ : ∀ H', H'.length = H.length + 1 → (∀ h0 : AH, h0.length ≤ n → h0 <+: H → h0 <+: H') → Lst H' H.length (l ++ ns) false → Q (sl H.length (l ++ ns).length) H') :
    OQ (appV 2 1 8 (sl n l.length) v H) Q := by
  obtain ⟨n', off, rfl, hr⟩ := hv.vals.rdn (by simpa using h0)
  rw [List.length_map] at hr
  have e : appV 2 1 8 (sl n l.length) (.slice (some ⟨n', off, none⟩) (ns.map (Value.int .i64)).length 1) H = some (sl H.length (l ++ ns).length, (H.kill n).new ⟨(l ++ ns).map (Value.int .i64), 2, false, false⟩) := by
    simp only [appV, xop, ev, sl, if_true, Nat.mul_one, List.length_map, hr]
    rw [if_pos (by omega), if_neg (by omega)]
    unfold Lst at o
    simp [o]
  rw [e, OQ_some]
  exact hQ _ (by rw [len_new, len_kill]) (fun h0 q p => pre_new (pre_kill p q)) (get_new_eq (by rw [len_kill]))
theorem i_Concat {v : Value} {L : List (List Int)} {w : Nat} {h : AH} {Q : Value → AH → Prop} (hv : Rows h v L) (hw : Wid w L) (h1 : 1 ≤ w ∧ w ≤ 1000) (h2 : 1 ≤ L.length ∧ L.length ≤ 1000)
    (hQ : ∀ n full h', h.length ≤ n → h <+: h' → Lst h' n L.flatten full → Q (sl n L.flatten.length) h') : WF S 105 [v] h Q := by
  refine WF_fn (fn := c105) rfl rfl ?_
  unfold c105
  have hwl : ∀ i, i < L.length → (L.getD i []).length = w := fun i hi => hw _ (by rw [List.getD_eq_getElem?_getD, List.getElem?_eq_getElem hi]; exact List.getElem_mem hi)
  have hLw : L.length * w ≤ 1000 * 1000 := Nat.mul_le_mul h2.2 h1.2
  have hLw1 : 1 * 1 ≤ L.length * w := Nat.mul_le_mul h2.1 h1.1
  ((try simp (maxSteps := 3000000) (dsimp := false) (disch := first | omega | (simp only [len_new, len_put, len_kill]; omega)) only [↓ypre, ypost, ↓reduceIte, Nat.reduceEqDiff, Nat.reduceAdd, Nat.reduceSub, Nat.reduceLeDiff, Nat.zero_add, Nat.sub_zero, ynew, hv.len]); try simp only [yback])
  refine WC_loop_inv (fun m f K1 => ∃ (i : Nat), m = L.length - i ∧ i ≤ L.length ∧ f 0 = v ∧ f 3 = I64 ((i * w : Nat) : Int) ∧ f 9 = v ∧ f 10 = I64 L.length ∧ f 11 = I64 i ∧ (K1 = h)) ?_ (L.length - 0) _ _ ⟨0, rfl, by omega, (by first | rfl | (simp [upd_apply]; done)), (by first | rfl | (simp [upd_apply]; done)), (by first | rfl | (simp [upd_apply]; done)), (by first | rfl | (simp [upd_apply]; done)), (by first | rfl | (simp [upd_apply]; done)), rfl⟩
  rintro m f K1 ⟨i, rfl, hi, f0, f3, f9, f10, f11, hK⟩
  subst hK
  by_cases hlt : (i : Int) < L.length
  · have hi' : i < L.length := by omega
    obtain ⟨n0, off0, x0, hix0, hrd0, i0⟩ := hv.row hi'
    have hm := mul_row (w := w) hi'
    have hc : (((i * w : Nat) : Int) + ((L.getD i []).length : Int)) = (((i + 1) * w : Nat) : Int) := by rw [hwl i hi', Nat.succ_mul]; omega
    have hb : ((i + 1) * w : Nat) ≤ 1000000 := by rw [Nat.succ_mul]; omega
    ((try simp (maxSteps := 3000000) (dsimp := false) (disch := first | omega | (simp only [len_new, len_put, len_kill]; omega)) only [↓ypre, ypost, ↓reduceIte, Nat.reduceEqDiff, Nat.reduceAdd, Nat.reduceSub, Nat.reduceLeDiff, Nat.zero_add, Nat.sub_zero, ynew, f0, f3, f9, f10, f11, decide_eq_true hlt, hix0, hrd0, i0.len, hc, wrap64_in, decide_eq_false (show ¬ (((i + 1) * w : Nat) : Int) < 0 by omega)]); try simp only [yback])
    refine InvQ_go (L.length - (i + 1)) (by omega) ⟨(i + 1), rfl, by omega, (by first | rfl | exact f0 | (simp only [upd_apply]; rfl) | (show I64 _ = _; congr 1; omega)), (by first | rfl | exact f3 | (simp only [upd_apply]; rfl) | (show I64 _ = _; congr 1; omega)), (by first | rfl | exact f9 | (simp only [upd_apply]; rfl) | (show I64 _ = _; congr 1; omega)), (by first | rfl | exact f10 | (simp only [upd_apply]; rfl) | (show I64 _ = _; congr 1; omega)), (by first | rfl | exact f11 | (simp only [upd_apply]; rfl) | (show I64 _ = _; congr 1; omega)), rfl⟩
  have ei : i = L.length := by omega
  subst ei
  ((try simp (maxSteps := 3000000) (dsimp := false) (disch := first | omega | (simp only [len_new, len_put, len_kill]; omega)) only [↓ypre, ypost, ↓reduceIte, Nat.reduceEqDiff, Nat.reduceAdd, Nat.reduceSub, Nat.reduceLeDiff, Nat.zero_add, Nat.sub_zero, ynew, f0, f3, f9, f10, f11, decide_eq_false hlt]); try simp only [yback])
  refine i_Grow (by omega) ?_
  generalize hH1 : AH.new K1 _ = H1
  obtain ⟨hb1, p1, n1⟩ := new_facts hH1
  have l0 : Lst H1 K1.length (L.take 0).flatten false := hb1
  ((try simp (maxSteps := 3000000) (dsimp := false) (disch := first | omega | (simp only [len_new, len_put, len_kill]; omega)) only [↓ypre, ypost, ↓reduceIte, Nat.reduceEqDiff, Nat.reduceAdd, Nat.reduceSub, Nat.reduceLeDiff, Nat.zero_add, Nat.sub_zero, ynew, f0, f3, f9, f10, f11, hv.len]); try simp only [yback])
  refine WC_loop_inv (fun m f K2 => ∃ (i : Nat) (kn : Nat) (fu : Bool), m = L.length - i ∧ i ≤ L.length ∧ f 6 = sl kn (L.take i).flatten.length ∧ f 25 = v ∧ f 26 = I64 L.length ∧ f 27 = I64 i ∧ (K1 <+: K2) ∧ (Lst K2 kn (L.take i).flatten fu) ∧ (K1.length ≤ kn)) ?_ (L.length - 0) _ _ ⟨0, K1.length, false, rfl, by omega, (by first | rfl | (simp [upd_apply]; done)), (by first | rfl | (simp [upd_apply]; done)), (by first | rfl | (simp [upd_apply]; done)), (by first | rfl | (simp [upd_apply]; done)), p1, l0, Nat.le_refl _⟩
  rintro m f K2 ⟨i, kn, fu, rfl, hi, f6, f25, f26, f27, pp, lo, hk⟩
  by_cases hlt : (i : Int) < L.length
  · have hi' : i < L.length := by omega
    obtain ⟨n0, off0, x0, hix0, hrd0, i0⟩ := (hv.pre pp).row hi'
    have et : (L.take i).flatten ++ L.getD i [] = (L.take (i + 1)).flatten := by
      rw [take_next (d := []) hi', List.flatten_append]
      simp
    have lt : (L.take i).flatten.length = i * w := by
      rw [flat_len (fun q hq => hw q (List.mem_of_mem_take hq)), List.length_take, Nat.min_eq_left (by omega)]
    have hm := mul_row (w := w) hi'
    have hwi := hwl i hi'
    ((try simp (maxSteps := 3000000) (dsimp := false) (disch := first | omega | (simp only [len_new, len_put, len_kill]; omega)) only [↓ypre, ypost, ↓reduceIte, Nat.reduceEqDiff, Nat.reduceAdd, Nat.reduceSub, Nat.reduceLeDiff, Nat.zero_add, Nat.sub_zero, ynew, f6, f25, f26, f27, decide_eq_true hlt, hix0, hrd0]); try simp only [yback])
    refine lo.appL i0 (by omega) (by omega) fun H5 l5 pre5 lo5 => ?_
    rw [et] at lo5 ⊢
    ((try simp (maxSteps := 3000000) (dsimp := false) (disch := first | omega | (simp only [len_new, len_put, len_kill]; omega)) only [↓ypre, ypost, ↓reduceIte, Nat.reduceEqDiff, Nat.reduceAdd, Nat.reduceSub, Nat.reduceLeDiff, Nat.zero_add, Nat.sub_zero, ynew, f6, f25, f26, f27, wrap64_in]); try simp only [yback])
    refine InvQ_go (L.length - (i + 1)) (by omega) ⟨(i + 1), K2.length, false, rfl, by omega, (by first | rfl | exact f6 | (simp only [upd_apply]; rfl) | (show I64 _ = _; congr 1; omega)), (by first | rfl | exact f25 | (simp only [upd_apply]; rfl) | (show I64 _ = _; congr 1; omega)), (by first | rfl | exact f26 | (simp only [upd_apply]; rfl) | (show I64 _ = _; congr 1; omega)), (by first | rfl | exact f27 | (simp only [upd_apply]; rfl) | (show I64 _ = _; congr 1; omega)), (pre5 _ hk pp), lo5, (by have := pre_len pp; omega)⟩
  have ei : i = L.length := by omega
  subst ei
  rw [List.take_of_length_le (Nat.le_refl _)] at lo f6
  ((try simp (maxSteps := 3000000) (dsimp := false) (disch := first | omega | (simp only [len_new, len_put, len_kill]; omega)) only [↓ypre, ypost, ↓reduceIte, Nat.reduceEqDiff, Nat.reduceAdd, Nat.reduceSub, Nat.reduceLeDiff, Nat.zero_add, Nat.sub_zero, ynew, f6, f25, f26, f27, decide_eq_false hlt]); try simp only [yback])
  exact hQ _ _ _ hk pp lo
end Go.Proofs.Ytilpnbejpndgpaa.X

/- MakeProduct: what products make, the program. -/
set_option linter.unusedVariables false
set_option linter.unusedSimpArgs false
set_option maxRecDepth 20000
set_option maxHeartbeats 4000000
namespace Go.Proofs.Ytilpnbejpndgpaa.X
open Go Go.RowKit

def mOK (x : Sch) (L R : List (List Int)) : Bool := (isMat x.p x.m L && decide ((L.length : Int) = x.n)) && (isMat x.p x.k R && decide ((R.length : Int) = x.m))
def mcX (x : Sch) (L R : List (List Int)) : Int := if isX x = true then (if mOK x L R = true then 0 else 2) else 1
theorem i_matricesCode {v u z : Value} {x : Sch} {L R : List (List Int)} {h : AH} {Q : Value → AH → Prop} (hv : Prods h v x.ps) (hl : SmallX x.ps) (hu : Rows h u L) (hL : SmallM L) (hz : Rows h z R) (hR : SmallM R)
    (hQ : ∀ h', h <+: h' → Q (I64 (mcX x L R)) h') : WF S 102 [schV x v, u, z] h Q := by
  refine WF_fn (fn := c102) rfl rfl ?_
  unfold c102
  ((try simp (maxSteps := 3000000) (dsimp := false) (disch := first | omega | (simp only [len_new, len_put, len_kill]; omega)) only [↓ypre, ypost, ↓reduceIte, Nat.reduceEqDiff, Nat.reduceAdd, Nat.reduceSub, Nat.reduceLeDiff, Nat.zero_add, Nat.sub_zero, ynew, schV, hv.one]); try simp only [yback])
  generalize hH1 : AH.new h _ = H1
  obtain ⟨hb1, p1, n1⟩ := new_facts hH1
  ((try simp (maxSteps := 3000000) (dsimp := false) (disch := first | omega | (simp only [len_new, len_put, len_kill]; omega)) only [↓ypre, ypost, ↓reduceIte, Nat.reduceEqDiff, Nat.reduceAdd, Nat.reduceSub, Nat.reduceLeDiff, Nat.zero_add, Nat.sub_zero, ynew, rdn_of hb1]); try simp only [yback])
  refine i_IsScheme (x := x) (hv.pre p1) hl fun H2 p2 => ?_
  have p12 := p1.trans p2
  have hb2 := pre_get p2 hb1
  have hQ2 := hQ _ p12
  unfold mcX at hQ2
  cases h1 : isX x with
  | false =>
    rw [h1, if_neg (by decide)] at hQ2
    ((try simp (maxSteps := 3000000) (dsimp := false) (disch := first | omega | (simp only [len_new, len_put, len_kill]; omega)) only [↓ypre, ypost, ↓reduceIte, Nat.reduceEqDiff, Nat.reduceAdd, Nat.reduceSub, Nat.reduceLeDiff, Nat.zero_add, Nat.sub_zero, ynew]); try simp only [yback])
    exact hQ2
  | true =>
    rw [h1, if_pos rfl] at hQ2
    unfold mOK at hQ2
    ((try simp (maxSteps := 3000000) (dsimp := false) (disch := first | omega | (simp only [len_new, len_put, len_kill]; omega)) only [↓ypre, ypost, ↓reduceIte, Nat.reduceEqDiff, Nat.reduceAdd, Nat.reduceSub, Nat.reduceLeDiff, Nat.zero_add, Nat.sub_zero, ynew, rd1_of hb2]); try simp only [yback])
    refine i_isMatrix (hu.pre p12) hL.1 hL.2.1 ?_
    cases h2 : (isMat x.p x.m L && decide ((L.length : Int) = x.n)) with
    | false =>
      rw [h2, Bool.false_and, if_neg (by decide)] at hQ2
      ((try simp (maxSteps := 3000000) (dsimp := false) (disch := first | omega | (simp only [len_new, len_put, len_kill]; omega)) only [↓ypre, ypost, ↓reduceIte, Nat.reduceEqDiff, Nat.reduceAdd, Nat.reduceSub, Nat.reduceLeDiff, Nat.zero_add, Nat.sub_zero, ynew]); try simp only [yback])
      exact hQ2
    | true =>
      rw [h2, Bool.true_and] at hQ2
      ((try simp (maxSteps := 3000000) (dsimp := false) (disch := first | omega | (simp only [len_new, len_put, len_kill]; omega)) only [↓ypre, ypost, ↓reduceIte, Nat.reduceEqDiff, Nat.reduceAdd, Nat.reduceSub, Nat.reduceLeDiff, Nat.zero_add, Nat.sub_zero, ynew, rd1_of hb2]); try simp only [yback])
      refine i_isMatrix (hz.pre p12) hR.1 hR.2.1 ?_
      cases h3 : (isMat x.p x.k R && decide ((R.length : Int) = x.m)) with
      | false =>
        rw [h3, if_neg (by decide)] at hQ2
        ((try simp (maxSteps := 3000000) (dsimp := false) (disch := first | omega | (simp only [len_new, len_put, len_kill]; omega)) only [↓ypre, ypost, ↓reduceIte, Nat.reduceEqDiff, Nat.reduceAdd, Nat.reduceSub, Nat.reduceLeDiff, Nat.zero_add, Nat.sub_zero, ynew]); try simp only [yback])
        exact hQ2
      | true =>
        rw [h3, if_pos rfl] at hQ2
        ((try simp (maxSteps := 3000000) (dsimp := false) (disch := first | omega | (simp only [len_new, len_put, len_kill]; omega)) only [↓ypre, ypost, ↓reduceIte, Nat.reduceEqDiff, Nat.reduceAdd, Nat.reduceSub, Nat.reduceLeDiff, Nat.zero_add, Nat.sub_zero, ynew]); try simp only [yback])
        exact hQ2

def valI (p : Int) (l r q : List Int) : Int := (dot (seg q 0) l l.length).tmod p * (dot (seg q 1) r r.length).tmod p
def stM (p : Int) (l r : List Int) (ps : List (List Int)) : Nat → Nat → Int
  | 0, _ => 0
  | t + 1, j => (stM p l r ps t j + (ps.getD t []).getD (18 + j) 0 * valI p l r (ps.getD t [])).tmod p
theorem valI_in {p : Int} {l r q : List Int} (hp : 2 ≤ p ∧ p ≤ 5) (hq : By 27 q) (hl : l.length ≤ 9) (hr : r.length ≤ 9) (al : allIn p l = true) (ar : allIn p r = true) : 0 ≤ valI p l r q ∧ valI p l r q ≤ 16 := by
  have d1 := dot_in (hq.seg (i := 0) (by omega)) al hp (Nat.le_refl _) hl
  have d2 := dot_in (hq.seg (i := 1) (by omega)) ar hp (Nat.le_refl _) hr
  have t1 := tmod_nn (J := p) d1.1 (by omega)
  have t2 := tmod_nn (J := p) d2.1 (by omega)
  refine ⟨Int.mul_nonneg t1.1 t2.1, ?_⟩
  have : valI p l r q ≤ 4 * 4 := Int.le_trans (Int.mul_le_mul_of_nonneg_right (show _ ≤ (4 : Int) by omega) t2.1) (Int.mul_le_mul_of_nonneg_left (by omega) (by decide))
  omega
theorem stM_in {p : Int} {l r : List Int} {ps : List (List Int)} (hp : 2 ≤ p ∧ p ≤ 5) (hps : Byt 27 ps) (hw : Wid 27 ps) (hl : l.length ≤ 9) (hr : r.length ≤ 9) (al : allIn p l = true) (ar : allIn p r = true) : ∀ {t : Nat}, t ≤ ps.length → ∀ j, j < 9 → 0 ≤ stM p l r ps t j ∧ stM p l r ps t j < p
  | 0, _, j, _ => by simp only [stM]; omega
  | t + 1, ht, j, hj => by
    have ih := stM_in hp hps hw hl hr al ar (t := t) (by omega) j hj
    have hq : By 27 (ps.getD t []) := ⟨hw _ (by rw [List.getD_eq_getElem?_getD, List.getElem?_eq_getElem (by omega)]; exact List.getElem_mem _), fun i hi => hps t (by omega) i hi⟩
    have v := valI_in hp hq hl hr al ar
    have c := hq.2 (18 + j) (by omega)
    have m := Int.mul_nonneg c.1 v.1
    simp only [stM]
    exact tmod_nn (by omega) (by omega)
theorem gen_set {N c : Nat} {f g : Nat → Int} (hc : c < N) (x : Int) (hx : x = f c) : (gen N fun j => if j < c then f j else g j).set c x = gen N fun j => if j < c + 1 then f j else g j := by
  refine gen_ext (by rw [List.length_set, gen_len]) fun j hj => ?_
  rw [List.getD_eq_getElem?_getD, List.getElem?_set]
  by_cases e : c = j
  · subst e
    rw [if_pos rfl, if_pos (by rw [gen_len]; exact hc), if_pos (by omega), hx]
    rfl
  · rw [if_neg e, ← List.getD_eq_getElem?_getD, gen_get hj]
    by_cases h1 : j < c
    · rw [if_pos h1, if_pos (by omega)]
    · rw [if_neg h1, if_neg (by omega)]
theorem zrep_gen : ∀ {N : Nat}, zrep N [I64 0] = (gen N fun _ => 0).map (Value.int .i64)
  | 0 => rfl
  | N + 1 => by
    have e : (gen (N + 1) fun _ => (0 : Int)) = 0 :: gen N fun _ => 0 := by
      refine (gen_ext (by simp [gen_len]) fun i hi => ?_).symm
      cases i with
      | zero => rfl
      | succ i =>
        rw [List.getD_cons_succ, gen_get (by omega)]
    rw [e, zrep, zrep_gen (N := N)]
    rfl
theorem mks_gen {N : Nat} {h : AH} (hN : N ≤ 1000000) : mksV 2 1 8 [I64 0] (I64 N) h = some (sl h.length N, h.new ⟨(gen N fun _ => 0).map (Value.int .i64), 2, false, true⟩) := by
  rw [mksV_int, if_pos (by omega), Int.toNat_natCast, zrep_gen]
  rfl
theorem i_makes {p : Int} {N : Nat} {v u z : Value} {l r : List Int} {ps : List (List Int)} {h : AH} {Q : Value → AH → Prop} (hv : Prods h v ps) (hl : ps.length ≤ 30) (hp : 2 ≤ p ∧ p ≤ 5) (ll : l.length ≤ 9) (lr : r.length ≤ 9) (al : allIn p l = true) (ar : allIn p r = true)
    (hN : 1 ≤ N ∧ N ≤ 9) (hu : Ints h u l) (hz : Ints h z r) (hQ : ∀ n full h', h.length ≤ n → h <+: h' → Lst h' n (gen N (stM p l r ps ps.length)) full → Q (sl n N) h') : WF S 104 [I64 p, v, I64 N, u, z] h Q := by
  refine WF_fn (fn := c104) rfl rfl ?_
  unfold c104
  ((try simp (maxSteps := 3000000) (dsimp := false) (disch := first | omega | (simp only [len_new, len_put, len_kill]; omega)) only [↓ypre, ypost, ↓reduceIte, Nat.reduceEqDiff, Nat.reduceAdd, Nat.reduceSub, Nat.reduceLeDiff, Nat.zero_add, Nat.sub_zero, ynew, mks_gen (N := N) (h := h) (by omega)]); try simp only [yback])
  generalize hH1 : AH.new h _ = H1
  obtain ⟨hb1, p1, n1⟩ := new_facts hH1
  have lo0 : Lst H1 h.length (gen N (stM p l r ps 0)) true := hb1
  have z27 := zeros27
  ((try simp (maxSteps := 3000000) (dsimp := false) (disch := first | omega | (simp only [len_new, len_put, len_kill]; omega)) only [↓ypre, ypost, ↓reduceIte, Nat.reduceEqDiff, Nat.reduceAdd, Nat.reduceSub, Nat.reduceLeDiff, Nat.zero_add, Nat.sub_zero, ynew, hv.1.len]); try simp only [yback])
  refine WC_loop_inv (fun m f K1 => ∃ (t : Nat), m = ps.length - t ∧ t ≤ ps.length ∧ f 0 = I64 p ∧ f 3 = u ∧ f 4 = z ∧ f 11 = sl h.length N ∧ f 18 = v ∧ f 19 = I64 ps.length ∧ f 20 = I64 t ∧ (h <+: K1) ∧ (Lst K1 h.length (gen N (stM p l r ps t)) true)) ?_ (ps.length - 0) _ _ ⟨0, rfl, by omega, (by first | rfl | (simp [upd_apply]; done)), (by first | rfl | (simp [upd_apply]; done)), (by first | rfl | (simp [upd_apply]; done)), (by first | rfl | (simp [upd_apply]; done)), (by first | rfl | (simp [upd_apply]; done)), (by first | rfl | (simp [upd_apply]; done)), (by first | rfl | (simp [upd_apply]; done)), p1, lo0⟩
  rintro m f K1 ⟨t, rfl, ht, f0, f3, f4, f11, f18, f19, f20, pp, lo⟩
  have kh := pre_len pp
  have klt := lo.lt
  by_cases hlt : (t : Int) < ps.length
  · have hj' : t < ps.length := by omega
    have hvK := hv.pre pp
    obtain ⟨n5', off5, hix, hrn, hr1⟩ := hvK.1.at hj'
    have r27 := hrn 0 27 (by omega)
    have wi := hvK.1.wid hj'
    have hby := hvK.by hj'
    have tk : (ps.getD t []).take 27 = ps.getD t [] := List.take_of_length_le (by omega)
    rw [List.drop_zero, tk, Nat.add_zero] at r27
    have sin := stM_in hp hv.2 hvK.1.widL ll lr al ar (t := t) ht
    have stn : ∀ j, stM p l r ps (t + 1) j = (stM p l r ps t j + (ps.getD t []).getD (18 + j) 0 * valI p l r (ps.getD t [])).tmod p := fun _ => rfl
    generalize hq : ps.getD t [] = q at *
    have w1 : ∀ (h1 : AH) (e : TypeId), (h1.new ⟨[.int .u8 0, .int .u8 0, .int .u8 0, .int .u8 0, .int .u8 0, .int .u8 0, .int .u8 0, .int .u8 0, .int .u8 0, .int .u8 0, .int .u8 0, .int .u8 0, .int .u8 0, .int .u8 0, .int .u8 0, .int .u8 0, .int .u8 0, .int .u8 0, .int .u8 0, .int .u8 0, .int .u8 0, .int .u8 0, .int .u8 0, .int .u8 0, .int .u8 0, .int .u8 0, .int .u8 0], e, false, true⟩).wr h1.length 0 (cel .u8 q) = some (h1.new ⟨cel .u8 q, e, false, true⟩) := fun h1 e => wr_all (by rw [cel_len, wi]; rfl)
    ((try simp (maxSteps := 3000000) (dsimp := false) (disch := first | omega | (simp only [len_new, len_put, len_kill]; omega)) only [↓ypre, ypost, ↓reduceIte, Nat.reduceEqDiff, Nat.reduceAdd, Nat.reduceSub, Nat.reduceLeDiff, Nat.zero_add, Nat.sub_zero, ynew, f0, f3, f4, f11, f18, f19, f20, decide_eq_true hlt, hix, r27, cel_all, cellsL_cel, cel_len, wi, ↓w1, cel_take, tk, wrap64_in]); try simp only [yback])
    have s0 : Value.agg (cel .u8 (q.take 9)).toArray = aggV .u8 (seg q 0) := by simp [aggV, seg]
    have s1 : Value.agg (cel .u8 ((q.drop 9).take 9)).toArray = aggV .u8 (seg q 1) := by simp [aggV, seg]
    rw [s0]
    generalize hH3 : AH.new K1 _ = H3
    obtain ⟨hb3, p3, n3⟩ := new_facts hH3
    refine i_atF (hby.seg (by omega)) (hu.pre (pp.trans p3)) ll al hp fun H4 p4 => ?_
    have hb4 := pre_get p4 hb3
    refine ⟨p4, ?_⟩
    ((try simp (maxSteps := 3000000) (dsimp := false) (disch := first | omega | (simp only [len_new, len_put, len_kill]; omega)) only [↓ypre, ypost, ↓reduceIte, Nat.reduceEqDiff, Nat.reduceAdd, Nat.reduceSub, Nat.reduceLeDiff, Nat.zero_add, Nat.sub_zero, ynew, f0, f3, f4, f11, f18, f19, f20, rdn_of hb4, cel_len, wi, cel_drop, cel_take]); try simp only [yback])
    rw [s1]
    refine i_atF (hby.seg (by omega)) (hz.pre (pp.trans (p3.trans p4))) lr ar hp fun H5 p5 => ?_
    have p35 := p3.trans (p4.trans p5)
    have hb5 := pre_get p5 hb4
    have vin := valI_in hp hby ll lr al ar
    have evq : (dot (seg q 0) l l.length).tmod p * (dot (seg q 1) r r.length).tmod p = valI p l r q := rfl
    have l5 := lo.pre p35
    have k5 := pre_len p35
    ((try simp (maxSteps := 3000000) (dsimp := false) (disch := first | omega | (simp only [len_new, len_put, len_kill]; omega)) only [↓ypre, ypost, ↓reduceIte, Nat.reduceEqDiff, Nat.reduceAdd, Nat.reduceSub, Nat.reduceLeDiff, Nat.zero_add, Nat.sub_zero, ynew, f0, f3, f4, f11, f18, f19, f20, wrap64_in, evq, show lenV (sl h.length N) = some (I64 N) from rfl]); try simp only [yback])
    have mx0 : gen N (stM p l r ps t) = gen N fun j => if j < 0 then stM p l r ps (t + 1) j else stM p l r ps t j := gen_congr fun j _ => by rw [if_neg (by omega)]
    rw [mx0] at l5
    refine WC_loop_inv (fun m f K2 => ∃ (c : Nat), m = N - c ∧ c ≤ N ∧ f 0 = I64 p ∧ f 3 = u ∧ f 4 = z ∧ f 11 = sl h.length N ∧ f 18 = v ∧ f 19 = I64 ps.length ∧ f 20 = I64 t ∧ f 13 = .pointer (some ⟨K1.length, 0, none⟩) ∧ f 14 = I64 (valI p l r q) ∧ f 36 = I64 N ∧ f 37 = I64 c ∧ (h <+: K2) ∧ (Lst K2 h.length (gen N fun j => if j < c then stM p l r ps (t + 1) j else stM p l r ps t j) true) ∧ (∃ e, K2.get K1.length = some ⟨cel .u8 q, e, false, true⟩)) ?_ (N - 0) _ _ ⟨0, rfl, by omega, (by first | rfl | exact f0 | (simp [upd_apply]; done)), (by first | rfl | exact f3 | (simp [upd_apply]; done)), (by first | rfl | exact f4 | (simp [upd_apply]; done)), (by first | rfl | exact f11 | (simp [upd_apply]; done)), (by first | rfl | exact f18 | (simp [upd_apply]; done)), (by first | rfl | exact f19 | (simp [upd_apply]; done)), (by first | rfl | exact f20 | (simp [upd_apply]; done)), (by first | rfl | (simp [upd_apply]; done)), (by first | rfl | (simp [upd_apply]; done)), (by first | rfl | (simp [upd_apply]; done)), (by first | rfl | (simp [upd_apply]; done)), pp.trans p35, l5, ⟨_, hb5⟩⟩
    rintro m f K2 ⟨c, rfl, hc, f0, f3, f4, f11, f18, f19, f20, f13, f14, f36, f37, p2, l2, b2⟩
    obtain ⟨e2, b2⟩ := b2
    by_cases hlc : (c : Int) < N
    · have hc' : c < N := by omega
      have ixd : ixsV 1 (sl h.length N) (I64 c) = some (.pointer (some ⟨h.length, c, none⟩)) := by
        rw [Lst.ix (by omega), Int.toNat_natCast]
      have rd := l2.rd (j := c) (by rw [gen_len]; exact hc')
      rw [gen_get hc', if_neg (Nat.lt_irrefl _)] at rd
      have g1 := cel_get (k := .u8) (q := q) (j := 18 + c) (by omega)
      have ixa := ixa_u (n := K1.length) (off := 18) (len := 9) (kk := .i64) (j := c) (by omega)
      have c1 := hby.2 (18 + c) (by omega)
      have c2 := sin c (by omega)
      have c3 := Int.mul_nonneg c1.1 vin.1
      have c4 : q.getD (18 + c) 0 * valI p l r q ≤ 255 * 16 := Int.le_trans (Int.mul_le_mul_of_nonneg_right c1.2 vin.1) (Int.mul_le_mul_of_nonneg_left vin.2 (by decide))
      obtain ⟨H6, w6, e6, l6⟩ := l2.wr (j := c) (x := (stM p l r ps t c + q.getD (18 + c) 0 * valI p l r q).tmod p) (by rw [gen_len]; exact hc')
      rw [gen_set hc' _ (by rw [stn])] at l6
      ((try simp (maxSteps := 3000000) (dsimp := false) (disch := first | omega | (simp only [len_new, len_put, len_kill]; omega)) only [↓ypre, ypost, ↓reduceIte, Nat.reduceEqDiff, Nat.reduceAdd, Nat.reduceSub, Nat.reduceLeDiff, Nat.zero_add, Nat.sub_zero, ynew, f0, f3, f4, f11, f18, f19, f20, f13, f14, f36, f37, decide_eq_true hlc, ixd, rd, ixa, rd1_of b2, g1, wrap64_in, bin_rem (show p ≠ 0 by omega), w6]); try simp only [yback])
      have b6 : ∃ e, H6.get K1.length = some ⟨cel .u8 q, e, false, true⟩ := ⟨e2, by rw [e6, get_put_ne (by omega)]; exact b2⟩
      refine InvQ_go (N - (c + 1)) (by omega) ⟨(c + 1), rfl, by omega, (by first | rfl | exact f0 | (simp only [upd_apply]; rfl) | (show I64 _ = _; congr 1; omega)), (by first | rfl | exact f3 | (simp only [upd_apply]; rfl) | (show I64 _ = _; congr 1; omega)), (by first | rfl | exact f4 | (simp only [upd_apply]; rfl) | (show I64 _ = _; congr 1; omega)), (by first | rfl | exact f11 | (simp only [upd_apply]; rfl) | (show I64 _ = _; congr 1; omega)), (by first | rfl | exact f18 | (simp only [upd_apply]; rfl) | (show I64 _ = _; congr 1; omega)), (by first | rfl | exact f19 | (simp only [upd_apply]; rfl) | (show I64 _ = _; congr 1; omega)), (by first | rfl | exact f20 | (simp only [upd_apply]; rfl) | (show I64 _ = _; congr 1; omega)), (by first | rfl | exact f13 | (simp only [upd_apply]; rfl) | (show I64 _ = _; congr 1; omega)), (by first | rfl | exact f14 | (simp only [upd_apply]; rfl) | (show I64 _ = _; congr 1; omega)), (by first | rfl | exact f36 | (simp only [upd_apply]; rfl) | (show I64 _ = _; congr 1; omega)), (by first | rfl | exact f37 | (simp only [upd_apply]; rfl) | (show I64 _ = _; congr 1; omega)), (by rw [e6]; exact pre_put p2 (Nat.le_refl _)), l6, b6⟩
    have ec : c = N := by omega
    subst ec
    ((try simp (maxSteps := 3000000) (dsimp := false) (disch := first | omega | (simp only [len_new, len_put, len_kill]; omega)) only [↓ypre, ypost, ↓reduceIte, Nat.reduceEqDiff, Nat.reduceAdd, Nat.reduceSub, Nat.reduceLeDiff, Nat.zero_add, Nat.sub_zero, ynew, f0, f3, f4, f11, f18, f19, f20, f13, f14, f36, f37, decide_eq_false hlc, wrap64_in]); try simp only [yback])
    rw [gen_congr (g' := stM p l r ps (t + 1)) (fun j hj => by rw [if_pos hj])] at l2
    refine InvQ_go (ps.length - (t + 1)) (by omega) ⟨(t + 1), rfl, by omega, (by first | rfl | exact f0 | (simp only [upd_apply]; rfl) | (show I64 _ = _; congr 1; omega)), (by first | rfl | exact f3 | (simp only [upd_apply]; rfl) | (show I64 _ = _; congr 1; omega)), (by first | rfl | exact f4 | (simp only [upd_apply]; rfl) | (show I64 _ = _; congr 1; omega)), (by first | rfl | exact f11 | (simp only [upd_apply]; rfl) | (show I64 _ = _; congr 1; omega)), (by first | rfl | exact f18 | (simp only [upd_apply]; rfl) | (show I64 _ = _; congr 1; omega)), (by first | rfl | exact f19 | (simp only [upd_apply]; rfl) | (show I64 _ = _; congr 1; omega)), (by first | rfl | exact f20 | (simp only [upd_apply]; rfl) | (show I64 _ = _; congr 1; omega)), p2, l2⟩
  have et : t = ps.length := by omega
  subst et
  ((try simp (maxSteps := 3000000) (dsimp := false) (disch := first | omega | (simp only [len_new, len_put, len_kill]; omega)) only [↓ypre, ypost, ↓reduceIte, Nat.reduceEqDiff, Nat.reduceAdd, Nat.reduceSub, Nat.reduceLeDiff, Nat.zero_add, Nat.sub_zero, ynew, f0, f3, f4, f11, f18, f19, f20, decide_eq_false hlt]); try simp only [yback])
  exact hQ _ _ _ (Nat.le_refl _) pp lo
end Go.Proofs.Ytilpnbejpndgpaa.X

/- MakeProduct, the program. -/
set_option linter.unusedVariables false
set_option linter.unusedSimpArgs false
set_option maxRecDepth 20000
set_option maxHeartbeats 4000000
namespace Go.Proofs.Ytilpnbejpndgpaa.X
open Go Go.RowKit

theorem mcX_0 {x : Sch} {L R : List (List Int)} (h : mcX x L R = 0) : isX x = true ∧ isMat x.p x.m L = true ∧ (L.length : Int) = x.n ∧ isMat x.p x.k R = true ∧ (R.length : Int) = x.m := by
  unfold mcX at h
  split at h
  · rename_i h1
    split at h
    · rename_i h2
      simp only [mOK, Bool.and_eq_true, decide_eq_true_eq] at h2
      exact ⟨h1, h2.1.1, h2.1.2, h2.2.1, h2.2.2⟩
    · omega
  · omega
/-- The sizes of a scheme and of its matrices, as natural numbers. -/
structure MF (x : Sch) (L R : List (List Int)) (n m k : Nat) : Prop where
  en : x.n = n
  em : x.m = m
  ek : x.k = k
  b : 1 ≤ n ∧ n ≤ 3 ∧ 1 ≤ m ∧ m ≤ 3 ∧ 1 ≤ k ∧ k ≤ 3
  nk : 1 ≤ n * k ∧ n * k ≤ 9
  wL : Wid m L
  wR : Wid k R
  lL : L.length = n
  lR : R.length = m
  fL : L.flatten.length ≤ 9
  fR : R.flatten.length ≤ 9
  aL : allIn x.p L.flatten = true
  aR : allIn x.p R.flatten = true
  hm : isMat x.p m L = true
  hr : isMat x.p k R = true
theorem mf_of {x : Sch} {L R : List (List Int)} (h : mcX x L R = 0) : ∃ n m k, MF x L R n m k := by
  obtain ⟨hx, m1, l1, m2, l2⟩ := mcX_0 h
  obtain ⟨zz, hp, hl30, ho⟩ := isX_facts hx
  obtain ⟨p, ⟨n1, n2⟩, ⟨k1, k2⟩, ⟨j1, j2⟩, _, _, _⟩ := zz
  obtain ⟨n, hn⟩ : ∃ n : Nat, x.n = n := ⟨x.n.toNat, by omega⟩
  obtain ⟨m, hm⟩ : ∃ m : Nat, x.m = m := ⟨x.m.toNat, by omega⟩
  obtain ⟨k, hk⟩ : ∃ k : Nat, x.k = k := ⟨x.k.toNat, by omega⟩
  rw [hm] at m1
  rw [hk] at m2
  have wL := isMat_wid m1
  have wR := isMat_wid m2
  have b1 : n * m ≤ 3 * 3 := Nat.mul_le_mul (by omega) (by omega)
  have b2 : m * k ≤ 3 * 3 := Nat.mul_le_mul (by omega) (by omega)
  have b3 : n * k ≤ 3 * 3 := Nat.mul_le_mul (by omega) (by omega)
  have b4 : 1 * 1 ≤ n * k := Nat.mul_le_mul (by omega) (by omega)
  have lL : L.length = n := by omega
  have lR : R.length = m := by omega
  exact ⟨n, m, k, hn, hm, hk, by omega, by omega, wL, wR, lL, lR, by rw [flat_len wL, lL]; omega, by rw [flat_len wR, lR]; omega, allIn_flat m1, allIn_flat m2, m1, m2⟩
def mpF (x : Sch) (L R : List (List Int)) : List (List Int) := parts (gen (x.n * x.k).toNat (stM x.p L.flatten R.flatten x.ps x.ps.length)) x.k.toNat x.n.toNat
def mpR (x : Sch) (L R : List (List Int)) : List (List Int) × Int := if mcX x L R = 0 then (mpF x L R, 0) else ([], mcX x L R)
theorem i_MakeProduct {v u z : Value} {x : Sch} {L R : List (List Int)} {h : AH} {Q : Value → AH → Prop} (hv : Prods h v x.ps) (hl : SmallX x.ps) (hu : Rows h u L) (hL : SmallM L) (hz : Rows h z R) (hR : SmallM R)
    (hQ : ∀ v' h', h <+: h' → OwnRows h h' v' (mpR x L R).1 → Q (.tuple #[v', I64 (mpR x L R).2]) h') : WF S 52 [schV x v, u, z] h Q := by
  refine WF_fn (fn := c52) rfl rfl ?_
  unfold c52
  ((try simp (maxSteps := 3000000) (dsimp := false) (disch := first | omega | (simp only [len_new, len_put, len_kill]; omega)) only [↓ypre, ypost, ↓reduceIte, Nat.reduceEqDiff, Nat.reduceAdd, Nat.reduceSub, Nat.reduceLeDiff, Nat.zero_add, Nat.sub_zero, ynew, schV, hv.one]); try simp only [yback])
  generalize hH1 : AH.new h _ = H1
  obtain ⟨hb1, p1, n1⟩ := new_facts hH1
  ((try simp (maxSteps := 3000000) (dsimp := false) (disch := first | omega | (simp only [len_new, len_put, len_kill]; omega)) only [↓ypre, ypost, ↓reduceIte, Nat.reduceEqDiff, Nat.reduceAdd, Nat.reduceSub, Nat.reduceLeDiff, Nat.zero_add, Nat.sub_zero, ynew, rdn_of hb1]); try simp only [yback])
  refine i_matricesCode (x := x) (hv.pre p1) hl (hu.pre p1) hL (hz.pre p1) hR fun H2 p2 => ?_
  have p12 := p1.trans p2
  have hb2 := pre_get p2 hb1
  unfold mpR at hQ
  by_cases hc : mcX x L R = 0
  case neg =>
    rw [if_neg hc] at hQ
    ((try simp (maxSteps := 3000000) (dsimp := false) (disch := first | omega | (simp only [len_new, len_put, len_kill]; omega)) only [↓ypre, ypost, ↓reduceIte, Nat.reduceEqDiff, Nat.reduceAdd, Nat.reduceSub, Nat.reduceLeDiff, Nat.zero_add, Nat.sub_zero, ynew, decide_eq_true (show mcX x L R ≠ 0 from hc)]); try simp only [yback])
    exact hQ _ _ p12 (.inl ⟨rfl, rfl⟩)
  rw [if_pos hc] at hQ
  obtain ⟨hx, _⟩ := mcX_0 hc
  obtain ⟨zz, hp, hl30, ho⟩ := isX_facts hx
  have hp5 := isP_in hp
  obtain ⟨n, m, k, mf⟩ := mf_of hc
  have b := mf.b
  have nk := mf.nk
  have lL := mf.lL
  have lR := mf.lR
  ((try simp (maxSteps := 3000000) (dsimp := false) (disch := first | omega | (simp only [len_new, len_put, len_kill]; omega)) only [↓ypre, ypost, ↓reduceIte, Nat.reduceEqDiff, Nat.reduceAdd, Nat.reduceSub, Nat.reduceLeDiff, Nat.zero_add, Nat.sub_zero, ynew, decide_eq_false (show ¬ mcX x L R ≠ 0 from fun y => y hc), rd1_of hb2]); try simp only [yback])
  refine i_Concat (hu.pre p12) mf.wL (by omega) (by omega) fun nl fl H3 e3 p3 o3 => ?_
  refine ⟨p3, ?_⟩
  ((try simp (maxSteps := 3000000) (dsimp := false) (disch := first | omega | (simp only [len_new, len_put, len_kill]; omega)) only [↓ypre, ypost, ↓reduceIte, Nat.reduceEqDiff, Nat.reduceAdd, Nat.reduceSub, Nat.reduceLeDiff, Nat.zero_add, Nat.sub_zero, ynew]); try simp only [yback])
  refine i_Concat (hz.pre (p12.trans p3)) mf.wR (by omega) (by omega) fun nr fr H4 e4 p4 o4 => ?_
  refine ⟨p4, ?_⟩
  have enk : IntKind.i64.wrap (x.n * x.k) = ((n * k : Nat) : Int) := by
    rw [mf.en, mf.ek, ← Int.natCast_mul, wrap64_in (by omega) (by omega)]
  ((try simp (maxSteps := 3000000) (dsimp := false) (disch := first | omega | (simp only [len_new, len_put, len_kill]; omega)) only [↓ypre, ypost, ↓reduceIte, Nat.reduceEqDiff, Nat.reduceAdd, Nat.reduceSub, Nat.reduceLeDiff, Nat.zero_add, Nat.sub_zero, ynew, enk]); try simp only [yback])
  have p14 := p12.trans (p3.trans p4)
  refine i_makes (N := n * k) (hv.pre p14) hl30 hp5 mf.fL mf.fR mf.aL mf.aR nk (o3.pre p4).ints o4.ints fun no fo H5 e5 p5 o5 => ?_
  refine ⟨p5, ?_⟩
  have hb5 := pre_get (p3.trans (p4.trans p5)) hb2
  ((try simp (maxSteps := 3000000) (dsimp := false) (disch := first | omega | (simp only [len_new, len_put, len_kill]; omega)) only [↓ypre, ypost, ↓reduceIte, Nat.reduceEqDiff, Nat.reduceAdd, Nat.reduceSub, Nat.reduceLeDiff, Nat.zero_add, Nat.sub_zero, ynew, rd1_of hb5]); try simp only [yback])
  rw [mf.ek]
  have gl := gen_len (N := n * k) (g := stM x.p L.flatten R.flatten x.ps x.ps.length)
  have oi := o5.ints
  rw [gl] at oi
  refine i_parted (w := k) (n := n) oi (by omega) (by omega) (by omega) fun v6 H6 p6 o6 => ?_
  ((try simp (maxSteps := 3000000) (dsimp := false) (disch := first | omega | (simp only [len_new, len_put, len_kill]; omega)) only [↓ypre, ypost, ↓reduceIte, Nat.reduceEqDiff, Nat.reduceAdd, Nat.reduceSub, Nat.reduceLeDiff, Nat.zero_add, Nat.sub_zero, ynew]); try simp only [yback])
  have eF : parts (gen (n * k) (stM x.p L.flatten R.flatten x.ps x.ps.length)) k n = mpF x L R := by
    unfold mpF
    rw [mf.en, mf.ek, ← Int.natCast_mul, Int.toNat_natCast, Int.toNat_natCast, Int.toNat_natCast]
  rw [eF] at o6
  have pp := p14.trans p5
  exact hQ _ _ (pp.trans p6) (o6.lo (pre_len pp))
end Go.Proofs.Ytilpnbejpndgpaa.X

/- FormsOf of both sides. -/
set_option linter.unusedVariables false
set_option linter.unusedSimpArgs false
set_option maxRecDepth 20000
set_option maxHeartbeats 4000000
namespace Go.Proofs.Ytilpnbejpndgpaa.X
open Go Go.RowKit

theorem smallM_of2 {rows : List (List Int)} {A B : Nat} (h1 : rows.length ≤ A) (h2 : ∀ i, i < rows.length → (rows.getD i []).length ≤ B) (hAB : A ≤ 1000 ∧ B ≤ 1000) : SmallM rows := by
  have ht : ∀ i, i ≤ rows.length → tot rows i ≤ i * 1000 := fun i => by
    induction i with
    | zero => intro _; simp
    | succ i ih =>
      intro hi
      have e := tot_succ (rows := rows) (i := i) (by omega)
      have := ih (by omega)
      have := h2 i (by omega)
      omega
  have := ht rows.length (Nat.le_refl _)
  exact ⟨by omega, fun i hi => by have := h2 i hi; omega, by omega⟩
theorem TabS.get {h0 h : AH} {nb i : Nat} {full : Bool} {L : List (Nat × List Int)} (s : TabS h0 h nb full L) (hi : i < L.length) : h.rd1 nb i = some (sl (L[i]).1 (L[i]).2.length) := by
  rw [rd1_of s.g]
  simp [hi, rowV, sl]
end Go.Proofs.Ytilpnbejpndgpaa.X

/- MakeProduct, the reference. -/
set_option linter.unusedVariables false
set_option linter.unusedSimpArgs false
set_option maxRecDepth 20000
set_option maxHeartbeats 4000000
namespace Go.Proofs.Ytilpnbejpndgpaa.X
open Go Go.RowKit

/-- A table by its blocks and numbers. -/
def zt (bs : List Nat) (n k : Nat) (g : Nat → Nat → Int) : List (Nat × List Int) := (List.range n).map fun a => (bs.getD a 0, gen k (g a))
section
variable {bs : List Nat} {n k : Nat} {g g' : Nat → Nat → Int}
theorem zt_len : (zt bs n k g).length = n := by simp [zt]
theorem zt_at {i : Nat} (hi : i < (zt bs n k g).length) : (zt bs n k g)[i] = (bs.getD i 0, gen k (g i)) := by simp [zt]
theorem zt_congr (h : ∀ a, a < n → ∀ b, b < k → g a b = g' a b) : zt bs n k g = zt bs n k g' := by
  refine List.map_congr_left fun a ha => ?_
  rw [gen_congr (h a (List.mem_range.1 ha))]
theorem zt_app (hb : bs.length = n) (b : Nat) : zt bs n k g ++ [(b, gen k (g n))] = zt (bs ++ [b]) (n + 1) k g := by
  unfold zt
  rw [List.range_succ, List.map_append]
  congr 1
  · refine List.map_congr_left fun a ha => ?_
    have := List.mem_range.1 ha
    rw [getD_app_l (by omega)]
  · simp [getD_app_r (show bs.length ≤ n by omega), hb]
theorem zt_set {i : Nat} (hi : i < n) (f : Nat → Int) : (zt bs n k g).set i (bs.getD i 0, gen k f) = zt bs n k (fun a => if a = i then f else g a) := by
  refine List.ext_getElem? fun j => ?_
  rw [List.getElem?_set]
  by_cases hj : j < n
  · by_cases e : i = j
    · subst e
      rw [if_pos rfl, if_pos (by rw [zt_len]; exact hi)]
      simp [zt, hi]
    · rw [if_neg e]
      simp [zt, hj, show ¬ j = i from fun q => e q.symm]
  · by_cases e : i = j
    · omega
    · rw [if_neg e, List.getElem?_eq_none (by rw [zt_len]; omega), List.getElem?_eq_none (by rw [zt_len]; omega)]
theorem zt_snd : (zt bs n k g).map Prod.snd = (List.range n).map fun a => gen k (g a) := by simp [zt]
theorem zt_mem (hb : n ≤ bs.length) {a : Nat} (ha : a < n) : (bs.getD a 0, gen k (g a)) ∈ zt bs n k g := List.mem_map.2 ⟨a, List.mem_range.2 ha, rfl⟩
end
theorem parts_gen {n k : Nat} {F : Nat → Int} : parts (gen (n * k) F) k n = (List.range n).map fun a => gen k fun b => F (a * k + b) := by
  unfold parts
  refine List.map_congr_left fun a ha => ?_
  have hm := mul_row (w := k) (List.mem_range.1 ha)
  refine gen_ext (by rw [List.length_take, List.length_drop, gen_len]; omega) fun b hb => ?_
  rw [List.getD_eq_getElem?_getD, List.getElem?_take, if_pos hb, List.getElem?_drop, ← List.getD_eq_getElem?_getD, gen_get (by omega)]
theorem tmod_mul {o c v p : Int} (ho : 0 ≤ o) (hc : 0 ≤ c) (hv : 0 ≤ v) (hp : 1 ≤ p) : (o + c * v.tmod p).tmod p = (o + c * v).tmod p := by
  have h1 := (tmod_nn hv hp).1
  have a3 : v.tmod p = v % p := Int.tmod_eq_emod_of_nonneg hv
  have e : o + c * v = o + c * (v % p) + p * (c * (v / p)) := by
    have := Int.emod_add_mul_ediv v p
    have h2 : c * v = c * (v % p + p * (v / p)) := by rw [this]
    rw [h2, Int.mul_add, Int.mul_left_comm]
    omega
  have a1 : (o + c * v.tmod p).tmod p = (o + c * v.tmod p) % p := Int.tmod_eq_emod_of_nonneg (by have := Int.mul_nonneg hc h1; omega)
  have a2 : (o + c * v).tmod p = (o + c * v) % p := Int.tmod_eq_emod_of_nonneg (by have := Int.mul_nonneg hc hv; omega)
  rw [a1, a2, a3, e, Int.add_mul_emod_self_left]
theorem TabS.rdz {h0 h : AH} {nb n k : Nat} {fl : Bool} {bs : List Nat} {g : Nat → Nat → Int} (s : TabS h0 h nb fl (zt bs n k g)) {a c : Nat} (ha : a < n) (hc : c < k) (x : Int) :
    h.rd1 (bs.getD a 0) c = some (I64 (g a c)) ∧ ∃ h', h.wr (bs.getD a 0) c [I64 x] = some h' ∧ h'.length = h.length ∧ (∀ m bl, m ≠ bs.getD a 0 → h.get m = some bl → h'.get m = some bl) ∧
      TabS h0 h' nb fl (zt bs n k fun a' b' => if a' = a ∧ b' = c then x else g a' b') := by
  have hl : a < (zt bs n k g).length := by rw [zt_len]; exact ha
  obtain ⟨e, fu, he, st⟩ := s.cell (x := x) (j := c) hl (zt_at hl) (by rw [gen_len]; exact hc)
  refine ⟨by rw [rd1_of he]; show ((gen k (g a)).map (Value.int .i64))[c]? = _; rw [map_get (by rw [gen_len]; exact hc), gen_get hc], h.put (bs.getD a 0) ⟨((gen k (g a)).set c x).map (Value.int .i64), e, false, fu⟩, ?_, ?_, ?_, ?_⟩
  · rw [wr_of he, if_pos ⟨rfl, by simp [gen_len]; omega⟩]
    show some (h.put _ ⟨splice ((gen k (g a)).map (Value.int .i64)) c [I64 x], e, false, fu⟩) = _
    rw [map_set (by rw [gen_len]; exact hc)]
  · rw [len_put]
  · intro m bl hm g1
    rw [get_put_ne (fun e => hm e.symm)]
    exact g1
  · have e1 : (gen k (g a)).set c x = gen k fun b' => if b' = c then x else g a b' := by
      refine gen_ext (by rw [List.length_set, gen_len]) fun j hj => ?_
      rw [List.getD_eq_getElem?_getD, List.getElem?_set]
      by_cases e : c = j
      · subst e
        rw [if_pos rfl, if_pos (by rw [gen_len]; exact hc), if_pos rfl]
        rfl
      · rw [if_neg e, ← List.getD_eq_getElem?_getD, gen_get hj, if_neg (fun q => e q.symm)]
    rw [e1] at st ⊢
    rw [zt_set ha] at st
    rw [zt_congr (g' := fun a' => if a' = a then fun b' => if b' = c then x else g a b' else g a') (fun a' _ b' _ => ?_)]
    · exact st
    · by_cases q : a' = a
      · rw [if_pos q, q]
        by_cases q2 : b' = c
        · rw [if_pos ⟨rfl, q2⟩, if_pos q2]
        · rw [if_neg (fun w => q2 w.2), if_neg q2]
      · rw [if_neg (fun w => q w.1), if_neg q]
theorem s_l01Make {v u z : Value} {x : Sch} {L R : List (List Int)} {n m k : Nat} {h : AH} {Q : Value → AH → Prop} (hv : Prods h v x.ps) (mf : MF x L R n m k) (hl : x.ps.length ≤ 30) (hp : 2 ≤ x.p ∧ x.p ≤ 5) (hu : Rows h u L) (hz : Rows h z R)
    (hQ : ∀ v' h', h <+: h' → OwnRows h h' v' (mpF x L R) → Q v' h') : WF S 100 [schV x v, u, z] h Q := by
  refine WF_fn (fn := c100) rfl rfl ?_
  unfold c100
  obtain ⟨en, em, ek, b, nk, wL, wR, lL, lR, fL, fR, aL, aR, hm, hr⟩ := mf
  ((try simp (maxSteps := 3000000) (dsimp := false) (disch := first | omega | (simp only [len_new, len_put, len_kill]; omega)) only [↓ypre, ypost, ↓reduceIte, Nat.reduceEqDiff, Nat.reduceAdd, Nat.reduceSub, Nat.reduceLeDiff, Nat.zero_add, Nat.sub_zero, ynew, schV, hv.one]); try simp only [yback])
  generalize hH1 : AH.new h _ = H1
  obtain ⟨hb1, p1, n1⟩ := new_facts hH1
  generalize hH2 : AH.new H1 _ = H2
  obtain ⟨hb2, p2, n2⟩ := new_facts hH2
  have st0 : TabS H1 H2 H1.length true (zt [] 0 k fun _ _ => 0) := ⟨p2, Nat.le_refl _, hb2, by simp [zt], by simp [zt]⟩
  rw [ek] at hb1
  refine WC_loop_inv (fun m f K1 => ∃ (i : Nat) (nb : Nat) (fl : Bool) (bs : List Nat), m = n - i ∧ i ≤ n ∧ f 1 = u ∧ f 2 = z ∧ f 3 = .pointer (some ⟨h.length, 0, none⟩) ∧ f 7 = sl nb i ∧ f 8 = I64 i ∧ (bs.length = i) ∧ (TabS H1 K1 nb fl (zt bs i k fun _ _ => 0))) ?_ (n - 0) _ _ ⟨0, H1.length, true, [], rfl, by omega, (by first | rfl | (simp [upd_apply]; done)), (by first | rfl | (simp [upd_apply]; done)), (by first | rfl | (simp [upd_apply]; done)), (by first | rfl | (simp [upd_apply]; done)), (by first | rfl | (simp [upd_apply]; done)), rfl, st0⟩
  rintro m f K1 ⟨i, nb, fl, bs, rfl, hi, f1, f2, f3, f7, f8, hb, st⟩
  have lt := st.lt
  have kh := pre_len st.hp
  have bK := pre_get st.hp hb1
  by_cases hlt : (i : Int) < n
  · have hi' : i < n := by omega
    ((try simp (maxSteps := 3000000) (dsimp := false) (disch := first | omega | (simp only [len_new, len_put, len_kill]; omega)) only [↓ypre, ypost, ↓reduceIte, Nat.reduceEqDiff, Nat.reduceAdd, Nat.reduceSub, Nat.reduceLeDiff, Nat.zero_add, Nat.sub_zero, ynew, f1, f2, f3, f7, f8, rd1_of bK, en, decide_eq_true hlt, mks_gen (N := k) (h := K1) (by omega)]); try simp only [yback])
    generalize hH3 : AH.new K1 _ = H3
    obtain ⟨hb3, p3, n3⟩ := new_facts hH3
    have o3 : OwnB H3 K1.length ((gen k fun _ => 0).map (Value.int .i64)) true := ⟨_, hb3⟩
    ((try simp (maxSteps := 3000000) (dsimp := false) (disch := first | omega | (simp only [len_new, len_put, len_kill]; omega)) only [↓ypre, ypost, ↓reduceIte, Nat.reduceEqDiff, Nat.reduceAdd, Nat.reduceSub, Nat.reduceLeDiff, Nat.zero_add, Nat.sub_zero, ynew, f1, f2, f3, f7, f8, sl_cells, sl_one]); try simp only [yback])
    have e1 : sl nb i = sl nb (zt bs i k fun _ _ => 0).length := by rw [zt_len]
    have e2 : sl K1.length k = sl K1.length (gen k fun _ => 0).length := by rw [gen_len]
    rw [e1, e2]
    refine (st.pre p3).app2 ⟨by omega, by omega, fun q hq => by have := lt.2 q hq; omega⟩ o3 (by rw [zt_len]; omega) fun nb' H' st' l' e' own' pre' => ?_
    have e3 : zt bs i k (fun _ _ => 0) ++ [(K1.length, gen k fun _ => 0)] = zt (bs ++ [K1.length]) (i + 1) k fun _ _ => 0 := zt_app hb _
    rw [e3] at st' ⊢
    rw [zt_len, zt_len]
    ((try simp (maxSteps := 3000000) (dsimp := false) (disch := first | omega | (simp only [len_new, len_put, len_kill]; omega)) only [↓ypre, ypost, ↓reduceIte, Nat.reduceEqDiff, Nat.reduceAdd, Nat.reduceSub, Nat.reduceLeDiff, Nat.zero_add, Nat.sub_zero, ynew, f1, f2, f3, f7, f8, wrap64_in]); try simp only [yback])
    refine InvQ_go (n - (i + 1)) (by omega) ⟨(i + 1), nb', false, (bs ++ [K1.length]), rfl, by omega, (by first | rfl | exact f1 | (simp only [upd_apply]; rfl) | (show I64 _ = _; congr 1; omega)), (by first | rfl | exact f2 | (simp only [upd_apply]; rfl) | (show I64 _ = _; congr 1; omega)), (by first | rfl | exact f3 | (simp only [upd_apply]; rfl) | (show I64 _ = _; congr 1; omega)), (by first | rfl | exact f7 | (simp only [upd_apply]; rfl) | (show I64 _ = _; congr 1; omega)), (by first | rfl | exact f8 | (simp only [upd_apply]; rfl) | (show I64 _ = _; congr 1; omega)), (by simp [hb]), st'⟩
  have ei : i = n := by omega
  subst ei
  ((try simp (maxSteps := 3000000) (dsimp := false) (disch := first | omega | (simp only [len_new, len_put, len_kill]; omega)) only [↓ypre, ypost, ↓reduceIte, Nat.reduceEqDiff, Nat.reduceAdd, Nat.reduceSub, Nat.reduceLeDiff, Nat.zero_add, Nat.sub_zero, ynew, f1, f2, f3, f7, f8, rd1_of bK, en, decide_eq_false hlt]); try simp only [yback])
  have z27 := zeros27
  have st1 : TabS H1 K1 nb fl (zt bs i k fun a b => stM x.p L.flatten R.flatten x.ps 0 (a * k + b)) := st
  have hnb := lt.1
  have hbs : ∀ a, a < i → bs.getD a 0 < K1.length ∧ H1.length ≤ bs.getD a 0 := fun a ha => ⟨lt.2 _ (zt_mem (by omega) ha), (st.rows _ (zt_mem (by omega) ha)).1.1⟩
  refine WC_loop_inv (fun m f K2 => ∃ (t : Nat), m = x.ps.length - t ∧ t ≤ x.ps.length ∧ f 1 = u ∧ f 2 = z ∧ f 3 = .pointer (some ⟨h.length, 0, none⟩) ∧ f 7 = sl nb i ∧ f 9 = I64 t ∧ (K1.length ≤ K2.length) ∧ (TabS H1 K2 nb fl (zt bs i k fun a b => stM x.p L.flatten R.flatten x.ps t (a * k + b)))) ?_ (x.ps.length - 0) _ _ ⟨0, rfl, by omega, (by first | rfl | exact f1 | (simp [upd_apply]; done)), (by first | rfl | exact f2 | (simp [upd_apply]; done)), (by first | rfl | exact f3 | (simp [upd_apply]; done)), (by first | rfl | exact f7 | (simp [upd_apply]; done)), (by first | rfl | (simp [upd_apply]; done)), Nat.le_refl _, st1⟩
  rintro m f K2 ⟨t, rfl, ht, f1, f2, f3, f7, f9, kl, s2⟩
  have pp := p1.trans s2.hp
  have bK2 := pre_get s2.hp hb1
  have hvK := hv.pre pp
  by_cases hlt2 : (t : Int) < x.ps.length
  · have hj' : t < x.ps.length := by omega
    obtain ⟨n5', off5, hix, hrn, hr1⟩ := hvK.1.at hj'
    have r27 := hrn 0 27 (by omega)
    have wi := hvK.1.wid hj'
    have hby := hvK.by hj'
    have tk : (x.ps.getD t []).take 27 = x.ps.getD t [] := List.take_of_length_le (by omega)
    rw [List.drop_zero, tk, Nat.add_zero] at r27
    have sin := stM_in hp hv.2 hvK.1.widL fL fR aL aR (t := t) ht
    have stn : ∀ j, stM x.p L.flatten R.flatten x.ps (t + 1) j = (stM x.p L.flatten R.flatten x.ps t j + (x.ps.getD t []).getD (18 + j) 0 * valI x.p L.flatten R.flatten (x.ps.getD t [])).tmod x.p := fun _ => rfl
    generalize hq : x.ps.getD t [] = q at *
    have w1 : ∀ (h1 : AH) (e : TypeId), (h1.new ⟨[.int .u8 0, .int .u8 0, .int .u8 0, .int .u8 0, .int .u8 0, .int .u8 0, .int .u8 0, .int .u8 0, .int .u8 0, .int .u8 0, .int .u8 0, .int .u8 0, .int .u8 0, .int .u8 0, .int .u8 0, .int .u8 0, .int .u8 0, .int .u8 0, .int .u8 0, .int .u8 0, .int .u8 0, .int .u8 0, .int .u8 0, .int .u8 0, .int .u8 0, .int .u8 0, .int .u8 0], e, false, true⟩).wr h1.length 0 (cel .u8 q) = some (h1.new ⟨cel .u8 q, e, false, true⟩) := fun h1 e => wr_all (by rw [cel_len, wi]; rfl)
    ((try simp (maxSteps := 3000000) (dsimp := false) (disch := first | omega | (simp only [len_new, len_put, len_kill]; omega)) only [↓ypre, ypost, ↓reduceIte, Nat.reduceEqDiff, Nat.reduceAdd, Nat.reduceSub, Nat.reduceLeDiff, Nat.zero_add, Nat.sub_zero, ynew, f1, f2, f3, f7, f9, rd1_of bK2, hvK.1.len, decide_eq_true hlt2, hix, r27, cel_all, cellsL_cel, cel_len, wi, ↓w1, cel_take, tk, wrap64_in]); try simp only [yback])
    have s0 : Value.agg (cel .u8 (q.take 9)).toArray = aggV .u8 (seg q 0) := by simp [aggV, seg]
    have s1 : Value.agg (cel .u8 ((q.drop 9).take 9)).toArray = aggV .u8 (seg q 1) := by simp [aggV, seg]
    rw [s0]
    generalize hH3 : AH.new K2 _ = H3
    obtain ⟨hb3, p3, n3⟩ := new_facts hH3
    refine s_l01At (hby.seg (by omega)) (hu.pre (pp.trans p3)) hm (by rw [flat_len wL] at fL; exact fL) hp (by omega) fun H4 p4 => ?_
    have hb4 := pre_get p4 hb3
    refine ⟨p4, ?_⟩
    have bK4 := pre_get (p3.trans p4) bK2
    ((try simp (maxSteps := 3000000) (dsimp := false) (disch := first | omega | (simp only [len_new, len_put, len_kill]; omega)) only [↓ypre, ypost, ↓reduceIte, Nat.reduceEqDiff, Nat.reduceAdd, Nat.reduceSub, Nat.reduceLeDiff, Nat.zero_add, Nat.sub_zero, ynew, f1, f2, f3, f7, f9, rdn_of hb4, cel_len, wi, cel_drop, cel_take, rd1_of bK4, bin_rem (show x.p ≠ 0 by omega)]); try simp only [yback])
    rw [s1]
    refine s_l01At (hby.seg (by omega)) (hz.pre (pp.trans (p3.trans p4))) hr (by rw [flat_len wR] at fR; exact fR) hp (by omega) fun H5 p5 => ?_
    refine ⟨p5, ?_⟩
    have p35 := p3.trans (p4.trans p5)
    have hb5 := pre_get p5 hb4
    have bK5 := pre_get p5 bK4
    have vin := valI_in hp hby fL fR aL aR
    have evq : (dot (seg q 0) L.flatten L.flatten.length).tmod x.p * (dot (seg q 1) R.flatten R.flatten.length).tmod x.p = valI x.p L.flatten R.flatten q := rfl
    have k5 := pre_len p35
    ((try simp (maxSteps := 3000000) (dsimp := false) (disch := first | omega | (simp only [len_new, len_put, len_kill]; omega)) only [↓ypre, ypost, ↓reduceIte, Nat.reduceEqDiff, Nat.reduceAdd, Nat.reduceSub, Nat.reduceLeDiff, Nat.zero_add, Nat.sub_zero, ynew, f1, f2, f3, f7, f9, rd1_of bK5, bin_rem (show x.p ≠ 0 by omega), evq, wrap64_in]); try simp only [yback])
    have s5 : TabS H1 H5 nb fl (zt bs i k fun a' b' => if a' < 0 then stM x.p L.flatten R.flatten x.ps (t + 1) (a' * k + b') else stM x.p L.flatten R.flatten x.ps t (a' * k + b')) := s2.pre p35
    refine WC_loop_inv (fun m f K3 => ∃ (a : Nat), m = i - a ∧ a ≤ i ∧ f 1 = u ∧ f 2 = z ∧ f 3 = .pointer (some ⟨h.length, 0, none⟩) ∧ f 7 = sl nb i ∧ f 9 = I64 t ∧ f 10 = .pointer (some ⟨K2.length, 0, none⟩) ∧ f 11 = I64 ((valI x.p L.flatten R.flatten q).tmod x.p) ∧ f 12 = I64 a ∧ (K2.length ≤ K3.length) ∧ (∃ e, K3.get K2.length = some ⟨cel .u8 q, e, false, true⟩) ∧ (TabS H1 K3 nb fl (zt bs i k fun a' b' => if a' < a then stM x.p L.flatten R.flatten x.ps (t + 1) (a' * k + b') else stM x.p L.flatten R.flatten x.ps t (a' * k + b')))) ?_ (i - 0) _ _ ⟨0, rfl, by omega, (by first | rfl | exact f1 | (simp [upd_apply]; done)), (by first | rfl | exact f2 | (simp [upd_apply]; done)), (by first | rfl | exact f3 | (simp [upd_apply]; done)), (by first | rfl | exact f7 | (simp [upd_apply]; done)), (by first | rfl | exact f9 | (simp [upd_apply]; done)), (by first | rfl | (simp [upd_apply]; done)), (by first | rfl | (simp [upd_apply]; done)), (by first | rfl | (simp [upd_apply]; done)), k5, ⟨_, hb5⟩, s5⟩
    rintro m f K3 ⟨a, rfl, ha, f1, f2, f3, f7, f9, f10, f11, f12, kl3, b3, s3⟩
    have bK3 := pre_get s3.hp hb1
    by_cases hla : (a : Int) < i
    · have ha' : a < i := by omega
      have hma := mul_row (w := k) ha'
      have gt := s3.get (i := a) (by rw [zt_len]; exact ha')
      rw [zt_at] at gt
      simp only [gen_len] at gt
      have ixa0 : ixsV 1 (sl nb i) (I64 a) = some (.pointer (some ⟨nb, a, none⟩)) := by rw [Lst.ix (by omega), Int.toNat_natCast]
      ((try simp (maxSteps := 3000000) (dsimp := false) (disch := first | omega | (simp only [len_new, len_put, len_kill]; omega)) only [↓ypre, ypost, ↓reduceIte, Nat.reduceEqDiff, Nat.reduceAdd, Nat.reduceSub, Nat.reduceLeDiff, Nat.zero_add, Nat.sub_zero, ynew, f1, f2, f3, f7, f9, f10, f11, f12, rd1_of bK3, en, decide_eq_true hla, ixa0, gt]); try simp only [yback])
      have s6 : TabS H1 K3 nb fl (zt bs i k fun a' b' => if a' < a ∨ (a' = a ∧ b' < 0) then stM x.p L.flatten R.flatten x.ps (t + 1) (a' * k + b') else stM x.p L.flatten R.flatten x.ps t (a' * k + b')) := by
        rw [zt_congr (g' := fun a' b' => if a' < a then stM x.p L.flatten R.flatten x.ps (t + 1) (a' * k + b') else stM x.p L.flatten R.flatten x.ps t (a' * k + b')) (fun a' _ b' _ => by simp)]
        exact s3
      refine WC_loop_inv (fun m f K4 => ∃ (c : Nat), m = k - c ∧ c ≤ k ∧ f 1 = u ∧ f 2 = z ∧ f 3 = .pointer (some ⟨h.length, 0, none⟩) ∧ f 7 = sl nb i ∧ f 9 = I64 t ∧ f 10 = .pointer (some ⟨K2.length, 0, none⟩) ∧ f 11 = I64 ((valI x.p L.flatten R.flatten q).tmod x.p) ∧ f 12 = I64 a ∧ f 13 = sl (bs.getD a 0) k ∧ f 14 = I64 c ∧ (K3.length ≤ K4.length) ∧ (∃ e, K4.get K2.length = some ⟨cel .u8 q, e, false, true⟩) ∧ (TabS H1 K4 nb fl (zt bs i k fun a' b' => if a' < a ∨ (a' = a ∧ b' < c) then stM x.p L.flatten R.flatten x.ps (t + 1) (a' * k + b') else stM x.p L.flatten R.flatten x.ps t (a' * k + b')))) ?_ (k - 0) _ _ ⟨0, rfl, by omega, (by first | rfl | exact f1 | (simp [upd_apply]; done)), (by first | rfl | exact f2 | (simp [upd_apply]; done)), (by first | rfl | exact f3 | (simp [upd_apply]; done)), (by first | rfl | exact f7 | (simp [upd_apply]; done)), (by first | rfl | exact f9 | (simp [upd_apply]; done)), (by first | rfl | exact f10 | (simp [upd_apply]; done)), (by first | rfl | exact f11 | (simp [upd_apply]; done)), (by first | rfl | exact f12 | (simp [upd_apply]; done)), (by first | rfl | (simp [upd_apply]; done)), (by first | rfl | (simp [upd_apply]; done)), Nat.le_refl _, b3, s6⟩
      rintro m f K4 ⟨c, rfl, hc, f1, f2, f3, f7, f9, f10, f11, f12, f13, f14, kl4, b4, s4⟩
      have bK4' := pre_get s4.hp hb1
      obtain ⟨e4, b4⟩ := b4
      by_cases hlc : (c : Int) < k
      · have hc' : c < k := by omega
        have ixd : ixsV 1 (sl (bs.getD a 0) k) (I64 c) = some (.pointer (some ⟨bs.getD a 0, c, none⟩)) := by rw [Lst.ix (by omega), Int.toNat_natCast]
        obtain ⟨rd, H6, w6, l6, k6, t6⟩ := s4.rdz ha' hc' ((stM x.p L.flatten R.flatten x.ps t (a * k + c) + q.getD (18 + (a * k + c)) 0 * (valI x.p L.flatten R.flatten q).tmod x.p).tmod x.p)
        simp only [Nat.lt_irrefl, and_false, or_false, if_false] at rd
        have g1 := cel_get (k := .u8) (q := q) (j := 18 + (a * k + c)) (by omega)
        have ixa := ixa_u (n := K2.length) (off := 18) (len := 9) (kk := .i64) (j := a * k + c) (by omega)
        have c1 := hby.2 (18 + (a * k + c)) (by omega)
        have c2 := sin (a * k + c) (by omega)
        have vt := tmod_nn (J := x.p) vin.1 (by omega)
        have c3 := Int.mul_nonneg c1.1 vt.1
        have c4 : q.getD (18 + (a * k + c)) 0 * (valI x.p L.flatten R.flatten q).tmod x.p ≤ 255 * 5 := Int.le_trans (Int.mul_le_mul_of_nonneg_right c1.2 vt.1) (Int.mul_le_mul_of_nonneg_left (by omega) (by decide))
        have emul : (a : Int) * (k : Int) + (c : Int) = ((a * k + c : Nat) : Int) := by rw [Int.natCast_add, Int.natCast_mul]
        have emul0 : (a : Int) * (k : Int) = ((a * k : Nat) : Int) := by rw [Int.natCast_mul]
        have emul2 : ((a * k : Nat) : Int) + (c : Int) = ((a * k + c : Nat) : Int) := by rw [Int.natCast_add]
        ((try simp (maxSteps := 3000000) (dsimp := false) (disch := first | omega | (simp only [len_new, len_put, len_kill]; omega)) only [↓ypre, ypost, ↓reduceIte, Nat.reduceEqDiff, Nat.reduceAdd, Nat.reduceSub, Nat.reduceLeDiff, Nat.zero_add, Nat.sub_zero, ynew, f1, f2, f3, f7, f9, f10, f11, f12, f13, f14, rd1_of bK4', ek, decide_eq_true hlc, ixd, rd, emul0, emul2, ixa, rd1_of b4, g1, wrap64_in, bin_rem (show x.p ≠ 0 by omega), w6]); try simp only [yback])
        have b6 : ∃ e, H6.get K2.length = some ⟨cel .u8 q, e, false, true⟩ := ⟨e4, k6 _ _ (by have := hbs a ha'; omega) b4⟩
        have t6' : TabS H1 H6 nb fl (zt bs i k fun a' b' => if a' < a ∨ (a' = a ∧ b' < c + 1) then stM x.p L.flatten R.flatten x.ps (t + 1) (a' * k + b') else stM x.p L.flatten R.flatten x.ps t (a' * k + b')) := by
          rw [zt_congr (fun a' _ b' _ => ?_)] at t6
          · exact t6
          · by_cases q1 : a' = a ∧ b' = c
            · obtain ⟨rfl, rfl⟩ := q1
              rw [if_pos ⟨rfl, rfl⟩, if_pos (.inr ⟨rfl, by omega⟩), stn, tmod_mul c2.1 c1.1 vin.1 (by omega)]
            · rw [if_neg q1]
              by_cases q2 : a' < a ∨ (a' = a ∧ b' < c)
              · rw [if_pos q2, if_pos (by omega)]
              · rw [if_neg q2, if_neg (by omega)]
        refine InvQ_go (k - (c + 1)) (by omega) ⟨(c + 1), rfl, by omega, (by first | rfl | exact f1 | (simp only [upd_apply]; rfl) | (show I64 _ = _; congr 1; omega)), (by first | rfl | exact f2 | (simp only [upd_apply]; rfl) | (show I64 _ = _; congr 1; omega)), (by first | rfl | exact f3 | (simp only [upd_apply]; rfl) | (show I64 _ = _; congr 1; omega)), (by first | rfl | exact f7 | (simp only [upd_apply]; rfl) | (show I64 _ = _; congr 1; omega)), (by first | rfl | exact f9 | (simp only [upd_apply]; rfl) | (show I64 _ = _; congr 1; omega)), (by first | rfl | exact f10 | (simp only [upd_apply]; rfl) | (show I64 _ = _; congr 1; omega)), (by first | rfl | exact f11 | (simp only [upd_apply]; rfl) | (show I64 _ = _; congr 1; omega)), (by first | rfl | exact f12 | (simp only [upd_apply]; rfl) | (show I64 _ = _; congr 1; omega)), (by first | rfl | exact f13 | (simp only [upd_apply]; rfl) | (show I64 _ = _; congr 1; omega)), (by first | rfl | exact f14 | (simp only [upd_apply]; rfl) | (show I64 _ = _; congr 1; omega)), (by omega), b6, t6'⟩
      have ec : c = k := by omega
      subst ec
      ((try simp (maxSteps := 3000000) (dsimp := false) (disch := first | omega | (simp only [len_new, len_put, len_kill]; omega)) only [↓ypre, ypost, ↓reduceIte, Nat.reduceEqDiff, Nat.reduceAdd, Nat.reduceSub, Nat.reduceLeDiff, Nat.zero_add, Nat.sub_zero, ynew, f1, f2, f3, f7, f9, f10, f11, f12, f13, f14, rd1_of bK4', ek, decide_eq_false hlc, wrap64_in]); try simp only [yback])
      have s7 : TabS H1 K4 nb fl (zt bs i c fun a' b' => if a' < a + 1 then stM x.p L.flatten R.flatten x.ps (t + 1) (a' * c + b') else stM x.p L.flatten R.flatten x.ps t (a' * c + b')) := by
        rw [zt_congr (fun a' _ b' hb' => ?_)] at s4
        · exact s4
        · by_cases q2 : a' < a ∨ (a' = a ∧ b' < c)
          · rw [if_pos q2, if_pos (by omega)]
          · rw [if_neg q2, if_neg (by omega)]
      refine InvQ_go (i - (a + 1)) (by omega) ⟨(a + 1), rfl, by omega, (by first | rfl | exact f1 | (simp only [upd_apply]; rfl) | (show I64 _ = _; congr 1; omega)), (by first | rfl | exact f2 | (simp only [upd_apply]; rfl) | (show I64 _ = _; congr 1; omega)), (by first | rfl | exact f3 | (simp only [upd_apply]; rfl) | (show I64 _ = _; congr 1; omega)), (by first | rfl | exact f7 | (simp only [upd_apply]; rfl) | (show I64 _ = _; congr 1; omega)), (by first | rfl | exact f9 | (simp only [upd_apply]; rfl) | (show I64 _ = _; congr 1; omega)), (by first | rfl | exact f10 | (simp only [upd_apply]; rfl) | (show I64 _ = _; congr 1; omega)), (by first | rfl | exact f11 | (simp only [upd_apply]; rfl) | (show I64 _ = _; congr 1; omega)), (by first | rfl | exact f12 | (simp only [upd_apply]; rfl) | (show I64 _ = _; congr 1; omega)), (by omega), ⟨_, b4⟩, s7⟩
    have ea : a = i := by omega
    subst ea
    ((try simp (maxSteps := 3000000) (dsimp := false) (disch := first | omega | (simp only [len_new, len_put, len_kill]; omega)) only [↓ypre, ypost, ↓reduceIte, Nat.reduceEqDiff, Nat.reduceAdd, Nat.reduceSub, Nat.reduceLeDiff, Nat.zero_add, Nat.sub_zero, ynew, f1, f2, f3, f7, f9, f10, f11, f12, rd1_of bK3, en, decide_eq_false hla, wrap64_in]); try simp only [yback])
    rw [zt_congr (g' := fun a' b' => stM x.p L.flatten R.flatten x.ps (t + 1) (a' * k + b')) (fun a' ha' b' _ => by rw [if_pos ha'])] at s3
    refine InvQ_go (x.ps.length - (t + 1)) (by omega) ⟨(t + 1), rfl, by omega, (by first | rfl | exact f1 | (simp only [upd_apply]; rfl) | (show I64 _ = _; congr 1; omega)), (by first | rfl | exact f2 | (simp only [upd_apply]; rfl) | (show I64 _ = _; congr 1; omega)), (by first | rfl | exact f3 | (simp only [upd_apply]; rfl) | (show I64 _ = _; congr 1; omega)), (by first | rfl | exact f7 | (simp only [upd_apply]; rfl) | (show I64 _ = _; congr 1; omega)), (by first | rfl | exact f9 | (simp only [upd_apply]; rfl) | (show I64 _ = _; congr 1; omega)), (by omega), s3⟩
  have et : t = x.ps.length := by omega
  subst et
  ((try simp (maxSteps := 3000000) (dsimp := false) (disch := first | omega | (simp only [len_new, len_put, len_kill]; omega)) only [↓ypre, ypost, ↓reduceIte, Nat.reduceEqDiff, Nat.reduceAdd, Nat.reduceSub, Nat.reduceLeDiff, Nat.zero_add, Nat.sub_zero, ynew, f1, f2, f3, f7, f9, rd1_of bK2, hvK.1.len, decide_eq_false hlt2]); try simp only [yback])
  have o := s2.own
  rw [zt_snd, zt_len, ← parts_gen] at o
  have eF : parts (gen (i * k) (stM x.p L.flatten R.flatten x.ps x.ps.length)) k i = mpF x L R := by
    unfold mpF
    rw [en, ek, ← Int.natCast_mul, Int.toNat_natCast, Int.toNat_natCast, Int.toNat_natCast]
  rw [eF] at o
  exact hQ _ _ pp (o.lo (pre_len p1))
theorem s_MakeProduct {v u z : Value} {x : Sch} {L R : List (List Int)} {h : AH} {Q : Value → AH → Prop} (hv : Prods h v x.ps) (hl : SmallX x.ps) (hu : Rows h u L) (hL : SmallM L) (hz : Rows h z R) (hR : SmallM R)
    (hQ : ∀ v' h', h <+: h' → OwnRows h h' v' (mpR x L R).1 → Q (.tuple #[v', I64 (mpR x L R).2]) h') : WF S 50 [schV x v, u, z] h Q := by
  refine WF_fn (fn := c50) rfl rfl ?_
  unfold c50
  ((try simp (maxSteps := 3000000) (dsimp := false) (disch := first | omega | (simp only [len_new, len_put, len_kill]; omega)) only [↓ypre, ypost, ↓reduceIte, Nat.reduceEqDiff, Nat.reduceAdd, Nat.reduceSub, Nat.reduceLeDiff, Nat.zero_add, Nat.sub_zero, ynew, schV, hv.one]); try simp only [yback])
  generalize hH1 : AH.new h _ = H1
  obtain ⟨hb1, p1, n1⟩ := new_facts hH1
  ((try simp (maxSteps := 3000000) (dsimp := false) (disch := first | omega | (simp only [len_new, len_put, len_kill]; omega)) only [↓ypre, ypost, ↓reduceIte, Nat.reduceEqDiff, Nat.reduceAdd, Nat.reduceSub, Nat.reduceLeDiff, Nat.zero_add, Nat.sub_zero, ynew, rdn_of hb1]); try simp only [yback])
  refine s_l01Is (x := x) (hv.pre p1) hl fun H2 p2 => ?_
  have p12 := p1.trans p2
  have hb2 := pre_get p2 hb1
  unfold mpR at hQ
  have no : ∀ c, mcX x L R = c → c ≠ 0 → Q (.tuple #[.slice none 0 0, I64 c]) H2 := fun c e hc => by
    rw [if_neg (by omega), e] at hQ
    exact hQ _ _ p12 (.inl ⟨rfl, rfl⟩)
  cases h1 : isX x with
  | false =>
    ((try simp (maxSteps := 3000000) (dsimp := false) (disch := first | omega | (simp only [len_new, len_put, len_kill]; omega)) only [↓ypre, ypost, ↓reduceIte, Nat.reduceEqDiff, Nat.reduceAdd, Nat.reduceSub, Nat.reduceLeDiff, Nat.zero_add, Nat.sub_zero, ynew]); try simp only [yback])
    exact no 1 (by unfold mcX; rw [h1]; rfl) (by decide)
  | true =>
    obtain ⟨zz, hp, hl30, ho⟩ := isX_facts h1
    have hp5 := isP_in hp
    ((try simp (maxSteps := 3000000) (dsimp := false) (disch := first | omega | (simp only [len_new, len_put, len_kill]; omega)) only [↓ypre, ypost, ↓reduceIte, Nat.reduceEqDiff, Nat.reduceAdd, Nat.reduceSub, Nat.reduceLeDiff, Nat.zero_add, Nat.sub_zero, ynew, rd1_of hb2]); try simp only [yback])
    refine s_l01Matrix (hu.pre p12) hL hp5 ?_
    cases h2 : (isMat x.p x.m L && decide ((L.length : Int) = x.n)) with
    | false =>
      ((try simp (maxSteps := 3000000) (dsimp := false) (disch := first | omega | (simp only [len_new, len_put, len_kill]; omega)) only [↓ypre, ypost, ↓reduceIte, Nat.reduceEqDiff, Nat.reduceAdd, Nat.reduceSub, Nat.reduceLeDiff, Nat.zero_add, Nat.sub_zero, ynew]); try simp only [yback])
      exact no 2 (by unfold mcX mOK; rw [h1, h2]; rfl) (by decide)
    | true =>
      ((try simp (maxSteps := 3000000) (dsimp := false) (disch := first | omega | (simp only [len_new, len_put, len_kill]; omega)) only [↓ypre, ypost, ↓reduceIte, Nat.reduceEqDiff, Nat.reduceAdd, Nat.reduceSub, Nat.reduceLeDiff, Nat.zero_add, Nat.sub_zero, ynew, rd1_of hb2]); try simp only [yback])
      refine s_l01Matrix (hz.pre p12) hR hp5 ?_
      cases h3 : (isMat x.p x.k R && decide ((R.length : Int) = x.m)) with
      | false =>
        ((try simp (maxSteps := 3000000) (dsimp := false) (disch := first | omega | (simp only [len_new, len_put, len_kill]; omega)) only [↓ypre, ypost, ↓reduceIte, Nat.reduceEqDiff, Nat.reduceAdd, Nat.reduceSub, Nat.reduceLeDiff, Nat.zero_add, Nat.sub_zero, ynew]); try simp only [yback])
        exact no 2 (by unfold mcX mOK; rw [h1, h2, h3]; rfl) (by decide)
      | true =>
        have hc : mcX x L R = 0 := by unfold mcX mOK; rw [h1, h2, h3]; rfl
        rw [if_pos hc] at hQ
        obtain ⟨n, m, k, mf⟩ := mf_of hc
        ((try simp (maxSteps := 3000000) (dsimp := false) (disch := first | omega | (simp only [len_new, len_put, len_kill]; omega)) only [↓ypre, ypost, ↓reduceIte, Nat.reduceEqDiff, Nat.reduceAdd, Nat.reduceSub, Nat.reduceLeDiff, Nat.zero_add, Nat.sub_zero, ynew, rdn_of hb2]); try simp only [yback])
        refine s_l01Make (hv.pre p12) mf hl30 hp5 (hu.pre p12) (hz.pre p12) fun v6 H6 p6 o6 => ?_
        ((try simp (maxSteps := 3000000) (dsimp := false) (disch := first | omega | (simp only [len_new, len_put, len_kill]; omega)) only [↓ypre, ypost, ↓reduceIte, Nat.reduceEqDiff, Nat.reduceAdd, Nat.reduceSub, Nat.reduceLeDiff, Nat.zero_add, Nat.sub_zero, ynew]); try simp only [yback])
        exact hQ _ _ (p12.trans p6) (o6.lo (pre_len p12))
theorem mpR_small (x : Sch) (L R : List (List Int)) : SmallM (mpR x L R).1 := by
  unfold mpR
  by_cases hc : mcX x L R = 0
  · rw [if_pos hc]
    obtain ⟨n, m, k, mf⟩ := mf_of hc
    have b := mf.b
    have eF : mpF x L R = parts (gen (n * k) (stM x.p L.flatten R.flatten x.ps x.ps.length)) k n := by
      unfold mpF
      rw [mf.en, mf.ek, ← Int.natCast_mul, Int.toNat_natCast, Int.toNat_natCast, Int.toNat_natCast]
    have hlen : (mpF x L R).length = n := by rw [eF, parts_len]
    have hrow : ∀ i, i < n → ((mpF x L R).getD i []).length = k := fun i hi => by
      rw [eF, parts_get hi, List.length_take, List.length_drop, gen_len]
      have := mul_row (w := k) hi
      omega
    show SmallM (mpF x L R)
    exact smallM_of2 (A := 3) (B := 3) (by omega) (fun i hi => by rw [hrow i (by omega)]; omega) (by omega)
  · rw [if_neg hc]
    exact ⟨by simp, by simp, by simp [tot]⟩
end Go.Proofs.Ytilpnbejpndgpaa.X
