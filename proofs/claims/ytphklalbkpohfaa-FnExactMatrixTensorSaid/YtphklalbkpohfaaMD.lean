/- Texts of one claim, put together by merge.py: XE2, XY, XS19, XS20. -/
import Derived.Test.YtphklalbkpohfaaM4
import Derived.Test.YtphklalbkpohfaaM3
import Derived.Test.YtphklalbkpohfaaMA
/- Slices of elements of some whole numbers each: appends. -/
set_option linter.unusedVariables false
set_option linter.unusedSimpArgs false
set_option maxRecDepth 20000
set_option maxHeartbeats 4000000
namespace Go.Proofs.Ytphklalbkpohfaa.X
open Go Go.RowKit

theorem getD_app_l {α : Type} {l r : List α} {i : Nat} {d : α} (hi : i < l.length) : (l ++ r).getD i d = l.getD i d := by
  rw [List.getD_eq_getElem?_getD, List.getD_eq_getElem?_getD, List.getElem?_append_left hi]
theorem getD_app_r {α : Type} {l r : List α} {i : Nat} {d : α} (hi : l.length ≤ i) : (l ++ r).getD i d = r.getD (i - l.length) d := by
  rw [List.getD_eq_getElem?_getD, List.getD_eq_getElem?_getD, List.getElem?_append_right hi]
theorem app_ownW {e : TypeId} {w bytes : Nat} {h : AH} {k n n' : Nat} {c vs : List Value} {full : Bool} (hk : h.get k = some ⟨c, e, false, full⟩) (hc : c.length = n * w) (hn : h.rdn n' 0 w = some vs)
    (hs : (n + 1 : Int) * bytes ≤ 140737488355328 ∧ (n + 1 : Int) ≤ 9223372036854775807) :
    appV e w bytes (.slice (some ⟨k, 0, none⟩) n w) (.slice (some ⟨n', 0, none⟩) 1 w) h = some (.slice (some ⟨h.length, 0, none⟩) (n + 1) w, (h.kill k).new ⟨c ++ vs, e, false, false⟩) := by
  simp only [appV, xop, ev, if_true, Nat.one_mul, hn, hk]
  rw [if_pos (by simpa using hs)]
  simp [hc]
theorem app_nilW {e : TypeId} {w bytes : Nat} {h : AH} {n' t : Nat} {vs : List Value} (ht : t = 0 ∨ t = 2) (hn : h.rdn n' 0 w = some vs) (hs : (1 : Int) * bytes ≤ 140737488355328) :
    appV e w bytes (.slice none 0 t) (.slice (some ⟨n', 0, none⟩) 1 w) h = some (.slice (some ⟨h.length, 0, none⟩) 1 w, h.new ⟨vs, e, false, false⟩) := by
  simp only [appV, xop, ev, if_true, Nat.one_mul, hn]
  rw [if_pos (by simpa using hs)]
  simp [ht]
/-- Elements under way: nil, or a block of one's own behind a place, other than the box that holds the slice. -/
def WayE (e : TypeId) (k : IntKind) (w : Nat) (h : AH) (lo bx : Nat) (sv : Value) (L : List (List Int)) : Prop :=
  Wid w L ∧ ((sv = .slice none 0 0 ∧ L = []) ∨ ∃ kb full, sv = .slice (some ⟨kb, 0, none⟩) L.length w ∧ lo ≤ kb ∧ kb ≠ bx ∧ h.get kb = some ⟨cel k L.flatten, e, false, full⟩)
section
variable {e : TypeId} {k : IntKind} {w : Nat} {h h' : AH} {lo bx : Nat} {sv : Value} {L : List (List Int)}
theorem WayE.pre (o : WayE e k w h lo bx sv L) (p : h <+: h') : WayE e k w h' lo bx sv L := by
  obtain ⟨hw, o | ⟨kb, full, h1, h2, h3, h4⟩⟩ := o
  · exact ⟨hw, .inl o⟩
  · exact ⟨hw, .inr ⟨kb, full, h1, h2, h3, pre_get p h4⟩⟩
theorem WayE.one (o : WayE e k w h lo bx sv L) : isOne sv = true := by
  obtain ⟨hw, ⟨rfl, _⟩ | ⟨kb, full, rfl, h2, h3, h4⟩⟩ := o <;> rfl
theorem WayE.cells (o : WayE e k w h lo bx sv L) : cellsL sv = [sv] := by
  obtain ⟨hw, ⟨rfl, _⟩ | ⟨kb, full, rfl, h2, h3, h4⟩⟩ := o <;> rfl
theorem WayE.put {b : Blk} (o : WayE e k w h lo bx sv L) : WayE e k w (h.put bx b) lo bx sv L := by
  obtain ⟨hw, o | ⟨kb, full, h1, h2, h3, h4⟩⟩ := o
  · exact ⟨hw, .inl o⟩
  · exact ⟨hw, .inr ⟨kb, full, h1, h2, h3, by rw [get_put_ne (fun x => h3 x.symm)]; exact h4⟩⟩
theorem WayE.putb {b : Blk} {n : Nat} (o : WayE e k w h lo bx sv L) (hn : n < lo) : WayE e k w (h.put n b) lo bx sv L := by
  obtain ⟨hw, o | ⟨kb, full, h1, h2, h3, h4⟩⟩ := o
  · exact ⟨hw, .inl o⟩
  · exact ⟨hw, .inr ⟨kb, full, h1, h2, h3, by rw [get_put_ne (by omega)]; exact h4⟩⟩
theorem WayE.inE (o : WayE e k w h lo bx sv L) : InE k w lo h.length h sv L := by
  obtain ⟨hw, o | ⟨kb, full, h1, h2, h3, h4⟩⟩ := o
  · exact .inl o
  · exact .inr ⟨kb, e, full, ⟨h2, get_lt h4⟩, h1, h4, hw⟩
/-- One element more. -/
theorem WayE.app {H : AH} {q : List Int} {e' : TypeId} {ro full : Bool} {bytes : Nat} (o : WayE e k w H lo bx sv L) (hq : q.length = w) (hl : ((L.length : Int) + 1) * bytes ≤ 140737488355328) (hn : (L.length : Int) < 1048576) (hlo : lo ≤ H.length) (hbx : bx < H.length)
    {Q : Value → AH → Prop} (hQ : ∀ sv' H', H'.length = H.length + 2 → (∀ h0 : AH, h0.length ≤ lo → h0 <+: H → h0 <+: H') → (∀ n c f, n < lo → OwnB H n c f → OwnB H' n c f) → (∀ c f, OwnB H bx c f → OwnB H' bx c f) → WayE e k w H' lo bx sv' (L ++ [q]) → Q sv' H') :
    OQ (appV e w bytes sv (.slice (some ⟨H.length, 0, none⟩) 1 w) (H.new ⟨cel k q, e', ro, full⟩)) Q := by
  have hr : (H.new ⟨cel k q, e', ro, full⟩).rdn H.length 0 w = some (cel k q) := by
    rw [rdn_of get_new_same]
    simp only
    rw [if_pos (by rw [cel_len, hq]; omega), List.drop_zero, List.take_of_length_le (by rw [cel_len, hq]; omega)]
  obtain ⟨hw, ⟨rfl, rfl⟩ | ⟨kb, fu, rfl, h2, h3, h4⟩⟩ := o
  · rw [app_nilW (.inl rfl) hr (by simp only [List.length_nil] at hl; omega), OQ_some]
    refine hQ _ _ (by rw [len_new, len_new]) (fun h0 _ p => pre_new (pre_new p)) (fun n c f hn o => (o.pre (pre_new (List.prefix_refl _))).pre (pre_new (List.prefix_refl _))) (fun c f o => (o.pre (pre_new (List.prefix_refl _))).pre (pre_new (List.prefix_refl _))) ⟨?_, .inr ⟨_, false, rfl, by rw [len_new]; omega, by rw [len_new]; omega, ?_⟩⟩
    · intro r hr
      rw [List.nil_append, List.mem_singleton] at hr
      rw [hr, hq]
    · rw [get_new_same]
      simp
  · have hk : (H.new ⟨cel k q, e', ro, full⟩).get kb = some ⟨cel k L.flatten, e, false, fu⟩ := get_new_any h4
    have hkb := get_lt h4
    rw [app_ownW hk (by rw [cel_len, flat_len hw]) hr ⟨hl, by omega⟩, OQ_some]
    refine hQ _ _ (by rw [len_new, len_kill, len_new]) (fun h0 q p => pre_new (pre_kill (pre_new p) (by omega))) (fun n c f hn o => ?_) (fun c f o => ?_) ⟨?_, .inr ⟨(H.new ⟨cel k q, e', ro, full⟩).length, false, by simp, by rw [len_new]; omega, by rw [len_new]; omega, ?_⟩⟩
    · obtain ⟨e', o⟩ := o
      exact ⟨e', get_new_any (by rw [get_kill_ne (by omega)]; exact get_new_any o)⟩
    · obtain ⟨e', o⟩ := o
      exact ⟨e', get_new_any (by rw [get_kill_ne h3]; exact get_new_any o)⟩
    · intro r hr
      rcases List.mem_append.1 hr with hr | hr
      · exact hw r hr
      · rw [List.mem_singleton.1 hr, hq]
    · rw [get_new_eq (by rw [len_kill])]
      simp [cel_app]
end
theorem InE.putb {k : IntKind} {w a b : Nat} {h : AH} {v : Value} {L : List (List Int)} {n : Nat} {bl : Blk} (o : InE k w a b h v L) (hn : n < a) : InE k w a b (h.put n bl) v L := by
  rcases o with o | ⟨m, e, full, h1, rfl, h2, h3⟩
  · exact .inl o
  · exact .inr ⟨m, e, full, h1, rfl, by rw [get_put_ne (by omega)]; exact h2, h3⟩
theorem InE.mono {k : IntKind} {w a b a' b' : Nat} {h : AH} {v : Value} {L : List (List Int)} (o : InE k w a b h v L) (ha : a' ≤ a) (hb : b ≤ b') : InE k w a' b' h v L := by
  rcases o with o | ⟨m, e, full, h1, rfl, h2, h3⟩
  · exact .inl o
  · exact .inr ⟨m, e, full, ⟨by omega, by omega⟩, rfl, h2, h3⟩
end Go.Proofs.Ytphklalbkpohfaa.X

/- The rules once more, with continuations that the rewriting leaves alone until their turn: printed by wip/tools/mkY.py. -/
set_option linter.unusedVariables false
set_option linter.unusedSimpArgs false
set_option linter.defProp false
namespace Go.Proofs.Ytphklalbkpohfaa.X
open Go Go.RowKit

/-- A dummy that depends on what is to be left alone. -/
inductive Dum {α : Type} (a : α) : Type
 | mk

def yQV (v : Value) (Q : Value → Prop) (_ : Dum Q) : Prop := QV v Q
@[congr] theorem yQV_congr {v : Value} {Q : Value → Prop} {w : Value} {d0 : Dum Q} (e : v = w) : yQV v Q d0 = yQV w Q d0 := by rw [e]
theorem yQV_forth {v : Value} {Q : Value → Prop} : QV v Q = yQV v Q .mk := rfl
theorem yQV_back {v : Value} {Q : Value → Prop} {d0 : Dum Q} : yQV v Q d0 = QV v Q := rfl
def yWV (r : Option Value) (Q : Value → Prop) (_ : Dum Q) : Prop := WV r Q
@[congr] theorem yWV_congr {r : Option Value} {Q : Value → Prop} {w : Option Value} {d0 : Dum Q} (e : r = w) : yWV r Q d0 = yWV w Q d0 := by rw [e]
theorem yWV_forth {r : Option Value} {Q : Value → Prop} : WV r Q = yWV r Q .mk := rfl
theorem yWV_back {r : Option Value} {Q : Value → Prop} {d0 : Dum Q} : yWV r Q d0 = WV r Q := rfl
def yHQ (r : Option AH) (Q : AH → Prop) (_ : Dum Q) : Prop := HQ r Q
@[congr] theorem yHQ_congr {r : Option AH} {Q : AH → Prop} {w : Option AH} {d0 : Dum Q} (e : r = w) : yHQ r Q d0 = yHQ w Q d0 := by rw [e]
theorem yHQ_forth {r : Option AH} {Q : AH → Prop} : HQ r Q = yHQ r Q .mk := rfl
theorem yHQ_back {r : Option AH} {Q : AH → Prop} {d0 : Dum Q} : yHQ r Q d0 = HQ r Q := rfl
def yPQ (v : Value) (Q : Nat → Nat → Prop) (_ : Dum Q) : Prop := PQ v Q
@[congr] theorem yPQ_congr {v : Value} {Q : Nat → Nat → Prop} {w : Value} {d0 : Dum Q} (e : v = w) : yPQ v Q d0 = yPQ w Q d0 := by rw [e]
theorem yPQ_forth {v : Value} {Q : Nat → Nat → Prop} : PQ v Q = yPQ v Q .mk := rfl
theorem yPQ_back {v : Value} {Q : Nat → Nat → Prop} {d0 : Dum Q} : yPQ v Q d0 = PQ v Q := rfl
def yLQ (v : List Value) (Q : List Value → Prop) (_ : Dum Q) : Prop := LQ v Q
@[congr] theorem yLQ_congr {v : List Value} {Q : List Value → Prop} {w : List Value} {d0 : Dum Q} (e : v = w) : yLQ v Q d0 = yLQ w Q d0 := by rw [e]
theorem yLQ_forth {v : List Value} {Q : List Value → Prop} : LQ v Q = yLQ v Q .mk := rfl
theorem yLQ_back {v : List Value} {Q : List Value → Prop} {d0 : Dum Q} : yLQ v Q d0 = LQ v Q := rfl
def yVQ (r : Option (List Value)) (Q : List Value → Prop) (_ : Dum Q) : Prop := VQ r Q
@[congr] theorem yVQ_congr {r : Option (List Value)} {Q : List Value → Prop} {w : Option (List Value)} {d0 : Dum Q} (e : r = w) : yVQ r Q d0 = yVQ w Q d0 := by rw [e]
theorem yVQ_forth {r : Option (List Value)} {Q : List Value → Prop} : VQ r Q = yVQ r Q .mk := rfl
theorem yVQ_back {r : Option (List Value)} {Q : List Value → Prop} {d0 : Dum Q} : yVQ r Q d0 = VQ r Q := rfl
def yOQ (r : Option (Value × AH)) (Q : Value → AH → Prop) (_ : Dum Q) : Prop := OQ r Q
@[congr] theorem yOQ_congr {r : Option (Value × AH)} {Q : Value → AH → Prop} {w : Option (Value × AH)} {d0 : Dum Q} (e : r = w) : yOQ r Q d0 = yOQ w Q d0 := by rw [e]
theorem yOQ_forth {r : Option (Value × AH)} {Q : Value → AH → Prop} : OQ r Q = yOQ r Q .mk := rfl
theorem yOQ_back {r : Option (Value × AH)} {Q : Value → AH → Prop} {d0 : Dum Q} : yOQ r Q d0 = OQ r Q := rfl
def yIfW (v : Value) (A : Prop) (B : Prop) (_ : Dum A) (_ : Dum B) : Prop := IfW v A B
@[congr] theorem yIfW_congr {v : Value} {A : Prop} {B : Prop} {w : Value} {d0 : Dum A} {d1 : Dum B} (e : v = w) : yIfW v A B d0 d1 = yIfW w A B d0 d1 := by rw [e]
theorem yIfW_forth {v : Value} {A : Prop} {B : Prop} : IfW v A B = yIfW v A B .mk .mk := rfl
theorem yIfW_back {v : Value} {A : Prop} {B : Prop} {d0 : Dum A} {d1 : Dum B} : yIfW v A B d0 d1 = IfW v A B := rfl
def yWF (S : XS) (g : FuncId) (args : List Value) (h : AH) (Q : Value → AH → Prop) (_ : Dum h) (_ : Dum Q) : Prop := WF S g args h Q
@[congr] theorem yWF_congr {S : XS} {g : FuncId} {args args1 : List Value} {h : AH} {Q : Value → AH → Prop} {d0 : Dum h} {d1 : Dum Q} (e : args = args1) : yWF S g args h Q d0 d1 = yWF S g args1 h Q d0 d1 := by rw [e]
theorem yWF_back {S : XS} {g : FuncId} {args : List Value} {h : AH} {Q : Value → AH → Prop} {d0 : Dum h} {d1 : Dum Q} : yWF S g args h Q d0 d1 = WF S g args h Q := rfl
def yWK (S : XS) (v : Value) (args : List Value) (h : AH) (Q : Value → AH → Prop) (_ : Dum h) (_ : Dum Q) : Prop := WK S v args h Q
@[congr] theorem yWK_congr {S : XS} {v v1 : Value} {args args1 : List Value} {h : AH} {Q : Value → AH → Prop} {d0 : Dum h} {d1 : Dum Q} (e : v = v1) (e1 : args = args1) : yWK S v args h Q d0 d1 = yWK S v1 args1 h Q d0 d1 := by rw [e, e1]
theorem yWK_back {S : XS} {v : Value} {args : List Value} {h : AH} {Q : Value → AH → Prop} {d0 : Dum h} {d1 : Dum Q} : yWK S v args h Q d0 d1 = WK S v args h Q := rfl
theorem yWK_func {S : XS} {g : FuncId} {cap : Array Value} {args : List Value} {h : AH} {Q : Value → AH → Prop} {d0 : Dum h} {d1 : Dum Q} : yWK S (.func (.func g) #[] cap) args h Q d0 d1 = yWF S g (args ++ cap.toList) h Q .mk .mk := rfl
def yWG (S : XS) (v : Value) (b : Bool) (i : XI) (rest : List XI) (f : Fr) (h : AH) (Q : Fr → AH → Prop) (_ : Dum i) (_ : Dum rest) (_ : Dum f) (_ : Dum h) (_ : Dum Q) : Prop := WG S v b i rest f h Q
@[congr] theorem yWG_congr {v v1 : Value} {b : Bool} {S : XS} {i : XI} {rest : List XI} {f : Fr} {h : AH} {Q : Fr → AH → Prop} {d0 : Dum i} {d1 : Dum rest} {d2 : Dum f} {d3 : Dum h} {d4 : Dum Q} (e : v = v1) : yWG S v b i rest f h Q d0 d1 d2 d3 d4 = yWG S v1 b i rest f h Q d0 d1 d2 d3 d4 := by rw [e]
theorem yWG_back {v : Value} {b : Bool} {S : XS} {i : XI} {rest : List XI} {f : Fr} {h : AH} {Q : Fr → AH → Prop} {d0 : Dum i} {d1 : Dum rest} {d2 : Dum f} {d3 : Dum h} {d4 : Dum Q} : yWG S v b i rest f h Q d0 d1 d2 d3 d4 = WG S v b i rest f h Q := rfl
theorem yWG_tt {S : XS} {i : XI} {rest : List XI} {f : Fr} {h : AH} {Q : Fr → AH → Prop} {d0 : Dum i} {d1 : Dum rest} {d2 : Dum f} {d3 : Dum h} {d4 : Dum Q} : yWG S (.bool true) true i rest f h Q d0 d1 d2 d3 d4 = WO S (⟨i.d, i.o, none, i.q⟩ :: rest) f h Q := rfl
theorem yWG_ff {S : XS} {i : XI} {rest : List XI} {f : Fr} {h : AH} {Q : Fr → AH → Prop} {d0 : Dum i} {d1 : Dum rest} {d2 : Dum f} {d3 : Dum h} {d4 : Dum Q} : yWG S (.bool false) false i rest f h Q d0 d1 d2 d3 d4 = WO S (⟨i.d, i.o, none, i.q⟩ :: rest) f h Q := rfl
theorem yWG_tf {S : XS} {i : XI} {rest : List XI} {f : Fr} {h : AH} {Q : Fr → AH → Prop} {d0 : Dum i} {d1 : Dum rest} {d2 : Dum f} {d3 : Dum h} {d4 : Dum Q} : yWG S (.bool true) false i rest f h Q d0 d1 d2 d3 d4 = WO S rest (updo f i.d undef) h Q := rfl
theorem yWG_ft {S : XS} {i : XI} {rest : List XI} {f : Fr} {h : AH} {Q : Fr → AH → Prop} {d0 : Dum i} {d1 : Dum rest} {d2 : Dum f} {d3 : Dum h} {d4 : Dum Q} : yWG S (.bool false) true i rest f h Q d0 d1 d2 d3 d4 = WO S rest (updo f i.d undef) h Q := rfl
theorem yWG_un {b : Bool} {S : XS} {i : XI} {rest : List XI} {f : Fr} {h : AH} {Q : Fr → AH → Prop} {d0 : Dum i} {d1 : Dum rest} {d2 : Dum f} {d3 : Dum h} {d4 : Dum Q} : yWG S undef b i rest f h Q d0 d1 d2 d3 d4 = WO S rest (updo f i.d undef) h Q := rfl
theorem yQV_eq {v : Value} {Q : Value → Prop} {d : Dum Q} : yQV v Q d = Q v := rfl
theorem yWV_some {v : Value} {Q : Value → Prop} {d : Dum Q} : yWV (some v) Q d = Q v := WV_some
theorem yWV_ite {c : Prop} [Decidable c] {v : Value} {Q : Value → Prop} {d : Dum Q} : yWV (if c then some v else none) Q d = (c ∧ Q v) := WV_ite
theorem yHQ_some {v : AH} {Q : AH → Prop} {d : Dum Q} : yHQ (some v) Q d = Q v := HQ_some
theorem yHQ_ite {c : Prop} [Decidable c] {v : AH} {Q : AH → Prop} {d : Dum Q} : yHQ (if c then some v else none) Q d = (c ∧ Q v) := HQ_ite
theorem yPQ_ptr {p : Addr} {Q : Nat → Nat → Prop} {d : Dum Q} : yPQ (.pointer (some p)) Q d = Q p.block p.off := rfl
theorem yLQ_eq {v : List Value} {Q : List Value → Prop} {d : Dum Q} : yLQ v Q d = Q v := rfl
theorem yVQ_some {v : List Value} {Q : List Value → Prop} {d : Dum Q} : yVQ (some v) Q d = Q v := VQ_some
theorem yOQ_some {v : Value} {h : AH} {Q : Value → AH → Prop} {d : Dum Q} : yOQ (some (v, h)) Q d = Q v h := OQ_some
theorem yOQ_ite {c : Prop} [Decidable c] {v : Value} {h : AH} {Q : Value → AH → Prop} {d : Dum Q} : yOQ (if c then some (v, h) else none) Q d = (c ∧ Q v h) := OQ_ite
theorem yIfW_t {A B : Prop} {d : Dum A} {e : Dum B} : yIfW (.bool true) A B d e = A := rfl
theorem yIfW_f {A B : Prop} {d : Dum A} {e : Dum B} : yIfW (.bool false) A B d e = B := rfl

theorem yWX_mv {S : XS} {f : Fr} {h : AH} {Q : Value → AH → Prop} {x : Operand} : WX S (.mv x) f h Q = yQV (ev f x) (fun v => Q v h) .mk := WX_mv
theorem yWX_pick {S : XS} {f : Fr} {h : AH} {Q : Value → AH → Prop} {a b c : Operand} : WX S (.pick c a b) f h Q = yWV (pickV (ev f c) (ev f a) (ev f b)) (fun v => Q v h) .mk := WX_pick
theorem yWX_box {S : XS} {f : Fr} {h : AH} {Q : Value → AH → Prop} {x : Operand} {e : TypeId} : WX S (.box e x) f h Q = yLQ (cellsL (ev f x)) (fun c => c.all isOne = true ∧ Q (.pointer (some ⟨h.length, 0, none⟩)) (h.new ⟨c, e, false, true⟩)) .mk := WX_box
theorem yWX_boxn {S : XS} {f : Fr} {h : AH} {Q : Value → AH → Prop} {x : Operand} {e : TypeId} {n : Nat} : WX S (.boxn e n x) f h Q = yLQ (cellsL (ev f x)) (fun c => (c.length = n ∧ c.all isOne = true) ∧ Q (.pointer (some ⟨h.length, 0, none⟩)) (h.new ⟨c, e, false, true⟩)) .mk := WX_boxn
theorem yWX_load1 {S : XS} {f : Fr} {h : AH} {Q : Value → AH → Prop} {a : Operand} : WX S (.load1 a) f h Q = yPQ (ev f a) (fun n off => yWV (h.rd1 n off) (fun v => Q v h) .mk) .mk := WX_load1
theorem yWX_loadn {S : XS} {f : Fr} {h : AH} {Q : Value → AH → Prop} {a : Operand} {n : Nat} : WX S (.loadn n a) f h Q = yPQ (ev f a) (fun m off => yWV ((h.rdn m off n).map fun c => .agg c.toArray) (fun v => Q v h) .mk) .mk := WX_loadn
theorem yWX_store {S : XS} {f : Fr} {h : AH} {Q : Value → AH → Prop} {a x : Operand} {n : Nat} : WX S (.store n a x) f h Q = yPQ (ev f a) (fun m off => yLQ (cellsL (ev f x)) (fun c => (c.length = n ∧ c.all isOne = true) ∧ yHQ (h.wr m off c) (fun h1 => Q undef h1) .mk) .mk) .mk := WX_store
theorem yWX_bin {S : XS} {f : Fr} {h : AH} {Q : Value → AH → Prop} {x y : Operand} {op : BinOp} : WX S (.bin op x y) f h Q = yWV (xbin op (ev f x) (ev f y)) (fun v => Q v h) .mk := WX_bin
theorem yWX_un {S : XS} {f : Fr} {h : AH} {Q : Value → AH → Prop} {x : Operand} {op : UnOp} : WX S (.un op x) f h Q = yWV (xun op (ev f x)) (fun v => Q v h) .mk := WX_un
theorem yWX_conv {S : XS} {f : Fr} {h : AH} {Q : Value → AH → Prop} {x : Operand} {k : IntKind} : WX S (.conv k x) f h Q = yWV (convV k (ev f x)) (fun v => Q v h) .mk := WX_conv
theorem yWX_fadr {S : XS} {f : Fr} {h : AH} {Q : Value → AH → Prop} {x : Operand} {off : Nat} : WX S (.fadr off x) f h Q = yPQ (ev f x) (fun n o => Q (.pointer (some ⟨n, o + off, none⟩)) h) .mk := WX_fadr
theorem yWX_fld1 {S : XS} {f : Fr} {h : AH} {Q : Value → AH → Prop} {x : Operand} {off : Nat} : WX S (.fld1 off x) f h Q = yWV (fstV (ev f x) off) (fun v => Q v h) .mk := WX_fld1
theorem yWX_ext {S : XS} {f : Fr} {h : AH} {Q : Value → AH → Prop} {x : Operand} {i : Nat} : WX S (.ext x i) f h Q = yWV (extV (ev f x) i) (fun v => Q v h) .mk := WX_ext
theorem yWX_len {S : XS} {f : Fr} {h : AH} {Q : Value → AH → Prop} {x : Operand} : WX S (.len x) f h Q = yWV (lenV (ev f x)) (fun v => Q v h) .mk := WX_len
theorem yWX_ixs {S : XS} {f : Fr} {h : AH} {Q : Value → AH → Prop} {x y : Operand} {sz : Nat} : WX S (.ixs sz x y) f h Q = yWV (ixsV sz (ev f x) (ev f y)) (fun v => Q v h) .mk := WX_ixs
theorem yWX_ixa {S : XS} {f : Fr} {h : AH} {Q : Value → AH → Prop} {x y : Operand} {n sz : Nat} : WX S (.ixa n sz x y) f h Q = yWV (ixaV n sz (ev f x) (ev f y)) (fun v => Q v h) .mk := WX_ixa
theorem yWX_idx1 {S : XS} {f : Fr} {h : AH} {Q : Value → AH → Prop} {x y : Operand} {n : Nat} : WX S (.idx1 n x y) f h Q = yWV (idx1V n (ev f x) (ev f y)) (fun v => Q v h) .mk := WX_idx1
theorem yWX_idxn {S : XS} {f : Fr} {h : AH} {Q : Value → AH → Prop} {x y : Operand} {n sz : Nat} : WX S (.idxn n sz x y) f h Q = yWV (idxnV n sz (ev f x) (ev f y)) (fun v => Q v h) .mk := WX_idxn
theorem yWX_slc {S : XS} {f : Fr} {h : AH} {Q : Value → AH → Prop} {x : Operand} {sz : Nat} {lo hi : Option Operand} : WX S (.slc sz x lo hi) f h Q = yWV (slcV sz (ev f x) (omapF f lo) (omapF f hi)) (fun v => Q v h) .mk := WX_slc
theorem yWX_isnil {S : XS} {f : Fr} {h : AH} {Q : Value → AH → Prop} {x : Operand} {neg : Bool} : WX S (.isnil neg x) f h Q = yWV (isnilV neg (ev f x)) (fun v => Q v h) .mk := WX_isnil
theorem yWX_eqb {S : XS} {f : Fr} {h : AH} {Q : Value → AH → Prop} {x y : Operand} {neg : Bool} : WX S (.eqb neg x y) f h Q = yWV (eqbV neg (ev f x) (ev f y)) (fun v => Q v h) .mk := WX_eqb
theorem yWX_eqa {S : XS} {f : Fr} {h : AH} {Q : Value → AH → Prop} {x y : Operand} {neg : Bool} {n : Nat} : WX S (.eqa neg n x y) f h Q = yWV (eqaV neg n (ev f x) (ev f y)) (fun v => Q v h) .mk := WX_eqa
theorem yWX_mks {S : XS} {f : Fr} {h : AH} {Q : Value → AH → Prop} {x : Operand} {e : TypeId} {sz bytes : Nat} {z : List Value} : WX S (.mks e sz bytes z x) f h Q = yOQ (mksV e sz bytes z (ev f x) h) Q .mk := WX_mks
theorem yWX_app {S : XS} {f : Fr} {h : AH} {Q : Value → AH → Prop} {x y : Operand} {e : TypeId} {sz bytes : Nat} : WX S (.app e sz bytes x y) f h Q = yOQ (appV e sz bytes (ev f x) (ev f y) h) Q .mk := WX_app
theorem yWX_mkf {S : XS} {f : Fr} {h : AH} {Q : Value → AH → Prop} {g : FuncId} {l : List Operand} : WX S (.mkf g l) f h Q = yLQ (l.map (ev f)) (fun c => Q (.func (.func g) #[] c.toArray) h) .mk := WX_mkf
theorem yWX_build {S : XS} {f : Fr} {h : AH} {Q : Value → AH → Prop} {z : List Value} {l : List (Nat × Nat × Operand)} : WX S (.build z l) f h Q = yVQ (fillL z (l.map fun p => (p.1, p.2.1, ev f p.2.2))) (fun c => c.all isOne = true ∧ Q (.agg c.toArray) h) .mk := WX_build
theorem yWX_bslice {S : XS} {f : Fr} {h : AH} {Q : Value → AH → Prop} {e : TypeId} {sz n : Nat} {z : List Value} {l : List (Nat × Nat × Operand)} : WX S (.bslice e sz n z l) f h Q = yVQ (fillL (zrep n z) (l.map fun p => (p.1, p.2.1, ev f p.2.2))) (fun c => c.all isOne = true ∧ Q (.slice (some ⟨h.length, 0, none⟩) n sz) (h.new ⟨c, e, false, true⟩)) .mk := WX_bslice
theorem yWX_callf {S : XS} {f : Fr} {h : AH} {Q : Value → AH → Prop} {g : FuncId} {args : List Operand} : WX S (.call (.func g) args) f h Q = yWF S g (args.map (ev f)) h Q .mk .mk := WX_callf
theorem yWX_calls {S : XS} {f : Fr} {h : AH} {Q : Value → AH → Prop} {fo : Operand} {args : List Operand} : WX S (.call fo args) f h Q = yWK S (ev f fo) (args.map (ev f)) h Q .mk .mk := WX_calls
theorem yWO_guard {S : XS} {d : Option Nat} {o : XOp} {s : Nat} {b q : Bool} {rest : List XI} {f : Fr} {h : AH} {Q : Fr → AH → Prop} : WO S (⟨d, o, some (s, b), q⟩ :: rest) f h Q = yWG S (f s) b ⟨d, o, none, q⟩ rest f h Q .mk .mk .mk .mk .mk := WO_guard
theorem yWC_cond {S : XS} {c : Operand} {a b : IR} {f : Fr} {h : AH} {Q : XE → Fr → AH → Prop} : WC S (.cond c a b) f h Q = yIfW (ev f c) (WC S a f h Q) (WC S b f h Q) .mk .mk := WC_cond
theorem yRetQ_n {rs : List XRes} {f : Fr} {h : AH} {R : Value → AH → Prop} : RetQ rs R .normal f h = yOQ ((xres f h rs).map (·, h)) R .mk := rfl
theorem yRetQ_r {rs : List XRes} {f : Fr} {h : AH} {R : Value → AH → Prop} : RetQ rs R .ret f h = yOQ ((xres f h rs).map (·, h)) R .mk := rfl
theorem yfill_nil {z : List Value} : fillL z [] = some z := rfl
theorem yfill_cons {z : List Value} {off n : Nat} {x : Value} {rest : List (Nat × Nat × Value)} : fillL z ((off, n, x) :: rest) = if (cellsL x).length = n ∧ off + n ≤ z.length then fillL (splice z off (cellsL x)) rest else none := rfl
theorem yzrep_0 {z : List Value} : zrep 0 z = [] := by simp [zrep]
theorem yzrep_1 {z : List Value} : zrep 1 z = z := by simp [zrep]
theorem yzrep_2 {z : List Value} : zrep 2 z = z ++ z := by simp [zrep]
theorem yzrep_3 {z : List Value} : zrep 3 z = z ++ z ++ z := by simp [zrep]
theorem yzrep_4 {z : List Value} : zrep 4 z = z ++ z ++ z ++ z := by simp [zrep]
theorem yzrep_5 {z : List Value} : zrep 5 z = z ++ z ++ z ++ z ++ z := by simp [zrep]
theorem yzrep_6 {z : List Value} : zrep 6 z = z ++ z ++ z ++ z ++ z ++ z := by simp [zrep]
theorem yzrep_7 {z : List Value} : zrep 7 z = z ++ z ++ z ++ z ++ z ++ z ++ z := by simp [zrep]
theorem yzrep_8 {z : List Value} : zrep 8 z = z ++ z ++ z ++ z ++ z ++ z ++ z ++ z := by simp [zrep]
theorem yzrep_9 {z : List Value} : zrep 9 z = z ++ z ++ z ++ z ++ z ++ z ++ z ++ z ++ z := by simp [zrep]
theorem yWF_forth {S : XS} {g : FuncId} {args : List Value} {h : AH} {Q : Value → AH → Prop} : WF S g args h Q = yWF S g args h Q .mk .mk := rfl
theorem yWK_forth {S : XS} {v : Value} {args : List Value} {h : AH} {Q : Value → AH → Prop} : WK S v args h Q = yWK S v args h Q .mk .mk := rfl
theorem yWG_forth {S : XS} {v : Value} {b : Bool} {i : XI} {rest : List XI} {f : Fr} {h : AH} {Q : Fr → AH → Prop} : WG S v b i rest f h Q = yWG S v b i rest f h Q .mk .mk .mk .mk .mk := rfl
def ypre := And.intro @WC_skip (And.intro @WC_exit (And.intro @WC_ret (And.intro @WC_reg (And.intro @WC_seq (And.intro @yWC_cond (And.intro @WC_blk (And.intro @WO_free (And.intro @WO_calm (And.intro @yWO_guard (And.intro @yWX_mv (And.intro @yWX_pick (And.intro @WX_alloc (And.intro @yWX_box (And.intro @yWX_boxn (And.intro @yWX_load1 (And.intro @yWX_loadn (And.intro @yWX_store (And.intro @yWX_bin (And.intro @yWX_un (And.intro @yWX_conv (And.intro @yWX_fadr (And.intro @yWX_fld1 (And.intro @yWX_ext (And.intro @yWX_len (And.intro @yWX_ixa (And.intro @yWX_idx1 (And.intro @yWX_idxn (And.intro @yWX_slc (And.intro @yWX_isnil (And.intro @yWX_ixs (And.intro @yWX_eqb (And.intro @yWX_eqa (And.intro @yWX_mks (And.intro @yWX_app (And.intro @yWX_mkf (And.intro @yWX_build (And.intro @yWX_bslice (And.intro @yWX_callf (And.intro @yWX_calls (And.intro @ev_tmp (And.intro @ev_const (And.intro @ev_func (And.intro @updo_some (And.intro @updo_none (And.intro @upd_apply (And.intro @SeqQ_n (And.intro @SeqQ_e (And.intro @SeqQ_r (And.intro @BlkQ_n (And.intro @BlkQ_e (And.intro @BlkQ_r (And.intro @RegQ_eq (And.intro @yRetQ_n (And.intro @yRetQ_r (And.intro @InvQ_e (And.intro @InvQ_r (And.intro @LoopQ_e (And.intro @LoopQ_r (And.intro @yQV_forth (And.intro @yWV_forth (And.intro @yHQ_forth (And.intro @yPQ_forth (And.intro @yLQ_forth (And.intro @yVQ_forth (And.intro @yOQ_forth (And.intro @yIfW_forth (And.intro @yWF_forth (And.intro @yWK_forth (@yWG_forth)))))))))))))))))))))))))))))))))))))))))))))))))))))))))))))))))))))
def ypost := And.intro @WO_nil (And.intro @yWG_tt (And.intro @yWG_ff (And.intro @yWG_tf (And.intro @yWG_un (And.intro @yWG_ft (And.intro @yQV_eq (And.intro @yWV_some (And.intro @yOQ_some (And.intro @yWK_func (And.intro @yHQ_some (And.intro @yPQ_ptr (And.intro @yLQ_eq (And.intro @yVQ_some (And.intro @yIfW_t (And.intro @yIfW_f (And.intro @pickV_t (And.intro @pickV_f (And.intro @bin_add (And.intro @bin_sub (And.intro @bin_mul (And.intro @bin_eql (And.intro @bin_neq (And.intro @bin_lss (And.intro @bin_leq (And.intro @bin_gtr (And.intro @bin_geq (And.intro @un_not (And.intro @un_minus (And.intro @lenV_slice (And.intro @convV_int (And.intro @fstV_agg (And.intro @extV_tuple (And.intro @eqa3 (And.intro @eqbV_b (And.intro @cellsL_agg (And.intro @cellsL_int (And.intro @cellsL_bool (And.intro @cellsL_slice (And.intro @cellsL_ptr (And.intro @cellsL_func (And.intro @mksV_int (And.intro @yOQ_ite (And.intro @yWV_ite (And.intro @rd1_new_same (And.intro @rd1_new_lt (And.intro @rdn_new_lt (And.intro @get_new_lt (And.intro @wr_new_lt (And.intro @yHQ_ite (And.intro @map_ite_v (And.intro @rd1_put_same (And.intro @rdn_put_same (And.intro @rd1_put_ne (And.intro @rdn_put_ne (And.intro @wr_put_same (And.intro @wr_put_ne (And.intro @xres_tmp (And.intro @xres_tmp2 (And.intro @xres_cell (And.intro @xres_cells (And.intro @xres_2 (And.intro @tup2_some (And.intro @rd1V_ptr (And.intro @rdnV_ptr (And.intro @xres1_tmp (And.intro @xres1_cell (And.intro @xres1_cells (And.intro @args_nil (And.intro @args_cons (And.intro @map_some_v (And.intro @bind_some_v (And.intro @map_cons_v (And.intro @map_nil_v (And.intro @lit_nil (And.intro @lit_cons (And.intro @toL (And.intro @all_cons_v (And.intro @all_nil_v (And.intro @one_int (And.intro @one_bool (And.intro @one_slice (And.intro @one_func (And.intro @one_ptr (And.intro @len_cons_v (And.intro @len_nil_v (And.intro @drop_zero_v (And.intro @drop_cons_v (And.intro @take_zero_v (And.intro @take_nil_v (And.intro @take_cons_v (And.intro @app_nil_v (And.intro @app_cons_v (And.intro @get_new_same (And.intro @Bool.and_true (And.intro @Bool.true_and (And.intro @Bool.not_true (And.intro @Bool.not_false (And.intro @true_and (And.intro @and_true (And.intro @and_self (And.intro @decide_true (And.intro @decide_false (And.intro @yfill_nil (And.intro @yfill_cons (And.intro @yzrep_0 (And.intro @yzrep_1 (And.intro @yzrep_2 (And.intro @yzrep_3 (And.intro @yzrep_4 (And.intro @yzrep_5 (And.intro @yzrep_6 (And.intro @yzrep_7 (And.intro @yzrep_8 (@yzrep_9))))))))))))))))))))))))))))))))))))))))))))))))))))))))))))))))))))))))))))))))))))))))))))))))))))))))))))))))))
def yback := And.intro @yQV_back (And.intro @yWV_back (And.intro @yHQ_back (And.intro @yPQ_back (And.intro @yLQ_back (And.intro @yVQ_back (And.intro @yOQ_back (And.intro @yIfW_back (And.intro @yWF_back (And.intro @yWK_back (@yWG_back))))))))))
def ynew := And.intro @wr_new_same (And.intro @rdn_new_same (@splice_cons))
end Go.Proofs.Ytphklalbkpohfaa.X

/- The tensor of a product of matrices, both sides. -/
set_option linter.unusedVariables false
set_option linter.unusedSimpArgs false
set_option maxRecDepth 20000
set_option maxHeartbeats 4000000
namespace Go.Proofs.Ytphklalbkpohfaa.X
open Go Go.RowKit

def o9 : List Int := List.replicate 9 0
def un9 (a : Nat) : List Int := o9.set a 1
def un27 (a b c : Nat) : List Int := un9 a ++ (un9 b ++ un9 c)
theorem un9_len {a : Nat} : (un9 a).length = 9 := by simp [un9, o9]
theorem un27_len {a b c : Nat} : (un27 a b c).length = 27 := by simp [un27, un9_len]
theorem un27_set {a b c : Nat} (ha : a < 9) (hb : b < 9) (hc : c < 9) : (((List.replicate 27 0).set a 1).set (9 + b) 1).set (18 + c) 1 = un27 a b c := by
  have e : List.replicate 27 (0 : Int) = o9 ++ (o9 ++ o9) := rfl
  have lz : o9.length = 9 := rfl
  have l1 : (o9.set a 1).length = 9 := by rw [List.length_set, lz]
  have l2 : (o9.set b 1).length = 9 := by rw [List.length_set, lz]
  rw [e, List.set_append_left _ _ (by rw [lz]; exact ha), List.set_append_right _ _ (by rw [l1]; omega), List.set_append_right _ _ (by rw [l1]; omega), l1, Nat.add_sub_cancel_left,
    List.set_append_left _ _ (by rw [lz]; exact hb), List.set_append_right _ _ (by rw [l2]; omega), l2]
  rw [show 18 + c - 9 - 9 = c by omega]
  rfl
theorem un9_in {a j : Nat} : 0 ≤ (un9 a).getD j 0 ∧ (un9 a).getD j 0 ≤ 1 := by
  unfold un9
  rw [List.getD_eq_getElem?_getD, List.getElem?_set]
  split
  · split <;> simp
  · unfold o9
    rw [List.getElem?_replicate]
    split <;> simp
theorem un27_in {a b c j : Nat} : 0 ≤ (un27 a b c).getD j 0 ∧ (un27 a b c).getD j 0 ≤ 255 := by
  unfold un27
  by_cases h : j < 9
  · rw [getD_app_l (by rw [un9_len]; exact h)]
    have := un9_in (a := a) (j := j)
    omega
  · rw [getD_app_r (by rw [un9_len]; omega), un9_len]
    by_cases h2 : j - 9 < 9
    · rw [getD_app_l (by rw [un9_len]; exact h2)]
      have := un9_in (a := b) (j := j - 9)
      omega
    · rw [getD_app_r (by rw [un9_len]; omega), un9_len]
      have := un9_in (a := c) (j := j - 9 - 9)
      omega
def stdG (m k t : Nat) : List Int := un27 (t / k / m * m + t / k % m) (t / k % m * k + t % k) (t / k / m * k + t % k)
def stdL (m k : Nat) : Nat → List (List Int)
  | 0 => []
  | t + 1 => stdL m k t ++ [stdG m k t]
theorem stdL_len {m k : Nat} : ∀ {t : Nat}, (stdL m k t).length = t
  | 0 => rfl
  | t + 1 => by simp [stdL, stdL_len (t := t)]
theorem stdL_byt {m k : Nat} : ∀ {t : Nat}, Byt 27 (stdL m k t)
  | 0 => fun i hi => by simp [stdL] at hi
  | t + 1 => fun i hi j hj => by
    rw [stdL_len] at hi
    unfold stdL
    by_cases h : i < t
    · rw [getD_app_l (by rw [stdL_len]; exact h)]
      exact stdL_byt (t := t) i (by rw [stdL_len]; exact h) j hj
    · rw [getD_app_r (by rw [stdL_len]; omega), stdL_len, show i - t = 0 by omega]
      exact un27_in
theorem stdG_at {m k i j l : Nat} (hj : j < m) (hl : l < k) : stdG m k ((i * m + j) * k + l) = un27 (i * m + j) (j * k + l) (i * k + l) := by
  unfold stdG
  have e1 : ((i * m + j) * k + l) / k = i * m + j := by
    rw [Nat.mul_comm, Nat.mul_add_div (by omega), Nat.div_eq_of_lt hl, Nat.add_zero]
  have e2 : ((i * m + j) * k + l) % k = l := by
    rw [Nat.mul_comm, Nat.mul_add_mod, Nat.mod_eq_of_lt hl]
  have e3 : (i * m + j) / m = i := by
    rw [Nat.mul_comm, Nat.mul_add_div (by omega), Nat.div_eq_of_lt hj, Nat.add_zero]
  have e4 : (i * m + j) % m = j := by
    rw [Nat.mul_comm, Nat.mul_add_mod, Nat.mod_eq_of_lt hj]
  rw [e1, e2, e3, e4]
def stdX (p n m k : Int) : Sch := ⟨p, n, m, k, stdL m.toNat k.toNat (n * m * k).toNat⟩
theorem fillL_27 {q : List Int} (hq : q.length = 27) : fillL (zrep 1 [.int .u8 0, .int .u8 0, .int .u8 0, .int .u8 0, .int .u8 0, .int .u8 0, .int .u8 0, .int .u8 0, .int .u8 0, .int .u8 0, .int .u8 0, .int .u8 0, .int .u8 0, .int .u8 0, .int .u8 0, .int .u8 0, .int .u8 0, .int .u8 0, .int .u8 0, .int .u8 0, .int .u8 0, .int .u8 0, .int .u8 0, .int .u8 0, .int .u8 0, .int .u8 0, .int .u8 0]) [(0, 27, .agg (cel .u8 q).toArray)] = some (cel .u8 q) := by
  have e1 : (cel .u8 q).length = 27 := by rw [cel_len, hq]
  have e2 : (zrep 1 [.int .u8 0, .int .u8 0, .int .u8 0, .int .u8 0, .int .u8 0, .int .u8 0, .int .u8 0, .int .u8 0, .int .u8 0, .int .u8 0, .int .u8 0, .int .u8 0, .int .u8 0, .int .u8 0, .int .u8 0, .int .u8 0, .int .u8 0, .int .u8 0, .int .u8 0, .int .u8 0, .int .u8 0, .int .u8 0, .int .u8 0, .int .u8 0, .int .u8 0, .int .u8 0, .int .u8 0]).length = 27 := rfl
  rw [fillL, cellsL_cel, if_pos ⟨e1, by rw [e2]; omega⟩, fillL, splice_eq, e1]
  simp [zrep]
theorem splice_27 {q : List Int} (hq : q.length = 27) : splice [.int .u8 0, .int .u8 0, .int .u8 0, .int .u8 0, .int .u8 0, .int .u8 0, .int .u8 0, .int .u8 0, .int .u8 0, .int .u8 0, .int .u8 0, .int .u8 0, .int .u8 0, .int .u8 0, .int .u8 0, .int .u8 0, .int .u8 0, .int .u8 0, .int .u8 0, .int .u8 0, .int .u8 0, .int .u8 0, .int .u8 0, .int .u8 0, .int .u8 0, .int .u8 0, .int .u8 0] 0 (cel .u8 q) = cel .u8 q := by
  rw [splice_eq, cel_len, hq]
  simp
theorem un27_splice {a b c : Nat} : splice (splice (splice [.int .u8 0, .int .u8 0, .int .u8 0, .int .u8 0, .int .u8 0, .int .u8 0, .int .u8 0, .int .u8 0, .int .u8 0, .int .u8 0, .int .u8 0, .int .u8 0, .int .u8 0, .int .u8 0, .int .u8 0, .int .u8 0, .int .u8 0, .int .u8 0, .int .u8 0, .int .u8 0, .int .u8 0, .int .u8 0, .int .u8 0, .int .u8 0, .int .u8 0, .int .u8 0, .int .u8 0] 0 (cel .u8 (un9 a))) 9 (cel .u8 (un9 b))) 18 (cel .u8 (un9 c)) = cel .u8 (un27 a b c) := by
  rw [show ([.int .u8 0, .int .u8 0, .int .u8 0, .int .u8 0, .int .u8 0, .int .u8 0, .int .u8 0, .int .u8 0, .int .u8 0, .int .u8 0, .int .u8 0, .int .u8 0, .int .u8 0, .int .u8 0, .int .u8 0, .int .u8 0, .int .u8 0, .int .u8 0, .int .u8 0, .int .u8 0, .int .u8 0, .int .u8 0, .int .u8 0, .int .u8 0, .int .u8 0, .int .u8 0, .int .u8 0] : List Value) = cel .u8 (o9 ++ (o9 ++ o9)) from rfl, cel_splice, cel_splice, cel_splice]
  have ha := un9_len (a := a)
  have hb := un9_len (a := b)
  have hc := un9_len (a := c)
  unfold un27
  congr 1
  generalize un9 a = x at *
  generalize un9 b = y at *
  generalize un9 c = z at *
  have ho : o9.length = 9 := rfl
  simp [List.take_append, List.drop_append, ha, hb, hc, ho, List.take_of_length_le, List.drop_of_length_le]
theorem splice_lenW {c vs : List Value} {off : Nat} (h : off + vs.length ≤ c.length) : (splice c off vs).length = c.length := by
  rw [splice_eq]
  simp
  omega
theorem un27_l1 {a : Nat} : (splice [.int .u8 0, .int .u8 0, .int .u8 0, .int .u8 0, .int .u8 0, .int .u8 0, .int .u8 0, .int .u8 0, .int .u8 0, .int .u8 0, .int .u8 0, .int .u8 0, .int .u8 0, .int .u8 0, .int .u8 0, .int .u8 0, .int .u8 0, .int .u8 0, .int .u8 0, .int .u8 0, .int .u8 0, .int .u8 0, .int .u8 0, .int .u8 0, .int .u8 0, .int .u8 0, .int .u8 0] 0 (cel .u8 (un9 a))).length = 27 := by rw [splice_lenW (by rw [cel_len, un9_len]; decide)]; rfl
theorem un27_l2 {a b : Nat} : (splice (splice [.int .u8 0, .int .u8 0, .int .u8 0, .int .u8 0, .int .u8 0, .int .u8 0, .int .u8 0, .int .u8 0, .int .u8 0, .int .u8 0, .int .u8 0, .int .u8 0, .int .u8 0, .int .u8 0, .int .u8 0, .int .u8 0, .int .u8 0, .int .u8 0, .int .u8 0, .int .u8 0, .int .u8 0, .int .u8 0, .int .u8 0, .int .u8 0, .int .u8 0, .int .u8 0, .int .u8 0] 0 (cel .u8 (un9 a))) 9 (cel .u8 (un9 b))).length = 27 := by rw [splice_lenW (by rw [un27_l1, cel_len, un9_len]; decide), un27_l1]
theorem wr_27 {h1 : AH} {e : TypeId} : (h1.new ⟨[.int .u8 0, .int .u8 0, .int .u8 0, .int .u8 0, .int .u8 0, .int .u8 0, .int .u8 0, .int .u8 0, .int .u8 0, .int .u8 0, .int .u8 0, .int .u8 0, .int .u8 0, .int .u8 0, .int .u8 0, .int .u8 0, .int .u8 0, .int .u8 0, .int .u8 0, .int .u8 0, .int .u8 0, .int .u8 0, .int .u8 0, .int .u8 0, .int .u8 0, .int .u8 0, .int .u8 0], e, false, true⟩).wr h1.length 0 [.int .u8 0, .int .u8 0, .int .u8 0, .int .u8 0, .int .u8 0, .int .u8 0, .int .u8 0, .int .u8 0, .int .u8 0, .int .u8 0, .int .u8 0, .int .u8 0, .int .u8 0, .int .u8 0, .int .u8 0, .int .u8 0, .int .u8 0, .int .u8 0, .int .u8 0, .int .u8 0, .int .u8 0, .int .u8 0, .int .u8 0, .int .u8 0, .int .u8 0, .int .u8 0, .int .u8 0] = some (h1.new ⟨cel .u8 (List.replicate 27 0), e, false, true⟩) := wr_all rfl
theorem wr_set1 {h1 : AH} {e : TypeId} {q : List Int} {j : Nat} {x : Int} (hj : j < q.length) : (h1.new ⟨cel .u8 q, e, false, true⟩).wr h1.length j [.int .u8 x] = some (h1.new ⟨cel .u8 (q.set j x), e, false, true⟩) := by
  rw [wr_new_same, if_pos ⟨rfl, by rw [cel_len]; simp only [List.length_singleton]; omega⟩, cel_set hj]
theorem s_l01Standard {p n m k : Int} {h : AH} {Q : Value → AH → Prop} (z : SZ (stdX p n m k)) (hQ : ∀ v' h', h <+: h' → InX h.length h'.length h' v' (stdX p n m k).ps → Q (schV (stdX p n m k) v') h') : WF S 54 [I64 p, I64 n, I64 m, I64 k] h Q := by
  obtain ⟨zp, zn, zm, zk, znm, zmk, znk⟩ := z
  simp only [stdX] at zp zn zm zk znm zmk znk
  unfold stdX at hQ
  obtain ⟨N, rfl⟩ : ∃ N : Nat, n = N := ⟨n.toNat, by omega⟩
  obtain ⟨M, rfl⟩ : ∃ N : Nat, m = N := ⟨m.toNat, by omega⟩
  obtain ⟨K, rfl⟩ : ∃ N : Nat, k = N := ⟨k.toNat, by omega⟩
  rw [Int.toNat_natCast, Int.toNat_natCast, show (N : Int) * (M : Int) * (K : Int) = ((N * M * K : Nat) : Int) by push_cast; rfl, Int.toNat_natCast] at hQ
  have enm : (N : Int) * (M : Int) = ((N * M : Nat) : Int) := by push_cast; rfl
  have emk : (M : Int) * (K : Int) = ((M * K : Nat) : Int) := by push_cast; rfl
  have enk : (N : Int) * (K : Int) = ((N * K : Nat) : Int) := by push_cast; rfl
  have zijk : N * M * K ≤ 27 := by
    have := mul_in1 (A := 9) (B := 3) znm zk
    rw [enm, ← Int.natCast_mul] at this
    omega
  rw [enm] at znm
  rw [emk] at zmk
  rw [enk] at znk
  refine WF_fn (fn := c54) rfl rfl ?_
  unfold c54
  try simp (maxSteps := 3000000) (disch := first | omega | (simp only [len_new, len_put, len_kill]; omega)) only [↓xpre, xpost, ↓reduceIte, Nat.reduceEqDiff, Nat.reduceAdd, Nat.reduceSub, Nat.reduceLeDiff, Nat.zero_add, Nat.sub_zero]
  generalize hH1 : AH.new h _ = H1
  obtain ⟨hb1, p1, n1⟩ := new_facts hH1
  try simp (maxSteps := 3000000) (disch := first | omega | (simp only [len_new, len_put, len_kill]; omega)) only [↓xpre, xpost, ↓reduceIte, Nat.reduceEqDiff, Nat.reduceAdd, Nat.reduceSub, Nat.reduceLeDiff, Nat.zero_add, Nat.sub_zero, zrep, fillL]
  generalize hH2 : AH.new H1 _ = H2
  obtain ⟨hb2, p2, n2⟩ := new_facts hH2
  try simp (maxSteps := 3000000) (disch := first | omega | (simp only [len_new, len_put, len_kill]; omega)) only [↓xpre, xpost, ↓reduceIte, Nat.reduceEqDiff, Nat.reduceAdd, Nat.reduceSub, Nat.reduceLeDiff, Nat.zero_add, Nat.sub_zero, zrep, fillL, wr_all]
  generalize hH3 : AH.new H2 _ = H3
  obtain ⟨hb3, p3, n3⟩ := new_facts hH3
  have w0 : WayE (114) .u8 27 H3 H1.length H2.length (.slice (some ⟨H1.length, 0, none⟩) 0 27) (stdL M K 0) := ⟨fun r hr => by simp [stdL] at hr, .inr ⟨H1.length, true, rfl, Nat.le_refl _, by omega, pre_get p3 hb2⟩⟩
  refine WC_loop_inv (fun m f K1 => ∃ (i : Nat) (sv : Value), m = N - i ∧ i ≤ N ∧ f 1 = I64 N ∧ f 2 = I64 M ∧ f 3 = I64 K ∧ f 8 = .pointer (some ⟨h.length, 0, none⟩) ∧ f 9 = .pointer (some ⟨H2.length, 0, none⟩) ∧ f 10 = I64 i ∧ (H1 <+: K1) ∧ (H3.length ≤ K1.length) ∧ (OwnB K1 H2.length [I64 p, I64 N, I64 M, I64 K, sv] true) ∧ (WayE (114) .u8 27 K1 H1.length H2.length sv (stdL M K (i * M * K)))) ?_ (N - 0) _ _ ⟨0, .slice (some ⟨H1.length, 0, none⟩) 0 27, rfl, by omega, (by first | rfl | (simp [upd_apply]; done)), (by first | rfl | (simp [upd_apply]; done)), (by first | rfl | (simp [upd_apply]; done)), (by first | rfl | (simp [upd_apply]; done)), (by first | rfl | (simp [upd_apply]; done)), (by first | rfl | (simp [upd_apply]; done)), p2.trans p3, Nat.le_refl _, ⟨_, hb3⟩, (by rw [Nat.zero_mul, Nat.zero_mul]; exact w0)⟩
  rintro m f K1 ⟨i, sv, rfl, hi, f1, f2, f3, f8, f9, f10, pp, l1, g, w⟩
  by_cases hla : (i : Int) < N
  · try simp (maxSteps := 3000000) (disch := first | omega | (simp only [len_new, len_put, len_kill]; omega)) only [↓xpre, xpost, ↓reduceIte, Nat.reduceEqDiff, Nat.reduceAdd, Nat.reduceSub, Nat.reduceLeDiff, Nat.zero_add, Nat.sub_zero, f1, f2, f3, f8, f9, f10, decide_eq_true hla]
    refine WC_loop_inv (fun m f K2 => ∃ (j : Nat) (sv : Value), m = M - j ∧ j ≤ M ∧ f 1 = I64 N ∧ f 2 = I64 M ∧ f 3 = I64 K ∧ f 8 = .pointer (some ⟨h.length, 0, none⟩) ∧ f 9 = .pointer (some ⟨H2.length, 0, none⟩) ∧ f 10 = I64 i ∧ f 11 = I64 j ∧ (H1 <+: K2) ∧ (H3.length ≤ K2.length) ∧ (OwnB K2 H2.length [I64 p, I64 N, I64 M, I64 K, sv] true) ∧ (WayE (114) .u8 27 K2 H1.length H2.length sv (stdL M K ((i * M + j) * K)))) ?_ (M - 0) _ _ ⟨0, sv, rfl, by omega, (by first | rfl | exact f1 | (simp [upd_apply]; done)), (by first | rfl | exact f2 | (simp [upd_apply]; done)), (by first | rfl | exact f3 | (simp [upd_apply]; done)), (by first | rfl | exact f8 | (simp [upd_apply]; done)), (by first | rfl | exact f9 | (simp [upd_apply]; done)), (by first | rfl | exact f10 | (simp [upd_apply]; done)), (by first | rfl | (simp [upd_apply]; done)), pp, l1, g, (by rw [Nat.add_zero]; exact w)⟩
    rintro m f K2 ⟨j, sv, rfl, hj, f1, f2, f3, f8, f9, f10, f11, pp, l1, g, w⟩
    by_cases hlb : (j : Int) < M
    · try simp (maxSteps := 3000000) (disch := first | omega | (simp only [len_new, len_put, len_kill]; omega)) only [↓xpre, xpost, ↓reduceIte, Nat.reduceEqDiff, Nat.reduceAdd, Nat.reduceSub, Nat.reduceLeDiff, Nat.zero_add, Nat.sub_zero, f1, f2, f3, f8, f9, f10, f11, decide_eq_true hlb]
      refine WC_loop_inv (fun m f K3 => ∃ (l : Nat) (sv : Value), m = K - l ∧ l ≤ K ∧ f 1 = I64 N ∧ f 2 = I64 M ∧ f 3 = I64 K ∧ f 8 = .pointer (some ⟨h.length, 0, none⟩) ∧ f 9 = .pointer (some ⟨H2.length, 0, none⟩) ∧ f 10 = I64 i ∧ f 11 = I64 j ∧ f 12 = I64 l ∧ (H1 <+: K3) ∧ (H3.length ≤ K3.length) ∧ (OwnB K3 H2.length [I64 p, I64 N, I64 M, I64 K, sv] true) ∧ (WayE (114) .u8 27 K3 H1.length H2.length sv (stdL M K ((i * M + j) * K + l)))) ?_ (K - 0) _ _ ⟨0, sv, rfl, by omega, (by first | rfl | exact f1 | (simp [upd_apply]; done)), (by first | rfl | exact f2 | (simp [upd_apply]; done)), (by first | rfl | exact f3 | (simp [upd_apply]; done)), (by first | rfl | exact f8 | (simp [upd_apply]; done)), (by first | rfl | exact f9 | (simp [upd_apply]; done)), (by first | rfl | exact f10 | (simp [upd_apply]; done)), (by first | rfl | exact f11 | (simp [upd_apply]; done)), (by first | rfl | (simp [upd_apply]; done)), pp, l1, g, w⟩
      rintro m f K3 ⟨l, sv, rfl, hl, f1, f2, f3, f8, f9, f10, f11, f12, pp, l1, g, w⟩
      by_cases hlc : (l : Int) < K
      · have m1 : i * M + M ≤ N * M := mul_row (by omega)
        have m2 : (i * M + j) * K + K ≤ N * M * K := mul_row (by omega)
        have m3 : j * K + K ≤ M * K := mul_row (by omega)
        have m4 : i * K + K ≤ N * K := mul_row (by omega)
        have e1 : (i : Int) * (M : Int) = ((i * M : Nat) : Int) := by push_cast; rfl
        have e2 : ((i * M : Nat) : Int) + (j : Int) = ((i * M + j : Nat) : Int) := by push_cast; rfl
        have e3 : (j : Int) * (K : Int) = ((j * K : Nat) : Int) := by push_cast; rfl
        have e4 : ((j * K : Nat) : Int) + (l : Int) = ((j * K + l : Nat) : Int) := by push_cast; rfl
        have e5 : (i : Int) * (K : Int) = ((i * K : Nat) : Int) := by push_cast; rfl
        have e6 : ((i * K : Nat) : Int) + (l : Int) = ((i * K + l : Nat) : Int) := by push_cast; rfl
        have lt27 : (i * M + j) * K + l < 27 := by omega
        obtain ⟨eg, hg⟩ := g
        have hgn : ∀ b, (AH.new K3 b).get H2.length = some ⟨[I64 p, I64 N, I64 M, I64 K, sv], eg, false, true⟩ := fun b => get_new_any hg
        have w2 : ∀ e : TypeId, (K3.new ⟨cel .u8 (List.replicate 27 0), e, false, true⟩).wr K3.length (i * M + j) [.int .u8 1] = _ := fun e => wr_set1 (by rw [List.length_replicate]; omega)
        have w3 : ∀ e : TypeId, (K3.new ⟨cel .u8 ((List.replicate 27 0).set (i * M + j) 1), e, false, true⟩).wr K3.length (9 + (j * K + l)) [.int .u8 1] = _ := fun e => wr_set1 (by rw [List.length_set, List.length_replicate]; omega)
        have w4 : ∀ e : TypeId, (K3.new ⟨cel .u8 (((List.replicate 27 0).set (i * M + j) 1).set (9 + (j * K + l)) 1), e, false, true⟩).wr K3.length (18 + (i * K + l)) [.int .u8 1] = _ := fun e => wr_set1 (by rw [List.length_set, List.length_set, List.length_replicate]; omega)
        rw [un27_set (by omega) (by omega) (by omega)] at w4
        have r1 : ∀ e : TypeId, (K3.new ⟨cel .u8 (un27 (i * M + j) (j * K + l) (i * K + l)), e, false, true⟩).rdn K3.length 0 27 = some (cel .u8 (un27 (i * M + j) (j * K + l) (i * K + l))) := fun e => by
          rw [rdn_new_same, if_pos (by simp only [cel_len, un27_len]; omega), List.drop_zero, List.take_of_length_le (by rw [cel_len, un27_len]; omega)]
        have sp1 := splice_27 (q := un27 (i * M + j) (j * K + l) (i * K + l)) un27_len
        ((try simp (maxSteps := 3000000) (dsimp := false) (disch := first | omega | (simp only [len_new, len_put, len_kill]; omega)) only [↓ypre, ypost, ↓reduceIte, Nat.reduceEqDiff, Nat.reduceAdd, Nat.reduceSub, Nat.reduceLeDiff, Nat.zero_add, Nat.sub_zero, f1, f2, f3, f8, f9, f10, f11, f12, decide_eq_true hlc, wr_27, e1, e2, e3, e4, e5, e6, wrap64_in, ixaV_ptr, Int.toNat_natCast, Nat.mul_one, w2, w3, w4, r1, sp1, cel_all, cel_len, un27_len, rd1_of (hgn _)]); try simp only [yback])
        generalize hK4 : AH.new K3 _ = K4
        obtain ⟨hb4, p4, n4⟩ := new_facts hK4
        refine (w.pre p4).app un27_len (by rw [stdL_len]; omega) (by rw [stdL_len]; omega) (by omega) (by omega) fun sv' H' l' pre' _ own' w' => ?_
        obtain ⟨e5, g5⟩ := own' _ _ ⟨eg, pre_get p4 hg⟩
        have lt5 := get_lt g5
        ((try simp (maxSteps := 3000000) (dsimp := false) (disch := first | omega | (simp only [len_new, len_put, len_kill]; omega)) only [↓ypre, ypost, ↓reduceIte, Nat.reduceEqDiff, Nat.reduceAdd, Nat.reduceSub, Nat.reduceLeDiff, Nat.zero_add, Nat.sub_zero, ynew, f1, f2, f3, f8, f9, f10, f11, f12, w'.one, w'.cells, wr_of g5, wrap64_in]); try simp only [yback])
        have lts := lt27
        refine InvQ_go (K - (l + 1)) (by omega) ⟨(l + 1), sv', rfl, by omega, (by first | rfl | exact f1 | (simp only [upd_apply]; rfl) | (show I64 _ = _; congr 1; omega)), (by first | rfl | exact f2 | (simp only [upd_apply]; rfl) | (show I64 _ = _; congr 1; omega)), (by first | rfl | exact f3 | (simp only [upd_apply]; rfl) | (show I64 _ = _; congr 1; omega)), (by first | rfl | exact f8 | (simp only [upd_apply]; rfl) | (show I64 _ = _; congr 1; omega)), (by first | rfl | exact f9 | (simp only [upd_apply]; rfl) | (show I64 _ = _; congr 1; omega)), (by first | rfl | exact f10 | (simp only [upd_apply]; rfl) | (show I64 _ = _; congr 1; omega)), (by first | rfl | exact f11 | (simp only [upd_apply]; rfl) | (show I64 _ = _; congr 1; omega)), (by first | rfl | exact f12 | (simp only [upd_apply]; rfl) | (show I64 _ = _; congr 1; omega)), (pre_put (pre' _ (Nat.le_refl _) (pp.trans p4)) (by omega)), (by rw [len_put]; omega), ⟨_, get_put_same lt5⟩, (by have := w'.put (b := ⟨[I64 p, I64 N, I64 M, I64 K, sv'], e5, false, true⟩); rw [← stdG_at (by omega) (by omega)] at this; exact this)⟩
      · have ec : l = K := by omega
        subst ec
        try simp (maxSteps := 3000000) (disch := first | omega | (simp only [len_new, len_put, len_kill]; omega)) only [↓xpre, xpost, ↓reduceIte, Nat.reduceEqDiff, Nat.reduceAdd, Nat.reduceSub, Nat.reduceLeDiff, Nat.zero_add, Nat.sub_zero, f1, f2, f3, f8, f9, f10, f11, f12, decide_eq_false hlc, wrap64_in]
        refine InvQ_go (M - (j + 1)) (by omega) ⟨(j + 1), sv, rfl, by omega, (by first | rfl | exact f1 | (simp only [upd_apply]; rfl) | (show I64 _ = _; congr 1; omega)), (by first | rfl | exact f2 | (simp only [upd_apply]; rfl) | (show I64 _ = _; congr 1; omega)), (by first | rfl | exact f3 | (simp only [upd_apply]; rfl) | (show I64 _ = _; congr 1; omega)), (by first | rfl | exact f8 | (simp only [upd_apply]; rfl) | (show I64 _ = _; congr 1; omega)), (by first | rfl | exact f9 | (simp only [upd_apply]; rfl) | (show I64 _ = _; congr 1; omega)), (by first | rfl | exact f10 | (simp only [upd_apply]; rfl) | (show I64 _ = _; congr 1; omega)), (by first | rfl | exact f11 | (simp only [upd_apply]; rfl) | (show I64 _ = _; congr 1; omega)), pp, l1, g, (by rw [show (i * M + (j + 1)) * l = (i * M + j) * l + l by rw [← Nat.add_assoc, Nat.succ_mul]]; exact w)⟩
    · have eb : j = M := by omega
      subst eb
      try simp (maxSteps := 3000000) (disch := first | omega | (simp only [len_new, len_put, len_kill]; omega)) only [↓xpre, xpost, ↓reduceIte, Nat.reduceEqDiff, Nat.reduceAdd, Nat.reduceSub, Nat.reduceLeDiff, Nat.zero_add, Nat.sub_zero, f1, f2, f3, f8, f9, f10, f11, decide_eq_false hlb, wrap64_in]
      refine InvQ_go (N - (i + 1)) (by omega) ⟨(i + 1), sv, rfl, by omega, (by first | rfl | exact f1 | (simp only [upd_apply]; rfl) | (show I64 _ = _; congr 1; omega)), (by first | rfl | exact f2 | (simp only [upd_apply]; rfl) | (show I64 _ = _; congr 1; omega)), (by first | rfl | exact f3 | (simp only [upd_apply]; rfl) | (show I64 _ = _; congr 1; omega)), (by first | rfl | exact f8 | (simp only [upd_apply]; rfl) | (show I64 _ = _; congr 1; omega)), (by first | rfl | exact f9 | (simp only [upd_apply]; rfl) | (show I64 _ = _; congr 1; omega)), (by first | rfl | exact f10 | (simp only [upd_apply]; rfl) | (show I64 _ = _; congr 1; omega)), pp, l1, g, (by rw [Nat.succ_mul]; exact w)⟩
  · have ea : i = N := by omega
    subst ea
    obtain ⟨e6, g6⟩ := g
    have hb1K := pre_get pp hb1
    have lt2 := get_lt hb1K
    try simp (maxSteps := 3000000) (disch := first | omega | (simp only [len_new, len_put, len_kill]; omega)) only [↓xpre, xpost, ↓reduceIte, Nat.reduceEqDiff, Nat.reduceAdd, Nat.reduceSub, Nat.reduceLeDiff, Nat.zero_add, Nat.sub_zero, f1, f2, f3, f8, f9, f10, decide_eq_false hla, rdn_of g6, wr_of hb1K]
    exact ⟨w.one, hQ sv _ (pre_put (p1.trans pp) (Nat.le_refl _)) ⟨(w.putb (by omega)).inE.mono (by omega) (Nat.le_refl _), stdL_byt⟩⟩
theorem i_unit {i : Nat} {h : AH} {Q : Value → AH → Prop} (hi : i < 9) (hQ : ∀ h', h <+: h' → Q (aggV .u8 (un9 i)) h') : WF S 113 [I64 i] h Q := by
  refine WF_fn (fn := c113) rfl rfl ?_
  unfold c113
  have z9e : (cel .u8 (List.replicate 9 0)) = cel .u8 o9 := rfl
  have w1 : ∀ (h1 : AH) (e : TypeId), (h1.new ⟨[.int .u8 0, .int .u8 0, .int .u8 0, .int .u8 0, .int .u8 0, .int .u8 0, .int .u8 0, .int .u8 0, .int .u8 0], e, false, true⟩).wr h1.length 0 [.int .u8 0, .int .u8 0, .int .u8 0, .int .u8 0, .int .u8 0, .int .u8 0, .int .u8 0, .int .u8 0, .int .u8 0] = some (h1.new ⟨cel .u8 o9, e, false, true⟩) := fun h1 e => wr_all rfl
  have w2 : ∀ (h1 : AH) (e : TypeId), (h1.new ⟨cel .u8 o9, e, false, true⟩).wr h1.length i [.int .u8 1] = some (h1.new ⟨cel .u8 (un9 i), e, false, true⟩) := fun h1 e => wr_set1 hi
  have r1 : ∀ (h1 : AH) (e : TypeId), (h1.new ⟨cel .u8 (un9 i), e, false, true⟩).rdn h1.length 0 9 = some (cel .u8 (un9 i)) := fun h1 e => by
    rw [rdn_new_same, if_pos (by simp only [cel_len, un9_len]; omega), List.drop_zero, List.take_of_length_le (by rw [cel_len, un9_len]; omega)]
  ((try simp (maxSteps := 3000000) (dsimp := false) (disch := first | omega | (simp only [len_new, len_put, len_kill]; omega)) only [↓ypre, ypost, ↓reduceIte, Nat.reduceEqDiff, Nat.reduceAdd, Nat.reduceSub, Nat.reduceLeDiff, Nat.zero_add, Nat.sub_zero]); try simp only [yback])
  generalize hH1 : AH.new h _ = H1
  obtain ⟨hb1, p1, n1⟩ := new_facts hH1
  have w3 : H1.wr h.length 0 (cel .u8 (un9 i)) = some (H1.put h.length ⟨cel .u8 (un9 i), _, false, true⟩) := wr_full hb1 (by rw [cel_len, un9_len]; rfl)
  have lt1 : h.length < H1.length := by omega
  ((try simp (maxSteps := 3000000) (dsimp := false) (disch := first | omega | (simp only [len_new, len_put, len_kill]; omega)) only [↓ypre, ypost, ↓reduceIte, Nat.reduceEqDiff, Nat.reduceAdd, Nat.reduceSub, Nat.reduceLeDiff, Nat.zero_add, Nat.sub_zero, w1, w2, r1, ixaV_ptr, Int.toNat_natCast, Nat.mul_one, cel_all, cel_len, un9_len, wr_new_lt lt1, w3]); try simp only [yback])
  rw [show (cel .u8 (un9 i)).take 9 = cel .u8 (un9 i) from List.take_of_length_le (by rw [cel_len, un9_len]; omega)]
  exact hQ _ (pre_new (pre_put p1 (Nat.le_refl _)))
theorem i_standard {p n m k : Int} {h : AH} {Q : Value → AH → Prop} (z : SZ (stdX p n m k)) (hQ : ∀ v' h', h <+: h' → InX h.length h'.length h' v' (stdX p n m k).ps → Q (schV (stdX p n m k) v') h') : WF S 97 [I64 p, I64 n, I64 m, I64 k] h Q := by
  obtain ⟨zp, zn, zm, zk, znm, zmk, znk⟩ := z
  simp only [stdX] at zp zn zm zk znm zmk znk
  unfold stdX at hQ
  obtain ⟨N, rfl⟩ : ∃ N : Nat, n = N := ⟨n.toNat, by omega⟩
  obtain ⟨M, rfl⟩ : ∃ N : Nat, m = N := ⟨m.toNat, by omega⟩
  obtain ⟨K, rfl⟩ : ∃ N : Nat, k = N := ⟨k.toNat, by omega⟩
  rw [Int.toNat_natCast, Int.toNat_natCast, show (N : Int) * (M : Int) * (K : Int) = ((N * M * K : Nat) : Int) by push_cast; rfl, Int.toNat_natCast] at hQ
  have enm : (N : Int) * (M : Int) = ((N * M : Nat) : Int) := by push_cast; rfl
  have emk : (M : Int) * (K : Int) = ((M * K : Nat) : Int) := by push_cast; rfl
  have enk : (N : Int) * (K : Int) = ((N * K : Nat) : Int) := by push_cast; rfl
  have zijk : N * M * K ≤ 27 := by
    have := mul_in1 (A := 9) (B := 3) znm zk
    rw [enm, ← Int.natCast_mul] at this
    omega
  rw [enm] at znm
  rw [emk] at zmk
  rw [enk] at znk
  refine WF_fn (fn := c97) rfl rfl ?_
  unfold c97
  ((try simp (maxSteps := 3000000) (dsimp := false) (disch := first | omega | (simp only [len_new, len_put, len_kill]; omega)) only [↓ypre, ypost, ↓reduceIte, Nat.reduceEqDiff, Nat.reduceAdd, Nat.reduceSub, Nat.reduceLeDiff, Nat.zero_add, Nat.sub_zero, ynew]); try simp only [yback])
  generalize hH1 : AH.new h _ = H1
  obtain ⟨hb1, p1, n1⟩ := new_facts hH1
  generalize hH2 : AH.new H1 _ = H2
  obtain ⟨hb2, p2, n2⟩ := new_facts hH2
  have w0 : WayE (114) .u8 27 H2 H2.length H1.length (.slice none 0 0) (stdL M K 0) := ⟨fun r hr => by simp [stdL] at hr, .inl ⟨rfl, rfl⟩⟩
  refine WC_loop_inv (fun m f K1 => ∃ (i : Nat) (sv : Value), m = N - i ∧ i ≤ N ∧ f 1 = I64 N ∧ f 2 = I64 M ∧ f 3 = I64 K ∧ f 8 = .pointer (some ⟨h.length, 0, none⟩) ∧ f 9 = .pointer (some ⟨H1.length, 0, none⟩) ∧ f 18 = I64 N ∧ f 19 = I64 i ∧ (H1 <+: K1) ∧ (H2.length ≤ K1.length) ∧ (OwnB K1 H1.length [I64 p, I64 N, I64 M, I64 K, sv] true) ∧ (WayE (114) .u8 27 K1 H2.length H1.length sv (stdL M K (i * M * K)))) ?_ (N - 0) _ _ ⟨0, .slice none 0 0, rfl, by omega, (by first | rfl | (simp [upd_apply]; done)), (by first | rfl | (simp [upd_apply]; done)), (by first | rfl | (simp [upd_apply]; done)), (by first | rfl | (simp [upd_apply]; done)), (by first | rfl | (simp [upd_apply]; done)), (by first | rfl | (simp [upd_apply]; done)), (by first | rfl | (simp [upd_apply]; done)), p2, Nat.le_refl _, ⟨_, hb2⟩, (by rw [Nat.zero_mul, Nat.zero_mul]; exact w0)⟩
  rintro m f K1 ⟨i, sv, rfl, hi, f1, f2, f3, f8, f9, f18, f19, pp, l1, g, w⟩
  by_cases hla : (i : Int) < N
  · ((try simp (maxSteps := 3000000) (dsimp := false) (disch := first | omega | (simp only [len_new, len_put, len_kill]; omega)) only [↓ypre, ypost, ↓reduceIte, Nat.reduceEqDiff, Nat.reduceAdd, Nat.reduceSub, Nat.reduceLeDiff, Nat.zero_add, Nat.sub_zero, ynew, f1, f2, f3, f8, f9, f18, f19, decide_eq_true hla]); try simp only [yback])
    refine WC_loop_inv (fun m f K2 => ∃ (j : Nat) (sv : Value), m = M - j ∧ j ≤ M ∧ f 1 = I64 N ∧ f 2 = I64 M ∧ f 3 = I64 K ∧ f 8 = .pointer (some ⟨h.length, 0, none⟩) ∧ f 9 = .pointer (some ⟨H1.length, 0, none⟩) ∧ f 18 = I64 N ∧ f 19 = I64 i ∧ f 10 = I64 i ∧ f 22 = I64 M ∧ f 23 = I64 j ∧ (H1 <+: K2) ∧ (H2.length ≤ K2.length) ∧ (OwnB K2 H1.length [I64 p, I64 N, I64 M, I64 K, sv] true) ∧ (WayE (114) .u8 27 K2 H2.length H1.length sv (stdL M K ((i * M + j) * K)))) ?_ (M - 0) _ _ ⟨0, sv, rfl, by omega, (by first | rfl | exact f1 | (simp [upd_apply]; done)), (by first | rfl | exact f2 | (simp [upd_apply]; done)), (by first | rfl | exact f3 | (simp [upd_apply]; done)), (by first | rfl | exact f8 | (simp [upd_apply]; done)), (by first | rfl | exact f9 | (simp [upd_apply]; done)), (by first | rfl | exact f18 | (simp [upd_apply]; done)), (by first | rfl | exact f19 | (simp [upd_apply]; done)), (by first | rfl | (simp [upd_apply]; done)), (by first | rfl | (simp [upd_apply]; done)), (by first | rfl | (simp [upd_apply]; done)), pp, l1, g, (by rw [Nat.add_zero]; exact w)⟩
    rintro m f K2 ⟨j, sv, rfl, hj, f1, f2, f3, f8, f9, f18, f19, f10, f22, f23, pp, l1, g, w⟩
    by_cases hlb : (j : Int) < M
    · ((try simp (maxSteps := 3000000) (dsimp := false) (disch := first | omega | (simp only [len_new, len_put, len_kill]; omega)) only [↓ypre, ypost, ↓reduceIte, Nat.reduceEqDiff, Nat.reduceAdd, Nat.reduceSub, Nat.reduceLeDiff, Nat.zero_add, Nat.sub_zero, ynew, f1, f2, f3, f8, f9, f18, f19, f10, f22, f23, decide_eq_true hlb]); try simp only [yback])
      refine WC_loop_inv (fun m f K3 => ∃ (l : Nat) (sv : Value), m = K - l ∧ l ≤ K ∧ f 1 = I64 N ∧ f 2 = I64 M ∧ f 3 = I64 K ∧ f 8 = .pointer (some ⟨h.length, 0, none⟩) ∧ f 9 = .pointer (some ⟨H1.length, 0, none⟩) ∧ f 18 = I64 N ∧ f 19 = I64 i ∧ f 10 = I64 i ∧ f 22 = I64 M ∧ f 23 = I64 j ∧ f 11 = I64 j ∧ f 26 = I64 K ∧ f 27 = I64 l ∧ (H1 <+: K3) ∧ (H2.length ≤ K3.length) ∧ (OwnB K3 H1.length [I64 p, I64 N, I64 M, I64 K, sv] true) ∧ (WayE (114) .u8 27 K3 H2.length H1.length sv (stdL M K ((i * M + j) * K + l)))) ?_ (K - 0) _ _ ⟨0, sv, rfl, by omega, (by first | rfl | exact f1 | (simp [upd_apply]; done)), (by first | rfl | exact f2 | (simp [upd_apply]; done)), (by first | rfl | exact f3 | (simp [upd_apply]; done)), (by first | rfl | exact f8 | (simp [upd_apply]; done)), (by first | rfl | exact f9 | (simp [upd_apply]; done)), (by first | rfl | exact f18 | (simp [upd_apply]; done)), (by first | rfl | exact f19 | (simp [upd_apply]; done)), (by first | rfl | exact f10 | (simp [upd_apply]; done)), (by first | rfl | exact f22 | (simp [upd_apply]; done)), (by first | rfl | exact f23 | (simp [upd_apply]; done)), (by first | rfl | (simp [upd_apply]; done)), (by first | rfl | (simp [upd_apply]; done)), (by first | rfl | (simp [upd_apply]; done)), pp, l1, g, w⟩
      rintro m f K3 ⟨l, sv, rfl, hl, f1, f2, f3, f8, f9, f18, f19, f10, f22, f23, f11, f26, f27, pp, l1, g, w⟩
      by_cases hlc : (l : Int) < K
      · have m1 : i * M + M ≤ N * M := mul_row (by omega)
        have m2 : (i * M + j) * K + K ≤ N * M * K := mul_row (by omega)
        have m3 : j * K + K ≤ M * K := mul_row (by omega)
        have m4 : i * K + K ≤ N * K := mul_row (by omega)
        have e1 : (i : Int) * (M : Int) = ((i * M : Nat) : Int) := by push_cast; rfl
        have e2 : ((i * M : Nat) : Int) + (j : Int) = ((i * M + j : Nat) : Int) := by push_cast; rfl
        have e3 : (j : Int) * (K : Int) = ((j * K : Nat) : Int) := by push_cast; rfl
        have e4 : ((j * K : Nat) : Int) + (l : Int) = ((j * K + l : Nat) : Int) := by push_cast; rfl
        have e5 : (i : Int) * (K : Int) = ((i * K : Nat) : Int) := by push_cast; rfl
        have e6 : ((i * K : Nat) : Int) + (l : Int) = ((i * K + l : Nat) : Int) := by push_cast; rfl
        have lt27 : (i * M + j) * K + l < 27 := by omega
        obtain ⟨eg, hg⟩ := g
        have b1 := un9_len (a := i * M + j)
        have b2 := un9_len (a := j * K + l)
        have b3 := un9_len (a := i * K + l)
        have sq := un27_splice (a := i * M + j) (b := j * K + l) (c := i * K + l)
        ((try simp (maxSteps := 3000000) (dsimp := false) (disch := first | omega | (simp only [len_new, len_put, len_kill]; omega)) only [↓ypre, ypost, ↓reduceIte, Nat.reduceEqDiff, Nat.reduceAdd, Nat.reduceSub, Nat.reduceLeDiff, Nat.zero_add, Nat.sub_zero, ynew, f1, f2, f3, f8, f9, f18, f19, f10, f22, f23, f11, f26, f27, decide_eq_true hlc, e1, e2, e3, e4, e5, e6, wrap64_in, rd1_of hg]); try simp only [yback])
        refine i_unit (by omega) fun H4 p4 => ⟨p4, ?_⟩
        ((try simp (maxSteps := 3000000) (dsimp := false) (disch := first | omega | (simp only [len_new, len_put, len_kill]; omega)) only [↓ypre, ypost, ↓reduceIte, Nat.reduceEqDiff, Nat.reduceAdd, Nat.reduceSub, Nat.reduceLeDiff, Nat.zero_add, Nat.sub_zero, ynew, f1, f2, f3, f8, f9, f18, f19, f10, f22, f23, f11, f26, f27, e1, e2, e3, e4, e5, e6, wrap64_in]); try simp only [yback])
        refine i_unit (by omega) fun H5 p5 => ⟨p5, ?_⟩
        ((try simp (maxSteps := 3000000) (dsimp := false) (disch := first | omega | (simp only [len_new, len_put, len_kill]; omega)) only [↓ypre, ypost, ↓reduceIte, Nat.reduceEqDiff, Nat.reduceAdd, Nat.reduceSub, Nat.reduceLeDiff, Nat.zero_add, Nat.sub_zero, ynew, f1, f2, f3, f8, f9, f18, f19, f10, f22, f23, f11, f26, f27, e1, e2, e3, e4, e5, e6, wrap64_in]); try simp only [yback])
        refine i_unit (by omega) fun H6 p6 => ⟨p6, ?_⟩
        ((try simp (maxSteps := 3000000) (dsimp := false) (disch := first | omega | (simp only [len_new, len_put, len_kill]; omega)) only [↓ypre, ypost, ↓reduceIte, Nat.reduceEqDiff, Nat.reduceAdd, Nat.reduceSub, Nat.reduceLeDiff, Nat.zero_add, Nat.sub_zero, f1, f2, f3, f8, f9, f18, f19, f10, f22, f23, f11, f26, f27, aggV, cel_len, b1, b2, b3, sq, un27_l1, un27_l2, cel_all, un27_len, splice_27 un27_len]); try simp only [yback])
        have p46 := (p4.trans p5).trans p6
        refine (w.pre p46).app un27_len (by rw [stdL_len]; omega) (by rw [stdL_len]; omega) (by have := pre_len p46; omega) (by have := pre_len p46; omega) fun sv' H' l' pre' _ own' w' => ?_
        obtain ⟨e5, g5⟩ := own' _ _ ⟨eg, pre_get p46 hg⟩
        have lt5 := get_lt g5
        have l46 := pre_len p46
        ((try simp (maxSteps := 3000000) (dsimp := false) (disch := first | omega | (simp only [len_new, len_put, len_kill]; omega)) only [↓ypre, ypost, ↓reduceIte, Nat.reduceEqDiff, Nat.reduceAdd, Nat.reduceSub, Nat.reduceLeDiff, Nat.zero_add, Nat.sub_zero, ynew, f1, f2, f3, f8, f9, f18, f19, f10, f22, f23, f11, f26, f27, w'.one, w'.cells, wr_of g5, wrap64_in]); try simp only [yback])
        refine InvQ_go (K - (l + 1)) (by omega) ⟨(l + 1), sv', rfl, by omega, (by first | rfl | exact f1 | (simp only [upd_apply]; rfl) | (show I64 _ = _; congr 1; omega)), (by first | rfl | exact f2 | (simp only [upd_apply]; rfl) | (show I64 _ = _; congr 1; omega)), (by first | rfl | exact f3 | (simp only [upd_apply]; rfl) | (show I64 _ = _; congr 1; omega)), (by first | rfl | exact f8 | (simp only [upd_apply]; rfl) | (show I64 _ = _; congr 1; omega)), (by first | rfl | exact f9 | (simp only [upd_apply]; rfl) | (show I64 _ = _; congr 1; omega)), (by first | rfl | exact f18 | (simp only [upd_apply]; rfl) | (show I64 _ = _; congr 1; omega)), (by first | rfl | exact f19 | (simp only [upd_apply]; rfl) | (show I64 _ = _; congr 1; omega)), (by first | rfl | exact f10 | (simp only [upd_apply]; rfl) | (show I64 _ = _; congr 1; omega)), (by first | rfl | exact f22 | (simp only [upd_apply]; rfl) | (show I64 _ = _; congr 1; omega)), (by first | rfl | exact f23 | (simp only [upd_apply]; rfl) | (show I64 _ = _; congr 1; omega)), (by first | rfl | exact f11 | (simp only [upd_apply]; rfl) | (show I64 _ = _; congr 1; omega)), (by first | rfl | exact f26 | (simp only [upd_apply]; rfl) | (show I64 _ = _; congr 1; omega)), (by first | rfl | exact f27 | (simp only [upd_apply]; rfl) | (show I64 _ = _; congr 1; omega)), (pre_put (pre' _ (by omega) (pp.trans p46)) (by omega)), (by rw [len_put]; omega), ⟨_, get_put_same lt5⟩, (by have := w'.put (b := ⟨[I64 p, I64 N, I64 M, I64 K, sv'], e5, false, true⟩); rw [← stdG_at (by omega) (by omega)] at this; exact this)⟩
      · have ec : l = K := by omega
        subst ec
        ((try simp (maxSteps := 3000000) (dsimp := false) (disch := first | omega | (simp only [len_new, len_put, len_kill]; omega)) only [↓ypre, ypost, ↓reduceIte, Nat.reduceEqDiff, Nat.reduceAdd, Nat.reduceSub, Nat.reduceLeDiff, Nat.zero_add, Nat.sub_zero, ynew, f1, f2, f3, f8, f9, f18, f19, f10, f22, f23, f11, f26, f27, decide_eq_false hlc, wrap64_in]); try simp only [yback])
        refine InvQ_go (M - (j + 1)) (by omega) ⟨(j + 1), sv, rfl, by omega, (by first | rfl | exact f1 | (simp only [upd_apply]; rfl) | (show I64 _ = _; congr 1; omega)), (by first | rfl | exact f2 | (simp only [upd_apply]; rfl) | (show I64 _ = _; congr 1; omega)), (by first | rfl | exact f3 | (simp only [upd_apply]; rfl) | (show I64 _ = _; congr 1; omega)), (by first | rfl | exact f8 | (simp only [upd_apply]; rfl) | (show I64 _ = _; congr 1; omega)), (by first | rfl | exact f9 | (simp only [upd_apply]; rfl) | (show I64 _ = _; congr 1; omega)), (by first | rfl | exact f18 | (simp only [upd_apply]; rfl) | (show I64 _ = _; congr 1; omega)), (by first | rfl | exact f19 | (simp only [upd_apply]; rfl) | (show I64 _ = _; congr 1; omega)), (by first | rfl | exact f10 | (simp only [upd_apply]; rfl) | (show I64 _ = _; congr 1; omega)), (by first | rfl | exact f22 | (simp only [upd_apply]; rfl) | (show I64 _ = _; congr 1; omega)), (by first | rfl | exact f23 | (simp only [upd_apply]; rfl) | (show I64 _ = _; congr 1; omega)), pp, l1, g, (by rw [show (i * M + (j + 1)) * l = (i * M + j) * l + l by rw [← Nat.add_assoc, Nat.succ_mul]]; exact w)⟩
    · have eb : j = M := by omega
      subst eb
      ((try simp (maxSteps := 3000000) (dsimp := false) (disch := first | omega | (simp only [len_new, len_put, len_kill]; omega)) only [↓ypre, ypost, ↓reduceIte, Nat.reduceEqDiff, Nat.reduceAdd, Nat.reduceSub, Nat.reduceLeDiff, Nat.zero_add, Nat.sub_zero, ynew, f1, f2, f3, f8, f9, f18, f19, f10, f22, f23, decide_eq_false hlb, wrap64_in]); try simp only [yback])
      refine InvQ_go (N - (i + 1)) (by omega) ⟨(i + 1), sv, rfl, by omega, (by first | rfl | exact f1 | (simp only [upd_apply]; rfl) | (show I64 _ = _; congr 1; omega)), (by first | rfl | exact f2 | (simp only [upd_apply]; rfl) | (show I64 _ = _; congr 1; omega)), (by first | rfl | exact f3 | (simp only [upd_apply]; rfl) | (show I64 _ = _; congr 1; omega)), (by first | rfl | exact f8 | (simp only [upd_apply]; rfl) | (show I64 _ = _; congr 1; omega)), (by first | rfl | exact f9 | (simp only [upd_apply]; rfl) | (show I64 _ = _; congr 1; omega)), (by first | rfl | exact f18 | (simp only [upd_apply]; rfl) | (show I64 _ = _; congr 1; omega)), (by first | rfl | exact f19 | (simp only [upd_apply]; rfl) | (show I64 _ = _; congr 1; omega)), pp, l1, g, (by rw [Nat.succ_mul]; exact w)⟩
  · have ea : i = N := by omega
    subst ea
    obtain ⟨e6, g6⟩ := g
    have hb1K := pre_get pp hb1
    have lt2 := get_lt hb1K
    ((try simp (maxSteps := 3000000) (dsimp := false) (disch := first | omega | (simp only [len_new, len_put, len_kill]; omega)) only [↓ypre, ypost, ↓reduceIte, Nat.reduceEqDiff, Nat.reduceAdd, Nat.reduceSub, Nat.reduceLeDiff, Nat.zero_add, Nat.sub_zero, ynew, f1, f2, f3, f8, f9, f18, f19, decide_eq_false hla, rdn_of g6, wr_of hb1K, w.one]); try simp only [yback])
    exact hQ sv _ (pre_put (p1.trans pp) (Nat.le_refl _)) ⟨(w.putb (by omega)).inE.mono (by omega) (Nat.le_refl _), stdL_byt⟩
end Go.Proofs.Ytphklalbkpohfaa.X

/- MatrixTensor of both sides. -/
set_option linter.unusedVariables false
set_option linter.unusedSimpArgs false
set_option maxRecDepth 20000
set_option maxHeartbeats 4000000
namespace Go.Proofs.Ytphklalbkpohfaa.X
open Go Go.RowKit

def mtR (p n m k : Int) : Ten × Int := if szX (stdX p n m k) = true then (tofX (stdX p n m k), 0) else (noT, 2)
theorem mtR_small (p n m k : Int) : SmallS (mtR p n m k).1.ns := by
  unfold mtR
  split
  · rename_i h
    exact tofX_small (szX_facts h)
  · simp [noT, SmallS]
theorem std_len {p n m k : Int} (z : SZ (stdX p n m k)) : (stdX p n m k).ps.length ≤ 30 := by
  have a := z.nm
  have b := z.k
  simp only [stdX] at a b ⊢
  rw [stdL_len]
  have := mul_in1 (A := 9) (B := 3) a b
  omega
theorem s_MatrixTensor {p n m k : Int} {h : AH} {Q : Value → AH → Prop}
    (hQ : ∀ v' h', h <+: h' → OwnR h h' v' (mtR p n m k).1.ns → Q (.tuple #[tenV (mtR p n m k).1 v', I64 (mtR p n m k).2]) h') : WF S 15 [I64 p, I64 n, I64 m, I64 k] h Q := by
  refine WF_fn (fn := c15) rfl rfl ?_
  unfold c15
  ((try simp (maxSteps := 3000000) (dsimp := false) (disch := first | omega | (simp only [len_new, len_put, len_kill]; omega)) only [↓ypre, ypost, ↓reduceIte, Nat.reduceEqDiff, Nat.reduceAdd, Nat.reduceSub, Nat.reduceLeDiff, Nat.zero_add, Nat.sub_zero, ynew]); try simp only [yback])
  generalize hH1 : AH.new h _ = H1
  obtain ⟨hb1, p1, n1⟩ := new_facts hH1
  have l1 := get_lt hb1
  refine s_l01Sizes ?_
  unfold mtR at hQ
  have e : (isP p && sz n && sz m && sz k) = szX (stdX p n m k) := rfl
  rw [e]
  cases ht : szX (stdX p n m k) with
  | false =>
    rw [ht, if_neg (by decide)] at hQ
    ((try simp (maxSteps := 3000000) (dsimp := false) (disch := first | omega | (simp only [len_new, len_put, len_kill]; omega)) only [↓ypre, ypost, ↓reduceIte, Nat.reduceEqDiff, Nat.reduceAdd, Nat.reduceSub, Nat.reduceLeDiff, Nat.zero_add, Nat.sub_zero, ynew, wr_of hb1]); try simp only [yback])
    exact hQ (.slice none 0 0) _ (pre_put p1 (by omega)) (.inl ⟨rfl, rfl⟩)
  | true =>
    rw [ht, if_pos rfl] at hQ
    have z := szX_facts ht
    ((try simp (maxSteps := 3000000) (dsimp := false) (disch := first | omega | (simp only [len_new, len_put, len_kill]; omega)) only [↓ypre, ypost, ↓reduceIte, Nat.reduceEqDiff, Nat.reduceAdd, Nat.reduceSub, Nat.reduceLeDiff, Nat.zero_add, Nat.sub_zero, ynew]); try simp only [yback])
    refine s_l01Standard z fun v H2 p2 hv => ?_
    have hb1 := pre_get p2 hb1
    ((try simp (maxSteps := 3000000) (dsimp := false) (disch := first | omega | (simp only [len_new, len_put, len_kill]; omega)) only [↓ypre, ypost, ↓reduceIte, Nat.reduceEqDiff, Nat.reduceAdd, Nat.reduceSub, Nat.reduceLeDiff, Nat.zero_add, Nat.sub_zero, ynew]); try simp only [yback])
    refine s_l05Of hv.rd z (std_len z) fun v' H3 p3 o => ?_
    have hb1 := pre_get p3 hb1
    have l3 := get_lt hb1
    ((try simp (maxSteps := 3000000) (dsimp := false) (disch := first | omega | (simp only [len_new, len_put, len_kill]; omega)) only [↓ypre, ypost, ↓reduceIte, Nat.reduceEqDiff, Nat.reduceAdd, Nat.reduceSub, Nat.reduceLeDiff, Nat.zero_add, Nat.sub_zero, ynew, tenV, o.ints.one, wr_of hb1]); try simp only [yback])
    exact hQ v' _ (pre_put ((p1.trans p2).trans p3) (by omega)) ((o.ownR.put_ne (by have := pre_len p2; omega)).lo (by have := pre_len p2; omega))
theorem i_StandardScheme {p n m k : Int} {h : AH} {Q : Value → AH → Prop}
    (hQ : szX (stdX p n m k) = true → ∀ v' h', h <+: h' → InX h.length h'.length h' v' (stdX p n m k).ps → Q (.tuple #[schV (stdX p n m k) v', I64 0]) h')
    (hN : szX (stdX p n m k) = false → ∀ h', h <+: h' → Q (.tuple #[schV ⟨0, 0, 0, 0, []⟩ (.slice none 0 0), I64 2]) h') : WF S 55 [I64 p, I64 n, I64 m, I64 k] h Q := by
  refine WF_fn (fn := c55) rfl rfl ?_
  unfold c55
  ((try simp (maxSteps := 3000000) (dsimp := false) (disch := first | omega | (simp only [len_new, len_put, len_kill]; omega)) only [↓ypre, ypost, ↓reduceIte, Nat.reduceEqDiff, Nat.reduceAdd, Nat.reduceSub, Nat.reduceLeDiff, Nat.zero_add, Nat.sub_zero, ynew]); try simp only [yback])
  generalize hH1 : AH.new h _ = H1
  obtain ⟨hb1, p1, n1⟩ := new_facts hH1
  have l1 := get_lt hb1
  refine i_isPrime ?_
  cases c0 : isP p with
  | false =>
    have e : szX (stdX p n m k) = false := by unfold szX stdX; rw [c0]; rfl
    ((try simp (maxSteps := 3000000) (dsimp := false) (disch := first | omega | (simp only [len_new, len_put, len_kill]; omega)) only [↓ypre, ypost, ↓reduceIte, Nat.reduceEqDiff, Nat.reduceAdd, Nat.reduceSub, Nat.reduceLeDiff, Nat.zero_add, Nat.sub_zero, ynew, wr_of hb1]); try simp only [yback])
    exact hN e _ (pre_put p1 (by omega))
  | true =>
    ((try simp (maxSteps := 3000000) (dsimp := false) (disch := first | omega | (simp only [len_new, len_put, len_kill]; omega)) only [↓ypre, ypost, ↓reduceIte, Nat.reduceEqDiff, Nat.reduceAdd, Nat.reduceSub, Nat.reduceLeDiff, Nat.zero_add, Nat.sub_zero, ynew]); try simp only [yback])
    generalize hH2 : AH.new H1 _ = H2
    obtain ⟨hb2, p2, n2⟩ := new_facts hH2
    have hb1 := pre_get p2 hb1
    have l2 := get_lt hb1
    refine i_isSize (ns := [n, m, k]) (Ints.own (ns := [n, m, k]) hb2 rfl) (by simp) ?_
    have e0 : ([n, m, k] : List Int).all sz = szX (stdX p n m k) := by unfold szX stdX; rw [c0]; simp [Bool.and_assoc]
    rw [e0]
    cases ht : szX (stdX p n m k) with
    | false =>
      ((try simp (maxSteps := 3000000) (dsimp := false) (disch := first | omega | (simp only [len_new, len_put, len_kill]; omega)) only [↓ypre, ypost, ↓reduceIte, Nat.reduceEqDiff, Nat.reduceAdd, Nat.reduceSub, Nat.reduceLeDiff, Nat.zero_add, Nat.sub_zero, ynew, wr_of hb1]); try simp only [yback])
      exact hN ht _ (pre_put (p1.trans p2) (by omega))
    | true =>
      ((try simp (maxSteps := 3000000) (dsimp := false) (disch := first | omega | (simp only [len_new, len_put, len_kill]; omega)) only [↓ypre, ypost, ↓reduceIte, Nat.reduceEqDiff, Nat.reduceAdd, Nat.reduceSub, Nat.reduceLeDiff, Nat.zero_add, Nat.sub_zero, ynew]); try simp only [yback])
      refine i_standard (szX_facts ht) fun v H3 p3 hv => ?_
      have hb1 := pre_get p3 hb1
      have l3 := get_lt hb1
      ((try simp (maxSteps := 3000000) (dsimp := false) (disch := first | omega | (simp only [len_new, len_put, len_kill]; omega)) only [↓ypre, ypost, ↓reduceIte, Nat.reduceEqDiff, Nat.reduceAdd, Nat.reduceSub, Nat.reduceLeDiff, Nat.zero_add, Nat.sub_zero, ynew, schV, hv.rd.one, wr_of hb1]); try simp only [yback])
      exact hQ ht v _ (pre_put ((p1.trans p2).trans p3) (by omega)) ⟨(hv.1.putb (by omega)).mono (by have := pre_len p2; omega) (by rw [len_put]; exact Nat.le_refl _), hv.2⟩
theorem i_MatrixTensor {p n m k : Int} {h : AH} {Q : Value → AH → Prop}
    (hQ : ∀ v' h', h <+: h' → OwnR h h' v' (mtR p n m k).1.ns → Q (.tuple #[tenV (mtR p n m k).1 v', I64 (mtR p n m k).2]) h') : WF S 16 [I64 p, I64 n, I64 m, I64 k] h Q := by
  refine WF_fn (fn := c16) rfl rfl ?_
  unfold c16
  ((try simp (maxSteps := 3000000) (dsimp := false) (disch := first | omega | (simp only [len_new, len_put, len_kill]; omega)) only [↓ypre, ypost, ↓reduceIte, Nat.reduceEqDiff, Nat.reduceAdd, Nat.reduceSub, Nat.reduceLeDiff, Nat.zero_add, Nat.sub_zero, ynew]); try simp only [yback])
  generalize hH1 : AH.new h _ = H1
  obtain ⟨hb1, p1, n1⟩ := new_facts hH1
  have l1 := get_lt hb1
  unfold mtR at hQ
  refine i_StandardScheme (fun ht v H2 p2 hv => ?_) (fun ht H2 p2 => ?_)
  · rw [ht, if_pos rfl] at hQ
    have z := szX_facts ht
    have hb1 := pre_get p2 hb1
    ((try simp (maxSteps := 3000000) (dsimp := false) (disch := first | omega | (simp only [len_new, len_put, len_kill]; omega)) only [↓ypre, ypost, ↓reduceIte, Nat.reduceEqDiff, Nat.reduceAdd, Nat.reduceSub, Nat.reduceLeDiff, Nat.zero_add, Nat.sub_zero, ynew, schV, hv.rd.one, show decide ((0 : Int) ≠ 0) = false from rfl]); try simp only [yback])
    generalize hH3 : AH.new H2 _ = H3
    obtain ⟨hb3, p3, n3⟩ := new_facts hH3
    ((try simp (maxSteps := 3000000) (dsimp := false) (disch := first | omega | (simp only [len_new, len_put, len_kill]; omega)) only [↓ypre, ypost, ↓reduceIte, Nat.reduceEqDiff, Nat.reduceAdd, Nat.reduceSub, Nat.reduceLeDiff, Nat.zero_add, Nat.sub_zero, ynew, rdn_of hb3]); try simp only [yback])
    refine i_tensorOf (hv.rd.pre p3) z (std_len z) fun v' H4 p4 o => ?_
    have hb1 := pre_get (p3.trans p4) hb1
    have lt1 := get_lt hb1
    ((try simp (maxSteps := 3000000) (dsimp := false) (disch := first | omega | (simp only [len_new, len_put, len_kill]; omega)) only [↓ypre, ypost, ↓reduceIte, Nat.reduceEqDiff, Nat.reduceAdd, Nat.reduceSub, Nat.reduceLeDiff, Nat.zero_add, Nat.sub_zero, ynew, tenV, o.ints.one, wr_of hb1]); try simp only [yback])
    have q2 := pre_len p2
    exact hQ v' _ (pre_put (((p1.trans p2).trans p3).trans p4) (by omega)) ((o.put_ne (by omega)).lo (by omega))
  · rw [ht, if_neg (by decide)] at hQ
    have hb1 := pre_get p2 hb1
    ((try simp (maxSteps := 3000000) (dsimp := false) (disch := first | omega | (simp only [len_new, len_put, len_kill]; omega)) only [↓ypre, ypost, ↓reduceIte, Nat.reduceEqDiff, Nat.reduceAdd, Nat.reduceSub, Nat.reduceLeDiff, Nat.zero_add, Nat.sub_zero, ynew, schV]); try simp only [yback])
    generalize hH3 : AH.new H2 _ = H3
    obtain ⟨hb3, p3, n3⟩ := new_facts hH3
    have hb1 := pre_get p3 hb1
    have lt1 := get_lt hb1
    ((try simp (maxSteps := 3000000) (dsimp := false) (disch := first | omega | (simp only [len_new, len_put, len_kill]; omega)) only [↓ypre, ypost, ↓reduceIte, Nat.reduceEqDiff, Nat.reduceAdd, Nat.reduceSub, Nat.reduceLeDiff, Nat.zero_add, Nat.sub_zero, ynew, wr_of hb1, show decide ((2 : Int) ≠ 0) = true from rfl]); try simp only [yback])
    exact hQ (.slice none 0 0) _ (pre_put ((p1.trans p2).trans p3) (by omega)) (.inl ⟨rfl, rfl⟩)
end Go.Proofs.Ytphklalbkpohfaa.X
