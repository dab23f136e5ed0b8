/- Texts of one claim, put together by merge.py: XY. -/
import Derived.Test.YtphklalbkpohfaaM3
/- The rules once more, with continuations that the rewriting leaves alone until their turn: printed by wip/tools/mkY.py. -/
set_option linter.unusedVariables false
set_option linter.unusedSimpArgs false
set_option linter.defProp false
namespace Go.Proofs.Ytphklalbkpohfaa.X
open Go Go.RowKit

/-- A dummy that depends on what is to be left alone. -/
inductive Dum {α : Type} (a : α) : Type
 | mk

def yQV (v : Value) (Q : Value → Prop) (_ : Dum Q) : Prop := QV v Q
@[congr] theorem yQV_congr {v : Value} {Q : Value → Prop} {w : Value} {d0 : Dum Q} (e : v = w) : yQV v Q d0 = yQV w Q d0 := by rw [e]
theorem yQV_forth {v : Value} {Q : Value → Prop} : QV v Q = yQV v Q .mk := rfl
theorem yQV_back {v : Value} {Q : Value → Prop} {d0 : Dum Q} : yQV v Q d0 = QV v Q := rfl
def yWV (r : Option Value) (Q : Value → Prop) (_ : Dum Q) : Prop := WV r Q
@[congr] theorem yWV_congr {r : Option Value} {Q : Value → Prop} {w : Option Value} {d0 : Dum Q} (e : r = w) : yWV r Q d0 = yWV w Q d0 := by rw [e]
theorem yWV_forth {r : Option Value} {Q : Value → Prop} : WV r Q = yWV r Q .mk := rfl
theorem yWV_back {r : Option Value} {Q : Value → Prop} {d0 : Dum Q} : yWV r Q d0 = WV r Q := rfl
def yHQ (r : Option AH) (Q : AH → Prop) (_ : Dum Q) : Prop := HQ r Q
@[congr] theorem yHQ_congr {r : Option AH} {Q : AH → Prop} {w : Option AH} {d0 : Dum Q} (e : r = w) : yHQ r Q d0 = yHQ w Q d0 := by rw [e]
theorem yHQ_forth {r : Option AH} {Q : AH → Prop} : HQ r Q = yHQ r Q .mk := rfl
theorem yHQ_back {r : Option AH} {Q : AH → Prop} {d0 : Dum Q} : yHQ r Q d0 = HQ r Q := rfl
def yPQ (v : Value) (Q : Nat → Nat → Prop) (_ : Dum Q) : Prop := PQ v Q
@[congr] theorem yPQ_congr {v : Value} {Q : Nat → Nat → Prop} {w : Value} {d0 : Dum Q} (e : v = w) : yPQ v Q d0 = yPQ w Q d0 := by rw [e]
theorem yPQ_forth {v : Value} {Q : Nat → Nat → Prop} : PQ v Q = yPQ v Q .mk := rfl
theorem yPQ_back {v : Value} {Q : Nat → Nat → Prop} {d0 : Dum Q} : yPQ v Q d0 = PQ v Q := rfl
def yLQ (v : List Value) (Q : List Value → Prop) (_ : Dum Q) : Prop := LQ v Q
@[congr] theorem yLQ_congr {v : List Value} {Q : List Value → Prop} {w : List Value} {d0 : Dum Q} (e : v = w) : yLQ v Q d0 = yLQ w Q d0 := by rw [e]
theorem yLQ_forth {v : List Value} {Q : List Value → Prop} : LQ v Q = yLQ v Q .mk := rfl
theorem yLQ_back {v : List Value} {Q : List Value → Prop} {d0 : Dum Q} : yLQ v Q d0 = LQ v Q := rfl
def yVQ (r : Option (List Value)) (Q : List Value → Prop) (_ : Dum Q) : Prop := VQ r Q
@[congr] theorem yVQ_congr {r : Option (List Value)} {Q : List Value → Prop} {w : Option (List Value)} {d0 : Dum Q} (e : r = w) : yVQ r Q d0 = yVQ w Q d0 := by rw [e]
theorem yVQ_forth {r : Option (List Value)} {Q : List Value → Prop} : VQ r Q = yVQ r Q .mk := rfl
theorem yVQ_back {r : Option (List Value)} {Q : List Value → Prop} {d0 : Dum Q} : yVQ r Q d0 = VQ r Q := rfl
def yOQ (r : Option (Value × AH)) (Q : Value → AH → Prop) (_ : Dum Q) : Prop := OQ r Q
@[congr] theorem yOQ_congr {r : Option (Value × AH)} {Q : Value → AH → Prop} {w : Option (Value × AH)} {d0 : Dum Q} (e : r = w) : yOQ r Q d0 = yOQ w Q d0 := by rw [e]
theorem yOQ_forth {r : Option (Value × AH)} {Q : Value → AH → Prop} : OQ r Q = yOQ r Q .mk := rfl
theorem yOQ_back {r : Option (Value × AH)} {Q : Value → AH → Prop} {d0 : Dum Q} : yOQ r Q d0 = OQ r Q := rfl
def yIfW (v : Value) (A : Prop) (B : Prop) (_ : Dum A) (_ : Dum B) : Prop := IfW v A B
@[congr] theorem yIfW_congr {v : Value} {A : Prop} {B : Prop} {w : Value} {d0 : Dum A} {d1 : Dum B} (e : v = w) : yIfW v A B d0 d1 = yIfW w A B d0 d1 := by rw [e]
theorem yIfW_forth {v : Value} {A : Prop} {B : Prop} : IfW v A B = yIfW v A B .mk .mk := rfl
theorem yIfW_back {v : Value} {A : Prop} {B : Prop} {d0 : Dum A} {d1 : Dum B} : yIfW v A B d0 d1 = IfW v A B := rfl
def yWF (S : XS) (g : FuncId) (args : List Value) (h : AH) (Q : Value → AH → Prop) (_ : Dum h) (_ : Dum Q) : Prop := WF S g args h Q
@[congr] theorem yWF_congr {S : XS} {g : FuncId} {args args1 : List Value} {h : AH} {Q : Value → AH → Prop} {d0 : Dum h} {d1 : Dum Q} (e : args = args1) : yWF S g args h Q d0 d1 = yWF S g args1 h Q d0 d1 := by rw [e]
theorem yWF_back {S : XS} {g : FuncId} {args : List Value} {h : AH} {Q : Value → AH → Prop} {d0 : Dum h} {d1 : Dum Q} : yWF S g args h Q d0 d1 = WF S g args h Q := rfl
def yWK (S : XS) (v : Value) (args : List Value) (h : AH) (Q : Value → AH → Prop) (_ : Dum h) (_ : Dum Q) : Prop := WK S v args h Q
@[congr] theorem yWK_congr {S : XS} {v v1 : Value} {args args1 : List Value} {h : AH} {Q : Value → AH → Prop} {d0 : Dum h} {d1 : Dum Q} (e : v = v1) (e1 : args = args1) : yWK S v args h Q d0 d1 = yWK S v1 args1 h Q d0 d1 := by rw [e, e1]
theorem yWK_back {S : XS} {v : Value} {args : List Value} {h : AH} {Q : Value → AH → Prop} {d0 : Dum h} {d1 : Dum Q} : yWK S v args h Q d0 d1 = WK S v args h Q := rfl
theorem yWK_func {S : XS} {g : FuncId} {cap : Array Value} {args : List Value} {h : AH} {Q : Value → AH → Prop} {d0 : Dum h} {d1 : Dum Q} : yWK S (.func (.func g) #[] cap) args h Q d0 d1 = yWF S g (args ++ cap.toList) h Q .mk .mk := rfl
def yWG (S : XS) (v : Value) (b : Bool) (i : XI) (rest : List XI) (f : Fr) (h : AH) (Q : Fr → AH → Prop) (_ : Dum i) (_ : Dum rest) (_ : Dum f) (_ : Dum h) (_ : Dum Q) : Prop := WG S v b i rest f h Q
@[congr] theorem yWG_congr {v v1 : Value} {b : Bool} {S : XS} {i : XI} {rest : List XI} {f : Fr} {h : AH} {Q : Fr → AH → Prop} {d0 : Dum i} {d1 : Dum rest} {d2 : Dum f} {d3 : Dum h} {d4 : Dum Q} (e : v = v1) : yWG S v b i rest f h Q d0 d1 d2 d3 d4 = yWG S v1 b i rest f h Q d0 d1 d2 d3 d4 := by rw [e]
theorem yWG_back {v : Value} {b : Bool} {S : XS} {i : XI} {rest : List XI} {f : Fr} {h : AH} {Q : Fr → AH → Prop} {d0 : Dum i} {d1 : Dum rest} {d2 : Dum f} {d3 : Dum h} {d4 : Dum Q} : yWG S v b i rest f h Q d0 d1 d2 d3 d4 = WG S v b i rest f h Q := rfl
theorem yWG_tt {S : XS} {i : XI} {rest : List XI} {f : Fr} {h : AH} {Q : Fr → AH → Prop} {d0 : Dum i} {d1 : Dum rest} {d2 : Dum f} {d3 : Dum h} {d4 : Dum Q} : yWG S (.bool true) true i rest f h Q d0 d1 d2 d3 d4 = WO S (⟨i.d, i.o, none, i.q⟩ :: rest) f h Q := rfl
theorem yWG_ff {S : XS} {i : XI} {rest : List XI} {f : Fr} {h : AH} {Q : Fr → AH → Prop} {d0 : Dum i} {d1 : Dum rest} {d2 : Dum f} {d3 : Dum h} {d4 : Dum Q} : yWG S (.bool false) false i rest f h Q d0 d1 d2 d3 d4 = WO S (⟨i.d, i.o, none, i.q⟩ :: rest) f h Q := rfl
theorem yWG_tf {S : XS} {i : XI} {rest : List XI} {f : Fr} {h : AH} {Q : Fr → AH → Prop} {d0 : Dum i} {d1 : Dum rest} {d2 : Dum f} {d3 : Dum h} {d4 : Dum Q} : yWG S (.bool true) false i rest f h Q d0 d1 d2 d3 d4 = WO S rest (updo f i.d undef) h Q := rfl
theorem yWG_ft {S : XS} {i : XI} {rest : List XI} {f : Fr} {h : AH} {Q : Fr → AH → Prop} {d0 : Dum i} {d1 : Dum rest} {d2 : Dum f} {d3 : Dum h} {d4 : Dum Q} : yWG S (.bool false) true i rest f h Q d0 d1 d2 d3 d4 = WO S rest (updo f i.d undef) h Q := rfl
theorem yWG_un {b : Bool} {S : XS} {i : XI} {rest : List XI} {f : Fr} {h : AH} {Q : Fr → AH → Prop} {d0 : Dum i} {d1 : Dum rest} {d2 : Dum f} {d3 : Dum h} {d4 : Dum Q} : yWG S undef b i rest f h Q d0 d1 d2 d3 d4 = WO S rest (updo f i.d undef) h Q := rfl
theorem yQV_eq {v : Value} {Q : Value → Prop} {d : Dum Q} : yQV v Q d = Q v := rfl
theorem yWV_some {v : Value} {Q : Value → Prop} {d : Dum Q} : yWV (some v) Q d = Q v := WV_some
theorem yWV_ite {c : Prop} [Decidable c] {v : Value} {Q : Value → Prop} {d : Dum Q} : yWV (if c then some v else none) Q d = (c ∧ Q v) := WV_ite
theorem yHQ_some {v : AH} {Q : AH → Prop} {d : Dum Q} : yHQ (some v) Q d = Q v := HQ_some
theorem yHQ_ite {c : Prop} [Decidable c] {v : AH} {Q : AH → Prop} {d : Dum Q} : yHQ (if c then some v else none) Q d = (c ∧ Q v) := HQ_ite
theorem yPQ_ptr {p : Addr} {Q : Nat → Nat → Prop} {d : Dum Q} : yPQ (.pointer (some p)) Q d = Q p.block p.off := rfl
theorem yLQ_eq {v : List Value} {Q : List Value → Prop} {d : Dum Q} : yLQ v Q d = Q v := rfl
theorem yVQ_some {v : List Value} {Q : List Value → Prop} {d : Dum Q} : yVQ (some v) Q d = Q v := VQ_some
theorem yOQ_some {v : Value} {h : AH} {Q : Value → AH → Prop} {d : Dum Q} : yOQ (some (v, h)) Q d = Q v h := OQ_some
theorem yOQ_ite {c : Prop} [Decidable c] {v : Value} {h : AH} {Q : Value → AH → Prop} {d : Dum Q} : yOQ (if c then some (v, h) else none) Q d = (c ∧ Q v h) := OQ_ite
theorem yIfW_t {A B : Prop} {d : Dum A} {e : Dum B} : yIfW (.bool true) A B d e = A := rfl
theorem yIfW_f {A B : Prop} {d : Dum A} {e : Dum B} : yIfW (.bool false) A B d e = B := rfl

theorem yWX_mv {S : XS} {f : Fr} {h : AH} {Q : Value → AH → Prop} {x : Operand} : WX S (.mv x) f h Q = yQV (ev f x) (fun v => Q v h) .mk := WX_mv
theorem yWX_pick {S : XS} {f : Fr} {h : AH} {Q : Value → AH → Prop} {a b c : Operand} : WX S (.pick c a b) f h Q = yWV (pickV (ev f c) (ev f a) (ev f b)) (fun v => Q v h) .mk := WX_pick
theorem yWX_box {S : XS} {f : Fr} {h : AH} {Q : Value → AH → Prop} {x : Operand} {e : TypeId} : WX S (.box e x) f h Q = yLQ (cellsL (ev f x)) (fun c => c.all isOne = true ∧ Q (.pointer (some ⟨h.length, 0, none⟩)) (h.new ⟨c, e, false, true⟩)) .mk := WX_box
theorem yWX_boxn {S : XS} {f : Fr} {h : AH} {Q : Value → AH → Prop} {x : Operand} {e : TypeId} {n : Nat} : WX S (.boxn e n x) f h Q = yLQ (cellsL (ev f x)) (fun c => (c.length = n ∧ c.all isOne = true) ∧ Q (.pointer (some ⟨h.length, 0, none⟩)) (h.new ⟨c, e, false, true⟩)) .mk := WX_boxn
theorem yWX_load1 {S : XS} {f : Fr} {h : AH} {Q : Value → AH → Prop} {a : Operand} : WX S (.load1 a) f h Q = yPQ (ev f a) (fun n off => yWV (h.rd1 n off) (fun v => Q v h) .mk) .mk := WX_load1
theorem yWX_loadn {S : XS} {f : Fr} {h : AH} {Q : Value → AH → Prop} {a : Operand} {n : Nat} : WX S (.loadn n a) f h Q = yPQ (ev f a) (fun m off => yWV ((h.rdn m off n).map fun c => .agg c.toArray) (fun v => Q v h) .mk) .mk := WX_loadn
theorem yWX_store {S : XS} {f : Fr} {h : AH} {Q : Value → AH → Prop} {a x : Operand} {n : Nat} : WX S (.store n a x) f h Q = yPQ (ev f a) (fun m off => yLQ (cellsL (ev f x)) (fun c => (c.length = n ∧ c.all isOne = true) ∧ yHQ (h.wr m off c) (fun h1 => Q undef h1) .mk) .mk) .mk := WX_store
theorem yWX_bin {S : XS} {f : Fr} {h : AH} {Q : Value → AH → Prop} {x y : Operand} {op : BinOp} : WX S (.bin op x y) f h Q = yWV (xbin op (ev f x) (ev f y)) (fun v => Q v h) .mk := WX_bin
theorem yWX_un {S : XS} {f : Fr} {h : AH} {Q : Value → AH → Prop} {x : Operand} {op : UnOp} : WX S (.un op x) f h Q = yWV (xun op (ev f x)) (fun v => Q v h) .mk := WX_un
theorem yWX_conv {S : XS} {f : Fr} {h : AH} {Q : Value → AH → Prop} {x : Operand} {k : IntKind} : WX S (.conv k x) f h Q = yWV (convV k (ev f x)) (fun v => Q v h) .mk := WX_conv
theorem yWX_fadr {S : XS} {f : Fr} {h : AH} {Q : Value → AH → Prop} {x : Operand} {off : Nat} : WX S (.fadr off x) f h Q = yPQ (ev f x) (fun n o => Q (.pointer (some ⟨n, o + off, none⟩)) h) .mk := WX_fadr
theorem yWX_fld1 {S : XS} {f : Fr} {h : AH} {Q : Value → AH → Prop} {x : Operand} {off : Nat} : WX S (.fld1 off x) f h Q = yWV (fstV (ev f x) off) (fun v => Q v h) .mk := WX_fld1
theorem yWX_ext {S : XS} {f : Fr} {h : AH} {Q : Value → AH → Prop} {x : Operand} {i : Nat} : WX S (.ext x i) f h Q = yWV (extV (ev f x) i) (fun v => Q v h) .mk := WX_ext
theorem yWX_len {S : XS} {f : Fr} {h : AH} {Q : Value → AH → Prop} {x : Operand} : WX S (.len x) f h Q = yWV (lenV (ev f x)) (fun v => Q v h) .mk := WX_len
theorem yWX_ixs {S : XS} {f : Fr} {h : AH} {Q : Value → AH → Prop} {x y : Operand} {sz : Nat} : WX S (.ixs sz x y) f h Q = yWV (ixsV sz (ev f x) (ev f y)) (fun v => Q v h) .mk := WX_ixs
theorem yWX_ixa {S : XS} {f : Fr} {h : AH} {Q : Value → AH → Prop} {x y : Operand} {n sz : Nat} : WX S (.ixa n sz x y) f h Q = yWV (ixaV n sz (ev f x) (ev f y)) (fun v => Q v h) .mk := WX_ixa
theorem yWX_idx1 {S : XS} {f : Fr} {h : AH} {Q : Value → AH → Prop} {x y : Operand} {n : Nat} : WX S (.idx1 n x y) f h Q = yWV (idx1V n (ev f x) (ev f y)) (fun v => Q v h) .mk := WX_idx1
theorem yWX_idxn {S : XS} {f : Fr} {h : AH} {Q : Value → AH → Prop} {x y : Operand} {n sz : Nat} : WX S (.idxn n sz x y) f h Q = yWV (idxnV n sz (ev f x) (ev f y)) (fun v => Q v h) .mk := WX_idxn
theorem yWX_slc {S : XS} {f : Fr} {h : AH} {Q : Value → AH → Prop} {x : Operand} {sz : Nat} {lo hi : Option Operand} : WX S (.slc sz x lo hi) f h Q = yWV (slcV sz (ev f x) (omapF f lo) (omapF f hi)) (fun v => Q v h) .mk := WX_slc
theorem yWX_isnil {S : XS} {f : Fr} {h : AH} {Q : Value → AH → Prop} {x : Operand} {neg : Bool} : WX S (.isnil neg x) f h Q = yWV (isnilV neg (ev f x)) (fun v => Q v h) .mk := WX_isnil
theorem yWX_eqb {S : XS} {f : Fr} {h : AH} {Q : Value → AH → Prop} {x y : Operand} {neg : Bool} : WX S (.eqb neg x y) f h Q = yWV (eqbV neg (ev f x) (ev f y)) (fun v => Q v h) .mk := WX_eqb
theorem yWX_eqa {S : XS} {f : Fr} {h : AH} {Q : Value → AH → Prop} {x y : Operand} {neg : Bool} {n : Nat} : WX S (.eqa neg n x y) f h Q = yWV (eqaV neg n (ev f x) (ev f y)) (fun v => Q v h) .mk := WX_eqa
theorem yWX_mks {S : XS} {f : Fr} {h : AH} {Q : Value → AH → Prop} {x : Operand} {e : TypeId} {sz bytes : Nat} {z : List Value} : WX S (.mks e sz bytes z x) f h Q = yOQ (mksV e sz bytes z (ev f x) h) Q .mk := WX_mks
theorem yWX_app {S : XS} {f : Fr} {h : AH} {Q : Value → AH → Prop} {x y : Operand} {e : TypeId} {sz bytes : Nat} : WX S (.app e sz bytes x y) f h Q = yOQ (appV e sz bytes (ev f x) (ev f y) h) Q .mk := WX_app
theorem yWX_mkf {S : XS} {f : Fr} {h : AH} {Q : Value → AH → Prop} {g : FuncId} {l : List Operand} : WX S (.mkf g l) f h Q = yLQ (l.map (ev f)) (fun c => Q (.func (.func g) #[] c.toArray) h) .mk := WX_mkf
theorem yWX_build {S : XS} {f : Fr} {h : AH} {Q : Value → AH → Prop} {z : List Value} {l : List (Nat × Nat × Operand)} : WX S (.build z l) f h Q = yVQ (fillL z (l.map fun p => (p.1, p.2.1, ev f p.2.2))) (fun c => c.all isOne = true ∧ Q (.agg c.toArray) h) .mk := WX_build
theorem yWX_bslice {S : XS} {f : Fr} {h : AH} {Q : Value → AH → Prop} {e : TypeId} {sz n : Nat} {z : List Value} {l : List (Nat × Nat × Operand)} : WX S (.bslice e sz n z l) f h Q = yVQ (fillL (zrep n z) (l.map fun p => (p.1, p.2.1, ev f p.2.2))) (fun c => c.all isOne = true ∧ Q (.slice (some ⟨h.length, 0, none⟩) n sz) (h.new ⟨c, e, false, true⟩)) .mk := WX_bslice
theorem yWX_callf {S : XS} {f : Fr} {h : AH} {Q : Value → AH → Prop} {g : FuncId} {args : List Operand} : WX S (.call (.func g) args) f h Q = yWF S g (args.map (ev f)) h Q .mk .mk := WX_callf
theorem yWX_calls {S : XS} {f : Fr} {h : AH} {Q : Value → AH → Prop} {fo : Operand} {args : List Operand} : WX S (.call fo args) f h Q = yWK S (ev f fo) (args.map (ev f)) h Q .mk .mk := WX_calls
theorem yWO_guard {S : XS} {d : Option Nat} {o : XOp} {s : Nat} {b q : Bool} {rest : List XI} {f : Fr} {h : AH} {Q : Fr → AH → Prop} : WO S (⟨d, o, some (s, b), q⟩ :: rest) f h Q = yWG S (f s) b ⟨d, o, none, q⟩ rest f h Q .mk .mk .mk .mk .mk := WO_guard
theorem yWC_cond {S : XS} {c : Operand} {a b : IR} {f : Fr} {h : AH} {Q : XE → Fr → AH → Prop} : WC S (.cond c a b) f h Q = yIfW (ev f c) (WC S a f h Q) (WC S b f h Q) .mk .mk := WC_cond
theorem yRetQ_n {rs : List XRes} {f : Fr} {h : AH} {R : Value → AH → Prop} : RetQ rs R .normal f h = yOQ ((xres f h rs).map (·, h)) R .mk := rfl
theorem yRetQ_r {rs : List XRes} {f : Fr} {h : AH} {R : Value → AH → Prop} : RetQ rs R .ret f h = yOQ ((xres f h rs).map (·, h)) R .mk := rfl
theorem yfill_nil {z : List Value} : fillL z [] = some z := rfl
theorem yfill_cons {z : List Value} {off n : Nat} {x : Value} {rest : List (Nat × Nat × Value)} : fillL z ((off, n, x) :: rest) = if (cellsL x).length = n ∧ off + n ≤ z.length then fillL (splice z off (cellsL x)) rest else none := rfl
theorem yzrep_0 {z : List Value} : zrep 0 z = [] := by simp [zrep]
theorem yzrep_1 {z : List Value} : zrep 1 z = z := by simp [zrep]
theorem yzrep_2 {z : List Value} : zrep 2 z = z ++ z := by simp [zrep]
theorem yzrep_3 {z : List Value} : zrep 3 z = z ++ z ++ z := by simp [zrep]
theorem yzrep_4 {z : List Value} : zrep 4 z = z ++ z ++ z ++ z := by simp [zrep]
theorem yzrep_5 {z : List Value} : zrep 5 z = z ++ z ++ z ++ z ++ z := by simp [zrep]
theorem yzrep_6 {z : List Value} : zrep 6 z = z ++ z ++ z ++ z ++ z ++ z := by simp [zrep]
theorem yzrep_7 {z : List Value} : zrep 7 z = z ++ z ++ z ++ z ++ z ++ z ++ z := by simp [zrep]
theorem yzrep_8 {z : List Value} : zrep 8 z = z ++ z ++ z ++ z ++ z ++ z ++ z ++ z := by simp [zrep]
theorem yzrep_9 {z : List Value} : zrep 9 z = z ++ z ++ z ++ z ++ z ++ z ++ z ++ z ++ z := by simp [zrep]
theorem yWF_forth {S : XS} {g : FuncId} {args : List Value} {h : AH} {Q : Value → AH → Prop} : WF S g args h Q = yWF S g args h Q .mk .mk := rfl
theorem yWK_forth {S : XS} {v : Value} {args : List Value} {h : AH} {Q : Value → AH → Prop} : WK S v args h Q = yWK S v args h Q .mk .mk := rfl
theorem yWG_forth {S : XS} {v : Value} {b : Bool} {i : XI} {rest : List XI} {f : Fr} {h : AH} {Q : Fr → AH → Prop} : WG S v b i rest f h Q = yWG S v b i rest f h Q .mk .mk .mk .mk .mk := rfl
def ypre := And.intro @WC_skip (And.intro @WC_exit (And.intro @WC_ret (And.intro @WC_reg (And.intro @WC_seq (And.intro @yWC_cond (And.intro @WC_blk (And.intro @WO_free (And.intro @WO_calm (And.intro @yWO_guard (And.intro @yWX_mv (And.intro @yWX_pick (And.intro @WX_alloc (And.intro @yWX_box (And.intro @yWX_boxn (And.intro @yWX_load1 (And.intro @yWX_loadn (And.intro @yWX_store (And.intro @yWX_bin (And.intro @yWX_un (And.intro @yWX_conv (And.intro @yWX_fadr (And.intro @yWX_fld1 (And.intro @yWX_ext (And.intro @yWX_len (And.intro @yWX_ixa (And.intro @yWX_idx1 (And.intro @yWX_idxn (And.intro @yWX_slc (And.intro @yWX_isnil (And.intro @yWX_ixs (And.intro @yWX_eqb (And.intro @yWX_eqa (And.intro @yWX_mks (And.intro @yWX_app (And.intro @yWX_mkf (And.intro @yWX_build (And.intro @yWX_bslice (And.intro @yWX_callf (And.intro @yWX_calls (And.intro @ev_tmp (And.intro @ev_const (And.intro @ev_func (And.intro @updo_some (And.intro @updo_none (And.intro @upd_apply (And.intro @SeqQ_n (And.intro @SeqQ_e (And.intro @SeqQ_r (And.intro @BlkQ_n (And.intro @BlkQ_e (And.intro @BlkQ_r (And.intro @RegQ_eq (And.intro @yRetQ_n (And.intro @yRetQ_r (And.intro @InvQ_e (And.intro @InvQ_r (And.intro @LoopQ_e (And.intro @LoopQ_r (And.intro @yQV_forth (And.intro @yWV_forth (And.intro @yHQ_forth (And.intro @yPQ_forth (And.intro @yLQ_forth (And.intro @yVQ_forth (And.intro @yOQ_forth (And.intro @yIfW_forth (And.intro @yWF_forth (And.intro @yWK_forth (@yWG_forth)))))))))))))))))))))))))))))))))))))))))))))))))))))))))))))))))))))
def ypost := And.intro @WO_nil (And.intro @yWG_tt (And.intro @yWG_ff (And.intro @yWG_tf (And.intro @yWG_un (And.intro @yWG_ft (And.intro @yQV_eq (And.intro @yWV_some (And.intro @yOQ_some (And.intro @yWK_func (And.intro @yHQ_some (And.intro @yPQ_ptr (And.intro @yLQ_eq (And.intro @yVQ_some (And.intro @yIfW_t (And.intro @yIfW_f (And.intro @pickV_t (And.intro @pickV_f (And.intro @bin_add (And.intro @bin_sub (And.intro @bin_mul (And.intro @bin_eql (And.intro @bin_neq (And.intro @bin_lss (And.intro @bin_leq (And.intro @bin_gtr (And.intro @bin_geq (And.intro @un_not (And.intro @un_minus (And.intro @lenV_slice (And.intro @convV_int (And.intro @fstV_agg (And.intro @extV_tuple (And.intro @eqa3 (And.intro @eqbV_b (And.intro @cellsL_agg (And.intro @cellsL_int (And.intro @cellsL_bool (And.intro @cellsL_slice (And.intro @cellsL_ptr (And.intro @cellsL_func (And.intro @mksV_int (And.intro @yOQ_ite (And.intro @yWV_ite (And.intro @rd1_new_same (And.intro @rd1_new_lt (And.intro @rdn_new_lt (And.intro @get_new_lt (And.intro @wr_new_lt (And.intro @yHQ_ite (And.intro @map_ite_v (And.intro @rd1_put_same (And.intro @rdn_put_same (And.intro @rd1_put_ne (And.intro @rdn_put_ne (And.intro @wr_put_same (And.intro @wr_put_ne (And.intro @xres_tmp (And.intro @xres_tmp2 (And.intro @xres_cell (And.intro @xres_cells (And.intro @xres_2 (And.intro @tup2_some (And.intro @rd1V_ptr (And.intro @rdnV_ptr (And.intro @xres1_tmp (And.intro @xres1_cell (And.intro @xres1_cells (And.intro @args_nil (And.intro @args_cons (And.intro @map_some_v (And.intro @bind_some_v (And.intro @map_cons_v (And.intro @map_nil_v (And.intro @lit_nil (And.intro @lit_cons (And.intro @toL (And.intro @all_cons_v (And.intro @all_nil_v (And.intro @one_int (And.intro @one_bool (And.intro @one_slice (And.intro @one_func (And.intro @one_ptr (And.intro @len_cons_v (And.intro @len_nil_v (And.intro @drop_zero_v (And.intro @drop_cons_v (And.intro @take_zero_v (And.intro @take_nil_v (And.intro @take_cons_v (And.intro @app_nil_v (And.intro @app_cons_v (And.intro @get_new_same (And.intro @Bool.and_true (And.intro @Bool.true_and (And.intro @Bool.not_true (And.intro @Bool.not_false (And.intro @true_and (And.intro @and_true (And.intro @and_self (And.intro @decide_true (And.intro @decide_false (And.intro @yfill_nil (And.intro @yfill_cons (And.intro @yzrep_0 (And.intro @yzrep_1 (And.intro @yzrep_2 (And.intro @yzrep_3 (And.intro @yzrep_4 (And.intro @yzrep_5 (And.intro @yzrep_6 (And.intro @yzrep_7 (And.intro @yzrep_8 (@yzrep_9))))))))))))))))))))))))))))))))))))))))))))))))))))))))))))))))))))))))))))))))))))))))))))))))))))))))))))))))))
def yback := And.intro @yQV_back (And.intro @yWV_back (And.intro @yHQ_back (And.intro @yPQ_back (And.intro @yLQ_back (And.intro @yVQ_back (And.intro @yOQ_back (And.intro @yIfW_back (And.intro @yWF_back (And.intro @yWK_back (@yWG_back))))))))))
def ynew := And.intro @wr_new_same (And.intro @rdn_new_same (@splice_cons))
end Go.Proofs.Ytphklalbkpohfaa.X
