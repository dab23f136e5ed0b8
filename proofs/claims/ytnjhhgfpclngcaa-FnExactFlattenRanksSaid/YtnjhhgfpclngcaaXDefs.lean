/- The abstract machine of this session: Go code is turned into a small code of its own ('comp'), which runs on a heap of blocks without any draw. Definitions alone. -/
import Derived.WalkKit
import Derived.Laws.AppendOwn
import Derived.Orders
import Derived.Below
set_option linter.unusedVariables false
set_option linter.unusedSimpArgs false
namespace Go.Proofs.Ytnjhhgfpclngcaa.X
open Go Go.RowKit

/-! ### The abstract heap -/
/-- A block: its cells, its element type, may it be written, are its cells all that its memory has. -/
structure Blk where
  c : List Value
  e : TypeId
  ro : Bool
  full : Bool

abbrev AH := List (Option Blk)

def AH.get (h : AH) (n : Nat) : Option Blk := match h[n]? with
  | some (some b) => some b
  | _ => none
def splice (c : List Value) (off : Nat) (vs : List Value) : List Value := c.take off ++ vs ++ c.drop (off + vs.length)
def AH.rd1 (h : AH) (n off : Nat) : Option Value := (h.get n).bind fun b => b.c[off]?
def AH.rdn (h : AH) (n off k : Nat) : Option (List Value) := (h.get n).bind fun b => if off + k ≤ b.c.length then some ((b.c.drop off).take k) else none
def AH.wr (h : AH) (n off : Nat) (vs : List Value) : Option AH := (h.get n).bind fun b =>
  if b.ro = false ∧ off + vs.length ≤ b.c.length then some (h.set n (some { b with c := splice b.c off vs })) else none
def AH.new (h : AH) (b : Blk) : AH := h ++ [some b]
def AH.kill (h : AH) (n : Nat) : AH := h.set n none

/-! ### The code -/
inductive XOp where
  | mv (x : Operand)
  | pick (c a b : Operand)
  | alloc (e : TypeId) (z : List Value)
  | box (e : TypeId) (x : Operand)
  | build (z : List Value) (parts : List (Nat × Nat × Operand))
  | bslice (e : TypeId) (sz len : Nat) (z : List Value) (parts : List (Nat × Nat × Operand))
  | load1 (a : Operand)
  | loadn (n : Nat) (a : Operand)
  | store (n : Nat) (a x : Operand)
  | bin (op : BinOp) (x y : Operand)
  | eqb (neg : Bool) (x y : Operand)
  | eqa (neg : Bool) (n : Nat) (x y : Operand)
  | un (op : UnOp) (x : Operand)
  | conv (k : IntKind) (x : Operand)
  | fadr (off : Nat) (x : Operand)
  | fld1 (off : Nat) (x : Operand)
  | fldn (off n : Nat) (x : Operand)
  | ixs (sz : Nat) (x i : Operand)
  | ixa (len sz : Nat) (x i : Operand)
  | idx1 (len : Nat) (x i : Operand)
  | idxn (len sz : Nat) (x i : Operand)
  | mks (e : TypeId) (sz bytes : Nat) (z : List Value) (len : Operand)
  | slc (sz : Nat) (x : Operand) (lo hi : Option Operand)
  | slca (len sz : Nat) (x : Operand) (lo hi : Option Operand)
  | slc0 (x : Operand)
  | call (f : Operand) (args : List Operand)
  | len (x : Operand)
  | app (e : TypeId) (sz bytes : Nat) (s x : Operand)
  | mkf (g : FuncId) (cap : List Operand)
  | ext (x : Operand) (i : Nat)
  | mm (isMax : Bool) (x : Operand) (l : List Operand)
  | isnil (neg : Bool) (x : Operand)
  | idxs (bs : List Nat) (i : Operand)
  | boxn (e : TypeId) (n : Nat) (x : Operand)
  | fail
  deriving Inhabited

/-- An operation: the slot that it writes, what it does, its guard (a slot, what it must hold), must it leave all blocks as they are. -/
structure XI where
  d : Option Nat
  o : XOp
  g : Option (Nat × Bool)
  q : Bool
  deriving Inhabited

inductive IR where
  | skip
  | reg (ops : List XI)
  | seq (a b : IR)
  | cond (c : Operand) (a b : IR)
  | blk (id : Nat) (a : IR)
  | loop (a : IR)
  | exit (id : Nat)
  | ret
  deriving Inhabited

inductive XRes where
  | tmp (t : Nat)
  | cell1 (t : Nat)
  | celln (t n : Nat)
  deriving Inhabited

structure XFn where
  res : List XRes
  body : IR
  deriving Inhabited

/-! ### Running -/
abbrev Fr := Nat → Value
def upd (f : Fr) (i : Nat) (v : Value) : Fr := fun j => if j = i then v else f j
def updo (f : Fr) : Option Nat → Value → Fr
  | some i, v => upd f i v
  | none, _ => f
def ev (f : Fr) : Operand → Value
  | .tmp i => f i
  | .const v => v
  | .func g => .func (.func g) #[] #[]
  | .global _ => undef

def isOne : Value → Bool
  | .agg _ | .tuple _ => false
  | _ => true

def xbin : BinOp → Value → Value → Option Value
  | .add, .int k a, .int k' b => if k = k' then some (.int k (k.wrap (a + b))) else none
  | .sub, .int k a, .int k' b => if k = k' then some (.int k (k.wrap (a - b))) else none
  | .mul, .int k a, .int k' b => if k = k' then some (.int k (k.wrap (a * b))) else none
  | .quo, .int k a, .int k' b => if k = k' ∧ b ≠ 0 then some (.int k (k.wrap (a.tdiv b))) else none
  | .rem, .int k a, .int k' b => if k = k' ∧ b ≠ 0 then some (.int k (a.tmod b)) else none
  | .eql, .int k a, .int k' b => if k = k' then some (.bool (a == b)) else none
  | .neq, .int k a, .int k' b => if k = k' then some (.bool (a != b)) else none
  | .lss, .int k a, .int k' b => if k = k' then some (.bool (decide (a < b))) else none
  | .leq, .int k a, .int k' b => if k = k' then some (.bool (decide (a ≤ b))) else none
  | .gtr, .int k a, .int k' b => if k = k' then some (.bool (decide (a > b))) else none
  | .geq, .int k a, .int k' b => if k = k' then some (.bool (decide (a ≥ b))) else none
  | .and, .int k a, .int k' b => if k = k' then some (.int k (k.wrap (BitVec.ofInt k.bits a &&& BitVec.ofInt k.bits b).toNat)) else none
  | .or, .int k a, .int k' b => if k = k' then some (.int k (k.wrap (BitVec.ofInt k.bits a ||| BitVec.ofInt k.bits b).toNat)) else none
  | .xor, .int k a, .int k' b => if k = k' then some (.int k (k.wrap (BitVec.ofInt k.bits a ^^^ BitVec.ofInt k.bits b).toNat)) else none
  | .andNot, .int k a, .int k' b => if k = k' then some (.int k (k.wrap (BitVec.ofInt k.bits a &&& ~~~ BitVec.ofInt k.bits b).toNat)) else none
  | .shl, .int k a, .int _ b => if 0 ≤ b then some (.int k (k.wrap (a * 2 ^ (min b.toNat k.bits)))) else none
  | .shr, .int k a, .int _ b => if 0 ≤ b then some (.int k (a.fdiv (2 ^ (min b.toNat k.bits)))) else none
  | _, _, _ => none

def xun : UnOp → Value → Option Value
  | .not, .bool b => some (.bool !b)
  | .neg, .int k n => some (.int k (k.wrap (0 - n)))
  | _, _ => none

/-- The whole numbers of one kind that cells hold. -/
def intsOf : List Value → Option (IntKind × List Int)
  | [.int k a] => some (k, [a])
  | .int k a :: rest => match intsOf rest with
    | some (k', l) => if k = k' then some (k, a :: l) else none
    | none => none
  | _ => none

def zrep : Nat → List Value → List Value
  | 0, _ => []
  | n + 1, z => z ++ zrep n z

/-- Parts laid into cells. -/
def fillX (f : Fr) : List Value → List (Nat × Nat × Operand) → Option (List Value)
  | z, [] => some z
  | z, (off, n, x) :: rest =>
    if (ev f x).cells.toList.length = n ∧ off + n ≤ z.length then fillX f (splice z off (ev f x).cells.toList) rest else none

def bound (f : Fr) (d : Int) : Option Operand → Option Int
  | none => some d
  | some x => match ev f x with
    | .int _ i => some i
    | _ => none

def xmm (isMax : Bool) : Int → List Value → Option Int
  | a, [] => some a
  | a, .int _ b :: rest => xmm isMax (if isMax then (if b > a then b else a) else (if b < a then b else a)) rest
  | _, _ => none

/-- What the operations other than calls give. -/
def xop (o : XOp) (f : Fr) (h : AH) : Option (Value × AH) := match o with
  | .mv x => some (ev f x, h)
  | .pick c a b => match ev f c with
    | .bool t => some (if t then ev f a else ev f b, h)
    | _ => none
  | .alloc e z => some (.pointer (some ⟨h.length, 0, none⟩), h.new ⟨z, e, false, true⟩)
  | .box e x => if (ev f x).cells.toList.all isOne then some (.pointer (some ⟨h.length, 0, none⟩), h.new ⟨(ev f x).cells.toList, e, false, true⟩) else none
  | .build z parts => match fillX f z parts with
    | some c => if c.all isOne then some (.agg c.toArray, h) else none
    | none => none
  | .bslice e sz len z parts => match fillX f (zrep len z) parts with
    | some c => if c.all isOne then some (.slice (some ⟨h.length, 0, none⟩) len sz, h.new ⟨c, e, false, true⟩) else none
    | none => none
  | .load1 a => match ev f a with
    | .pointer (some ⟨n, off, _⟩) => match h.rd1 n off with
      | some v => some (v, h)
      | none => none
    | _ => none
  | .loadn k a => match ev f a with
    | .pointer (some ⟨n, off, _⟩) => match h.rdn n off k with
      | some c => some (.agg c.toArray, h)
      | none => none
    | _ => none
  | .store k a x => match ev f a with
    | .pointer (some ⟨n, off, _⟩) => if (ev f x).cells.toList.length = k ∧ (ev f x).cells.toList.all isOne then match h.wr n off (ev f x).cells.toList with
      | some h' => some (undef, h')
      | none => none else none
    | _ => none
  | .bin op x y => (xbin op (ev f x) (ev f y)).map (·, h)
  | .eqb neg x y => match ev f x, ev f y with
    | .bool a, .bool b => some (.bool ((a == b) != neg), h)
    | _, _ => none
  | .eqa neg n x y => match ev f x, ev f y with
    | .agg xs, .agg ys => match intsOf xs.toList, intsOf ys.toList with
      | some (k, as), some (k', bs) => if k = k' ∧ as.length = n ∧ bs.length = n then some (.bool ((as == bs) != neg), h) else none
      | _, _ => none
    | _, _ => none
  | .un op x => (xun op (ev f x)).map (·, h)
  | .conv k x => match ev f x with
    | .int _ n => some (.int k (k.wrap n), h)
    | _ => none
  | .fadr off x => match ev f x with
    | .pointer (some ⟨n, o, _⟩) => some (.pointer (some ⟨n, o + off, none⟩), h)
    | _ => none
  | .fld1 off x => match ev f x with
    | .agg cs => match cs.toList[off]? with
      | some v => some (v, h)
      | none => none
    | _ => none
  | .fldn off n x => match ev f x with
    | .agg cs => if off + n ≤ cs.toList.length then some (.agg ((cs.toList.drop off).take n).toArray, h) else none
    | _ => none
  | .ixs sz x i => match ev f x, ev f i with
    | .slice (some ⟨n, off, _⟩) len sz', .int _ j => if 0 ≤ j ∧ j < len ∧ sz' = sz then some (.pointer (some ⟨n, off + j.toNat * sz, none⟩), h) else none
    | _, _ => none
  | .ixa len sz x i => match ev f x, ev f i with
    | .pointer (some ⟨n, off, _⟩), .int _ j => if 0 ≤ j ∧ j < len then some (.pointer (some ⟨n, off + j.toNat * sz, none⟩), h) else none
    | _, _ => none
  | .idx1 len x i => match ev f x, ev f i with
    | .agg cs, .int _ j => if 0 ≤ j ∧ j < len then match cs.toList[j.toNat]? with
      | some v => some (v, h)
      | none => none else none
    | _, _ => none
  | .idxn len sz x i => match ev f x, ev f i with
    | .agg cs, .int _ j => if 0 ≤ j ∧ j < len ∧ j.toNat * sz + sz ≤ cs.toList.length then some (.agg ((cs.toList.drop (j.toNat * sz)).take sz).toArray, h) else none
    | _, _ => none
  | .mks e sz bytes z len => match ev f len with
    | .int _ n => if 0 ≤ n ∧ n * bytes ≤ 140737488355328 ∧ n ≤ 9223372036854775807 then some (.slice (some ⟨h.length, 0, none⟩) n.toNat sz, h.new ⟨zrep n.toNat z, e, false, true⟩) else none
    | _ => none
  | .slc sz x lo hi => match ev f x with
    | .slice (some ⟨n, off, _⟩) len sz' => match bound f 0 lo, bound f len hi with
      | some l, some u =>
        if sz' = sz ∧ 0 ≤ l ∧ l < u ∧ u ≤ len then some (.slice (some ⟨n, off + l.toNat * sz, none⟩) (u - l).toNat sz, h)
        else if sz' = sz ∧ 0 ≤ l ∧ l = u ∧ u ≤ len then some (.slice none 0 1, h) else none
      | _, _ => none
    | .slice none 0 t => match bound f 0 lo, bound f 0 hi with
      | some l, some u => if l = 0 ∧ u = 0 then some (.slice none 0 t, h) else none
      | _, _ => none
    | _ => none
  | .slca len sz x lo hi => match ev f x with
    | .pointer (some ⟨n, off, _⟩) => match h.get n with
      | some b => match bound f 0 lo, bound f len hi with
        | some l, some u => if b.ro = false ∧ b.full = true ∧ off + len * sz = b.c.length ∧ 0 ≤ l ∧ l < u ∧ u ≤ len then some (.slice (some ⟨n, off + l.toNat * sz, none⟩) (u - l).toNat sz, h) else none
        | _, _ => none
      | none => none
    | _ => none
  | .slc0 x => match ev f x with
    | .slice (some _) _ _ => some (.slice none 0 2, h)
    | .slice none 0 _ => some (.slice none 0 2, h)
    | _ => none
  | .call _ _ => none
  | .len x => match ev f x with
    | .slice _ n _ => some (.int .i64 n, h)
    | _ => none
  | .app e sz bytes s x => match ev f s, ev f x with
    | .slice a n t, .slice a' m t' =>
      match (match a' with
        | none => if m = 0 then some [] else none
        | some ⟨n', off, _⟩ => if t' = sz then h.rdn n' off (m * sz) else none : Option (List Value)) with
      | none => none
      | some news =>
        if (n + m : Int) * bytes ≤ 140737488355328 ∧ (n + m : Int) ≤ 9223372036854775807 then
          match a with
          | none => if n = 0 ∧ (t = 0 ∨ t = 2) then
              if m = 0 then some (.slice none 0 t, h) else some (.slice (some ⟨h.length, 0, none⟩) m sz, h.new ⟨news, e, false, false⟩)
            else none
          | some ⟨k, off, _⟩ => if m = 0 then some (.slice a n t, h) else
            match h.get k with
            | some b => if off = 0 ∧ b.ro = false ∧ b.e = e ∧ b.c.length = n * sz ∧ t = sz then
                some (.slice (some ⟨h.length, 0, none⟩) (n + m) sz, (h.kill k).new ⟨b.c ++ news, e, false, false⟩)
              else none
            | none => none
        else none
    | _, _ => none
  | .mkf g cap => some (.func (.func g) #[] (cap.map (ev f)).toArray, h)
  | .ext x i => match ev f x with
    | .tuple vs => match vs.toList[i]? with
      | some v => some (v, h)
      | none => none
    | _ => none
  | .mm isMax x l => match ev f x with
    | .int k a => (xmm isMax a (l.map (ev f))).map fun b => (.int k b, h)
    | _ => none
  | .isnil neg x => match ev f x with
    | .slice none 0 0 => some (.bool (!neg), h)
    | .slice (some _) _ _ => some (.bool neg, h)
    | _ => none
  | .idxs bs i => match ev f i with
    | .int _ j => if 0 ≤ j then match bs[j.toNat]? with
      | some b => some (.int .u8 b, h)
      | none => none else none
    | _ => none
  | .boxn e n x => if (ev f x).cells.toList.length = n ∧ (ev f x).cells.toList.all isOne then some (.pointer (some ⟨h.length, 0, none⟩), h.new ⟨(ev f x).cells.toList, e, false, true⟩) else none
  | .fail => none

/-- One operation; calls by C. -/
def xrun (C : FuncId → List Value → AH → Option (Value × AH)) (o : XOp) (f : Fr) (h : AH) : Option (Value × AH) := match o with
  | .call fo args => match ev f fo with
    | .func (.func g) first cap => if first.toList.isEmpty = true then C g (args.map (ev f) ++ cap.toList) h else none
    | _ => none
  | o => xop o f h

def want (f : Fr) : Option (Nat × Bool) → Bool
  | none => true
  | some (s, b) => match f s with
    | .bool c => c == b
    | _ => false

open Classical in
/-- An operation in its place. -/
noncomputable def xstep (C : FuncId → List Value → AH → Option (Value × AH)) (i : XI) (f : Fr) (h : AH) : Option (Fr × AH) :=
  if want f i.g = true then
    match xrun C i.o f h with
    | some (v, h') => if i.q = true → h <+: h' then some (updo f i.d v, h') else none
    | none => none
  else some (updo f i.d undef, h)

noncomputable def xops (C : FuncId → List Value → AH → Option (Value × AH)) : List XI → Fr → AH → Option (Fr × AH)
  | [], f, h => some (f, h)
  | i :: rest, f, h => match xstep C i f h with
    | some (f', h') => xops C rest f' h'
    | none => none

inductive XE where
  | normal
  | exit (id : Nat)
  | ret

def xloop (B : Fr → AH → Option (XE × Fr × AH)) : Nat → Fr → AH → Option (XE × Fr × AH)
  | 0, _, _ => none
  | n + 1, f, h => match B f h with
    | some (.normal, f', h') => xloop B n f' h'
    | r => r

noncomputable def xcode (C : FuncId → List Value → AH → Option (Value × AH)) (n : Nat) : IR → Fr → AH → Option (XE × Fr × AH)
  | .skip, f, h => some (.normal, f, h)
  | .reg ops, f, h => match xops C ops f h with
    | some (f', h') => some (.normal, f', h')
    | none => none
  | .seq a b, f, h => match xcode C n a f h with
    | some (.normal, f', h') => xcode C n b f' h'
    | r => r
  | .cond c a b, f, h => match ev f c with
    | .bool true => xcode C n a f h
    | .bool false => xcode C n b f h
    | _ => none
  | .blk id a, f, h => match xcode C n a f h with
    | some (.exit id', f', h') => if id' = id then some (.normal, f', h') else some (.exit id', f', h')
    | r => r
  | .loop a, f, h => xloop (fun f h => xcode C n a f h) n f h
  | .exit id, f, h => some (.exit id, f, h)
  | .ret, f, h => some (.ret, f, h)

def xres1 (f : Fr) (h : AH) : XRes → Option Value
  | .tmp t => some (f t)
  | .cell1 t => match f t with
    | .pointer (some ⟨n, off, _⟩) => h.rd1 n off
    | _ => none
  | .celln t k => match f t with
    | .pointer (some ⟨n, off, _⟩) => (h.rdn n off k).map fun c => .agg c.toArray
    | _ => none
def xresl (f : Fr) (h : AH) : List XRes → Option (List Value)
  | [] => some []
  | r :: rest => match xres1 f h r, xresl f h rest with
    | some v, some vs => some (v :: vs)
    | _, _ => none
def xres (f : Fr) (h : AH) (rs : List XRes) : Option Value := match xresl f h rs with
  | some [v] => some v
  | some vs => some (.tuple vs.toArray)
  | none => none

noncomputable def xcall (E : FuncId → Option (List Value → AH → Option (Value × AH))) (T : FuncId → Option XFn) : Nat → FuncId → List Value → AH → Option (Value × AH)
  | 0, _, _, _ => none
  | k + 1, g, args, h => match E g with
    | some p => p args h
    | none => match T g with
    | none => none
    | some fn => match xcode (xcall E T k) (k + 1) fn.body (fun j => args.getD j undef) h with
      | some (.exit _, _, _) => none
      | some (_, f', h') => match xres f' h' fn.res with
        | some v => some (v, h')
        | none => none
      | none => none

end Go.Proofs.Ytnjhhgfpclngcaa.X
