/- The abstract machine of this session: how the loaded program's functions are turned into the machine's own code. Definitions alone. -/
import Derived.Test.YtnjhhgfpclngcaaXDefs
set_option linter.unusedVariables false
namespace Go.Proofs.Ytnjhhgfpclngcaa.X
open Go Go.RowKit

section
variable (P : Program)

def okCell : Value → Bool
  | .bool _ | .int _ _ | .slice none 0 0 | .nilFunc => true
  | _ => false
def okConst : Value → Bool
  | .agg cs => cs.toList.all okCell
  | .tuple vs => vs.toList.isEmpty
  | v => okCell v
def okOpd : Operand → Bool
  | .tmp _ | .func _ => true
  | .const v => okConst v
  | .global _ => false

def aggT (t : TypeId) : Option Bool := match P.underlying t with
  | some (.struct _) | some (.array _ _) => some true
  | some _ => some false
  | none => none
def sizeT (t : TypeId) : Option Nat := (P.info? t).map (·.size)
/-- A type's zero cells, all plain, as many as its size. -/
def zeroT (t : TypeId) : Option (List Value) := match P.info? t with
  | some i => match i.zero with
    | some z => if z.cells.toList.all okCell && z.cells.toList.length == i.size && 0 < i.size then some z.cells.toList else none
    | none => none
  | none => none

/-- Arrays (of arrays ..) of whole numbers of one kind. -/
def flatT : Nat → TypeId → Option (IntKind × Nat)
  | 0, _ => none
  | d + 1, t => match P.underlying t with
    | some (.int k) => if sizeT P t == some 1 then some (k, 1) else none
    | some (.array n e) => match flatT d e with
      | some (k, m) => if sizeT P e == some m && 0 < m then some (k, n * m) else none
      | none => none
    | _ => none

def sameOpd : Operand → Operand → Bool
  | .tmp a, .tmp b => a == b
  | .const (.int _ a), .const (.int _ b) => a == b
  | _, _ => false

/-- Where the parts of a struct or an array begin, and how long they are. -/
def placeT (t : TypeId) (i : Nat) : Option (Nat × Nat) := match P.underlying t with
  | some (.struct fs) => (fs[i]?).bind fun f => (sizeT P f.type).map fun s => (f.offset, s)
  | some (.array _ e) => (sizeT P e).map fun s => (i * s, s)
  | _ => none
def partsT (pl : Nat → Option (Nat × Nat)) : List (Nat × Operand) → Option (List (Nat × Nat × Operand))
  | [] => some []
  | (i, x) :: rest => match pl i, partsT pl rest with
    | some (o, s), some l => if okOpd x then some ((o, s, x) :: l) else none
    | _, _ => none
def fieldsOk (fs : List Field) : Bool := fs.all fun f => (P.info? f.type).isSome

def compCall (c : Call) : Option XOp := match c.callee with
  | .value f => if okOpd f && c.args.toList.all okOpd then some (.call f c.args.toList) else none
  | .invoke _ _ => none
  | .builtin .len => match c.args.toList, c.argTypes.toList with
    | [x], [t] => match P.underlying t with
      | some (.slice _) => if okOpd x then some (.len x) else none
      | some (.array n _) => some (.mv (.const (.int .i64 n)))
      | _ => none
    | _, _ => none
  | .builtin .append => match c.args.toList, c.argTypes.toList with
    | [s, x], [t, u] => match P.underlying t, P.underlying u with
      | some (.slice e), some (.slice _) => match zeroT P e, P.info? e with
        | some z, some i => if t == u && okOpd s && okOpd x then some (.app e i.size i.bytes s x) else none
        | _, _ => none
      | _, _ => none
    | _, _ => none
  | .builtin .max => match c.args.toList with
    | x :: l => if okOpd x && l.all okOpd then some (.mm true x l) else none
    | _ => none
  | .builtin .min => match c.args.toList with
    | x :: l => if okOpd x && l.all okOpd then some (.mm false x l) else none
    | _ => none
  | .builtin _ => none

def compOp (op : Op) : Option XOp := match op with
  | .move x | .assign x => if okOpd x then some (.mv x) else none
  | .pick c a b => if okOpd c && okOpd a && okOpd b then some (.pick c a b) else none
  | .alloc e => (zeroT P e).map fun z => .alloc e z
  | .box e x => if okOpd x then some (.box e x) else none
  | .build t parts => match zeroT P t, P.underlying t with
    | some z, some (.struct fs) => if fieldsOk P fs.toList then (partsT (placeT P t) parts.toList).map fun l => .build z l else none
    | some z, some (.array _ e) => if (P.info? e).isSome then (partsT (placeT P t) parts.toList).map fun l => .build z l else none
    | _, _ => none
  | .buildSlice t len parts => match P.underlying t with
    | some (.slice e) => match zeroT P e, P.info? e with
      | some z, some i => if len * i.size ≤ 16777216 then (partsT (fun j => some (j * i.size, i.size)) parts.toList).map fun l => .bslice e i.size len z l else none
      | _, _ => none
    | _ => none
  | .load t a => if okOpd a then match aggT P t, sizeT P t with
      | some true, some n => some (.loadn n a)
      | some false, some _ => some (.load1 a)
      | _, _ => none else none
  | .store t a x => if okOpd a && okOpd x then (sizeT P t).map fun n => .store n a x else none
  | .binOp op t x y _ => if okOpd x && okOpd y then match P.underlying t with
      | some (.int _) => some (.bin op x y)
      | some .bool => match op with
        | .eql => some (.eqb false x y)
        | .neq => some (.eqb true x y)
        | _ => none
      | some (.array _ _) => match flatT P 4 t, P.eqGuardType P.depth t with
        | some (_, n), false => match op with
          | .eql => some (.eqa false n x y)
          | .neq => some (.eqa true n x y)
          | _ => none
        | _, _ => none
      | some (.slice _) => match y with
        | .const (.slice none 0 0) => match op with
          | .eql => some (.isnil false x)
          | .neq => some (.isnil true x)
          | _ => none
        | _ => none
      | _ => none else none
  | .unOp op _ x => if okOpd x then some (.un op x) else none
  | .convert s d x => if okOpd x then match P.underlying s, P.underlying d with
      | some (.int _), some (.int k) => some (.conv k x)
      | _, _ => none else none
  | .makeFunc (.func g) first cap => if first.toList.isEmpty && cap.toList.all okOpd then some (.mkf g cap.toList) else none
  | .makeSlice t l c => match P.underlying t with
    | some (.slice e) => match zeroT P e, P.info? e with
      | some z, some i => if sameOpd l c && okOpd l then some (.mks e i.size i.bytes z l) else none
      | _, _ => none
    | _ => none
  | .slice t x lo hi mx => if okOpd x && lo.all okOpd && hi.all okOpd then match P.underlying t with
      | some (.slice e) => match zeroT P e, P.info? e with
        | some _, some i => match mx with
          | none => some (.slc i.size x lo hi)
          | some (.const (.int _ m)) => match lo, hi with
            | none, some (.const (.int _ h)) => if m == 0 && h == 0 then some (.slc0 x) else none
            | _, _ => none
          | _ => none
        | _, _ => none
      | some (.array n e) => match zeroT P e, P.info? e with
        | some _, some i => match mx with
          | none => some (.slca n i.size x lo hi)
          | _ => none
        | _, _ => none
      | _ => none else none
  | .fieldAddr s x f => if okOpd x then match P.underlying s with
      | some (.struct fs) => match fs[f]? with
        | some fd => match P.info? fd.type with
          | some i => if 0 < i.size then some (.fadr fd.offset x) else none
          | none => none
        | none => none
      | _ => none else none
  | .field t x f => if okOpd x then match P.underlying t with
      | some (.struct fs) => match fs[f]? with
        | some fd => match aggT P fd.type, sizeT P fd.type with
          | some true, some n => some (.fldn fd.offset n x)
          | some false, some _ => some (.fld1 fd.offset x)
          | _, _ => none
        | none => none
      | _ => none else none
  | .indexAddr t x i => if okOpd x && okOpd i then match P.underlying t with
      | some (.array n e) => (sizeT P e).map fun s => .ixa n s x i
      | some (.slice e) => (sizeT P e).map fun s => .ixs s x i
      | _ => none else none
  | .index t (.const (.string s)) i => if okOpd i then match P.underlying t with
      | some .string => some (.idxs (s.data.toList.map UInt8.toNat) i)
      | _ => none else none
  | .index t x i => if okOpd x && okOpd i then match P.underlying t with
      | some (.array n e) => match aggT P e, sizeT P e with
        | some true, some s => some (.idxn n s x i)
        | some false, some s => if s == 1 then some (.idx1 n x i) else none
        | _, _ => none
      | _ => none else none
  | .extract x i => if okOpd x then some (.ext x i) else none
  | .call c => compCall P c
  | .panic _ => some .fail
  | .makeInterface _ _ => some .fail
  | _ => none

/-! ### Regions -/
/-- 0: touches no block · 1: reads · 2: makes a block · 3: calls · 4: writes. -/
def cls : XOp → Nat
  | .load1 _ | .loadn _ _ | .slca _ _ _ _ _ => 1
  | .alloc _ _ | .box _ _ | .boxn _ _ _ | .bslice _ _ _ _ _ | .mks _ _ _ _ _ => 2
  | .call _ _ => 3
  | .store _ _ _ | .app _ _ _ _ _ => 4
  | _ => 0
def pairOk (a b : Nat) : Bool := a == 0 || b == 0 || (a == 1 && b ≤ 3) || (b == 1 && a ≤ 3)

def guardSlot (ops : Array Oper) (o : Oper) : Option (Option (Nat × Bool)) := match o.guard with
  | none => some none
  | some (j, b) => match (ops[j]?).bind (·.dst) with
    | some d => some (some (d, b))
    | none => none

def compOper (nt : Nat) (ops : Array Oper) (o : Oper) : Option XI := match compOp P o.op, guardSlot ops o with
  | some x, some g => if (match o.dst with | some d => decide (d < nt) | none => true) then some ⟨o.dst, x, g, false⟩ else none
  | _, _ => none
def compOpers (nt : Nat) (ops : Array Oper) : List Oper → Option (List XI)
  | [] => some []
  | o :: rest => match compOper P nt ops o, compOpers nt ops rest with
    | some x, some l => some (x :: l)
    | _, _ => none

/-- Of each operation the ones that come before it in every order. -/
def edgeMask (acc : List Nat) (es : List Edge) : Nat := es.foldl (fun m e => if Region.binds .any e then m ||| (1 <<< e.on) ||| acc.getD e.on 0 else m) 0
def masks (os : List Oper) : List Nat := os.foldl (fun acc o => acc ++ [edgeMask acc o.after.toList]) []

def opdTmp : Operand → Option Nat
  | .tmp t => some t
  | _ => none
def looks (ops : Array Oper) (o : Oper) : List Nat := o.op.operands.toList.filterMap opdTmp ++ (match o.guard with
  | some (j, _) => ((ops[j]?).bind (·.dst)).toList
  | none => [])

def ordered (ms : List Nat) (i j : Nat) : Bool := if i < j then (ms.getD j 0).testBit i else (ms.getD i 0).testBit j

/-- The look at a region whose order is open: i, j two of its operations. -/
def pairFine (ops : Array Oper) (xs : List XI) (ms : List Nat) (i j : Nat) : Bool :=
  match ops[i]?, ops[j]?, xs[i]?, xs[j]? with
  | some oi, some oj, some xi, some xj =>
    i == j || ordered ms i j ||
      (pairOk (cls xi.o) (cls xj.o) &&
       (match oi.dst with | some d => !(looks ops oj).contains d && oj.dst != some d | none => true))
  | _, _, _, _ => false
def edgesFine (os : List Oper) : Bool := (List.range os.length).all fun i => match os[i]? with
  | some o => o.after.toList.all fun e => !Region.binds .any e || e.on < i
  | none => false
def dstsFine (os : List Oper) : Bool := decide ((os.filterMap (·.dst)).Nodup)
def marked (ms : List Nat) (xs : List XI) : List XI := (List.range xs.length).map fun i => match xs[i]? with
  | some x => { x with q := cls x.o == 3 && (List.range xs.length).any fun j => match xs[j]? with
      | some y => cls y.o == 1 && !ordered ms i j
      | none => false }
  | none => default
def drawFine (ops : Array Oper) (xs : List XI) (ms : List Nat) : Bool :=
  edgesFine ops.toList && dstsFine ops.toList && (List.range ops.size).all fun i => (List.range ops.size).all fun j => pairFine ops xs ms i j

/-- A variable of a struct's or an array's type that is made and set in one region, and not otherwise looked at there: it is made when all else is done. -/
structure Fused where
  i : Nat
  j : Nat
  d : Nat
  e : TypeId
  n : Nat
  x : Operand
def fusedAt (ops : Array Oper) (os : List Oper) (i j : Nat) : Option Fused := match ops[i]?, ops[j]? with
  | some oi, some oj => match oi.op, oi.dst, oi.guard, oj.op, oj.dst, oj.guard with
    | .alloc e, some d, none, .store t (.tmp d') x, none, none =>
      if i < j && d == d' && okOpd x && !(match x with | .tmp y => y == d | _ => false) && (List.range os.length).all (fun k => match ops[k]? with | some o => (k == j || !(looks ops o).contains d) && (o.dst.isNone || o.dst != opdTmp x || k < j) | none => true) then
        match zeroT P e, sizeT P t with
        | some z, some n => if z.length == n then some ⟨i, j, d, e, n, x⟩ else none
        | _, _ => none
      else none
    | _, _, _, _, _, _ => none
  | _, _ => none
def fusedOf (ops : Array Oper) : List Fused := (List.range ops.size).flatMap fun i => (List.range ops.size).filterMap fun j => fusedAt P ops ops.toList i j
def nop : XI := ⟨none, .mv (.const (.bool true)), none, false⟩
def lessFused (fs : List Fused) (xs : List XI) : List XI := (List.range xs.length).map fun i => if fs.any (fun f => f.i == i || f.j == i) then nop else xs.getD i nop
def fusedOps (fs : List Fused) : List XI := fs.map fun f => ⟨some f.d, .boxn f.e f.n f.x, none, false⟩
/-- No two fused variables share an operation. -/
def fusedFine (fs : List Fused) : Bool := decide ((fs.flatMap fun f => [f.i, f.j]).Nodup)
def isNop : XI → Bool
  | ⟨none, .mv (.const (.bool true)), none, false⟩ => true
  | _ => false

def compReg (nt : Nat) (ops : Array Oper) (draw : Bool) : Option (List XI) := match compOpers P nt ops ops.toList with
  | none => none
  | some xs => if draw then
      (if drawFine ops (lessFused (fusedOf P ops) xs) (masks ops.toList) && fusedFine (fusedOf P ops) then
        some ((marked (masks ops.toList) (lessFused (fusedOf P ops) xs)).filter (fun x => !isNop x) ++ fusedOps (fusedOf P ops)) else none)
    else some xs

def compCode (nt : Nat) : Code → Option IR
  | .skip => some .skip
  | .region _ ops draw => (compReg P nt ops draw).map .reg
  | .seq a b => match compCode nt a, compCode nt b with
    | some x, some y => some (.seq x y)
    | _, _ => none
  | .cond c a b => match compCode nt a, compCode nt b with
    | some x, some y => if okOpd c then some (.cond c x y) else none
    | _, _ => none
  | .block id a => (compCode nt a).map (.blk id)
  | .loop a => (compCode nt a).map .loop
  | .exit id => some (.exit id)
  | .ret => some .ret
  | _ => none

def compRes : ResultVar → Option XRes
  | .tmp t => some (.tmp t)
  | .cell t ty => match aggT P ty, sizeT P ty with
    | some true, some n => some (.celln t n)
    | some false, some _ => some (.cell1 t)
    | _, _ => none
def compRess : List ResultVar → Option (List XRes)
  | [] => some []
  | r :: rest => match compRes P r, compRess rest with
    | some x, some l => some (x :: l)
    | _, _ => none

def compFn (fn : Func) : Option XFn := match fn.body with
  | none => none
  | some c => if fn.name == "runtime.NumGoroutine" then none else match compCode P fn.ntmps c, compRess P fn.results.toList with
    | some b, some r => some ⟨r, b⟩
    | _, _ => none

end
end Go.Proofs.Ytnjhhgfpclngcaa.X
