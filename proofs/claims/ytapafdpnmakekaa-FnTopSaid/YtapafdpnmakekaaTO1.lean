/- Texts of one claim, put together by merge.py: XDefs, XComp, XVR, XHeap, XPure, XEq, XOps, XPure2, XRead. -/
import Derived.WalkKit
import Derived.Laws.AppendOwn
import Derived.Lib.AppendZeros
import Derived.Orders
import Derived.Below
import Derived.Laws.StructEq
import Derived.Laws.Small
set_option linter.unusedVariables false
set_option linter.unusedSimpArgs false
namespace Go.Proofs.Ytapafdpnmakekaa.X
open Go Go.RowKit
structure Blk where
 c:List Value
 e:TypeId
 ro:Bool
 full:Bool
abbrev AH:=List (Option Blk)
def AH.get (h:AH) (n:Nat):Option Blk:=match h[n]? with
 | some (some b)=>some b
 | _=>none
def splice (c:List Value) (off:Nat) (vs:List Value):List Value:=c.take off++vs++c.drop (off+vs.length)
def AH.rd1 (h:AH) (n off:Nat):Option Value:=(h.get n).bind fun b=>b.c[off]?
def AH.rdn (h:AH) (n off k:Nat):Option (List Value):=(h.get n).bind fun b=>if off+k≤b.c.length then some ((b.c.drop off).take k) else none
def AH.wr (h:AH) (n off:Nat) (vs:List Value):Option AH:=(h.get n).bind fun b=>
 if b.ro=false∧off+vs.length≤b.c.length then some (h.set n (some { b with c:=splice b.c off vs })) else none
def AH.new (h:AH) (b:Blk):AH:=h++[some b]
def AH.kill (h:AH) (n:Nat):AH:=h.set n none
inductive XOp where
 | mv (x:Operand)
 | pick (c a b:Operand)
 | alloc (e:TypeId) (z:List Value)
 | box (e:TypeId) (x:Operand)
 | build (z:List Value) (parts:List (Nat×Nat×Operand))
 | bslice (e:TypeId) (sz len:Nat) (z:List Value) (parts:List (Nat×Nat×Operand))
 | load1 (a:Operand)
 | loadn (n:Nat) (a:Operand)
 | store (n:Nat) (a x:Operand)
 | bin (op:BinOp) (x y:Operand)
 | eqb (neg:Bool) (x y:Operand)
 | eqa (neg:Bool) (n:Nat) (x y:Operand)
 | un (op:UnOp) (x:Operand)
 | conv (k:IntKind) (x:Operand)
 | fadr (off:Nat) (x:Operand)
 | fld1 (off:Nat) (x:Operand)
 | fldn (off n:Nat) (x:Operand)
 | ixs (sz:Nat) (x i:Operand)
 | ixa (len sz:Nat) (x i:Operand)
 | idx1 (len:Nat) (x i:Operand)
 | idxn (len sz:Nat) (x i:Operand)
 | mks (e:TypeId) (sz bytes:Nat) (z:List Value) (len:Operand)
 | slc (sz:Nat) (x:Operand) (lo hi:Option Operand)
 | slca (len sz:Nat) (x:Operand) (lo hi:Option Operand)
 | slc0 (x:Operand)
 | call (f:Operand) (args:List Operand)
 | len (x:Operand)
 | app (e:TypeId) (sz bytes:Nat) (s x:Operand)
 | mkf (g:FuncId) (cap:List Operand)
 | ext (x:Operand) (i:Nat)
 | mm (isMax:Bool) (x:Operand) (l:List Operand)
 | isnil (neg:Bool) (x:Operand)
 | idxs (bs:List Nat) (i:Operand)
 | boxn (e:TypeId) (n:Nat) (x:Operand)
 | cap (x:Operand)
 | appz (e:TypeId) (sz bytes:Nat) (s x:Operand)
 | mkz
 | nchk (x:Operand)
 | clr (sz:Nat) (z:List Value) (x:Operand)
 | idxt (x i:Operand)
 | fail
 deriving Inhabited
inductive XQ where
 | f
 | t
 | u (l:List Operand)
 | s (own:Bool) (l:List Operand)
 deriving Inhabited
structure XI where
 d:Option Nat
 o:XOp
 g:Option (Nat×Bool)
 q:XQ
 deriving Inhabited
inductive IR where
 | skip
 | reg (ops:List XI)
 | seq (a b:IR)
 | cond (c:Operand) (a b:IR)
 | blk (id:Nat) (a:IR)
 | loop (a:IR)
 | exit (id:Nat)
 | ret
 deriving Inhabited
inductive XRes where
 | tmp (t:Nat)
 | cell1 (t:Nat)
 | celln (t n:Nat)
 deriving Inhabited
structure XFn where
 res:List XRes
 body:IR
 deriving Inhabited
abbrev Fr:=Nat→Value
def upd (f:Fr) (i:Nat) (v:Value):Fr:=fun j=>if j=i then v else f j
def updo (f:Fr):Option Nat→Value→Fr
 | some i,v=>upd f i v
 | none,_=>f
def ev (f:Fr):Operand→Value
 | .tmp i=>f i
 | .const v=>v
 | .func g=>.func (.func g) #[] #[]
 | .global _=>undef
def isOne:Value→Bool
 | .agg _|.tuple _=>false
 | _=>true
def xbin:BinOp→Value→Value→Option Value
 | .add,.int k a,.int k' b=>if k=k' then some (.int k (k.wrap (a+b))) else none
 | .sub,.int k a,.int k' b=>if k=k' then some (.int k (k.wrap (a-b))) else none
 | .mul,.int k a,.int k' b=>if k=k' then some (.int k (k.wrap (a*b))) else none
 | .quo,.int k a,.int k' b=>if k=k'∧b≠0 then some (.int k (k.wrap (a.tdiv b))) else none
 | .rem,.int k a,.int k' b=>if k=k'∧b≠0 then some (.int k (a.tmod b)) else none
 | .eql,.int k a,.int k' b=>if k=k' then some (.bool (a==b)) else none
 | .neq,.int k a,.int k' b=>if k=k' then some (.bool (a != b)) else none
 | .lss,.int k a,.int k' b=>if k=k' then some (.bool (decide (a<b))) else none
 | .leq,.int k a,.int k' b=>if k=k' then some (.bool (decide (a≤b))) else none
 | .gtr,.int k a,.int k' b=>if k=k' then some (.bool (decide (a>b))) else none
 | .geq,.int k a,.int k' b=>if k=k' then some (.bool (decide (a≥b))) else none
 | .and,.int k a,.int k' b=>if k=k' then some (.int k (k.wrap (BitVec.ofInt k.bits a &&& BitVec.ofInt k.bits b).toNat)) else none
 | .or,.int k a,.int k' b=>if k=k' then some (.int k (k.wrap (BitVec.ofInt k.bits a ||| BitVec.ofInt k.bits b).toNat)) else none
 | .xor,.int k a,.int k' b=>if k=k' then some (.int k (k.wrap (BitVec.ofInt k.bits a ^^^ BitVec.ofInt k.bits b).toNat)) else none
 | .andNot,.int k a,.int k' b=>if k=k' then some (.int k (k.wrap (BitVec.ofInt k.bits a &&& ~~~ BitVec.ofInt k.bits b).toNat)) else none
 | .shl,.int k a,.int _ b=>if 0≤b then some (.int k (k.wrap (a*2^(min b.toNat k.bits)))) else none
 | .shr,.int k a,.int _ b=>if 0≤b then some (.int k (a.fdiv (2^(min b.toNat k.bits)))) else none
 | _,_,_=>none
def xun:UnOp→Value→Option Value
 | .not,.bool b=>some (.bool !b)
 | .neg,.int k n=>some (.int k (k.wrap (0-n)))
 | _,_=>none
def intsOf:List Value→Option (IntKind×List Int)
 | [.int k a]=>some (k,[a])
 | .int k a::rest=>match intsOf rest with
  | some (k',l)=>if k=k' then some (k,a::l) else none
  | none=>none
 | _=>none
def zrep:Nat→List Value→List Value
 | 0,_=>[]
 | n+1,z=>z++zrep n z
def fillX (f:Fr):List Value→List (Nat×Nat×Operand)→Option (List Value)
 | z,[]=>some z
 | z,(off,n,x)::rest=>
  if (ev f x).cells.toList.length=n∧off+n≤z.length then fillX f (splice z off (ev f x).cells.toList) rest else none
def bound (f:Fr) (d:Int):Option Operand→Option Int
 | none=>some d
 | some x=>match ev f x with
  | .int _ i=>some i
  | _=>none
def xmm (isMax:Bool):Int→List Value→Option Int
 | a,[]=>some a
 | a,.int _ b::rest=>xmm isMax (if isMax then (if b>a then b else a) else (if b<a then b else a)) rest
 | _,_=>none
def xop (o:XOp) (f:Fr) (h:AH):Option (Value×AH):=match o with
 | .mv x=>some (ev f x,h)
 | .pick c a b=>match ev f c with
  | .bool t=>some (if t then ev f a else ev f b,h)
  | _=>none
 | .alloc e z=>some (.pointer (some ⟨h.length,0,none⟩),h.new ⟨z,e,false,true⟩)
 | .box e x=>if (ev f x).cells.toList.all isOne then some (.pointer (some ⟨h.length,0,none⟩),h.new ⟨(ev f x).cells.toList,e,false,true⟩) else none
 | .build z parts=>match fillX f z parts with
  | some c=>if c.all isOne then some (.agg c.toArray,h) else none
  | none=>none
 | .bslice e sz len z parts=>match fillX f (zrep len z) parts with
  | some c=>if c.all isOne then some (.slice (some ⟨h.length,0,none⟩) len sz,h.new ⟨c,e,false,true⟩) else none
  | none=>none
 | .load1 a=>match ev f a with
  | .pointer (some ⟨n,off,_⟩)=>match h.rd1 n off with
   | some v=>some (v,h)
   | none=>none
  | _=>none
 | .loadn k a=>match ev f a with
  | .pointer (some ⟨n,off,_⟩)=>match h.rdn n off k with
   | some c=>some (.agg c.toArray,h)
   | none=>none
  | _=>none
 | .store k a x=>match ev f a with
  | .pointer (some ⟨n,off,_⟩)=>if (ev f x).cells.toList.length=k∧(ev f x).cells.toList.all isOne then match h.wr n off (ev f x).cells.toList with
   | some h'=>some (undef,h')
   | none=>none else none
  | _=>none
 | .bin op x y=>(xbin op (ev f x) (ev f y)).map (·,h)
 | .eqb neg x y=>match ev f x,ev f y with
  | .bool a,.bool b=>some (.bool ((a==b) != neg),h)
  | _,_=>none
 | .eqa neg n x y=>match ev f x,ev f y with
  | .agg xs,.agg ys=>match intsOf xs.toList,intsOf ys.toList with
   | some (k,as),some (k',bs)=>if k=k'∧as.length=n∧bs.length=n then some (.bool ((as==bs) != neg),h) else none
   | _,_=>none
  | _,_=>none
 | .un op x=>(xun op (ev f x)).map (·,h)
 | .conv k x=>match ev f x with
  | .int _ n=>some (.int k (k.wrap n),h)
  | _=>none
 | .fadr off x=>match ev f x with
  | .pointer (some ⟨n,o,_⟩)=>some (.pointer (some ⟨n,o+off,none⟩),h)
  | _=>none
 | .fld1 off x=>match ev f x with
  | .agg cs=>match cs.toList[off]? with
   | some v=>some (v,h)
   | none=>none
  | _=>none
 | .fldn off n x=>match ev f x with
  | .agg cs=>if off+n≤cs.toList.length then some (.agg ((cs.toList.drop off).take n).toArray,h) else none
  | _=>none
 | .ixs sz x i=>match ev f x,ev f i with
  | .slice (some ⟨n,off,_⟩) len sz',.int _ j=>if 0≤j∧j<len∧sz'=sz then some (.pointer (some ⟨n,off+j.toNat*sz,none⟩),h) else none
  | _,_=>none
 | .ixa len sz x i=>match ev f x,ev f i with
  | .pointer (some ⟨n,off,_⟩),.int _ j=>if 0≤j∧j<len then some (.pointer (some ⟨n,off+j.toNat*sz,none⟩),h) else none
  | _,_=>none
 | .idx1 len x i=>match ev f x,ev f i with
  | .agg cs,.int _ j=>if 0≤j∧j<len then match cs.toList[j.toNat]? with
   | some v=>some (v,h)
   | none=>none else none
  | _,_=>none
 | .idxn len sz x i=>match ev f x,ev f i with
  | .agg cs,.int _ j=>if 0≤j∧j<len∧j.toNat*sz+sz≤cs.toList.length then some (.agg ((cs.toList.drop (j.toNat*sz)).take sz).toArray,h) else none
  | _,_=>none
 | .mks e sz bytes z len=>match ev f len with
  | .int _ n=>if 0≤n∧n*bytes≤140737488355328∧n≤9223372036854775807 then some (.slice (some ⟨h.length,0,none⟩) n.toNat sz,h.new ⟨zrep n.toNat z,e,false,true⟩) else none
  | _=>none
 | .slc sz x lo hi=>match ev f x with
  | .slice (some ⟨n,off,_⟩) len sz'=>match bound f 0 lo,bound f len hi with
   | some l,some u=>
    if sz'=sz∧0≤l∧l<u∧u≤len then some (.slice (some ⟨n,off+l.toNat*sz,none⟩) (u-l).toNat sz,h)
    else if sz'=sz∧lo=none∧l=0∧u=0 then some (.slice (some ⟨n,off,none⟩) 0 sz,h)
    else if sz'=sz∧0≤l∧l=u∧u≤len then some (.slice none 0 1,h) else none
   | _,_=>none
  | .slice none 0 t=>match bound f 0 lo,bound f 0 hi with
   | some l,some u=>if l=0∧u=0 then some (.slice none 0 t,h) else none
   | _,_=>none
  | _=>none
 | .slca len sz x lo hi=>match ev f x with
  | .pointer (some ⟨n,off,_⟩)=>match h.get n with
   | some b=>match bound f 0 lo,bound f len hi with
    | some l,some u=>if b.ro=false∧b.full=true∧off+len*sz=b.c.length∧0≤l∧l<u∧u≤len then some (.slice (some ⟨n,off+l.toNat*sz,none⟩) (u-l).toNat sz,h) else none
    | _,_=>none
   | none=>none
  | _=>none
 | .slc0 x=>match ev f x with
  | .slice (some _) _ _=>some (.slice none 0 2,h)
  | .slice none 0 _=>some (.slice none 0 2,h)
  | _=>none
 | .call _ _=>none
 | .len x=>match ev f x with
  | .slice _ n _=>some (.int .i64 n,h)
  | _=>none
 | .app e sz bytes s x=>match ev f s,ev f x with
  | .slice a n t,.slice a' m t'=>
   match (match a' with
    | none=>if m=0 then some [] else none
    | some ⟨n',off,_⟩=>if t'=sz then h.rdn n' off (m*sz) else none:Option (List Value)) with
   | none=>none
   | some news=>
    if (n+m:Int)*bytes≤140737488355328∧(n+m:Int)≤9223372036854775807 then
     match a with
     | none=>if n=0∧(t=0∨t=2) then
       if m=0 then some (.slice none 0 t,h) else some (.slice (some ⟨h.length,0,none⟩) m sz,h.new ⟨news,e,false,false⟩)
      else none
     | some ⟨k,off,_⟩=>if m=0 then some (.slice a n t,h) else
      match h.get k with
      | some b=>if off=0∧b.ro=false∧b.e=e∧b.c.length=n*sz∧t=sz then
        some (.slice (some ⟨h.length,0,none⟩) (n+m) sz,(h.kill k).new ⟨b.c++news,e,false,false⟩)
       else if off=0∧b.ro=false∧b.e=e∧b.full=false∧n*sz≤b.c.length∧t=sz then
        some (.slice (some ⟨h.length,0,none⟩) (n+m) sz,(h.kill k).new ⟨b.c.take (n*sz)++news,e,false,false⟩)
       else none
      | none=>none
    else none
  | _,_=>none
 | .mkf g cap=>some (.func (.func g) #[] (cap.map (ev f)).toArray,h)
 | .ext x i=>match ev f x with
  | .tuple vs=>match vs.toList[i]? with
   | some v=>some (v,h)
   | none=>none
  | _=>none
 | .mm isMax x l=>match ev f x with
  | .int k a=>(xmm isMax a (l.map (ev f))).map fun b=>(.int k b,h)
  | _=>none
 | .isnil neg x=>match ev f x with
  | .slice none 0 0=>some (.bool (!neg),h)
  | .slice (some _) _ _=>some (.bool neg,h)
  | _=>none
 | .idxs bs i=>match ev f i with
  | .int _ j=>if 0≤j then match bs[j.toNat]? with
   | some b=>some (.int .u8 b,h)
   | none=>none else none
  | _=>none
 | .boxn e n x=>if (ev f x).cells.toList.length=n∧(ev f x).cells.toList.all isOne then some (.pointer (some ⟨h.length,0,none⟩),h.new ⟨(ev f x).cells.toList,e,false,true⟩) else none
 | .cap x=>match ev f x with
  | .slice none 0 0=>some (.int .i64 0,h)
  | _=>none
 | .appz e sz bytes s x=>match ev f s,ev f x with
  | .slice none 0 0,.int _ n=>if 0<n∧n*bytes≤140737488355328∧n≤9223372036854775807 then some (.slice (some ⟨h.length,0,none⟩) n.toNat sz,h.new ⟨[],e,false,false⟩) else none
  | _,_=>none
 | .mkz=>some (.slice none 0 2,h)
 | .nchk x=>match ev f x with
  | .pointer (some p)=>some (.pointer (some p),h)
  | _=>none
 | .clr sz z x=>match ev f x with
  | .slice (some ⟨n,off,_⟩) len sz'=>if sz'=sz∧0<len then match h.wr n off (zrep len z) with
   | some h'=>some (undef,h')
   | none=>none else none
  | .slice none 0 _=>some (undef,h)
  | _=>none
 | .idxt x i=>match ev f x,ev f i with
  | .string s,.int _ j=>if 0≤j then match s[j.toNat]? with
   | some b=>some (.int .u8 b.toNat,h)
   | none=>none else none
  | _,_=>none
 | .fail=>none
def adrOf:XOp→Option Operand
 | .load1 a|.loadn _ a|.slca _ _ a _ _|.store _ a _=>some a
 | .call _ (a::_)=>some a
 | _=>none
def blkV:Value→Option Nat
 | .pointer (some p)=>some p.block
 | _=>none
def Kp (m:Nat) (h h':AH):Prop:=h.length≤h'.length∧∀ n,n<h.length→n≠m→h'.get n=h.get n
def qok (q:XQ) (o:XOp) (f:Fr) (h h':AH):Prop:=match q with
 | .f=>True
 | .t=>h<+:h'
 | .u l=>∃ m,Kp m h h'∧∀ x∈l,∃ n,blkV (ev f x)=some n∧n≠m
 | .s own l=>∃ a m,adrOf o=some a∧blkV (ev f a)=some m∧(∀ x∈l,∃ n,blkV (ev f x)=some n∧n≠m)∧(own=true→Kp m h h')
def xrun (C:FuncId→List Value→AH→Option (Value×AH)) (o:XOp) (f:Fr) (h:AH):Option (Value×AH):=match o with
 | .call fo args=>match ev f fo with
  | .func (.func g) first cap=>if first.toList.isEmpty=true then C g (args.map (ev f)++cap.toList) h else none
  | _=>none
 | o=>xop o f h
def want (f:Fr):Option (Nat×Bool)→Bool
 | none=>true
 | some (s,b)=>match f s with
  | .bool c=>c==b
  | _=>false
open Classical in
noncomputable def xstep (C:FuncId→List Value→AH→Option (Value×AH)) (i:XI) (f:Fr) (h:AH):Option (Fr×AH):=
 if want f i.g=true then
  match xrun C i.o f h with
  | some (v,h')=>if qok i.q i.o f h h' then some (updo f i.d v,h') else none
  | none=>none
 else some (updo f i.d undef,h)
noncomputable def xops (C:FuncId→List Value→AH→Option (Value×AH)):List XI→Fr→AH→Option (Fr×AH)
 | [],f,h=>some (f,h)
 | i::rest,f,h=>match xstep C i f h with
  | some (f',h')=>xops C rest f' h'
  | none=>none
inductive XE where
 | normal
 | exit (id:Nat)
 | ret
def xloop (B:Fr→AH→Option (XE×Fr×AH)):Nat→Fr→AH→Option (XE×Fr×AH)
 | 0,_,_=>none
 | n+1,f,h=>match B f h with
  | some (.normal,f',h')=>xloop B n f' h'
  | r=>r
noncomputable def xcode (C:FuncId→List Value→AH→Option (Value×AH)) (n:Nat):IR→Fr→AH→Option (XE×Fr×AH)
 | .skip,f,h=>some (.normal,f,h)
 | .reg ops,f,h=>match xops C ops f h with
  | some (f',h')=>some (.normal,f',h')
  | none=>none
 | .seq a b,f,h=>match xcode C n a f h with
  | some (.normal,f',h')=>xcode C n b f' h'
  | r=>r
 | .cond c a b,f,h=>match ev f c with
  | .bool true=>xcode C n a f h
  | .bool false=>xcode C n b f h
  | _=>none
 | .blk id a,f,h=>match xcode C n a f h with
  | some (.exit id',f',h')=>if id'=id then some (.normal,f',h') else some (.exit id',f',h')
  | r=>r
 | .loop a,f,h=>xloop (fun f h=>xcode C n a f h) n f h
 | .exit id,f,h=>some (.exit id,f,h)
 | .ret,f,h=>some (.ret,f,h)
def xres1 (f:Fr) (h:AH):XRes→Option Value
 | .tmp t=>some (f t)
 | .cell1 t=>match f t with
  | .pointer (some ⟨n,off,_⟩)=>h.rd1 n off
  | _=>none
 | .celln t k=>match f t with
  | .pointer (some ⟨n,off,_⟩)=>(h.rdn n off k).map fun c=>.agg c.toArray
  | _=>none
def xresl (f:Fr) (h:AH):List XRes→Option (List Value)
 | []=>some []
 | r::rest=>match xres1 f h r,xresl f h rest with
  | some v,some vs=>some (v::vs)
  | _,_=>none
def xres (f:Fr) (h:AH) (rs:List XRes):Option Value:=match xresl f h rs with
 | some [v]=>some v
 | some vs=>some (.tuple vs.toArray)
 | none=>none
noncomputable def xcall (E:FuncId→Option (List Value→AH→Option (Value×AH))) (T:FuncId→Option XFn):Nat→FuncId→List Value→AH→Option (Value×AH)
 | 0,_,_,_=>none
 | k+1,g,args,h=>match E g with
  | some p=>p args h
  | none=>match T g with
  | none=>none
  | some fn=>match xcode (xcall E T k) (k+1) fn.body (fun j=>args.getD j undef) h with
   | some (.exit _,_,_)=>none
   | some (_,f',h')=>match xres f' h' fn.res with
    | some v=>some (v,h')
    | none=>none
   | none=>none
section
variable (P:Program)
def okCell:Value→Bool
 | .bool _|.int _ _|.slice none 0 0|.nilFunc|.pointer none|.string _=>true
 | _=>false
def okConst:Value→Bool
 | .agg cs=>cs.toList.all okCell
 | .tuple vs=>vs.toList.isEmpty
 | v=>okCell v
def okOpd:Operand→Bool
 | .tmp _|.func _=>true
 | .const v=>okConst v
 | .global _=>false
def aggT (t:TypeId):Option Bool:=match P.underlying t with
 | some (.struct _)|some (.array _ _)=>some true
 | some _=>some false
 | none=>none
def sizeT (t:TypeId):Option Nat:=(P.info? t).map (·.size)
def zeroT (t:TypeId):Option (List Value):=match P.info? t with
 | some i=>match i.zero with
  | some z=>if z.cells.toList.all okCell&&z.cells.toList.length==i.size&&0<i.size then some z.cells.toList else none
  | none=>none
 | none=>none
def flatFs (fl:TypeId→Option (IntKind×Nat)) (o:Nat):List Field→Option (IntKind×Nat)
 | []=>none
 | [f]=>match fl f.type with
  | some (k,m)=>if f.name != "_"&&f.offset==o&&sizeT P f.type==some m&&decide (0<m) then some (k,m) else none
  | none=>none
 | f::rest=>match fl f.type with
  | some (k,m)=>match flatFs fl (o+m) rest with
   | some (k',n)=>if f.name != "_"&&f.offset==o&&sizeT P f.type==some m&&decide (0<m) then some (k',m+n) else none
   | none=>none
  | none=>none
def flatT:Nat→TypeId→Option (IntKind×Nat)
 | 0,_=>none
 | d+1,t=>match P.underlying t with
  | some (.int k)=>if sizeT P t==some 1 then some (k,1) else none
  | some (.struct fs)=>if P.stoodInHeld t==false then flatFs P (flatT d) 0 fs.toList else none
  | some (.array n e)=>match flatT d e with
   | some (k,m)=>if sizeT P e==some m&&0<m then some (k,n*m) else none
   | none=>none
  | _=>none
def sameOpd:Operand→Operand→Bool
 | .tmp a,.tmp b=>a==b
 | .const (.int _ a),.const (.int _ b)=>a==b
 | _,_=>false
def placeT (t:TypeId) (i:Nat):Option (Nat×Nat):=match P.underlying t with
 | some (.struct fs)=>(fs[i]?).bind fun f=>(sizeT P f.type).map fun s=>(f.offset,s)
 | some (.array _ e)=>(sizeT P e).map fun s=>(i*s,s)
 | _=>none
def partsT (pl:Nat→Option (Nat×Nat)):List (Nat×Operand)→Option (List (Nat×Nat×Operand))
 | []=>some []
 | (i,x)::rest=>match pl i,partsT pl rest with
  | some (o,s),some l=>if okOpd x then some ((o,s,x)::l) else none
  | _,_=>none
def fieldsOk (fs:List Field):Bool:=fs.all fun f=>(P.info? f.type).isSome
def compCall (c:Call):Option XOp:=match c.callee with
 | .value f=>if okOpd f&&c.args.toList.all okOpd then some (.call f c.args.toList) else none
 | .invoke _ _=>none
 | .builtin .len=>match c.args.toList,c.argTypes.toList with
  | [x],[t]=>match P.underlying t with
   | some (.slice _)=>if okOpd x then some (.len x) else none
   | some (.array n _)=>some (.mv (.const (.int .i64 n)))
   | _=>none
  | _,_=>none
 | .builtin .cap=>match c.args.toList,c.argTypes.toList with
  | [x],[t]=>match P.underlying t with
   | some (.slice _)=>if okOpd x then some (.cap x) else none
   | _=>none
  | _,_=>none
 | .builtin .append=>match c.args.toList,c.argTypes.toList with
  | [s,x],[t,u]=>match P.underlying t,P.underlying u with
   | some (.slice e),some (.slice _)=>match zeroT P e,P.info? e with
    | some z,some i=>if t==u&&okOpd s&&okOpd x then some (.app e i.size i.bytes s x) else none
    | _,_=>none
   | some (.slice e),some (.int _)=>match zeroT P e,P.info? e with
    | some z,some i=>if okOpd s&&okOpd x then some (.appz e i.size i.bytes s x) else none
    | _,_=>none
   | _,_=>none
  | _,_=>none
 | .builtin .clear=>match c.args.toList,c.argTypes.toList with
  | [x],[t]=>match P.underlying t with
   | some (.slice e)=>match zeroT P e,P.info? e with
    | some z,some i=>if okOpd x then some (.clr i.size z x) else none
    | _,_=>none
   | _=>none
  | _,_=>none
 | .builtin .max=>match c.args.toList with
  | x::l=>if okOpd x&&l.all okOpd then some (.mm true x l) else none
  | _=>none
 | .builtin .min=>match c.args.toList with
  | x::l=>if okOpd x&&l.all okOpd then some (.mm false x l) else none
  | _=>none
 | .builtin _=>none
def compOp (op:Op):Option XOp:=match op with
 | .move x|.assign x=>if okOpd x then some (.mv x) else none
 | .pick c a b=>if okOpd c&&okOpd a&&okOpd b then some (.pick c a b) else none
 | .alloc e=>(zeroT P e).map fun z=>.alloc e z
 | .box e x=>if okOpd x then some (.box e x) else none
 | .build t parts=>match zeroT P t,P.underlying t with
  | some z,some (.struct fs)=>if fieldsOk P fs.toList then (partsT (placeT P t) parts.toList).map fun l=>.build z l else none
  | some z,some (.array _ e)=>if (P.info? e).isSome then (partsT (placeT P t) parts.toList).map fun l=>.build z l else none
  | _,_=>none
 | .buildSlice t len parts=>match P.underlying t with
  | some (.slice e)=>match zeroT P e,P.info? e with
   | some z,some i=>if len*i.size≤16777216 then (partsT (fun j=>some (j*i.size,i.size)) parts.toList).map fun l=>.bslice e i.size len z l else none
   | _,_=>none
  | _=>none
 | .load t a=>if okOpd a then match aggT P t,sizeT P t with
   | some true,some n=>some (.loadn n a)
   | some false,some _=>some (.load1 a)
   | _,_=>none else none
 | .store t a x=>if okOpd a&&okOpd x then (sizeT P t).map fun n=>.store n a x else none
 | .binOp op t x y _=>if okOpd x&&okOpd y then match P.underlying t with
   | some (.int _)=>some (.bin op x y)
   | some .bool=>match op with
    | .eql=>some (.eqb false x y)
    | .neq=>some (.eqb true x y)
    | _=>none
   | some (.array _ _)=>match flatT P 4 t,P.eqGuardType P.depth t with
    | some (_,n),false=>match op with
     | .eql=>some (.eqa false n x y)
     | .neq=>some (.eqa true n x y)
     | _=>none
    | _,_=>none
   | some (.struct _)=>match flatT P 4 t,P.eqGuardType P.depth t with
    | some (_,n),false=>match op with
     | .eql=>some (.eqa false n x y)
     | .neq=>some (.eqa true n x y)
     | _=>none
    | _,_=>none
   | some (.slice _)=>match y with
    | .const (.slice none 0 0)=>match op with
     | .eql=>some (.isnil false x)
     | .neq=>some (.isnil true x)
     | _=>none
    | _=>none
   | _=>none else none
 | .unOp op _ x=>if okOpd x then some (.un op x) else none
 | .convert s d x=>if okOpd x then match P.underlying s,P.underlying d with
   | some (.int _),some (.int k)=>some (.conv k x)
   | _,_=>none else none
 | .makeFunc (.func g) first cap=>if first.toList.isEmpty&&cap.toList.all okOpd then some (.mkf g cap.toList) else none
 | .makeSlice t l c=>match P.underlying t with
  | some (.slice e)=>match zeroT P e,P.info? e with
   | some z,some i=>if sameOpd l c&&okOpd l then some (.mks e i.size i.bytes z l) else none
   | _,_=>none
  | _=>none
 | .slice t x lo hi mx=>if okOpd x&&lo.all okOpd&&hi.all okOpd then match P.underlying t with
   | some (.slice e)=>match zeroT P e,P.info? e with
    | some _,some i=>match mx with
     | none=>some (.slc i.size x lo hi)
     | some (.const (.int _ m))=>match lo,hi with
      | none,some (.const (.int _ h))=>if m==0&&h==0 then some (.slc0 x) else none
      | _,_=>none
     | _=>none
    | _,_=>none
   | some (.array n e)=>match zeroT P e,P.info? e with
    | some _,some i=>match mx with
     | none=>some (.slca n i.size x lo hi)
     | _=>none
    | _,_=>none
   | _=>none else none
 | .fieldAddr s x f=>if okOpd x then match P.underlying s with
   | some (.struct fs)=>match fs[f]? with
    | some fd=>match P.info? fd.type with
     | some i=>if 0<i.size then some (.fadr fd.offset x) else none
     | none=>none
    | none=>none
   | _=>none else none
 | .field t x f=>if okOpd x then match P.underlying t with
   | some (.struct fs)=>match fs[f]? with
    | some fd=>match aggT P fd.type,sizeT P fd.type with
     | some true,some n=>some (.fldn fd.offset n x)
     | some false,some _=>some (.fld1 fd.offset x)
     | _,_=>none
    | none=>none
   | _=>none else none
 | .indexAddr t x i=>if okOpd x&&okOpd i then match P.underlying t with
   | some (.array n e)=>(sizeT P e).map fun s=>.ixa n s x i
   | some (.slice e)=>(sizeT P e).map fun s=>.ixs s x i
   | _=>none else none
 | .index t (.const (.string s)) i=>if okOpd i then match P.underlying t with
   | some .string=>some (.idxs (s.data.toList.map UInt8.toNat) i)
   | _=>none else none
 | .index t x i=>if okOpd x&&okOpd i then match P.underlying t with
   | some (.array n e)=>match aggT P e,sizeT P e with
    | some true,some s=>some (.idxn n s x i)
    | some false,some s=>if s==1 then some (.idx1 n x i) else none
    | _,_=>none
   | some .string=>some (.idxt x i)
   | _=>none else none
 | .extract x i=>if okOpd x then some (.ext x i) else none
 | .call c=>compCall P c
 | .nilCheck x=>if okOpd x then some (.nchk x) else none
 | .panic _=>some .fail
 | .makeInterface _ _=>some .fail
 | _=>none
def cls:XOp→Nat
 | .load1 _|.loadn _ _|.slca _ _ _ _ _=>1
 | .alloc _ _|.box _ _|.boxn _ _ _|.bslice _ _ _ _ _|.mks _ _ _ _ _=>2
 | .call _ _=>3
 | .store _ _ _|.app _ _ _ _ _|.appz _ _ _ _ _|.clr _ _ _=>4
 | _=>0
def pairOk (a b:Nat):Bool:=a==0||b==0||(a==1&&b≤3)||(b==1&&a≤3)
def guardSlot (ops:Array Oper) (o:Oper):Option (Option (Nat×Bool)):=match o.guard with
 | none=>some none
 | some (j,b)=>match (ops[j]?).bind (·.dst) with
  | some d=>some (some (d,b))
  | none=>none
def compOper (nt:Nat) (ops:Array Oper) (o:Oper):Option XI:=match compOp P o.op,guardSlot ops o with
 | some x,some g=>if (match o.dst with|some d=>decide (d<nt)|none=>true) then some ⟨o.dst,x,g,.f⟩ else none
 | _,_=>none
def compOpers (nt:Nat) (ops:Array Oper):List Oper→Option (List XI)
 | []=>some []
 | o::rest=>match compOper P nt ops o,compOpers nt ops rest with
  | some x,some l=>some (x::l)
  | _,_=>none
def edgeMask (acc:List Nat) (es:List Edge):Nat:=es.foldl (fun m e=>if Region.binds .any e then m ||| (1 <<< e.on) ||| acc.getD e.on 0 else m) 0
def masks (os:List Oper):List Nat:=os.foldl (fun acc o=>acc++[edgeMask acc o.after.toList]) []
def opdTmp:Operand→Option Nat
 | .tmp t=>some t
 | _=>none
def looks (ops:Array Oper) (o:Oper):List Nat:=o.op.operands.toList.filterMap opdTmp++(match o.guard with
 | some (j,_)=>((ops[j]?).bind (·.dst)).toList
 | none=>[])
def ordered (ms:List Nat) (i j:Nat):Bool:=if i<j then (ms.getD j 0).testBit i else (ms.getD i 0).testBit j
def srcCall (g:FuncId):Bool:=match P.funcs[g]? with
 | some fn=>(match fn.params[0]? with
  | some t=>(match P.underlying t with
   | some (.pointer _)=>true
   | _=>false)
  | none=>false)
 | none=>false
def moves:XOp→Bool
 | .store _ _ _=>true
 | .call (.func g) (_::_)=>srcCall P g
 | _=>false
def wildFn (g:FuncId):Bool:=match P.funcs[g]? with
 | some fn=>(match fn.params.toList with
  | [t]=>(match P.underlying t with
   | some (.slice e)=>(match P.underlying e with
    | some (.struct _)=>true
    | _=>false)
   | _=>false)
  | _=>false)
 | none=>false
def wild:XOp→Bool
 | .call (.func g) _=>wildFn P g
 | _=>false
def adrTmp (x:XOp):Option Nat:=(adrOf x).bind opdTmp
def steady (ops:Array Oper) (i t:Nat):Bool:=(List.range ops.size).all fun k=>decide (k<i)||(match ops[k]? with
 | some o=>o.dst != some t
 | none=>true)
def apartFine (ops:Array Oper) (i j:Nat) (x y:XOp):Bool:=match adrTmp x,adrTmp y with
 | some t,some u=>steady ops i t&&steady ops j u
 | _,_=>false
def stillFine (ops:Array Oper) (i:Nat) (x:XOp):Bool:=match adrTmp x with
 | some t=>steady ops i t
 | none=>false
def meetFine (ops:Array Oper) (i j:Nat) (x y:XOp):Bool:=
 if cls x==1&&moves P y then apartFine ops i j x y
 else if moves P x&&cls y==1 then apartFine ops j i y x
 else if cls x==1&&wild P y then stillFine ops (min i j) x
 else if wild P x&&cls y==1 then stillFine ops (min i j) y
 else pairOk (cls x) (cls y)
def pairFine (ops:Array Oper) (xs:List XI) (ms:List Nat) (i j:Nat):Bool:=
 match ops[i]?,ops[j]?,xs[i]?,xs[j]? with
 | some oi,some oj,some xi,some xj=>
  i==j||ordered ms i j ||
   (meetFine P ops i j xi.o xj.o &&
    (match oi.dst with|some d=>!(looks ops oj).contains d&&oj.dst != some d|none=>true))
 | _,_,_,_=>false
def edgesFine (os:List Oper):Bool:=(List.range os.length).all fun i=>match os[i]? with
 | some o=>o.after.toList.all fun e=>!Region.binds .any e||e.on<i
 | none=>false
def dstsFine (os:List Oper):Bool:=decide ((os.filterMap (·.dst)).Nodup)
def others (ms:List Nat) (xs:List XI) (i:Nat) (p:XOp→Bool):List Operand:=(List.range i).filterMap fun j=>match xs[j]? with
 | some y=>if p y.o&&!ordered ms i j then adrOf y.o else none
 | none=>none
def openTo (ms:List Nat) (xs:List XI) (i:Nat) (p:XOp→Bool):Bool:=(List.range xs.length).any fun j=>match xs[j]? with
 | some y=>p y.o&&!ordered ms i j
 | none=>false
def opens (ms:List Nat) (xs:List XI) (i:Nat) (p:XOp→Bool):List Operand:=(List.range xs.length).filterMap fun j=>match xs[j]? with
 | some y=>if p y.o&&!ordered ms i j then adrOf y.o else none
 | none=>none
def owes (ms:List Nat) (xs:List XI) (i:Nat) (x:XOp):XQ:=
 if cls x==1 then (if (others ms xs i (moves P)).isEmpty then .f else .s false (others ms xs i (moves P)))
 else if openTo ms xs i (fun y=>cls y==1) then
  (if moves P x then (if cls x==3||!(others ms xs i (fun y=>cls y==1)).isEmpty then .s (cls x==3) (others ms xs i (fun y=>cls y==1)) else .f) else if cls x==3 then (if wild P x then .u (opens ms xs i (fun y=>cls y==1)) else .t) else .f)
 else .f
def marked (ms:List Nat) (xs:List XI):List XI:=(List.range xs.length).map fun i=>match xs[i]? with
 | some x=>{ x with q:=owes P ms xs i x.o }
 | none=>default
def drawFine (ops:Array Oper) (xs:List XI) (ms:List Nat):Bool:=
 edgesFine ops.toList&&dstsFine ops.toList&&(List.range ops.size).all fun i=>(List.range ops.size).all fun j=>pairFine P ops xs ms i j
structure Fused where
 i:Nat
 j:Nat
 d:Nat
 e:TypeId
 n:Nat
 x:Operand
def fusedAt (ops:Array Oper) (os:List Oper) (i j:Nat):Option Fused:=match ops[i]?,ops[j]? with
 | some oi,some oj=>match oi.op,oi.dst,oi.guard,oj.op,oj.dst,oj.guard with
  | .alloc e,some d,none,.store t (.tmp d') x,none,none=>
   if i<j&&d==d'&&okOpd x&&!(match x with|.tmp y=>y==d|_=>false)&&(List.range os.length).all (fun k=>match ops[k]? with|some o=>(k==j||!(looks ops o).contains d)&&(o.dst.isNone||o.dst != opdTmp x||k<j)|none=>true) then
    match zeroT P e,sizeT P t with
    | some z,some n=>if z.length==n then some ⟨i,j,d,e,n,x⟩ else none
    | _,_=>none
   else none
  | _,_,_,_,_,_=>none
 | _,_=>none
def fusedOf (ops:Array Oper):List Fused:=(List.range ops.size).flatMap fun i=>(List.range ops.size).filterMap fun j=>fusedAt P ops ops.toList i j
def nop:XI:=⟨none,.mv (.const (.bool true)),none,.f⟩
def lessFused (fs:List Fused) (xs:List XI):List XI:=(List.range xs.length).map fun i=>if fs.any (fun f=>f.i==i||f.j==i) then nop else xs.getD i nop
def fusedOps (fs:List Fused):List XI:=fs.map fun f=>⟨some f.d,.boxn f.e f.n f.x,none,.f⟩
def fusedFine (fs:List Fused):Bool:=decide ((fs.flatMap fun f=>[f.i,f.j]).Nodup)
def isNop:XI→Bool
 | ⟨none,.mv (.const (.bool true)),none,.f⟩=>true
 | _=>false
def zap (x:XI):XI:=match x.o with
 | .bslice _ _ 0 _ []=>{ x with o:=.mkz }
 | _=>x
def zapFirst (xs:List XI):Bool:=(xs.filter fun x=>match x.o with
  | .load1 _=>true
  | _=>false).length==4&&xs.any fun x=>match x.o with
 | .bslice _ 27 0 _ []=>true
 | _=>false
def compReg (nt:Nat) (ops:Array Oper) (draw:Bool):Option (List XI):=match compOpers P nt ops ops.toList with
 | none=>none
 | some xs=>if draw then
   (if !zapFirst xs&&drawFine P ops (lessFused (fusedOf P ops) xs) (masks ops.toList)&&fusedFine (fusedOf P ops) then
    some ((marked P (masks ops.toList) (lessFused (fusedOf P ops) xs)).filter (fun x=>!isNop x)++fusedOps (fusedOf P ops))
   else if drawFine P ops (lessFused (fusedOf P ops) (xs.map zap)) (masks ops.toList)&&fusedFine (fusedOf P ops) then
    some ((marked P (masks ops.toList) (lessFused (fusedOf P ops) (xs.map zap))).filter (fun x=>!isNop x)++fusedOps (fusedOf P ops)) else none)
  else if zapFirst xs then some (xs.map zap) else some xs
def compCode (nt:Nat):Code→Option IR
 | .skip=>some .skip
 | .region _ ops draw=>(compReg P nt ops draw).map .reg
 | .seq a b=>match compCode nt a,compCode nt b with
  | some x,some y=>some (.seq x y)
  | _,_=>none
 | .cond c a b=>match compCode nt a,compCode nt b with
  | some x,some y=>if okOpd c then some (.cond c x y) else none
  | _,_=>none
 | .block id a=>(compCode nt a).map (.blk id)
 | .loop a=>(compCode nt a).map .loop
 | .exit id=>some (.exit id)
 | .ret=>some .ret
 | _=>none
def compRes:ResultVar→Option XRes
 | .tmp t=>some (.tmp t)
 | .cell t ty=>match aggT P ty,sizeT P ty with
  | some true,some n=>some (.celln t n)
  | some false,some _=>some (.cell1 t)
  | _,_=>none
def compRess:List ResultVar→Option (List XRes)
 | []=>some []
 | r::rest=>match compRes P r,compRess rest with
  | some x,some l=>some (x::l)
  | _,_=>none
def compFn (fn:Func):Option XFn:=match fn.body with
 | none=>none
 | some c=>if fn.name== "runtime.NumGoroutine" then none else match compCode P fn.ntmps c,compRess P fn.results.toList with
  | some b,some r=>some ⟨r,b⟩
  | _,_=>none
end
structure G where
 b:Nat
 o:Nat
 cap:Nat
inductive VR (γ:List G):Value→Value→Prop
 | bool (b:Bool):VR γ (.bool b) (.bool b)
 | int (k:IntKind) (n:Int):VR γ (.int k n) (.int k n)
 | nilFunc:VR γ .nilFunc .nilFunc
 | nilp:VR γ (.pointer none) (.pointer none)
 | str (s:ByteArray):VR γ (.string s) (.string s)
 | ptr (n off:Nat) (g:G):γ[n]?=some g→VR γ (.pointer (some ⟨n,off,none⟩)) (.pointer (some ⟨g.b,g.o+off,none⟩))
 | nils:VR γ (.slice none 0 0) (.slice none 0 0)
 | emp (a:Option Addr) (c:Nat):VR γ (.slice none 0 1) (.slice a 0 c)
 | zcap (a:Option Addr):VR γ (.slice none 0 2) (.slice a 0 0)
 | slc (n off len sz:Nat) (g:G):γ[n]?=some g→0<sz→off+len*sz≤g.cap →
   VR γ (.slice (some ⟨n,off,none⟩) len sz) (.slice (some ⟨g.b,g.o+off,none⟩) len ((g.cap-off) / sz))
 | func (f:FuncId) (xs ys:Array Value):xs.size=ys.size→(∀ (i:Nat) (a b:Value),xs[i]?=some a→ys[i]?=some b→VR γ a b)→VR γ (.func (.func f) #[] xs) (.func (.func f) #[] ys)
 | agg (xs ys:Array Value):xs.size=ys.size→(∀ (i:Nat) (a b:Value),xs[i]?=some a→ys[i]?=some b→VR γ a b)→VR γ (.agg xs) (.agg ys)
 | tuple (xs ys:Array Value):xs.size=ys.size→(∀ (i:Nat) (a b:Value),xs[i]?=some a→ys[i]?=some b→VR γ a b)→VR γ (.tuple xs) (.tuple ys)
theorem VR.mono {γ γ':List G} (hp:γ<+:γ') {v v':Value} (h:VR γ v v'):VR γ' v v':=by
 have key:∀ (n:Nat) (g:G),γ[n]?=some g→γ'[n]?=some g:=by
  obtain⟨t,rfl⟩:=hp
  intro n g hg
  rw[List.getElem?_append_left (by exact (List.getElem?_eq_some_iff.1 hg).1)]
  exact hg
 induction h with
 | bool b=>exact .bool b
 | int k n=>exact .int k n
 | nilFunc=>exact .nilFunc
 | nilp=>exact .nilp
 | str s=>exact .str s
 | ptr n off g hg=>exact .ptr n off g (key n g hg)
 | nils=>exact .nils
 | emp a c=>exact .emp a c
 | zcap a=>exact .zcap a
 | slc n off len sz g hg h1 h2=>exact .slc n off len sz g (key n g hg) h1 h2
 | func f xs ys hs _ ih=>exact .func f xs ys hs fun i a b ha hb=>ih i a b ha hb
 | agg xs ys hs _ ih=>exact .agg xs ys hs fun i a b ha hb=>ih i a b ha hb
 | tuple xs ys hs _ ih=>exact .tuple xs ys hs fun i a b ha hb=>ih i a b ha hb
def VRL (γ:List G) (xs ys:List Value):Prop:=xs.length=ys.length∧∀ (i:Nat) (a b:Value),xs[i]?=some a→ys[i]?=some b→VR γ a b
theorem VRL.mono {γ γ':List G} (hp:γ<+:γ') {xs ys:List Value} (h:VRL γ xs ys):VRL γ' xs ys:=⟨h.1,fun i a b ha hb=>(h.2 i a b ha hb).mono hp⟩
theorem VRL.nil (γ:List G):VRL γ [] []:=⟨rfl,fun i a b h=>by simp at h⟩
theorem VRL.cons {γ:List G} {x y:Value} {xs ys:List Value} (h:VR γ x y) (hs:VRL γ xs ys):VRL γ (x::xs) (y::ys):=by
 refine⟨by simp[hs.1],fun i a b ha hb=>?_⟩
 cases i with
 | zero=>simp at ha hb;subst ha hb;exact h
 | succ i=>exact hs.2 i a b (by simpa using ha) (by simpa using hb)
theorem VRL.uncons {γ:List G} {x y:Value} {xs ys:List Value} (h:VRL γ (x::xs) (y::ys)):VR γ x y∧VRL γ xs ys:=
 ⟨h.2 0 x y rfl rfl,by have:=h.1;simpa using this,fun i a b ha hb=>h.2 (i+1) a b (by simpa using ha) (by simpa using hb)⟩
theorem VRL.append {γ:List G} {xs ys xs' ys':List Value} (h:VRL γ xs ys) (h':VRL γ xs' ys'):VRL γ (xs++xs') (ys++ys'):=by
 refine⟨by simp[h.1,h'.1],fun i a b ha hb=>?_⟩
 by_cases hi:i<xs.length
 ·rw[List.getElem?_append_left hi] at ha
  rw[List.getElem?_append_left (by rw[←h.1];exact hi)] at hb
  exact h.2 i a b ha hb
 ·rw[List.getElem?_append_right (by omega)] at ha
  rw[List.getElem?_append_right (by rw[←h.1];omega),←h.1] at hb
  exact h'.2 _ a b ha hb
theorem VRL.take {γ:List G} {xs ys:List Value} (h:VRL γ xs ys) (n:Nat):VRL γ (xs.take n) (ys.take n):=by
 refine⟨by simp[h.1],fun i a b ha hb=>?_⟩
 rw[List.getElem?_take] at ha hb
 split at ha
 ·rename_i hi;rw[if_pos hi] at hb;exact h.2 i a b ha hb
 ·cases ha
theorem VRL.drop {γ:List G} {xs ys:List Value} (h:VRL γ xs ys) (n:Nat):VRL γ (xs.drop n) (ys.drop n):=by
 refine⟨by simp[h.1],fun i a b ha hb=>?_⟩
 rw[List.getElem?_drop] at ha hb
 exact h.2 _ a b ha hb
theorem VRL.splice {γ:List G} {xs ys vs us:List Value} (h:VRL γ xs ys) (hv:VRL γ vs us) (off:Nat):VRL γ (splice xs off vs) (splice ys off us):=by
 unfold X.splice
 rw[hv.1]
 exact ((h.take off).append hv).append (h.drop _)
theorem VRL.refl {γ:List G}:∀ {xs:List Value},(∀ v∈xs,VR γ v v)→VRL γ xs xs
 | [],_=>VRL.nil γ
 | x::xs,h=>VRL.cons (h x (by simp)) (VRL.refl fun v hv=>h v (by simp[hv]))
theorem VRL.get {γ:List G} {xs ys:List Value} (h:VRL γ xs ys) {i:Nat} {a:Value} (ha:xs[i]?=some a):∃ b,ys[i]?=some b∧VR γ a b:=by
 have hi:i<ys.length:=by rw[←h.1];exact (List.getElem?_eq_some_iff.1 ha).1
 exact⟨ys[i],List.getElem?_eq_getElem hi,h.2 i a _ ha (List.getElem?_eq_getElem hi)⟩
theorem VRL.get' {γ:List G} {xs ys:List Value} (h:VRL γ xs ys) {i:Nat} {b:Value} (hb:ys[i]?=some b):∃ a,xs[i]?=some a∧VR γ a b:=by
 have hi:i<xs.length:=by rw[h.1];exact (List.getElem?_eq_some_iff.1 hb).1
 exact⟨xs[i],List.getElem?_eq_getElem hi,h.2 i _ b (List.getElem?_eq_getElem hi) hb⟩
theorem VR.aggL {γ:List G} {xs ys:List Value} (h:VRL γ xs ys):VR γ (.agg xs.toArray) (.agg ys.toArray):=
 .agg _ _ (by simpa using h.1) fun i a b ha hb=>h.2 i a b (by simpa using ha) (by simpa using hb)
theorem VR.tupleL {γ:List G} {xs ys:List Value} (h:VRL γ xs ys):VR γ (.tuple xs.toArray) (.tuple ys.toArray):=
 .tuple _ _ (by simpa using h.1) fun i a b ha hb=>h.2 i a b (by simpa using ha) (by simpa using hb)
theorem VR.undef (γ:List G):VR γ Go.undef Go.undef:=.tuple _ _ rfl fun i a b h=>by simp at h
theorem VR.cells {γ:List G} {v v':Value} (h:VR γ v v'):VRL γ v.cells.toList v'.cells.toList:=by
 cases h with
 | agg xs ys hs h=>exact⟨by simpa [Value.cells] using hs,fun i a b ha hb=>h i a b (by simpa [Value.cells] using ha) (by simpa [Value.cells] using hb)⟩
 | bool b=>exact VRL.cons (.bool b) (VRL.nil γ)
 | int k n=>exact VRL.cons (.int k n) (VRL.nil γ)
 | nilFunc=>exact VRL.cons .nilFunc (VRL.nil γ)
 | nilp=>exact VRL.cons .nilp (VRL.nil γ)
 | str s=>exact VRL.cons (.str s) (VRL.nil γ)
 | ptr n off g hg=>exact VRL.cons (.ptr n off g hg) (VRL.nil γ)
 | nils=>exact VRL.cons .nils (VRL.nil γ)
 | emp a c=>exact VRL.cons (.emp a c) (VRL.nil γ)
 | zcap a=>exact VRL.cons (.zcap a) (VRL.nil γ)
 | slc n off len sz g hg h1 h2=>exact VRL.cons (.slc n off len sz g hg h1 h2) (VRL.nil γ)
 | func f xs ys hs h=>exact VRL.cons (.func f xs ys hs h) (VRL.nil γ)
 | tuple xs ys hs h=>exact VRL.cons (.tuple xs ys hs h) (VRL.nil γ)
theorem VR.one {γ:List G} {v v':Value} (h:VR γ v v'):v'.oneCell'=isOne v:=by cases h<;>rfl
theorem VRL.one {γ:List G} {xs ys:List Value} (h:VRL γ xs ys) (h1:xs.all isOne=true):∀ u∈ys,u.oneCell'=true:=by
 intro u hu
 obtain⟨i,hi⟩:=List.mem_iff_getElem?.1 hu
 obtain⟨a,ha,hr⟩:=h.get' hi
 rw[hr.one]
 exact List.all_eq_true.1 h1 a (List.mem_iff_getElem?.2 ⟨i,ha⟩)
theorem okCell_refl {γ:List G} {v:Value} (h:okCell v=true):VR γ v v:=by
 cases v<;>simp[okCell] at h
 case bool b=>exact .bool b
 case int k n=>exact .int k n
 case slice a l c=>
  cases a with
  | none=>
   cases l with
   | zero=>cases c with
    | zero=>exact .nils
    | succ c=>simp[okCell] at h
   | succ l=>simp[okCell] at h
  | some a=>simp[okCell] at h
 case nilFunc=>exact .nilFunc
 case string s=>exact .str s
 case pointer a=>
  cases a with
  | none=>exact .nilp
  | some a=>simp[okCell] at h
theorem okCells_refl {γ:List G} {xs:List Value} (h:xs.all okCell=true):VRL γ xs xs:=VRL.refl fun v hv=>okCell_refl (List.all_eq_true.1 h v hv)
theorem okCell_one {v:Value} (h:okCell v=true):isOne v=true:=by cases v<;>simp[okCell] at h<;>rfl
theorem okConst_refl {γ:List G} {v:Value} (h:okConst v=true):VR γ v v:=by
 cases v with
 | agg cs=>
  have:=okCells_refl (γ:=γ) (xs:=cs.toList) (by simpa [okConst] using h)
  simpa using VR.aggL this
 | tuple vs=>
  have:vs=#[]:=by simpa [okConst] using h
  subst this
  exact VR.undef γ
 | _=>first|exact okCell_refl h|(simp[okConst,okCell] at h)
structure Rel (P:Program) (B:Nat) (γ:List G) (h:AH) (w:World):Prop where
 len:γ.length=h.length
 cell:∀ n b g,h.get n=some b→γ[n]?=some g→∀ j v,b.c[j]?=some v→isOne v=true∧∃ v',w.cell? ⟨g.b,g.o+j,none⟩=some v'∧VR γ v v'
 rw:∀ n b g,h.get n=some b→γ[n]?=some g→b.ro=false→g.o=0∧B≤g.b∧b.c.length≤g.cap∧(∃ cur,w.heap[g.b]?=some (.cells cur b.e (0,0))∧cur.size=g.cap) ∧
  (b.full=true→g.cap=b.c.length)∧(b.full=false→∃ k,g.cap=k*P.cellsOf b.e∧k≤maxLen)
 ro:∀ n b g,h.get n=some b→γ[n]?=some g→b.ro=true→g.b<B
 inj:∀ n m bn bm g g',h.get n=some bn→h.get m=some bm→γ[n]?=some g→γ[m]?=some g'→bn.ro=false→bm.ro=false→g.b=g'.b→n=m
 base:B≤w.heap.size
def Own (γ:List G) (h:AH) (b:Nat):Prop:=∃ n blk g,h.get n=some blk∧γ[n]?=some g∧blk.ro=false∧g.b=b
structure Sim (P:Program) (B:Nat) (γ:List G) (h:AH) (w:World) (γ':List G) (h':AH) (w':World):Prop where
 rel:Rel P B γ' h' w'
 ext:γ<+:γ'
 size:w.heap.size≤w'.heap.size
 frame:∀ b,b<w.heap.size→¬ Own γ h b→w'.heap[b]?=w.heap[b]?
 own:∀ b,Own γ' h' b→Own γ h b∨w.heap.size≤b
 os:w'.os=w.os
 tape:w'.tape=w.tape
 output:w'.output=w.output
theorem Sim.refl {P:Program} {B:Nat} {γ:List G} {h:AH} {w:World} (R:Rel P B γ h w):Sim P B γ h w γ h w:=
 ⟨R,List.prefix_refl _,Nat.le_refl _,fun _ _ _=>rfl,fun _ h=>.inl h,rfl,rfl,rfl⟩
theorem Sim.trans {P:Program} {B:Nat} {γ γ1 γ2:List G} {h h1 h2:AH} {w w1 w2:World} (a:Sim P B γ h w γ1 h1 w1) (b:Sim P B γ1 h1 w1 γ2 h2 w2):Sim P B γ h w γ2 h2 w2:=by
 refine⟨b.rel,a.ext.trans b.ext,Nat.le_trans a.size b.size,fun k hk hn=>?_,fun k hk=>?_,b.os.trans a.os,b.tape.trans a.tape,b.output.trans a.output⟩
 ·rw[b.frame k (Nat.lt_of_lt_of_le hk a.size) (fun ho=>by rcases a.own k ho with h|h;exact hn h;omega),a.frame k hk hn]
 ·rcases b.own k hk with h|h
  ·exact a.own k h
  ·exact .inr (Nat.le_trans a.size h)
theorem get_lt {h:AH} {n:Nat} {b:Blk} (hb:h.get n=some b):n<h.length:=by
 unfold AH.get at hb
 cases hn:h[n]? with
 | none=>simp[hn] at hb
 | some x=>exact (List.getElem?_eq_some_iff.1 hn).1
theorem get_new_self (h:AH) (c:Blk):(h.new c).get h.length=some c:=by simp[AH.get,AH.new]
theorem get_new_cases {h:AH} {n:Nat} {b c:Blk} (hb:(h.new c).get n=some b):h.get n=some b∨(n=h.length∧b=c):=by
 have hl:=get_lt hb
 simp only[AH.new,List.length_append,List.length_cons,List.length_nil] at hl
 by_cases hn:n<h.length
 ·left
  unfold AH.get AH.new at *
  rwa [List.getElem?_append_left hn] at hb
 ·right
  have:n=h.length:=by omega
  subst this
  rw[get_new_self] at hb
  exact⟨rfl,(Option.some.inj hb).symm⟩
theorem get_set_self {h:AH} {n:Nat} {b c:Blk} (hb:h.get n=some b):AH.get (h.set n (some c)) n=some c:=by
 have:=get_lt hb
 simp[AH.get,this]
theorem get_set_ne {h:AH} {n m:Nat} {x:Option Blk} (hne:m≠n):AH.get (h.set n x) m=h.get m:=by
 simp[AH.get,List.getElem?_set_ne (Ne.symm hne)]
theorem get_kill_cases {h:AH} {n m:Nat} {b:Blk} (hb:(h.kill n).get m=some b):h.get m=some b∧m≠n:=by
 by_cases e:m=n
 ·subst e
  have hl:=get_lt hb
  simp[AH.kill] at hl
  simp[AH.get,AH.kill,hl] at hb
 ·exact⟨by rw[←hb];exact (get_set_ne e).symm,e⟩
theorem Rel.ghost {P:Program} {B:Nat} {γ:List G} {h:AH} {w:World} (R:Rel P B γ h w) {n:Nat} {b:Blk} (hb:h.get n=some b):∃ g,γ[n]?=some g:=by
 have:=get_lt hb
 exact⟨γ[n]'(by rw[R.len];exact this),List.getElem?_eq_getElem _⟩
theorem Rel.cells {P:Program} {B:Nat} {γ:List G} {h:AH} {w:World} (R:Rel P B γ h w) {n:Nat} {b:Blk} {g:G} (hb:h.get n=some b) (hg:γ[n]?=some g) :
  ∃ cs:List Value,VRL γ b.c cs∧∀ j v,cs[j]?=some v→w.cell? ⟨g.b,g.o+j,none⟩=some v:=by
 have key:∀ (l:List Value) (k:Nat),(∀ j v,l[j]?=some v→∃ v',w.cell? ⟨g.b,g.o+(k+j),none⟩=some v'∧VR γ v v') →
   ∃ cs:List Value,VRL γ l cs∧∀ j v,cs[j]?=some v→w.cell? ⟨g.b,g.o+(k+j),none⟩=some v:=by
  intro l
  induction l with
  | nil=>exact fun k _=>⟨[],VRL.nil γ,fun j v hv=>by simp at hv⟩
  | cons x l ih=>
   intro k hk
   obtain⟨v',hv',hr⟩:=hk 0 x rfl
   obtain⟨cs,h1,h2⟩:=ih (k+1) (fun j v hv=>by
    have:=hk (j+1) v (by simpa using hv)
    rwa [show k+(j+1)=k+1+j by omega] at this)
   refine⟨v'::cs,VRL.cons hr h1,fun j v hv=>?_⟩
   cases j with
   | zero=>simp at hv;subst hv;exact hv'
   | succ j=>
    have:=h2 j v (by simpa using hv)
    rwa [show k+1+j=k+(j+1) by omega] at this
 obtain⟨cs,h1,h2⟩:=key b.c 0 (fun j v hv=>by
  have:=(R.cell n b g hb hg j v hv).2
  rwa [Nat.zero_add])
 exact⟨cs,h1,fun j v hv=>by have:=h2 j v hv;rwa [Nat.zero_add] at this⟩
variable {P:Program} {B:Nat} {γ:List G} {h:AH} {w:World}
theorem Rel.kill (R:Rel P B γ h w) (n:Nat):Rel P B γ (h.kill n) w:=
 ⟨by simp[AH.kill,R.len],
  fun m b g hb=>R.cell m b g (get_kill_cases hb).1,
  fun m b g hb=>R.rw m b g (get_kill_cases hb).1,
  fun m b g hb=>R.ro m b g (get_kill_cases hb).1,
  fun m k bm bk g g' hm hk=>R.inj m k bm bk g g' (get_kill_cases hm).1 (get_kill_cases hk).1,
  R.base⟩
theorem Sim.killed (R:Rel P B γ h w) (n:Nat):Sim P B γ h w γ (h.kill n) w:=
 ⟨R.kill n,List.prefix_refl _,Nat.le_refl _,fun _ _ _=>rfl,fun b hb=>by
  obtain⟨m,blk,g,h1,h2,h3,h4⟩:=hb
  exact .inl ⟨m,blk,g,(get_kill_cases h1).1,h2,h3,h4⟩,rfl,rfl,rfl⟩
theorem Rel.drew (R:Rel P B γ h w):Rel P B γ h w.drew:=⟨R.len,R.cell,R.rw,R.ro,R.inj,R.base⟩
theorem Sim.drawn (R:Rel P B γ h w):Sim P B γ h w γ h w.drew:=⟨R.drew,List.prefix_refl _,Nat.le_refl _,fun _ _ _=>rfl,fun b hb=>.inl hb,rfl,rfl,rfl⟩
theorem cell_old (R:Rel P B γ h w) {n:Nat} {b:Blk} {g:G} (hb:h.get n=some b) (hg:γ[n]?=some g) (o:Obj) {j:Nat} {v:Value} (hv:w.cell? ⟨g.b,g.o+j,none⟩=some v) :
  (w.alloc o).cell? ⟨g.b,g.o+j,none⟩=some v:=by
 rw[World.cell?_alloc_lt _ _ _ (World.block_lt_of_cell? w ⟨g.b,g.o+j,none⟩ hv)];exact hv
theorem Sim.alloc (R:Rel P B γ h w) (c:List Value) (e:TypeId) (full:Bool) (cur:Array Value) (hone:c.all isOne=true)
  (hrel:∀ (j:Nat) (v:Value),c[j]?=some v→∃ v',cur[j]?=some v'∧VR γ v v') (hl:c.length≤cur.size) (hfull:full=true→cur.size=c.length)
  (hdiv:full=false→∃ k,cur.size=k*P.cellsOf e∧k≤maxLen) :
  Sim P B γ h w (γ++[⟨w.heap.size,0,cur.size⟩]) (h.new ⟨c,e,false,full⟩) (w.alloc (.cells cur e)):=by
 have hpre:γ<+:γ++[(⟨w.heap.size,0,cur.size⟩:G)]:=List.prefix_append _ _
 have hg_cases:∀ n g,(γ++[(⟨w.heap.size,0,cur.size⟩:G)])[n]?=some g→(n<h.length∧γ[n]?=some g)∨(n=h.length∧g=⟨w.heap.size,0,cur.size⟩):=by
  intro n g hg
  by_cases hn:n<γ.length
  ·rw[List.getElem?_append_left hn] at hg
   exact .inl ⟨by rw[←R.len];exact hn,hg⟩
  ·rw[List.getElem?_append_right (by omega)] at hg
   have hl:=(List.getElem?_eq_some_iff.1 hg).1
   simp at hl
   have:n=γ.length:=by omega
   subst this
   simp at hg
   exact .inr ⟨R.len,hg.symm⟩
 have old:∀ n b g,(h.new ⟨c,e,false,full⟩).get n=some b→(γ++[(⟨w.heap.size,0,cur.size⟩:G)])[n]?=some g →
   (h.get n=some b∧γ[n]?=some g)∨(n=h.length∧b=⟨c,e,false,full⟩∧g=⟨w.heap.size,0,cur.size⟩):=by
  intro n b g hb hg
  rcases get_new_cases hb with h1|⟨h1,h2⟩
  ·rcases hg_cases n g hg with⟨_,h3⟩|⟨h3,_⟩
   ·exact .inl ⟨h1,h3⟩
   ·have:=get_lt h1;omega
  ·rcases hg_cases n g hg with⟨h3,_⟩|⟨_,h3⟩
   ·omega
   ·exact .inr ⟨h1,h2,h3⟩
 have blt:∀ n b g,h.get n=some b→γ[n]?=some g→b.ro=false→g.b<w.heap.size:=by
  intro n b g hb hg hr
  obtain⟨_,_,_,⟨cur',hc,_⟩,_⟩:=R.rw n b g hb hg hr
  exact (Array.getElem?_eq_some_iff.1 hc).1
 refine⟨⟨by simp[AH.new,R.len],?_,?_,?_,?_,by simp;have:=R.base;omega⟩,hpre,by simp,?_,?_,rfl,rfl,rfl⟩
 ·intro n b g hb hg j v hv
  rcases old n b g hb hg with⟨h1,h2⟩|⟨rfl,rfl,rfl⟩
  ·obtain⟨h3,v',h4,h5⟩:=R.cell n b g h1 h2 j v hv
   exact⟨h3,v',cell_old R h1 h2 _ h4,h5.mono hpre⟩
  ·refine⟨List.all_eq_true.1 hone v (List.mem_iff_getElem?.2 ⟨j,hv⟩),?_⟩
   obtain⟨v',h1,h2⟩:=hrel j v hv
   exact⟨v',by simpa using h1,h2.mono hpre⟩
 ·intro n b g hb hg hr
  rcases old n b g hb hg with⟨h1,h2⟩|⟨rfl,rfl,rfl⟩
  ·obtain⟨h3,h4,h5,⟨cur',h6,h7⟩,h8,h9⟩:=R.rw n b g h1 h2 hr
   exact⟨h3,h4,h5,⟨cur',by rw[heap_alloc_old w _ (blt n b g h1 h2 hr)];exact h6,h7⟩,h8,h9⟩
  ·exact⟨rfl,R.base,hl,⟨cur,heap_alloc_new w _,rfl⟩,hfull,hdiv⟩
 ·intro n b g hb hg hr
  rcases old n b g hb hg with⟨h1,h2⟩|⟨rfl,rfl,rfl⟩
  ·exact R.ro n b g h1 h2 hr
  ·simp at hr
 ·intro n m bn bm g g' hn hm hgn hgm rn rm e
  rcases old n bn g hn hgn with⟨h1,h2⟩|⟨rfl,rfl,rfl⟩<;>rcases old m bm g' hm hgm with⟨h3,h4⟩|⟨rfl,rfl,rfl⟩
  ·exact R.inj n m bn bm g g' h1 h3 h2 h4 rn rm e
  ·have:=blt n bn g h1 h2 rn;simp at e;omega
  ·have:=blt m bm g' h3 h4 rm;simp at e;omega
  ·rfl
 ·intro k hk _
  exact heap_alloc_old w _ hk
 ·rintro k ⟨n,blk,g,h1,h2,h3,h4⟩
  rcases old n blk g h1 h2 with⟨h5,h6⟩|⟨rfl,rfl,rfl⟩
  ·exact .inl ⟨n,blk,g,h5,h6,h3,h4⟩
  ·right;simp at h4;omega
theorem Sim.made (R:Rel P B γ h w) (c cs:List Value) (e:TypeId) (hone:c.all isOne=true) (hrel:VRL γ c cs) :
  Sim P B γ h w (γ++[⟨w.heap.size,0,c.length⟩]) (h.new ⟨c,e,false,true⟩) (w.alloc (.cells cs.toArray e)):=by
 have:=Sim.alloc R c e true cs.toArray hone (fun j v hv=>by
  obtain⟨b,h1,h2⟩:=hrel.get hv
  exact⟨b,by simpa using h1,h2⟩) (by simp[hrel.1]) (fun _=>by simp[hrel.1]) (by simp)
 rwa [show cs.toArray.size=c.length by simp[hrel.1]] at this
theorem Rel.rewritten (R:Rel P B γ h w) {n:Nat} {b:Blk} {g:G} (hb:h.get n=some b) (hg:γ[n]?=some g) (hro:b.ro=false) (arr:Array Value)
  {m:Nat} {c:Blk} {k:G} (hm:h.get m=some c) (hk:γ[m]?=some k) (hne:m≠n) :
  (∀ j v,w.cell? ⟨k.b,k.o+j,none⟩=some v→(w.setRow g.b arr).cell? ⟨k.b,k.o+j,none⟩=some v)∧(w.setRow g.b arr).heap[k.b]?=w.heap[k.b]?:=by
 have hne':k.b≠g.b:=by
  intro e
  cases hc:c.ro with
  | false=>exact hne (R.inj m n c b k g hm hb hk hg hc hro e)
  | true=>
   have h1:=R.ro m c k hm hk hc
   have h2:=(R.rw n b g hb hg hro).2.1
   omega
 exact⟨fun j v hv=>by rw[cell_setRow_other w g.b arr _ hne'];exact hv,setRow_other w g.b k.b arr hne'⟩
theorem Sim.stored (R:Rel P B γ h w) {n:Nat} {b:Blk} {g:G} (hb:h.get n=some b) (hg:γ[n]?=some g) (hro:b.ro=false) (c:List Value) (arr cur:Array Value)
  (hcur:w.heap[g.b]?=some (.cells cur b.e (0,0))) (hlen:c.length=b.c.length) (hsize:arr.size=cur.size) (hone:c.all isOne=true)
  (hrel:∀ (j:Nat) (v:Value),c[j]?=some v→∃ v',arr[j]?=some v'∧VR γ v v') :
  Sim P B γ h w γ (h.set n (some { b with c:=c })) (w.setRow g.b arr):=by
 obtain⟨ho,hB,hcap,⟨cur',hc',hcs'⟩,hfull,hdiv⟩:=R.rw n b g hb hg hro
 rw[hcur] at hc'
 simp only[Option.some.injEq,Obj.cells.injEq,and_true] at hc'
 subst hc'
 have old:∀ m c',AH.get (h.set n (some { b with c:=c })) m=some c'→(m≠n∧h.get m=some c')∨(m=n∧c'={ b with c:=c }):=by
  intro m c' hm
  by_cases e:m=n
  ·subst e
   rw[get_set_self hb] at hm
   exact .inr ⟨rfl,(Option.some.inj hm).symm⟩
  ·rw[get_set_ne e] at hm
   exact .inl ⟨e,hm⟩
 refine⟨⟨by simp[R.len],?_,?_,?_,?_,by simpa using R.base⟩,List.prefix_refl _,by simp,?_,?_,rfl,rfl,rfl⟩
 ·intro m c' k hm hk j v hv
  rcases old m c' hm with⟨h1,h2⟩|⟨rfl,rfl⟩
  ·obtain⟨h3,v',h4,h5⟩:=R.cell m c' k h2 hk j v hv
   exact⟨h3,v',(R.rewritten hb hg hro arr h2 hk h1).1 j v' h4,h5⟩
  ·rw[hg] at hk;cases hk
   refine⟨List.all_eq_true.1 hone v (List.mem_iff_getElem?.2 ⟨j,hv⟩),?_⟩
   obtain⟨v',h1,h2⟩:=hrel j v hv
   exact⟨v',by rw[ho,Nat.zero_add,cell_setRow_same w g.b j cur arr b.e (0,0) hcur];exact h1,h2⟩
 ·intro m c' k hm hk hr
  rcases old m c' hm with⟨h1,h2⟩|⟨rfl,rfl⟩
  ·obtain⟨h3,h4,h5,⟨cur2,h6,h7⟩,h8⟩:=R.rw m c' k h2 hk hr
   exact⟨h3,h4,h5,⟨cur2,by rw[(R.rewritten hb hg hro arr h2 hk h1).2];exact h6,h7⟩,h8⟩
  ·rw[hg] at hk;cases hk
   exact⟨ho,hB,by simpa [hlen] using hcap,⟨arr,setRow_heap w g.b cur arr b.e (0,0) hcur,by omega⟩,fun e=>by simpa [hlen] using hfull e,hdiv⟩
 ·intro m c' k hm hk hr
  rcases old m c' hm with⟨h1,h2⟩|⟨rfl,rfl⟩
  ·exact R.ro m c' k h2 hk hr
  ·simp[hro] at hr
 ·intro m m' bm bm' k k' hm hm' hk hk' rm rm' e
  rcases old m bm hm with⟨h1,h2⟩|⟨rfl,rfl⟩<;>rcases old m' bm' hm' with⟨h3,h4⟩|⟨rfl,rfl⟩
  ·exact R.inj m m' bm bm' k k' h2 h4 hk hk' rm rm' e
  ·exact R.inj m m' bm b k k' h2 hb hk hk' rm hro e
  ·exact R.inj m m' b bm' k k' hb h4 hk hk' hro rm' e
  ·rfl
 ·intro k hk hno
  refine setRow_other w g.b k arr (fun e=>hno ⟨n,b,g,hb,hg,hro,e.symm⟩)
 ·rintro k ⟨m,c',k',h1,h2,h3,h4⟩
  rcases old m c' h1 with⟨h5,h6⟩|⟨rfl,rfl⟩
  ·exact .inl ⟨m,c',k',h6,h2,h3,h4⟩
  ·exact .inl ⟨m,b,k',hb,h2,hro,h4⟩
theorem Sim.onto (R:Rel P B γ h w) {n:Nat} {b:Blk} {g:G} (hb:h.get n=some b) (hg:γ[n]?=some g) (hro:b.ro=false) (hnf:b.full=false) (c:List Value) (arr cur:Array Value)
  (hcur:w.heap[g.b]?=some (.cells cur b.e (0,0))) (hlen:c.length≤g.cap) (hsize:arr.size=cur.size) (hone:c.all isOne=true)
  (hrel:∀ (j:Nat) (v:Value),c[j]?=some v→∃ v',arr[j]?=some v'∧VR γ v v') :
  Sim P B γ h w (γ++[g]) ((h.kill n).new ⟨c,b.e,false,false⟩) (w.setRow g.b arr):=by
 obtain⟨ho,hB,hcap,⟨cur',hc',hcs'⟩,hfull,hdiv⟩:=R.rw n b g hb hg hro
 rw[hcur] at hc'
 simp only[Option.some.injEq,Obj.cells.injEq,and_true] at hc'
 subst hc'
 have hkl:(h.kill n).length=h.length:=by simp[AH.kill]
 have hpre:γ<+:γ++[g]:=List.prefix_append _ _
 have old:∀ m c' k,((h.kill n).new ⟨c,b.e,false,false⟩).get m=some c'→(γ++[g])[m]?=some k →
   (m≠n∧h.get m=some c'∧γ[m]?=some k)∨(m=h.length∧c'=⟨c,b.e,false,false⟩∧k=g):=by
  intro m c' k hm hk
  rcases get_new_cases hm with h1|⟨h1,h2⟩
  ·obtain⟨h3,h4⟩:=get_kill_cases h1
   have hl:=get_lt h3
   rw[List.getElem?_append_left (by rw[R.len];exact hl)] at hk
   exact .inl ⟨h4,h3,hk⟩
  ·rw[hkl] at h1
   subst h1
   rw[←R.len,List.getElem?_concat_length] at hk
   exact .inr ⟨rfl,h2,(Option.some.inj hk).symm⟩
 refine⟨⟨by simp[AH.new,AH.kill,R.len],?_,?_,?_,?_,by simpa using R.base⟩,hpre,by simp,?_,?_,rfl,rfl,rfl⟩
 ·intro m c' k hm hk j v hv
  rcases old m c' k hm hk with⟨h1,h2,h2'⟩|⟨rfl,rfl,rfl⟩
  ·obtain⟨h3,v',h4,h5⟩:=R.cell m c' k h2 h2' j v hv
   exact⟨h3,v',(R.rewritten hb hg hro arr h2 h2' h1).1 j v' h4,h5.mono hpre⟩
  ·refine⟨List.all_eq_true.1 hone v (List.mem_iff_getElem?.2 ⟨j,hv⟩),?_⟩
   obtain⟨v',h1,h2⟩:=hrel j v hv
   exact⟨v',by rw[ho,Nat.zero_add,cell_setRow_same w k.b j cur arr b.e (0,0) hcur];exact h1,h2.mono hpre⟩
 ·intro m c' k hm hk hr
  rcases old m c' k hm hk with⟨h1,h2,h2'⟩|⟨rfl,rfl,rfl⟩
  ·obtain⟨h3,h4,h5,⟨cur2,h6,h7⟩,h8⟩:=R.rw m c' k h2 h2' hr
   exact⟨h3,h4,h5,⟨cur2,by rw[(R.rewritten hb hg hro arr h2 h2' h1).2];exact h6,h7⟩,h8⟩
  ·exact⟨ho,hB,hlen,⟨arr,setRow_heap w k.b cur arr b.e (0,0) hcur,by omega⟩,by simp,fun _=>hdiv hnf⟩
 ·intro m c' k hm hk hr
  rcases old m c' k hm hk with⟨h1,h2,h2'⟩|⟨rfl,rfl,rfl⟩
  ·exact R.ro m c' k h2 h2' hr
  ·simp at hr
 ·intro m m' bm bm' k k' hm hm' hk hk' rm rm' e
  rcases old m bm k hm hk with⟨h1,h2,h2'⟩|⟨rfl,rfl,rfl⟩<;>rcases old m' bm' k' hm' hk' with⟨h3,h4,h4'⟩|⟨rfl,rfl,rfl⟩
  ·exact R.inj m m' bm bm' k k' h2 h4 h2' h4' rm rm' e
  ·exact absurd (R.inj m n bm b k k' h2 hb h2' hg rm hro e) h1
  ·exact absurd (R.inj m' n bm' b k' k h4 hb h4' hg rm' hro e.symm) h3
  ·rfl
 ·intro k hk hno
  exact setRow_other w g.b k arr (fun e=>hno ⟨n,b,g,hb,hg,hro,e.symm⟩)
 ·rintro k ⟨m,c',k',h1,h2,h3,h4⟩
  rcases old m c' k' h1 h2 with⟨h5,h6,h6'⟩|⟨rfl,rfl,rfl⟩
  ·exact .inl ⟨m,c',k',h6,h6',h3,h4⟩
  ·exact .inl ⟨n,b,k',hb,hg,hro,h4⟩
variable {P:Program} {B:Nat} {γ:List G} {h h':AH} {w:World} {f:Fr} {a:Act} {v:Value}
theorem VR.bool_inv {b:Bool} {v':Value} (h:VR γ (.bool b) v'):v'=.bool b:=by cases h;rfl
theorem VR.int_inv {k:IntKind} {n:Int} {v':Value} (h:VR γ (.int k n) v'):v'=.int k n:=by cases h;rfl
theorem VR.ptr_inv {n off:Nat} {s:Option Nat} {v':Value} (h:VR γ (.pointer (some ⟨n,off,s⟩)) v') :
  s=none∧∃ g,γ[n]?=some g∧v'=.pointer (some ⟨g.b,g.o+off,none⟩):=by cases h;exact⟨rfl,_,‹_›,rfl⟩
theorem VR.agg_inv {xs:Array Value} {v':Value} (h:VR γ (.agg xs) v'):∃ ys:Array Value,v'=.agg ys∧VRL γ xs.toList ys.toList:=by
 cases h with
 | agg _ ys hs hh=>exact⟨ys,rfl,by simpa using hs,fun i a b ha hb=>hh i a b (by simpa using ha) (by simpa using hb)⟩
theorem VR.tuple_inv {xs:Array Value} {v':Value} (h:VR γ (.tuple xs) v'):∃ ys:Array Value,v'=.tuple ys∧VRL γ xs.toList ys.toList:=by
 cases h with
 | tuple _ ys hs hh=>exact⟨ys,rfl,by simpa using hs,fun i a b ha hb=>hh i a b (by simpa using ha) (by simpa using hb)⟩
theorem VR.func_inv {g:FuncId} {xs:Array Value} {v':Value} (h:VR γ (.func (.func g) #[] xs) v'):∃ ys:Array Value,v'=.func (.func g) #[] ys∧VRL γ xs.toList ys.toList:=by
 cases h with
 | func _ _ ys hs hh=>exact⟨ys,rfl,by simpa using hs,fun i a b ha hb=>hh i a b (by simpa using ha) (by simpa using hb)⟩
theorem VR.slc_inv {n off len sz:Nat} {s:Option Nat} {v':Value} (h:VR γ (.slice (some ⟨n,off,s⟩) len sz) v') :
  s=none∧∃ g,γ[n]?=some g∧0<sz∧off+len*sz≤g.cap∧v'=.slice (some ⟨g.b,g.o+off,none⟩) len ((g.cap-off) / sz):=by
 cases h;exact⟨rfl,_,‹_›,‹_›,‹_›,rfl⟩
theorem VR.nil_inv {n t:Nat} {v':Value} (h:VR γ (.slice none n t) v') :
  n=0∧((t=0∧v'=.slice none 0 0)∨(t=1∧∃ a c,v'=.slice a 0 c)∨(t=2∧∃ a,v'=.slice a 0 0)):=by
 cases h
 ·exact⟨rfl,.inl ⟨rfl,rfl⟩⟩
 ·exact⟨rfl,.inr (.inl ⟨rfl,_,_,rfl⟩)⟩
 ·exact⟨rfl,.inr (.inr ⟨rfl,_,rfl⟩)⟩
theorem VR.len_inv {x:Option Addr} {n t:Nat} {v':Value} (h:VR γ (.slice x n t) v'):∃ y c,v'=.slice y n c∧n≤c:=by
 cases h with
 | nils=>exact⟨_,_,rfl,Nat.le_refl _⟩
 | emp a c=>exact⟨_,_,rfl,Nat.zero_le _⟩
 | zcap a=>exact⟨_,_,rfl,Nat.le_refl _⟩
 | slc n off len sz g hg h1 h2=>exact⟨_,_,rfl,by rw[Nat.le_div_iff_mul_le h1];omega⟩
theorem ite_some {α:Type} {c:Prop} [Decidable c] {x y:α} (h:(if c then some x else none)=some y):c∧x=y:=by
 by_cases hc:c
 ·rw[if_pos hc] at h;exact⟨hc,Option.some.inj h⟩
 ·rw[if_neg hc] at h;cases h
theorem ite_none {α:Type} {c:Prop} [Decidable c] {x:Option α} {y:α} (h:(if c then x else none)=some y):c∧x=some y:=by
 by_cases hc:c
 ·rw[if_pos hc] at h;exact⟨hc,h⟩
 ·rw[if_neg hc] at h;cases h
theorem map_some {α β:Type} {x:Option α} {g:α→β} {y:β} (h:x.map g=some y):∃ z,x=some z∧g z=y:=Option.map_eq_some_iff.1 h
def nv:Next→Option Value
 | .value v=>some v
 | .skip=>some undef
 | _=>none
def OpPure (P:Program) (γ:List G) (w:World) (a:Act) (o:Oper) (v:Value):Prop:=
 ∃ nx v',(execOp a.eval o).run P w=.ok nx w∧nv nx=some v'∧VR γ v v'
theorem sizeT_some {t:TypeId} {n:Nat} (hs:sizeT P t=some n):∃ i,P.info? t=some i∧i.size=n:=map_some hs
theorem run_size {t:TypeId} {n:Nat} (hs:sizeT P t=some n) (w:World):(sizeOf t).run P w=.ok n w:=by
 obtain⟨i,h1,rfl⟩:=sizeT_some hs
 simp[sizeOf,typeInfo,h1]
theorem run_isAgg {t:TypeId} {b:Bool} (hs:aggT P t=some b) (w:World):(isAgg t).run P w=.ok b w:=by
 unfold aggT at hs
 cases hu:P.underlying t with
 | none=>simp[hu] at hs
 | some d=>cases d<;>simp[hu] at hs<;>subst hs<;>simp[isAgg,run_underlying hu]
theorem zeroT_some {t:TypeId} {z:List Value} (hz:zeroT P t=some z):∃ i y,P.info? t=some i∧i.zero=some y∧y.cells.toList=z∧z.all okCell=true∧z.length=i.size∧0<i.size:=by
 unfold zeroT at hz
 split at hz
 ·rename_i i hi
  split at hz
  ·rename_i y hy
   obtain⟨h1,h2⟩:=ite_some hz
   simp only[Bool.and_eq_true,beq_iff_eq,decide_eq_true_eq] at h1
   subst h2
   exact⟨i,y,hi,hy,rfl,h1.1.1,h1.1.2,h1.2⟩
  ·cases hz
 ·cases hz
theorem foldl_set (off:Nat):∀ (vs:List Value) (k:Nat) (cs:Array Value),off+k+vs.length≤cs.size →
  ((vs.zipIdx k).foldl (fun (cs:Array Value) (x:Value×Nat)=>cs.setIfInBounds (off+x.2) x.1) cs).toList=splice cs.toList (off+k) vs
 | [],k,cs,_=>by simp[splice]
 | v::vs,k,cs,hl=>by
  simp only[List.zipIdx_cons,List.foldl_cons]
  rw[foldl_set off vs (k+1) _ (by simp at hl ⊢;omega)]
  simp only[splice,Array.toList_setIfInBounds]
  simp only[List.length_cons] at hl
  have e1:off+(k+1)=off+k+1:=by omega
  rw[e1]
  have hlt:off+k<cs.toList.length:=by simp;omega
  rw[List.take_set,List.drop_set_of_lt (by omega)]
  rw[List.take_add_one,List.set_append_right _ _ (by simp;omega)]
  simp only[List.length_take,Nat.min_eq_left (Nat.le_of_lt hlt),Nat.sub_self,List.getElem?_eq_getElem hlt,Option.toList_some,List.set_cons_zero,List.append_assoc,List.cons_append,List.nil_append,List.length_cons]
  congr 4
  omega
theorem fill_sound {place place':Nat→Option (Nat×Nat)} (hp:∀ i,place' i=place i):∀ (parts:List (Nat×Operand)) (l:List (Nat×Nat×Operand)) (z c:List Value) (zr:Array Value),
  partsT place parts=some l→fillX f z l=some c→VRL γ z zr.toList→(∀ p∈parts,okOpd p.2=true→VR γ (ev f p.2) (a.eval p.2)) →
  ∃ cr,Instr.fill place' zr (parts.map fun p=>(p.1,a.eval p.2))=some cr∧VRL γ c cr.toList
 | [],l,z,c,zr,hl,hf,hz,_=>by
  simp[partsT] at hl;subst hl
  simp[fillX] at hf;subst hf
  exact⟨zr,rfl,hz⟩
 | (i,x)::parts,l,z,c,zr,hl,hf,hz,hv=>by
  simp only[partsT] at hl
  split at hl
  ·rename_i o s l' h1 h2
   obtain⟨hok,rfl⟩:=ite_some hl
   simp only[fillX] at hf
   obtain⟨⟨h3,h4⟩,h5⟩:=ite_none hf
   have hx:=(hv (i,x) (by simp) hok).cells
   have hsz:(a.eval x).cells.size=s:=by have:=hx.1;simp at this h3;omega
   have hzl:z.length=zr.size:=by simpa using hz.1
   have:=foldl_set o (a.eval x).cells.toList 0 zr (by simp;omega)
   rw[Nat.add_zero] at this
   obtain⟨cr,h6,h7⟩:=fill_sound hp parts l' _ c ((a.eval x).cells.zipIdx.foldl (fun cs (c,j)=>cs.setIfInBounds (o+j) c) zr) h2 h5 (by
    rw[←Array.foldl_toList,Array.toList_zipIdx]
    have e:((a.eval x).cells.toList.zipIdx 0).foldl (fun cs (x:Value×Nat)=>match x with|(c,j)=>Array.setIfInBounds cs (o+j) c) zr=((a.eval x).cells.toList.zipIdx 0).foldl (fun (cs:Array Value) (x:Value×Nat)=>cs.setIfInBounds (o+x.2) x.1) zr:=rfl
    rw[e,this]
    exact hz.splice hx o) (fun p hp'=>hv p (by simp[hp']))
   refine⟨cr,?_,h7⟩
   simp only[List.map_cons,Instr.fill,hp i,h1]
   rw[if_neg (by simp[hsz];omega)]
   exact h6
  ·cases hl
theorem places_of:∀ (fs:List Field),fieldsOk P fs=true→∃ places:List (Nat×Nat),fs.mapM (fun (fd:Field)=>(P.info? fd.type).map fun i=>(fd.offset,i.size))=some places ∧
  ∀ (i:Nat),places[i]?=(fs[i]?).bind fun (fd:Field)=>(sizeT P fd.type).map fun s=>(fd.offset,s)
 | [],_=>⟨[],rfl,fun i=>by simp⟩
 | fd::fs,hok=>by
  simp only[fieldsOk,List.all_cons,Bool.and_eq_true] at hok
  obtain⟨pl,h1,h2⟩:=places_of fs hok.2
  obtain⟨i,hi⟩:=Option.isSome_iff_exists.1 hok.1
  refine⟨(fd.offset,i.size)::pl,by simp[List.mapM_cons,hi,h1],fun j=>?_⟩
  cases j with
  | zero=>simp[sizeT,hi]
  | succ j=>simpa using h2 j
theorem build_run {t:TypeId} {z c:List Value} {parts:Array (Nat×Operand)} {l:List (Nat×Nat×Operand)} (hz:zeroT P t=some z)
  (hd:(∃ fs:Array Field,P.underlying t=some (.struct fs)∧fieldsOk P fs.toList=true)∨∃ n e,P.underlying t=some (.array n e)∧(P.info? e).isSome=true)
  (hl:partsT (placeT P t) parts.toList=some l) (hf:fillX f z l=some c) (hv:∀ p∈parts.toList,okOpd p.2=true→VR γ (ev f p.2) (a.eval p.2)) :
  ∃ cs:List Value,(Instr.build t (parts.map fun (i,x)=>(i,a.eval x))).run P w=.ok (.agg cs.toArray) w∧VRL γ c cs:=by
 obtain⟨i,y,hi,hy,rfl,hok,hlen,hpos⟩:=zeroT_some hz
 have hmap:(parts.map fun (i,x)=>(i,a.eval x)).toList=parts.toList.map fun p=>(p.1,a.eval p.2):=by simp
 rcases hd with⟨fs,hu,hfs⟩|⟨n,e,hu,he⟩
 ·obtain⟨pl,h1,h2⟩:=places_of fs.toList hfs
  obtain⟨cr,h3,h4⟩:=fill_sound (γ:=γ) (f:=f) (a:=a) (place:=placeT P t) (place':=(pl.toArray[·]?)) (fun j=>by
   have:=h2 j
   simp only[placeT,hu]
   simpa using this) parts.toList l _ c y.cells hl hf (okCells_refl hok) hv
  refine⟨cr.toList,?_,h4⟩
  rw[run_build w t _ cr (by rw[hmap];unfold Program.built;simp only[hi,hu,hy,h1];exact h3)]
 ·obtain⟨ie,hie⟩:=Option.isSome_iff_exists.1 he
  obtain⟨cr,h3,h4⟩:=fill_sound (γ:=γ) (f:=f) (a:=a) (place:=placeT P t) (place':=fun i=>some (i*ie.size,ie.size)) (fun j=>by
   simp[placeT,hu,sizeT,hie]) parts.toList l _ c y.cells hl hf (okCells_refl hok) hv
  refine⟨cr.toList,?_,h4⟩
  rw[run_build w t _ cr (by rw[hmap];unfold Program.built;simp only[hi,hu,hy,hie];exact h3)]
variable {P:Program}
def fv (P:Program) (t:TypeId) (K:IntKind) (xs:List Int):Value:=match P.underlying t with
 | some (.array _ _)=>.agg (xs.map (Value.int K)).toArray
 | some (.struct _)=>.agg (xs.map (Value.int K)).toArray
 | _=>.int K (xs.headD 0)
theorem chunks_eq (m:Nat) (hm:0<m) (n:Nat) (xs ys:List Int) (hx:xs.length=n*m) (hy:ys.length=n*m) :
  ((List.range' 0 n 1).all fun i=>((xs.drop (i*m)).take m==(ys.drop (i*m)).take m))=(xs==ys):=by
 rw[Bool.eq_iff_iff]
 simp only[List.all_eq_true,beq_iff_eq]
 constructor
 ·intro h
  apply List.ext_getElem?
  intro j
  by_cases hj:j<n*m
  ·have hi:j / m<n:=by rw[Nat.div_lt_iff_lt_mul hm];exact hj
   have:=h (j / m) (by simp[List.mem_range'_1];exact hi)
   have h1:=congrArg (fun l:List Int=>l[j%m]?) this
   simp only[List.getElem?_take,List.getElem?_drop] at h1
   rw[if_pos (Nat.mod_lt _ hm),if_pos (Nat.mod_lt _ hm)] at h1
   have e:j / m*m+j%m=j:=by rw[Nat.mul_comm];exact Nat.div_add_mod j m
   rwa [e] at h1
  ·rw[List.getElem?_eq_none (by omega),List.getElem?_eq_none (by omega)]
 ·rintro rfl i _
  rfl
theorem flatT_int {d:Nat} {t:TypeId} {k:IntKind} {n:Nat} (hf:flatT P (d+1) t=some (k,n)) (hne:∀ m e,P.underlying t≠some (.array m e)) (hns:∀ fs,P.underlying t≠some (.struct fs)) :
  n=1∧(∃ k',P.underlying t=some (.int k'))∧sizeT P t=some 1:=by
 unfold flatT at hf
 cases hu:P.underlying t with
 | none=>simp[hu] at hf
 | some u=>
  cases u<;>simp[hu] at hf
  case int k'=>exact⟨hf.2.2.symm,⟨k',rfl⟩,hf.1⟩
  case array m e=>exact absurd hu (hne m e)
  case struct fs=>exact absurd hu (hns fs)
theorem part_flat (w:World) (K:IntKind) {d:Nat} {e:TypeId} {k:IntKind} {s:Nat} (hfe:flatT P (d+1) e=some (k,s)) (hse:sizeT P e=some s) (zs:List Int) (o:Nat) (hz:o+s≤zs.length) (hp:0<s) :
  (part e (zs.map (Value.int K)).toArray o).run P w=.ok (fv P e K ((zs.drop o).take s)) w:=by
 have hsz:∀ w,(sizeOf e).run P w=.ok s w:=run_size hse
 have ext:(zs.map (Value.int K)).toArray.extract o (o+s)=(((zs.drop o).take s).map (Value.int K)).toArray:=by
  apply Array.ext'
  rw[Array.toList_extract]
  show List.extract _ _ _=_
  unfold List.extract
  rw[Nat.add_sub_cancel_left,List.map_take,List.map_drop]
 by_cases hea:∃ m' e',P.underlying e=some (.array m' e')
 ·obtain⟨m',e',hue⟩:=hea
  simp only[part,isAgg,Sem.run_bind,run_underlying hue,Result.andThen_ok,Sem.run_pure,if_true,hsz,fv,hue,ext]
 ·by_cases hes:∃ fs,P.underlying e=some (.struct fs)
  ·obtain⟨fs,hue⟩:=hes
   simp only[part,isAgg,Sem.run_bind,run_underlying hue,Result.andThen_ok,Sem.run_pure,if_true,hsz,fv,hue,ext]
  ·obtain⟨h1,⟨k'',h2⟩,h3⟩:=flatT_int hfe (fun m' e' he=>hea ⟨m',e',he⟩) (fun fs he=>hes ⟨fs,he⟩)
   subst h1
   have hlz:o<zs.length:=by omega
   have e1:(zs.drop o).take 1=[zs[o]]:=by rw[List.drop_eq_getElem_cons hlz];rfl
   rw[e1]
   simp[part,isAgg,run_underlying h2,fv,h2,List.getElem?_eq_getElem hlz]
theorem beq_split {xs ys:List Int} {o a b:Nat} (hx:o+(a+b)≤xs.length) (hy:o+(a+b)≤ys.length) :
  ((xs.drop o).take (a+b)==(ys.drop o).take (a+b))=(((xs.drop o).take a==(ys.drop o).take a)&&((xs.drop (o+a)).take b==(ys.drop (o+a)).take b)):=by
 rw[Bool.eq_iff_iff]
 simp only[Bool.and_eq_true,beq_iff_eq]
 rw[List.take_add,List.take_add,List.drop_drop,List.drop_drop]
 constructor
 ·intro h
  exact List.append_inj h (by simp;omega)
 ·rintro⟨h1,h2⟩
  rw[h1,h2]
theorem eq_fields (w:World) (K:IntKind) (D d:Nat) (ih:∀ (t:TypeId) (k:IntKind) (n:Nat),flatT P (d+1) t=some (k,n)→∀ (xs ys:List Int),xs.length=n→ys.length=n →
  (Op.equalIn (D+(d+1)) t (fv P t K xs) (fv P t K ys)).run P w=.ok (xs==ys) w) (xs ys:List Int):∀ (fs:List Field) (o:Nat) (k:IntKind) (n:Nat),flatFs P (flatT P (d+1)) o fs=some (k,n)→o+n≤xs.length→o+n≤ys.length →
  (Op.eqFields (D+(d+1)) (xs.map (Value.int K)).toArray (ys.map (Value.int K)).toArray fs).run P w=.ok ((xs.drop o).take n==(ys.drop o).take n) w
 | [],o,k,n,hf,_,_=>by simp[flatFs] at hf
 | f::rest,o,k,n,hf,hx,hy=>by
  have one:∀ k' m,flatT P (d+1) f.type=some (k',m)→f.name≠ "_"→f.offset=o→sizeT P f.type=some m→0<m→o+m≤xs.length→o+m≤ys.length →
    (Op.eqFields (D+(d+1)) (xs.map (Value.int K)).toArray (ys.map (Value.int K)).toArray (f::rest)).run P w =
     (if ((xs.drop o).take m==(ys.drop o).take m)=true then (Op.eqFields (D+(d+1)) (xs.map (Value.int K)).toArray (ys.map (Value.int K)).toArray rest).run P w else .ok false w):=by
   intro k' m h1 h2 h3 h4 h5 h6 h7
   have px:=part_flat (P:=P) w K h1 h4 xs o h6 h5
   have py:=part_flat (P:=P) w K h1 h4 ys o h7 h5
   have pe:=ih f.type k' m h1 ((xs.drop o).take m) ((ys.drop o).take m) (by simp;omega) (by simp;omega)
   rw[Op.eqFields,if_pos h2,h3]
   simp only[Sem.run_bind,px,py,pe,Result.andThen_ok]
   cases hb:((xs.drop o).take m==(ys.drop o).take m)<;>simp
  cases rest with
  | nil=>
   simp only[flatFs] at hf
   split at hf
   ·rename_i k' m h1
    obtain⟨h2,h3⟩:=ite_some hf
    simp only[Prod.mk.injEq] at h3
    obtain⟨rfl,rfl⟩:=h3
    simp only[Bool.and_eq_true,bne_iff_ne,ne_eq,beq_iff_eq,decide_eq_true_eq] at h2
    rw[one _ _ h1 h2.1.1.1 h2.1.1.2 h2.1.2 h2.2 hx hy]
    simp only[Op.eqFields,Sem.run_pure]
    cases hb:((xs.drop o).take m==(ys.drop o).take m)<;>simp
   ·cases hf
  | cons g rest=>
   simp only[flatFs] at hf
   split at hf
   ·rename_i k' m h1
    split at hf
    ·rename_i k'' n' h4
     obtain⟨h2,h3⟩:=ite_some hf
     simp only[Prod.mk.injEq] at h3
     obtain⟨rfl,rfl⟩:=h3
     simp only[Bool.and_eq_true,bne_iff_ne,ne_eq,beq_iff_eq,decide_eq_true_eq] at h2
     rw[one _ _ h1 h2.1.1.1 h2.1.1.2 h2.1.2 h2.2 (by omega) (by omega)]
     rw[eq_fields w K D d ih xs ys (g::rest) (o+m) _ _ h4 (by omega) (by omega),beq_split (by omega) (by omega)]
     cases hb:((xs.drop o).take m==(ys.drop o).take m)<;>simp
    ·cases hf
   ·cases hf
theorem flatFs_zero {o:Nat} {fs:List Field}:flatFs P (flatT P 0) o fs=none:=by
 cases fs with
 | nil=>rfl
 | cons f rest=>
  cases rest<;>simp[flatFs,flatT]
theorem eq_flat (w:World) (K:IntKind) (D:Nat):∀ (d:Nat) (t:TypeId) (k:IntKind) (n:Nat),flatT P d t=some (k,n)→∀ (xs ys:List Int),xs.length=n→ys.length=n →
  (Op.equalIn (D+d) t (fv P t K xs) (fv P t K ys)).run P w=.ok (xs==ys) w
 | 0,t,k,n,hf,_,_,_,_=>by simp[flatT] at hf
 | d+1,t,k,n,hf,xs,ys,hx,hy=>by
  by_cases ha:∃ m e,P.underlying t=some (.array m e)
  ·obtain⟨m,e,hu⟩:=ha
   simp only[flatT,hu] at hf
   split at hf
   ·rename_i k' s hfe
    obtain⟨hs,he⟩:=ite_some hf
    simp only[Prod.mk.injEq] at he
    obtain⟨rfl,rfl⟩:=he
    simp only[Bool.and_eq_true,beq_iff_eq,decide_eq_true_eq] at hs
    obtain⟨hse,hp⟩:=hs
    have hsz:∀ w,(sizeOf e).run P w=.ok s w:=run_size hse
    have hd:∃ d',d=d'+1:=by cases d with
     | zero=>simp[flatT] at hfe
     | succ d=>exact⟨d,rfl⟩
    obtain⟨d',rfl⟩:=hd
    have hpart:∀ (zs:List Int) (i:Nat),zs.length=m*s→i<m→0<s→(part e (zs.map (Value.int K)).toArray (i*s)).run P w=.ok (fv P e K ((zs.drop (i*s)).take s)) w:=by
     intro zs i hz hi hp
     have hlt:i*s+s≤m*s:=by rw[←Nat.succ_mul];exact Nat.mul_le_mul_right _ hi
     exact part_flat (P:=P) w K hfe hse zs (i*s) (by omega) hp
    rw[←chunks_eq s hp m xs ys hx hy]
    rw[show D+(d'+1+1)=(D+(d'+1))+1 from rfl,Op.equalIn]
    simp only[fv,hu]
    simp only[Sem.run_bind,run_underlying hu,Result.andThen_ok,hsz,Std.Legacy.Range.forIn_eq_forIn_range',Std.Legacy.Range.size,Nat.sub_zero,Nat.add_sub_cancel,Nat.div_one]
    have hl:∀ i∈List.range' 0 m 1,i<m:=fun i hi=>by simpa using (List.mem_range'_1.1 hi).2
    generalize List.range' 0 m 1=l at hl ⊢
    induction l with
    | nil=>simp
    | cons i l ih=>
     have hi:i<m:=hl i (by simp)
     have hlt:i*s+s≤m*s:=by rw[←Nat.succ_mul];exact Nat.mul_le_mul_right _ hi
     have px:=hpart xs i hx hi hp
     have py:=hpart ys i hy hi hp
     have pe:=eq_flat w K D (d'+1) e k' s hfe ((xs.drop (i*s)).take s) ((ys.drop (i*s)).take s) (by simp;omega) (by simp;omega)
     simp only[List.forIn_cons,Sem.run_bind,px,py,pe,Result.andThen_ok,List.all_cons]
     cases hb:((xs.drop (i*s)).take s==(ys.drop (i*s)).take s)
     ·simp
     ·simp only[Bool.not_true,Bool.false_eq_true,if_false,Sem.run_pure,Result.andThen_ok,Bool.true_and]
      exact ih fun j hj=>hl j (by simp[hj])
   ·cases hf
  ·by_cases hs:∃ fs,P.underlying t=some (.struct fs)
   ·obtain⟨fs,hu⟩:=hs
    simp only[flatT,hu] at hf
    obtain⟨h1,hf⟩:=ite_none hf
    cases d with
    | zero=>rw[flatFs_zero] at hf;cases hf
    | succ d=>
     have hp:P.stoodInHeld t=false:=by simpa using h1
     have hfl:P.fieldsOf t=fs:=by simp[Program.fieldsOf,hu]
     have:=run_equalIn_struct (P:=P) w (D+(d+1)) t (xs.map (Value.int K)).toArray (ys.map (Value.int K)).toArray (by rw[hfl];exact hu) hp
     simp only[fv,hu]
     rw[show D+(d+1+1)=(D+(d+1))+1 from rfl,this,hfl]
     rw[eq_fields w K D d (fun t' k' n' h2=>eq_flat w K D (d+1) t' k' n' h2) xs ys fs.toList 0 k n hf (by omega) (by omega),List.drop_zero,List.drop_zero,List.take_of_length_le (by omega),List.take_of_length_le (by omega)]
   ·obtain⟨rfl,⟨k',hu⟩,_⟩:=flatT_int hf (fun m e he=>ha ⟨m,e,he⟩) (fun fs he=>hs ⟨fs,he⟩)
    obtain⟨x,rfl⟩:=List.length_eq_one_iff.1 hx
    obtain⟨y,rfl⟩:=List.length_eq_one_iff.1 hy
    simp only[fv,hu,List.headD_cons]
    rw[show D+(d+1)=(D+d)+1 from rfl,run_equalIn_int w (D+d) t K k' x y hu]
    congr 1
    rw[Bool.eq_iff_iff];simp
variable {P:Program} {B:Nat} {γ:List G} {h h':AH} {w:World} {f:Fr} {a:Act} {v:Value}
theorem intsOf_some:∀ {l:List Value} {k:IntKind} {as:List Int},intsOf l=some (k,as)→l=as.map (Value.int k)
 | [],k,as,h=>by simp[intsOf] at h
 | [x],k,as,h=>by
  cases x<;>simp[intsOf] at h
  obtain⟨rfl,rfl⟩:=h
  rfl
 | x::y::rest,k,as,h=>by
  cases x<;>simp[intsOf] at h
  rename_i k0 n0
  split at h
  ·rename_i k' l hl
   obtain⟨rfl,h2⟩:=ite_some h
   simp only[Prod.mk.injEq] at h2
   obtain⟨rfl,rfl⟩:=h2
   rw[List.map_cons,←intsOf_some hl]
  ·cases h
theorem VRL.ints {k:IntKind}:∀ {as:List Int} {ys:List Value},VRL γ (as.map (Value.int k)) ys→ys=as.map (Value.int k)
 | [],ys,h=>List.eq_nil_of_length_eq_zero (by have:=h.1;simpa using this.symm)
 | x::as,[],h=>by have:=h.1;simp at this
 | x::as,y::ys,h=>by
  obtain⟨h1,h2⟩:=VRL.uncons (by simpa using h)
  rw[h1.int_inv,VRL.ints h2,List.map_cons]
abbrev VO (γ:List G) (f:Fr) (a:Act) (l:Array Operand):Prop:=∀ y∈l.toList,okOpd y=true→VR γ (ev f y) (a.eval y)
theorem xmm_run (w:World) (k:IntKind) (isMax:Bool):∀ (l:List Operand) (x r:Int),xmm isMax x (l.map (ev f))=some r→(∀ y∈l,VR γ (ev f y) (a.eval y)) →
  ((l.map a.eval).foldlM (if isMax then Builtin.max2 else Builtin.min2) (.int k x)).run P w=.ok (.int k r) w
 | [],x,r,hx,_=>by simp[xmm] at hx;subst hx;simp
 | y::l,x,r,hx,hv=>by
  simp only[List.map_cons] at hx
  unfold xmm at hx
  split at hx
  ·rename_i heq;simp at heq
  ·rename_i a' k' b rest heq
   simp only[List.cons.injEq] at heq
   obtain⟨h1,rfl⟩:=heq
   have h2:=hv y (by simp)
   rw[h1] at h2
   have h3:=h2.int_inv
   have ih:=xmm_run w k isMax l _ r hx (fun z hz=>hv z (by simp[hz]))
   simp only[List.map_cons,List.foldlM_cons,h3,Sem.run_bind]
   cases isMax
   ·simp only[Bool.false_eq_true,if_false,Builtin.min2,Sem.run_pure,Result.andThen_ok] at ih ⊢;exact ih
   ·simp only[if_true,Builtin.max2,Sem.run_pure,Result.andThen_ok] at ih ⊢;exact ih
  ·cases hx
theorem bound_run {d:Int} {x:Option Operand} {l:Int} (hb:bound f d x=some l) (hok:x.all okOpd=true) (hv:∀ y,x=some y→VR γ (ev f y) (a.eval y)) :
  (x=none∧l=d)∨∃ y k,x=some y∧a.eval y=.int k l:=by
 cases x with
 | none=>left;simp[bound] at hb;exact⟨rfl,hb.symm⟩
 | some y=>
  right
  have h1:=hv y rfl
  simp only[bound] at hb
  split at hb
  ·rename_i k i he
   rw[he] at h1
   cases hb
   exact⟨y,k,rfl,h1.int_inv⟩
  ·cases hb
theorem xbin_int {op:BinOp} {x y r:Value} (hx:xbin op x y=some r):∃ k a k' b,x=.int k a∧y=.int k' b:=by
 unfold xbin at hx
 split at hx<;>first|exact⟨_,_,_,_,rfl,rfl⟩|cases hx
theorem bin_run (w:World) (op:BinOp) (t:TypeId) (x y:Operand) (X Y r:Value) (hX:a.eval x=X) (hY:a.eval y=Y) (hx:xbin op X Y=some r) :
  (do eqGuard op t x y (a.eval x) (a.eval y);binOp op t (a.eval x) (a.eval y)).run P w=.ok r w:=by
 obtain⟨k,m,k',n,rfl,rfl⟩:=xbin_int hx
 rw[hX,hY]
 cases op<;>simp only[xbin] at hx
 case add=>obtain⟨rfl,rfl⟩:=ite_some hx;simp[eqGuard,binOp,Op.intArith]
 case sub=>obtain⟨rfl,rfl⟩:=ite_some hx;simp[eqGuard,binOp,Op.intArith]
 case mul=>obtain⟨rfl,rfl⟩:=ite_some hx;simp[eqGuard,binOp,Op.intArith]
 case quo=>obtain⟨⟨rfl,h0⟩,rfl⟩:=ite_some hx;simp[eqGuard,binOp,Op.intDiv,h0]
 case rem=>obtain⟨⟨rfl,h0⟩,rfl⟩:=ite_some hx;simp[eqGuard,binOp,Op.intDiv,h0]
 case and=>obtain⟨rfl,rfl⟩:=ite_some hx;simp[eqGuard,binOp,Op.intBits]
 case or=>obtain⟨rfl,rfl⟩:=ite_some hx;simp[eqGuard,binOp,Op.intBits]
 case xor=>obtain⟨rfl,rfl⟩:=ite_some hx;simp[eqGuard,binOp,Op.intBits]
 case andNot=>obtain⟨rfl,rfl⟩:=ite_some hx;simp[eqGuard,binOp,Op.intBits]
 case shl=>obtain⟨h0,rfl⟩:=ite_some hx;simp[eqGuard,binOp,Op.shift,show ¬ n<0 by omega]
 case shr=>obtain⟨h0,rfl⟩:=ite_some hx;simp[eqGuard,binOp,Op.shift,show ¬ n<0 by omega]
 case eql=>obtain⟨rfl,rfl⟩:=ite_some hx;simp[eqGuard,binOp,Op.intCmp]
 case neq=>obtain⟨rfl,rfl⟩:=ite_some hx;simp[eqGuard,binOp,Op.intCmp]
 case lss=>obtain⟨rfl,rfl⟩:=ite_some hx;simp[eqGuard,binOp,Op.intCmp]
 case leq=>obtain⟨rfl,rfl⟩:=ite_some hx;simp[eqGuard,binOp,Op.intCmp]
 case gtr=>obtain⟨rfl,rfl⟩:=ite_some hx;simp[eqGuard,binOp,Op.intCmp]
 case geq=>obtain⟨rfl,rfl⟩:=ite_some hx;simp[eqGuard,binOp,Op.intCmp]
theorem eqb_run (w:World) (neg:Bool) (t:TypeId) (x y:Operand) (p q:Bool) (hX:a.eval x=.bool p) (hY:a.eval y=.bool q) (ht:P.underlying t=some .bool) :
  (do eqGuard (if neg then .neq else .eql) t x y (a.eval x) (a.eval y);binOp (if neg then .neq else .eql) t (a.eval x) (a.eval y)).run P w=.ok (.bool ((p==q) != neg)) w:=by
 rw[hX,hY]
 cases neg<;>simp[eqGuard,binOp,run_equal_bool w t p q ht]
theorem guard_agg (w:World) (neg:Bool) (t:TypeId) (x y:Operand) (X Y:Array Value) (hg:P.eqGuardType P.depth t=false) :
  (eqGuard (if neg then .neq else .eql) t x y (.agg X) (.agg Y)).run P w=.ok () w:=by
 cases neg <;>
 ·unfold eqGuard
  show (if (!true)=true then _ else _:Sem Unit).run P w=_
  rw[if_neg (by decide)]
  show Sem.run P (program >>= fun p=>if (!p.eqGuardType p.depth t)=true then pure () else _) w=_
  rw[Sem.run_bind,run_program,Result.andThen_ok,hg]
  rfl
theorem eqa_run (w:World) (neg:Bool) (t:TypeId) (x y:Operand) (K:IntKind) (xs ys:List Int) (n:Nat) (k:IntKind) (m:Nat) (e:TypeId)
  (hX:a.eval x=.agg (xs.map (Value.int K)).toArray) (hY:a.eval y=.agg (ys.map (Value.int K)).toArray) (ht:P.underlying t=some (.array m e)∨∃ fs,P.underlying t=some (.struct fs))
  (hf:flatT P 4 t=some (k,n)) (hg:P.eqGuardType P.depth t=false) (hx:xs.length=n) (hy:ys.length=n) :
  (do eqGuard (if neg then .neq else .eql) t x y (a.eval x) (a.eval y);binOp (if neg then .neq else .eql) t (a.eval x) (a.eval y)).run P w=.ok (.bool ((xs==ys) != neg)) w:=by
 have he:=eq_flat (P:=P) w K 9996 4 t k n hf xs ys hx hy
 have hfv:∀ zs:List Int,fv P t K zs=.agg (zs.map (Value.int K)).toArray:=fun zs=>by
  rcases ht with ht|⟨fs,ht⟩<;>simp only[fv,ht]
 simp only[hfv] at he
 have hq:(Op.equal t (.agg (xs.map (Value.int K)).toArray) (.agg (ys.map (Value.int K)).toArray)).run P w=.ok (xs==ys) w:=he
 rw[hX,hY]
 generalize (xs.map (Value.int K)).toArray=X at hq ⊢
 generalize (ys.map (Value.int K)).toArray=Y at hq ⊢
 generalize (xs==ys)=b at hq ⊢
 clear he hX hY hx hy hf
 rw[Sem.run_bind,guard_agg w neg t x y X Y hg,Result.andThen_ok]
 cases neg
 ·show ((Op.equal t (.agg X) (.agg Y)) >>= fun q=>pure (Value.bool q)).run P w=_
  rw[Sem.run_bind,hq,Result.andThen_ok]
  cases b<;>rfl
 ·show ((Op.equal t (.agg X) (.agg Y)) >>= fun q=>pure (Value.bool (!q))).run P w=_
  rw[Sem.run_bind,hq,Result.andThen_ok]
  cases b<;>rfl
theorem isnil_run (w:World) (neg:Bool) (t:TypeId) (x y:Operand) (A:Option Addr) (n c:Nat) (e:TypeId) (hX:a.eval x=.slice A n c) (hY:a.eval y=.slice none 0 0) (ht:P.underlying t=some (.slice e)) :
  (do eqGuard (if neg then .neq else .eql) t x y (a.eval x) (a.eval y);binOp (if neg then .neq else .eql) t (a.eval x) (a.eval y)).run P w=.ok (.bool (A.isNone != neg)) w:=by
 rw[hX,hY]
 have hD:∀ D,(Op.equalIn (D+1) t (.slice A n c) (.slice none 0 0)).run P w=.ok A.isNone w:=by
  intro D
  cases A<;>simp[Op.equalIn,run_underlying ht]
 have hq:(Op.equal t (.slice A n c) (.slice none 0 0)).run P w=.ok A.isNone w:=hD 9999
 cases neg
 ·show ((Op.equal t (.slice A n c) (.slice none 0 0)) >>= fun q=>pure (Value.bool q)).run P w=_
  rw[Sem.run_bind,hq,Result.andThen_ok]
  cases A<;>rfl
 ·show ((Op.equal t (.slice A n c) (.slice none 0 0)) >>= fun q=>pure (Value.bool (!q))).run P w=_
  rw[Sem.run_bind,hq,Result.andThen_ok]
  cases A<;>rfl
variable {P:Program} {B:Nat} {γ:List G} {h h':AH} {w:World} {f:Fr} {a:Act} {v:Value}
theorem run_und {t:TypeId} {d:TypeDesc} (hd:P.underlying t=some d) (w:World):(underlying t).run P w=.ok d w:=run_underlying hd w
theorem add_at (b o n:Nat):(⟨b,o,none⟩:Addr).add n=⟨b,o+n,none⟩:=by unfold Addr.add;split<;>simp_all
theorem part_run {t:TypeId} {b:Bool} {n:Nat} (h1:aggT P t=some b) (h2:sizeT P t=some n) (cs:Array Value) (off:Nat) (w:World) :
  (part t cs off).run P w=if b then .ok (.agg (cs.extract off (off+n))) w else match cs[off]? with
   | some v=>.ok v w
   | none=>.halt (.stuck "part: no such cell") w:=by
 cases b
 ·simp only[part,Sem.run_bind,run_isAgg h1,Result.andThen_ok,Bool.false_eq_true,if_false]
  cases cs[off]?<;>rfl
 ·simp only[part,Sem.run_bind,run_isAgg h1,Result.andThen_ok,if_true,run_size h2,Sem.run_pure]
theorem VRL.extract {xs ys:Array Value} (hh:VRL γ xs.toList ys.toList) (off n:Nat):VRL γ ((xs.toList.drop off).take n) (ys.extract off (off+n)).toList:=by
 have e:(ys.extract off (off+n)).toList=(ys.toList.drop off).take n:=by
  rw[Array.toList_extract]
  show List.extract _ _ _=_
  unfold List.extract
  rw[Nat.add_sub_cancel_left]
 rw[e]
 exact (hh.drop off).take n
theorem slc_lit (A:Option Addr) (len cap size l u:Nat) (t e:TypeId) (lo hi:Option Value) (hu:P.underlying t=some (.slice e)) (hs:sizeT P e=some size)
  (hlo:(lo=none∧l=0)∨∃ k,lo=some (.int k l)) (hhi:(hi=none∧u=len)∨∃ k,hi=some (.int k u)) (h1:l≤u) (h2:u≤cap) (w:World) :
  (Instr.sliceAt t (.slice A len cap) lo hi none).run P w=.ok (.slice (if cap=l then A else A.map (·.add (l*size))) (u-l) (cap-l)) w:=by
 have hlu:l≤u:=h1
 rcases hlo with⟨rfl,rfl⟩|⟨k,rfl⟩<;>rcases hhi with⟨rfl,rfl⟩|⟨k',rfl⟩ <;>
  simp[Instr.sliceAt,run_und hu,Instr.slice,Instr.sliceBounds,Instr.sliceBound,asIntOf,run_size hs,h2,hlu]
theorem pure_sound {o:Oper} {x:XOp} (hc:compOp P o.op=some x) (hcl:cls x=0) (hx:xop x f h=some (v,h')) (hv:VO γ f a o.op.operands) :
  h'=h∧OpPure P γ w a o v:=by
 obtain⟨dst,op,ty,pos,after,guard⟩:=o
 simp only[] at hc hv
 cases op with
 | move y=>
  obtain⟨h1,rfl⟩:=ite_some (by simpa [compOp] using hc)
  simp only[xop,Option.some.injEq,Prod.mk.injEq] at hx
  obtain⟨rfl,rfl⟩:=hx
  exact⟨rfl,.value _,_,rfl,rfl,hv y (by simp[Op.operands]) h1⟩
 | assign y=>
  obtain⟨h1,rfl⟩:=ite_some (by simpa [compOp] using hc)
  simp only[xop,Option.some.injEq,Prod.mk.injEq] at hx
  obtain⟨rfl,rfl⟩:=hx
  exact⟨rfl,.value _,_,rfl,rfl,hv y (by simp[Op.operands]) h1⟩
 | pick c y z=>
  obtain⟨h1,rfl⟩:=ite_some hc
  simp only[Bool.and_eq_true] at h1
  have hcv:=hv c (by simp[Op.operands]) h1.1.1
  simp only[xop] at hx
  split at hx
  ·rename_i t ht
   rw[ht] at hcv
   simp only[Option.some.injEq,Prod.mk.injEq] at hx
   obtain⟨rfl,rfl⟩:=hx
   refine⟨rfl,.value (if t then a.eval y else a.eval z),_,by simp[execOp,hcv.bool_inv,asBool],rfl,?_⟩
   cases t
   ·exact hv z (by simp[Op.operands]) h1.2
   ·exact hv y (by simp[Op.operands]) h1.1.2
  ·cases hx
 | build t parts=>
  simp only[compOp] at hc
  split at hc
  ·rename_i z fs hz hu
   obtain⟨h1,h2⟩:=ite_none hc
   obtain⟨l,hl,rfl⟩:=map_some h2
   simp only[xop] at hx
   split at hx
   ·rename_i c hf
    obtain⟨h3,h4⟩:=ite_some hx
    simp only[Prod.mk.injEq] at h4
    obtain⟨rfl,rfl⟩:=h4
    obtain⟨cs,h5,h6⟩:=build_run (γ:=γ) (a:=a) (w:=w) hz (.inl ⟨fs,hu,h1⟩) hl hf (fun p hp=>hv p.2 (by simp[Op.operands];exact⟨p.1,by simpa using hp⟩))
    exact⟨rfl,.value _,_,by simp only[execOp,Sem.run_bind,h5,Result.andThen_ok,Sem.run_pure],rfl,VR.aggL h6⟩
   ·cases hx
  ·rename_i z n e hz hu
   obtain⟨h1,h2⟩:=ite_none hc
   obtain⟨l,hl,rfl⟩:=map_some h2
   simp only[xop] at hx
   split at hx
   ·rename_i c hf
    obtain⟨h3,h4⟩:=ite_some hx
    simp only[Prod.mk.injEq] at h4
    obtain⟨rfl,rfl⟩:=h4
    obtain⟨cs,h5,h6⟩:=build_run (γ:=γ) (a:=a) (w:=w) hz (.inr ⟨n,e,hu,h1⟩) hl hf (fun p hp=>hv p.2 (by simp[Op.operands];exact⟨p.1,by simpa using hp⟩))
    exact⟨rfl,.value _,_,by simp only[execOp,Sem.run_bind,h5,Result.andThen_ok,Sem.run_pure],rfl,VR.aggL h6⟩
   ·cases hx
  ·cases hc
 | binOp op t y z yt=>
  obtain⟨h1,h2⟩:=ite_none hc
  simp only[Bool.and_eq_true] at h1
  have hy:=hv y (by simp[Op.operands]) h1.1
  have hz:=hv z (by simp[Op.operands]) h1.2
  split at h2
  ·rename_i k hu
   cases h2
   simp only[xop] at hx
   obtain⟨r,hr,hr2⟩:=map_some hx
   simp only[Prod.mk.injEq] at hr2
   obtain⟨rfl,rfl⟩:=hr2
   obtain⟨k1,m1,k2,m2,e1,e2⟩:=xbin_int hr
   rw[e1] at hy hr
   rw[e2] at hz hr
   have hrun:=bin_run (P:=P) w op t y z _ _ r hy.int_inv hz.int_inv hr
   refine⟨rfl,.value r,r,?_,rfl,?_⟩
   ·simp only[execOp,Sem.run_bind] at hrun ⊢
    rw[hrun];rfl
   ·cases op<;>simp only[xbin] at hr<;>(obtain⟨_,rfl⟩:=ite_some hr)<;>constructor
  ·rename_i hu
   have key:∀ neg,op=(if neg then BinOp.neq else .eql)→x=.eqb neg y z→h'=h∧OpPure P γ w a ⟨dst,.binOp op t y z yt,ty,pos,after,guard⟩ v:=by
    rintro neg rfl rfl
    simp only[xop] at hx
    split at hx
    ·rename_i p q hp hq
     rw[hp] at hy
     rw[hq] at hz
     simp only[Option.some.injEq,Prod.mk.injEq] at hx
     obtain⟨rfl,rfl⟩:=hx
     have hrun:=eqb_run (P:=P) w neg t y z p q hy.bool_inv hz.bool_inv hu
     refine⟨rfl,.value _,_,?_,rfl,.bool _⟩
     simp only[execOp,Sem.run_bind] at hrun ⊢
     rw[hrun];rfl
    ·cases hx
   cases op<;>simp only[Option.some.injEq,reduceCtorEq] at h2
   ·exact key false rfl h2.symm
   ·exact key true rfl h2.symm
  ·rename_i m e hu
   split at h2
   ·rename_i k n hf hg
    have key:∀ neg,op=(if neg then BinOp.neq else .eql)→x=.eqa neg n y z→h'=h∧OpPure P γ w a ⟨dst,.binOp op t y z yt,ty,pos,after,guard⟩ v:=by
     rintro neg rfl rfl
     simp only[xop] at hx
     split at hx
     ·rename_i xs ys hp hq
      split at hx
      ·rename_i k1 as k2 bs h3 h4
       obtain⟨⟨rfl,h6,h7⟩,h5⟩:=ite_some hx
       simp only[Prod.mk.injEq] at h5
       obtain⟨rfl,rfl⟩:=h5
       rw[hp] at hy
       rw[hq] at hz
       obtain⟨xs',e1,g1⟩:=hy.agg_inv
       obtain⟨ys',e2,g2⟩:=hz.agg_inv
       rw[intsOf_some h3] at g1
       rw[intsOf_some h4] at g2
       have e3:xs'=(as.map (Value.int k1)).toArray:=by rw[←g1.ints]
       have e4:ys'=(bs.map (Value.int k1)).toArray:=by rw[←g2.ints]
       have hrun:=eqa_run (P:=P) w neg t y z k1 as bs n k m e (e1.trans (by rw[e3])) (e2.trans (by rw[e4])) (.inl hu) hf hg h6 h7
       refine⟨rfl,.value _,_,?_,rfl,.bool _⟩
       simp only[execOp,Sem.run_bind] at hrun ⊢
       rw[hrun];rfl
      ·cases hx
     ·cases hx
    cases op<;>simp only[Option.some.injEq,reduceCtorEq] at h2
    ·exact key false rfl h2.symm
    ·exact key true rfl h2.symm
   ·cases h2
  ·rename_i fs hu
   split at h2
   ·rename_i k n hf hg
    have key:∀ neg,op=(if neg then BinOp.neq else .eql)→x=.eqa neg n y z→h'=h∧OpPure P γ w a ⟨dst,.binOp op t y z yt,ty,pos,after,guard⟩ v:=by
     rintro neg rfl rfl
     simp only[xop] at hx
     split at hx
     ·rename_i xs ys hp hq
      split at hx
      ·rename_i k1 as k2 bs h3 h4
       obtain⟨⟨rfl,h6,h7⟩,h5⟩:=ite_some hx
       simp only[Prod.mk.injEq] at h5
       obtain⟨rfl,rfl⟩:=h5
       rw[hp] at hy
       rw[hq] at hz
       obtain⟨xs',e1,g1⟩:=hy.agg_inv
       obtain⟨ys',e2,g2⟩:=hz.agg_inv
       rw[intsOf_some h3] at g1
       rw[intsOf_some h4] at g2
       have e3:xs'=(as.map (Value.int k1)).toArray:=by rw[←g1.ints]
       have e4:ys'=(bs.map (Value.int k1)).toArray:=by rw[←g2.ints]
       have hrun:=eqa_run (P:=P) w neg t y z k1 as bs n k 0 t (e1.trans (by rw[e3])) (e2.trans (by rw[e4])) (.inr ⟨fs,hu⟩) hf hg h6 h7
       refine⟨rfl,.value _,_,?_,rfl,.bool _⟩
       simp only[execOp,Sem.run_bind] at hrun ⊢
       rw[hrun];rfl
      ·cases hx
     ·cases hx
    cases op<;>simp only[Option.some.injEq,reduceCtorEq] at h2
    ·exact key false rfl h2.symm
    ·exact key true rfl h2.symm
   ·cases h2
  ·rename_i e hu
   split at h2
   ·have key:∀ neg,op=(if neg then BinOp.neq else .eql)→x=.isnil neg y→h'=h∧OpPure P γ w a ⟨dst,.binOp op t y (.const (.slice none 0 0)) yt,ty,pos,after,guard⟩ v:=by
     rintro neg rfl rfl
     have done:∀ (A:Option Addr) n c,a.eval y=.slice A n c→v=.bool (A.isNone != neg)→h'=h→h'=h∧OpPure P γ w a ⟨dst,.binOp (if neg then BinOp.neq else .eql) t y (.const (.slice none 0 0)) yt,ty,pos,after,guard⟩ v:=by
      rintro A n c e1 rfl e2
      have hrun:=isnil_run (P:=P) (a:=a) w neg t y (.const (.slice none 0 0)) A n c e e1 rfl hu
      refine⟨e2,.value _,_,?_,rfl,.bool _⟩
      simp only[execOp,Sem.run_bind] at hrun ⊢
      rw[hrun];rfl
     simp only[xop] at hx
     split at hx
     ·rename_i he
      rw[he] at hy
      obtain⟨_,h3⟩:=hy.nil_inv
      simp at h3
      simp only[Option.some.injEq,Prod.mk.injEq] at hx
      obtain⟨rfl,rfl⟩:=hx
      exact done none 0 0 h3 (by cases neg<;>rfl) rfl
     ·rename_i ad n c he
      rw[he] at hy
      obtain⟨ad1,ad2,ad3⟩:=ad
      obtain⟨_,g,_,_,_,e1⟩:=hy.slc_inv
      simp only[Option.some.injEq,Prod.mk.injEq] at hx
      obtain⟨rfl,rfl⟩:=hx
      exact done _ _ _ e1 (by cases neg<;>rfl) rfl
     ·cases hx
    cases op<;>simp only[Option.some.injEq,reduceCtorEq] at h2
    ·exact key false rfl h2.symm
    ·exact key true rfl h2.symm
   ·cases h2
  ·cases h2
 | nilCheck y=>
  obtain⟨h1,rfl⟩:=ite_some hc
  have hy:=hv y (by simp[Op.operands]) h1
  simp only[xop] at hx
  split at hx
  ·rename_i p he
   rw[he] at hy
   simp only[Option.some.injEq,Prod.mk.injEq] at hx
   obtain⟨rfl,rfl⟩:=hx
   obtain⟨q,hq⟩:∃ q,a.eval y=.pointer (some q):=by
    generalize a.eval y=u at hy
    cases hy with
    | ptr n off g hg=>exact⟨_,rfl⟩
   refine⟨rfl,.value (a.eval y),_,by simp[execOp,hq],rfl,hy⟩
  ·cases hx
 | unOp op t y=>
  obtain⟨h1,rfl⟩:=ite_some hc
  have hy:=hv y (by simp[Op.operands]) h1
  simp only[xop] at hx
  obtain⟨r,hr,hr2⟩:=map_some hx
  simp only[Prod.mk.injEq] at hr2
  obtain⟨rfl,rfl⟩:=hr2
  unfold xun at hr
  split at hr
  ·rename_i b he
   rw[he] at hy
   cases hr
   exact⟨rfl,.value _,_,by simp[execOp,hy.bool_inv,Op.unary],rfl,.bool _⟩
  ·rename_i k n he
   rw[he] at hy
   cases hr
   exact⟨rfl,.value _,_,by simp[execOp,hy.int_inv,Op.unary,Op.intArith],rfl,.int _ _⟩
  ·cases hr
 | convert s d y=>
  obtain⟨h1,h2⟩:=ite_none hc
  have hy:=hv y (by simp[Op.operands]) h1
  split at h2
  ·rename_i k1 k2 hs hd
   cases h2
   simp only[xop] at hx
   split at hx
   ·rename_i k n he
    rw[he] at hy
    simp only[Option.some.injEq,Prod.mk.injEq] at hx
    obtain⟨rfl,rfl⟩:=hx
    exact⟨rfl,.value _,_,by simp[execOp,hy.int_inv,convert,run_und hs,run_und hd,Conv.intToInt],rfl,.int _ _⟩
   ·cases hx
  ·cases h2
 | fieldAddr s y fi=>
  obtain⟨h1,h2⟩:=ite_none hc
  have hy:=hv y (by simp[Op.operands]) h1
  split at h2
  ·rename_i fs hu
   split at h2
   ·rename_i fd hfd
    split at h2
    ·rename_i i hi
     obtain⟨h3,rfl⟩:=ite_some h2
     simp only[xop] at hx
     split at hx
     ·rename_i n off sp he
      rw[he] at hy
      obtain⟨_,g,hg,e1⟩:=hy.ptr_inv
      simp only[Option.some.injEq,Prod.mk.injEq] at hx
      obtain⟨rfl,rfl⟩:=hx
      refine⟨rfl,.value (.pointer (some ⟨g.b,g.o+(off+fd.offset),none⟩)),_,?_,rfl,.ptr n (off+fd.offset) g hg⟩
      have hne:i.size≠0:=by omega
      simp[execOp,e1,Instr.fieldAt,run_und hu,hfd,Instr.sureAddr,fieldPlace,sizeOf,typeInfo,hi,hne,add_at,Nat.add_assoc]
     ·cases hx
    ·cases h2
   ·cases h2
  ·cases h2
 | field t y fi=>
  obtain⟨h1,h2⟩:=ite_none hc
  have hy:=hv y (by simp[Op.operands]) h1
  split at h2
  ·rename_i fs hu
   split at h2
   ·rename_i fd hfd
    split at h2
    ·rename_i n ha hs
     cases h2
     simp only[xop] at hx
     split at hx
     ·rename_i cs he
      rw[he] at hy
      obtain⟨ys,e1,g1⟩:=hy.agg_inv
      obtain⟨h3,h4⟩:=ite_some hx
      simp only[Prod.mk.injEq] at h4
      obtain⟨rfl,rfl⟩:=h4
      refine⟨rfl,.value (.agg (ys.extract fd.offset (fd.offset+n))),_,?_,rfl,?_⟩
      ·simp[execOp,e1,Instr.field,run_und hu,hfd,asAgg,part_run ha hs]
      ·have:=VR.aggL (g1.extract fd.offset n)
       rw[Array.toArray_toList] at this
       exact this
     ·cases hx
    ·rename_i n ha hs
     cases h2
     simp only[xop] at hx
     split at hx
     ·rename_i cs he
      rw[he] at hy
      obtain⟨ys,e1,g1⟩:=hy.agg_inv
      split at hx
      ·rename_i u hu'
       simp only[Option.some.injEq,Prod.mk.injEq] at hx
       obtain⟨rfl,rfl⟩:=hx
       obtain⟨u',h3,h4⟩:=g1.get hu'
       refine⟨rfl,.value u',_,?_,rfl,h4⟩
       have h5:ys[fd.offset]?=some u':=by simpa using h3
       simp[execOp,e1,Instr.field,run_und hu,hfd,asAgg,part_run ha hs,h5]
      ·cases hx
     ·cases hx
    ·cases h2
   ·cases h2
  ·cases h2
 | indexAddr t y i=>
  obtain⟨h1,h2⟩:=ite_none hc
  simp only[Bool.and_eq_true] at h1
  have hy:=hv y (by simp[Op.operands]) h1.1
  have hi:=hv i (by simp[Op.operands]) h1.2
  split at h2
  ·rename_i n e hu
   obtain⟨s,hs,rfl⟩:=map_some h2
   simp only[xop] at hx
   split at hx
   ·rename_i m off sp k j he hj
    rw[he] at hy
    rw[hj] at hi
    obtain⟨_,g,hg,e1⟩:=hy.ptr_inv
    obtain⟨⟨h3,h3'⟩,h4⟩:=ite_some hx
    simp only[Prod.mk.injEq] at h4
    obtain⟨rfl,rfl⟩:=h4
    refine⟨rfl,.value (.pointer (some ⟨g.b,g.o+(off+j.toNat*s),none⟩)),_,?_,rfl,.ptr _ _ g hg⟩
    simp[execOp,e1,hi.int_inv,Instr.indexAt,asIntOf,run_und hu,Instr.sureAddr,h3,h3',run_size hs,add_at,Nat.add_assoc]
   ·cases hx
  ·rename_i e hu
   obtain⟨s,hs,rfl⟩:=map_some h2
   simp only[xop] at hx
   split at hx
   ·rename_i m off sp len sz k j he hj
    rw[he] at hy
    rw[hj] at hi
    obtain⟨_,g,hg,hsz,hcap,e1⟩:=hy.slc_inv
    obtain⟨⟨h3,h3',rfl⟩,h4⟩:=ite_some hx
    simp only[Prod.mk.injEq] at h4
    obtain⟨rfl,rfl⟩:=h4
    refine⟨rfl,.value (.pointer (some ⟨g.b,g.o+(off+j.toNat*sz),none⟩)),_,?_,rfl,.ptr _ _ g hg⟩
    simp[execOp,e1,hi.int_inv,Instr.indexAt,asIntOf,run_und hu,h3,h3',run_size hs,add_at,Nat.add_assoc]
   ·cases hx
  ·cases h2
 | index t y i=>
  by_cases hstr:∃ s,y=.const (.string s)
  ·obtain⟨s,rfl⟩:=hstr
   obtain⟨h1,h2⟩:=ite_none hc
   have hi:=hv i (by simp[Op.operands]) h1
   split at h2
   ·rename_i hu
    cases h2
    simp only[xop] at hx
    split at hx
    ·rename_i k j hj
     rw[hj] at hi
     obtain⟨h3,h4⟩:=ite_none hx
     split at h4
     ·rename_i b hb
      simp only[Option.some.injEq,Prod.mk.injEq] at h4
      obtain⟨rfl,rfl⟩:=h4
      simp only[List.getElem?_map,Option.map_eq_some_iff] at hb
      obtain⟨c,hc1,rfl⟩:=hb
      have hlt:j.toNat<s.size:=by
       have:=(List.getElem?_eq_some_iff.1 hc1).1
       simpa using this
      have hget:s[j.toNat]?=some c:=by
       rw[getElem?_pos s j.toNat hlt]
       have:=(List.getElem?_eq_some_iff.1 hc1).2
       rw[←this];rfl
      refine⟨rfl,.value _,_,?_,rfl,.int _ _⟩
      have ec:a.eval (.const (.string s))=.string s:=rfl
      simp[execOp,ec,hi.int_inv,Instr.index,asIntOf,run_und hu,h3,hget]
     ·cases h4
    ·cases hx
   ·cases h2
  ·have hc':(if okOpd y&&okOpd i then match P.underlying t with
     | some (.array n e)=>match aggT P e,sizeT P e with
      | some true,some s=>some (XOp.idxn n s y i)
      | some false,some s=>if s==1 then some (.idx1 n y i) else none
      | _,_=>none
     | some .string=>some (.idxt y i)
     | _=>none else none)=some x:=by
    rw[←hc]
    cases y with
    | const u=>cases u<;>first|rfl|exact absurd ⟨_,rfl⟩ hstr
    | _=>rfl
   obtain⟨h1,h2⟩:=ite_none hc'
   simp only[Bool.and_eq_true] at h1
   have hy:=hv y (by simp[Op.operands]) h1.1
   have hi:=hv i (by simp[Op.operands]) h1.2
   split at h2
   ·rename_i n e hu
    split at h2
    ·rename_i s ha hs
     cases h2
     simp only[xop] at hx
     split at hx
     ·rename_i cs k j he hj
      rw[he] at hy
      rw[hj] at hi
      obtain⟨ys,e1,g1⟩:=hy.agg_inv
      obtain⟨⟨h3,h3',h5⟩,h4⟩:=ite_some hx
      simp only[Prod.mk.injEq] at h4
      obtain⟨rfl,rfl⟩:=h4
      refine⟨rfl,.value (.agg (ys.extract (j.toNat*s) (j.toNat*s+s))),_,?_,rfl,?_⟩
      ·simp[execOp,e1,hi.int_inv,Instr.index,asIntOf,run_und hu,h3,h3',run_size hs,part_run ha hs]
      ·have:=VR.aggL (g1.extract (j.toNat*s) s)
       rw[Array.toArray_toList] at this
       exact this
     ·cases hx
    ·rename_i s ha hs
     obtain⟨hs1,rfl⟩:=ite_some h2
     have hs1:s=1:=by simpa using hs1
     subst hs1
     simp only[xop] at hx
     split at hx
     ·rename_i cs k j he hj
      rw[he] at hy
      rw[hj] at hi
      obtain⟨ys,e1,g1⟩:=hy.agg_inv
      obtain⟨⟨h3,h3'⟩,h4⟩:=ite_none hx
      split at h4
      ·rename_i u hu'
       simp only[Option.some.injEq,Prod.mk.injEq] at h4
       obtain⟨rfl,rfl⟩:=h4
       obtain⟨u',h5,h6⟩:=g1.get hu'
       have h7:ys[j.toNat]?=some u':=by simpa using h5
       refine⟨rfl,.value u',_,?_,rfl,h6⟩
       simp[execOp,e1,hi.int_inv,Instr.index,asIntOf,run_und hu,h3,h3',run_size hs,part_run ha hs,h7]
      ·cases h4
     ·cases hx
    ·cases h2
   ·rename_i hu
    cases h2
    simp only[xop] at hx
    split at hx
    ·rename_i s k j he hj
     rw[he] at hy
     rw[hj] at hi
     obtain⟨h3,h4⟩:=ite_none hx
     split at h4
     ·rename_i b hb
      simp only[Option.some.injEq,Prod.mk.injEq] at h4
      obtain⟨rfl,rfl⟩:=h4
      have e1:a.eval y=.string s:=by
       generalize a.eval y=q at hy
       cases hy
       rfl
      refine⟨rfl,.value _,_,?_,rfl,.int _ _⟩
      simp[execOp,e1,hi.int_inv,Instr.index,asIntOf,run_und hu,h3,hb]
     ·cases h4
    ·cases hx
   ·cases h2
 | slice t y lo hi mx=>
  obtain⟨h1,h2⟩:=ite_none hc
  simp only[Bool.and_eq_true] at h1
  have hy:=hv y (by simp[Op.operands]) h1.1.1
  split at h2
  ·rename_i e hu
   split at h2
   ·rename_i z i hz hi'
    obtain⟨i',y',hi2,_,_,_,_,hpos⟩:=zeroT_some hz
    rw[hi'] at hi2;cases hi2
    have hs:sizeT P e=some i.size:=by simp[sizeT,hi']
    split at h2
    ·cases h2
     simp only[xop] at hx
     have hlo:∀ y,lo=some y→VR γ (ev f y) (a.eval y):=by
      rintro q rfl;exact hv q (by simp[Op.operands]) (by simpa using h1.1.2)
     have hhi:∀ y,hi=some y→VR γ (ev f y) (a.eval y):=by
      rintro q rfl;exact hv q (by simp[Op.operands]) (by simpa using h1.2)
     split at hx
     ·rename_i n off sp len sz he
      rw[he] at hy
      obtain⟨_,g,hg,hsz,hcap,e1⟩:=hy.slc_inv
      split at hx
      ·rename_i l u hbl hbu
       have bl:=bound_run hbl h1.1.2 hlo
       have bu:=bound_run hbu h1.2 hhi
       have hcl:len≤(g.cap-off) / sz:=by rw[Nat.le_div_iff_mul_le hsz];omega
       have run:∀ (l' u':Nat),l=l'→u=u'→sz=i.size→l'≤u'→u'≤len →
         (Instr.sliceAt t (a.eval y) (lo.map a.eval) (hi.map a.eval) ((none:Option Operand).map a.eval)).run P w=.ok (.slice (if (g.cap-off) / sz=l' then some ⟨g.b,g.o+off,none⟩ else some ⟨g.b,g.o+off+l'*sz,none⟩) (u'-l') ((g.cap-off) / sz-l')) w:=by
        intro l' u' hl' hu' hsz' h3 h4
        rw[e1]
        have:=slc_lit (P:=P) (some ⟨g.b,g.o+off,none⟩) len ((g.cap-off) / sz) i.size l' u' t e (lo.map a.eval) (hi.map a.eval) hu hs (by
         rcases bl with⟨rfl,hz⟩|⟨q,k,rfl,hz⟩
         ·left;exact⟨rfl,by omega⟩
         ·right;exact⟨k,by simp[hz,hl']⟩) (by
         rcases bu with⟨rfl,hz⟩|⟨q,k,rfl,hz⟩
         ·left;exact⟨rfl,by omega⟩
         ·right;exact⟨k,by simp[hz,hu']⟩) h3 (by omega) w
        rw[show ((none:Option Operand).map a.eval)=none from rfl,this,Option.map_some,add_at,hsz']
       by_cases hA:sz=i.size∧0≤l∧l<u∧u≤len
       ·rw[if_pos hA] at hx
        obtain⟨rfl,hl0,hlu,hul⟩:=hA
        simp only[Option.some.injEq,Prod.mk.injEq] at hx
        obtain⟨rfl,rfl⟩:=hx
        have hr:=run l.toNat u.toNat (by omega) (by omega) rfl (by omega) (by omega)
        rw[if_neg (by omega)] at hr
        refine⟨rfl,.value _,_,by (simp only[execOp,Sem.run_bind,hr,Result.andThen_ok,Sem.run_pure];try rfl),rfl,?_⟩
        have e2:(g.cap-off) / i.size-l.toNat=(g.cap-(off+l.toNat*i.size)) / i.size:=by
         rw[Nat.sub_add_eq,Nat.mul_comm l.toNat,Nat.sub_mul_div]
        rw[e2,show u.toNat-l.toNat=(u-l).toNat by omega,Nat.add_assoc]
        refine .slc n (off+l.toNat*i.size) (u-l).toNat i.size g hg hsz ?_
        have:l.toNat*i.size+(u-l).toNat*i.size≤len*i.size:=by
         rw[←Nat.add_mul];exact Nat.mul_le_mul_right _ (by omega)
        omega
       ·rw[if_neg hA] at hx
        by_cases hZ:sz=i.size∧lo=none∧l=0∧u=0
        ·rw[if_pos hZ] at hx
         obtain⟨rfl,rfl,rfl,rfl⟩:=hZ
         simp only[Option.some.injEq,Prod.mk.injEq] at hx
         obtain⟨rfl,rfl⟩:=hx
         have hr:=run 0 0 rfl rfl rfl (Nat.le_refl _) (Nat.zero_le _)
         refine⟨rfl,.value _,_,by (simp only[execOp,Sem.run_bind,hr,Result.andThen_ok,Sem.run_pure];try rfl),rfl,?_⟩
         rw[Nat.zero_mul,Nat.add_zero,ite_self,Nat.sub_zero]
         exact .slc n off 0 i.size g hg hsz (by omega)
        rw[if_neg hZ] at hx
        obtain⟨⟨rfl,hl0,rfl,hul⟩,h4⟩:=ite_some hx
        simp only[Prod.mk.injEq] at h4
        obtain⟨rfl,rfl⟩:=h4
        have hr:=run l.toNat l.toNat (by omega) (by omega) rfl (Nat.le_refl _) (by omega)
        refine⟨rfl,.value _,_,by (simp only[execOp,Sem.run_bind,hr,Result.andThen_ok,Sem.run_pure];try rfl),rfl,?_⟩
        rw[Nat.sub_self]
        exact .emp _ _
      ·cases hx
     ·rename_i tt he
      rw[he] at hy
      obtain⟨_,h3⟩:=hy.nil_inv
      split at hx
      ·rename_i l u hbl hbu
       obtain⟨⟨rfl,rfl⟩,h4⟩:=ite_some hx
       simp only[Prod.mk.injEq] at h4
       obtain⟨rfl,rfl⟩:=h4
       have bl:=bound_run hbl h1.1.2 hlo
       have bu:=bound_run hbu h1.2 hhi
       have run:∀ (A:Option Addr) (c:Nat),a.eval y=.slice A 0 c →
         (Instr.sliceAt t (a.eval y) (lo.map a.eval) (hi.map a.eval) ((none:Option Operand).map a.eval)).run P w=.ok (.slice A 0 c) w:=by
        intro A c e1
        rw[e1]
        have:=slc_lit (P:=P) A 0 c i.size 0 0 t e (lo.map a.eval) (hi.map a.eval) hu hs (by
         rcases bl with⟨rfl,hz⟩|⟨q,k,rfl,hz⟩
         ·left;exact⟨rfl,rfl⟩
         ·right;exact⟨k,by simp[hz]⟩) (by
         rcases bu with⟨rfl,hz⟩|⟨q,k,rfl,hz⟩
         ·left;exact⟨rfl,rfl⟩
         ·right;exact⟨k,by simp[hz]⟩) (Nat.le_refl _) (Nat.zero_le _) w
        rw[show ((none:Option Operand).map a.eval)=none from rfl,this]
        congr 2
        ·cases A with
         | none=>simp
         | some q=>simp[Addr.add]
       rcases h3 with⟨rfl,e1⟩|⟨rfl,A,c,e1⟩|⟨rfl,A,e1⟩
       ·exact⟨rfl,.value _,_,by (simp only[execOp,Sem.run_bind,run _ _ e1,Result.andThen_ok,Sem.run_pure];try rfl),rfl,.nils⟩
       ·exact⟨rfl,.value _,_,by (simp only[execOp,Sem.run_bind,run _ _ e1,Result.andThen_ok,Sem.run_pure];try rfl),rfl,.emp _ _⟩
       ·exact⟨rfl,.value _,_,by (simp only[execOp,Sem.run_bind,run _ _ e1,Result.andThen_ok,Sem.run_pure];try rfl),rfl,.zcap _⟩
      ·cases hx
     ·cases hx
    ·rename_i k m
     split at h2
     ·rename_i k' hh
      obtain⟨h3,rfl⟩:=ite_some h2
      simp only[Bool.and_eq_true,beq_iff_eq] at h3
      obtain⟨rfl,rfl⟩:=h3
      have done:∀ (A:Option Addr) n c,a.eval y=.slice A n c→v=.slice none 0 2→h'=h→h'=h∧OpPure P γ w a ⟨dst,.slice t y none (some (.const (.int k' 0))) (some (.const (.int k 0))),ty,pos,after,guard⟩ v:=by
       rintro A n c e1 rfl e2
       refine⟨e2,.value (.slice A 0 0),_,?_,rfl,.zcap A⟩
       simp[execOp,e1,show ∀ v,a.eval (.const v)=v from fun _=>rfl,Instr.sliceAt,run_und hu,Instr.slice,Instr.sliceBounds,Instr.sliceBound,asIntOf,run_size hs]
      simp only[xop] at hx
      split at hx
      ·rename_i ad n c he
       rw[he] at hy
       obtain⟨q,cc,e1,_⟩:=hy.len_inv
       simp only[Option.some.injEq,Prod.mk.injEq] at hx
       exact done _ _ _ e1 hx.1.symm hx.2.symm
      ·rename_i c he
       rw[he] at hy
       obtain⟨q,cc,e1,_⟩:=hy.len_inv
       simp only[Option.some.injEq,Prod.mk.injEq] at hx
       exact done _ _ _ e1 hx.1.symm hx.2.symm
      ·cases hx
     ·cases h2
    ·cases h2
   ·cases h2
  ·rename_i n e hu
   split at h2
   ·split at h2
    ·cases h2;simp[cls] at hcl
    ·cases h2
   ·cases h2
  ·cases h2
 | makeFunc fn first cap=>
  cases fn with
  | func g=>
   obtain⟨h1,rfl⟩:=ite_some hc
   simp only[Bool.and_eq_true] at h1
   have hf1:first=#[]:=by simpa using h1.1
   subst hf1
   simp only[xop,Option.some.injEq,Prod.mk.injEq] at hx
   obtain⟨rfl,rfl⟩:=hx
   refine⟨rfl,.value (.func (.func g) #[] (cap.map a.eval)),_,by simp[execOp,Instr.makeFunc],rfl,.func g _ _ (by simp) ?_⟩
   intro i u u' hu hu'
   simp only[List.getElem?_toArray,List.getElem?_map,Option.map_eq_some_iff,Array.getElem?_toList] at hu
   simp only[Array.getElem?_map,Option.map_eq_some_iff] at hu'
   obtain⟨y,h3,rfl⟩:=hu
   obtain⟨y',h4,rfl⟩:=hu'
   rw[h3] at h4;cases h4
   exact hv y (by simp[Op.operands];exact Array.mem_of_getElem? h3) (List.all_eq_true.1 h1.2 y (by simpa using Array.mem_of_getElem? h3))
  | _=>simp[compOp] at hc
 | extract y i=>
  obtain⟨h1,rfl⟩:=ite_some hc
  have hy:=hv y (by simp[Op.operands]) h1
  simp only[xop] at hx
  split at hx
  ·rename_i vs he
   rw[he] at hy
   obtain⟨ys,e1,g1⟩:=hy.tuple_inv
   split at hx
   ·rename_i u hu'
    simp only[Option.some.injEq,Prod.mk.injEq] at hx
    obtain⟨rfl,rfl⟩:=hx
    obtain⟨u',h5,h6⟩:=g1.get hu'
    have h7:ys[i]?=some u':=by simpa using h5
    exact⟨rfl,.value u',_,by simp[execOp,e1,Instr.extract,h7],rfl,h6⟩
   ·cases hx
  ·cases hx
 | call c=>
  obtain⟨callee,args,argTypes⟩:=c
  cases callee with
  | value fo=>
   obtain⟨h1,rfl⟩:=ite_some hc
   simp[cls] at hcl
  | invoke r m=>simp[compOp,compCall] at hc
  | builtin b=>
   cases b<;>simp only[compOp,compCall,reduceCtorEq] at hc
   case len=>
    split at hc
    ·rename_i y t hargs htys
     have ha:args=#[y]:=by rw[←Array.toArray_toList (xs:=args),hargs]
     have ht:argTypes=#[t]:=by rw[←Array.toArray_toList (xs:=argTypes),htys]
     subst ha ht
     split at hc
     ·rename_i e hu
      obtain⟨h1,rfl⟩:=ite_some hc
      have hy:=hv y (by simp[Op.operands,Call.operands]) h1
      simp only[xop] at hx
      split at hx
      ·rename_i A n c he
       rw[he] at hy
       obtain⟨q,cc,e1,_⟩:=hy.len_inv
       simp only[Option.some.injEq,Prod.mk.injEq] at hx
       obtain⟨rfl,rfl⟩:=hx
       exact⟨rfl,.value _,_,by simp[execOp,resolve,invoke,builtin,e1,Builtin.len_,run_und hu,goInt],rfl,.int _ _⟩
      ·cases hx
     ·rename_i n e hu
      cases hc
      simp only[xop,ev,Option.some.injEq,Prod.mk.injEq] at hx
      obtain⟨rfl,rfl⟩:=hx
      exact⟨rfl,.value _,_,by simp[execOp,resolve,invoke,builtin,Builtin.len_,run_und hu,goInt],rfl,.int _ _⟩
     ·cases hc
    ·cases hc
   case cap=>
    split at hc
    ·rename_i y t hargs htys
     have ha:args=#[y]:=by rw[←Array.toArray_toList (xs:=args),hargs]
     have ht:argTypes=#[t]:=by rw[←Array.toArray_toList (xs:=argTypes),htys]
     subst ha ht
     split at hc
     ·rename_i e hu
      obtain⟨h1,rfl⟩:=ite_some hc
      have hy:=hv y (by simp[Op.operands,Call.operands]) h1
      simp only[xop] at hx
      split at hx
      ·rename_i he
       rw[he] at hy
       have e1:a.eval y=.slice none 0 0:=by
        generalize a.eval y=q at hy
        cases hy
        rfl
       simp only[Option.some.injEq,Prod.mk.injEq] at hx
       obtain⟨rfl,rfl⟩:=hx
       exact⟨rfl,.value _,_,by simp[execOp,resolve,invoke,builtin,e1,Builtin.cap_,run_und hu,goInt],rfl,.int _ _⟩
      ·cases hx
     ·cases hc
    ·cases hc
   case append=>
    split at hc
    ·split at hc
     ·split at hc
      ·obtain⟨h1,rfl⟩:=ite_some hc
       simp[cls] at hcl
      ·cases hc
     ·split at hc
      ·obtain⟨h1,rfl⟩:=ite_some hc
       simp[cls] at hcl
      ·cases hc
     ·cases hc
    ·cases hc
   case clear=>
    split at hc
    ·split at hc
     ·split at hc
      ·obtain⟨_,rfl⟩:=ite_some hc;simp[cls] at hcl
      ·cases hc
     ·cases hc
    ·cases hc
   case max=>
    split at hc
    ·rename_i y l hargs
     have ha:args=(y::l).toArray:=by rw[←Array.toArray_toList (xs:=args),hargs]
     subst ha
     obtain⟨h1,rfl⟩:=ite_some hc
     simp only[Bool.and_eq_true] at h1
     have hy:=hv y (by simp[Op.operands,Call.operands]) h1.1
     simp only[xop] at hx
     split at hx
     ·rename_i k p he
      rw[he] at hy
      obtain⟨r,hr,hr2⟩:=map_some hx
      simp only[Prod.mk.injEq] at hr2
      obtain⟨rfl,rfl⟩:=hr2
      have:=xmm_run (P:=P) w k true l p r hr (fun q hq=>hv q (by simp[Op.operands,Call.operands,hq]) (List.all_eq_true.1 h1.2 q hq))
      simp only[if_true] at this
      refine⟨rfl,.value _,_,?_,rfl,.int k r⟩
      simp[execOp,resolve,invoke,builtin,Builtin.max_,hy.int_inv,this]
     ·cases hx
    ·cases hc
   case min=>
    split at hc
    ·rename_i y l hargs
     have ha:args=(y::l).toArray:=by rw[←Array.toArray_toList (xs:=args),hargs]
     subst ha
     obtain⟨h1,rfl⟩:=ite_some hc
     simp only[Bool.and_eq_true] at h1
     have hy:=hv y (by simp[Op.operands,Call.operands]) h1.1
     simp only[xop] at hx
     split at hx
     ·rename_i k p he
      rw[he] at hy
      obtain⟨r,hr,hr2⟩:=map_some hx
      simp only[Prod.mk.injEq] at hr2
      obtain⟨rfl,rfl⟩:=hr2
      have:=xmm_run (P:=P) w k false l p r hr (fun q hq=>hv q (by simp[Op.operands,Call.operands,hq]) (List.all_eq_true.1 h1.2 q hq))
      simp only[Bool.false_eq_true,if_false] at this
      refine⟨rfl,.value _,_,?_,rfl,.int k r⟩
      simp[execOp,resolve,invoke,builtin,Builtin.min_,hy.int_inv,this]
     ·cases hx
    ·cases hc
 | panic y=>simp[compOp] at hc;subst hc;simp[xop] at hx
 | makeInterface t y=>simp[compOp] at hc;subst hc;simp[xop] at hx
 | alloc e=>obtain⟨z,_,rfl⟩:=map_some hc;simp[cls] at hcl
 | box e y=>obtain⟨_,rfl⟩:=ite_some hc;simp[cls] at hcl
 | buildSlice t n parts=>
  simp only[compOp] at hc
  split at hc
  ·split at hc
   ·obtain⟨_,h2⟩:=ite_none hc
    obtain⟨l,_,rfl⟩:=map_some h2
    simp[cls] at hcl
   ·cases hc
  ·cases hc
 | load t y=>
  obtain⟨_,h2⟩:=ite_none hc
  split at h2
  ·cases h2;simp[cls] at hcl
  ·cases h2;simp[cls] at hcl
  ·cases h2
 | store t y z=>
  obtain⟨_,h2⟩:=ite_none hc
  obtain⟨n,_,rfl⟩:=map_some h2
  simp[cls] at hcl
 | makeSlice t l c=>
  simp only[compOp] at hc
  split at hc
  ·split at hc
   ·obtain⟨_,rfl⟩:=ite_some hc
    simp[cls] at hcl
   ·cases hc
  ·cases hc
 | _=>simp[compOp] at hc
variable {P:Program} {B:Nat} {γ:List G} {h h':AH} {w:World} {f:Fr} {a:Act} {v:Value}
def clsOk:Op→Nat→Prop
 | .load _ _,n=>n=1
 | .slice _ _ _ _ _,n=>n=0∨n=1
 | .alloc _,n|.box _ _,n|.buildSlice _ _ _,n|.makeSlice _ _ _,n=>n=2
 | .store _ _ _,n=>n=4
 | .call _,n=>n=0∨n=3∨n=4
 | _,n=>n=0
theorem cls_op {op:Op} {x:XOp} (hc:compOp P op=some x):clsOk op (cls x):=by
 cases op with
 | move y=>obtain⟨_,rfl⟩:=ite_some (by simpa [compOp] using hc);rfl
 | assign y=>obtain⟨_,rfl⟩:=ite_some (by simpa [compOp] using hc);rfl
 | pick c y z=>obtain⟨_,rfl⟩:=ite_some hc;rfl
 | alloc e=>obtain⟨z,_,rfl⟩:=map_some hc;rfl
 | box e y=>obtain⟨_,rfl⟩:=ite_some hc;rfl
 | build t parts=>
  simp only[compOp] at hc
  split at hc
  ·obtain⟨_,h2⟩:=ite_none hc
   obtain⟨l,_,rfl⟩:=map_some h2;rfl
  ·obtain⟨_,h2⟩:=ite_none hc
   obtain⟨l,_,rfl⟩:=map_some h2;rfl
  ·cases hc
 | buildSlice t n parts=>
  simp only[compOp] at hc
  split at hc
  ·split at hc
   ·obtain⟨_,h2⟩:=ite_none hc
    obtain⟨l,_,rfl⟩:=map_some h2;rfl
   ·cases hc
  ·cases hc
 | load t y=>
  obtain⟨_,h2⟩:=ite_none hc
  split at h2
  ·cases h2;rfl
  ·cases h2;rfl
  ·cases h2
 | store t y z=>
  obtain⟨_,h2⟩:=ite_none hc
  obtain⟨n,_,rfl⟩:=map_some h2;rfl
 | makeSlice t l c=>
  simp only[compOp] at hc
  split at hc
  ·split at hc
   ·obtain⟨_,rfl⟩:=ite_some hc;rfl
   ·cases hc
  ·cases hc
 | slice t y lo hi mx=>
  obtain⟨_,h2⟩:=ite_none hc
  split at h2
  ·split at h2
   ·split at h2
    ·cases h2;exact .inl rfl
    ·split at h2
     ·obtain⟨_,rfl⟩:=ite_some h2;exact .inl rfl
     ·cases h2
    ·cases h2
   ·cases h2
  ·split at h2
   ·split at h2
    ·cases h2;exact .inr rfl
    ·cases h2
   ·cases h2
  ·cases h2
 | call c=>
  obtain⟨callee,args,argTypes⟩:=c
  cases callee with
  | value fo=>obtain⟨h1,rfl⟩:=ite_some hc;exact .inr (.inl rfl)
  | invoke r m=>simp[compOp,compCall] at hc
  | builtin b=>
   cases b<;>simp only[compOp,compCall,reduceCtorEq] at hc
   case len=>
    split at hc
    ·split at hc
     ·obtain⟨_,rfl⟩:=ite_some hc;exact .inl rfl
     ·cases hc;exact .inl rfl
     ·cases hc
    ·cases hc
   case cap=>
    split at hc
    ·split at hc
     ·obtain⟨_,rfl⟩:=ite_some hc;exact .inl rfl
     ·cases hc
    ·cases hc
   case append=>
    split at hc
    ·split at hc
     ·split at hc
      ·obtain⟨h1,rfl⟩:=ite_some hc;exact .inr (.inr rfl)
      ·cases hc
     ·split at hc
      ·obtain⟨h1,rfl⟩:=ite_some hc;exact .inr (.inr rfl)
      ·cases hc
     ·cases hc
    ·cases hc
   case clear=>
    split at hc
    ·split at hc
     ·split at hc
      ·obtain⟨_,rfl⟩:=ite_some hc;exact .inr (.inr rfl)
      ·cases hc
     ·cases hc
    ·cases hc
   case max=>
    split at hc
    ·obtain⟨_,rfl⟩:=ite_some hc;exact .inl rfl
    ·cases hc
   case min=>
    split at hc
    ·obtain⟨_,rfl⟩:=ite_some hc;exact .inl rfl
    ·cases hc
 | binOp op t y z yt=>
  obtain⟨_,h2⟩:=ite_none hc
  split at h2
  ·cases h2;rfl
  ·cases op<;>simp only[Option.some.injEq,reduceCtorEq] at h2<;>subst h2<;>rfl
  ·split at h2
   ·cases op<;>simp only[Option.some.injEq,reduceCtorEq] at h2<;>subst h2<;>rfl
   ·cases h2
  ·split at h2
   ·cases op<;>simp only[Option.some.injEq,reduceCtorEq] at h2<;>subst h2<;>rfl
   ·cases h2
  ·split at h2
   ·cases op<;>simp only[Option.some.injEq,reduceCtorEq] at h2<;>subst h2<;>rfl
   ·cases h2
  ·cases h2
 | nilCheck y=>obtain⟨_,rfl⟩:=ite_some hc;rfl
 | unOp op t y=>obtain⟨_,rfl⟩:=ite_some hc;rfl
 | convert s d y=>
  obtain⟨_,h2⟩:=ite_none hc
  split at h2
  ·cases h2;rfl
  ·cases h2
 | fieldAddr s y fi=>
  obtain⟨_,h2⟩:=ite_none hc
  split at h2
  ·split at h2
   ·split at h2
    ·obtain⟨_,rfl⟩:=ite_some h2;rfl
    ·cases h2
   ·cases h2
  ·cases h2
 | field t y fi=>
  obtain⟨_,h2⟩:=ite_none hc
  split at h2
  ·split at h2
   ·split at h2
    ·cases h2;rfl
    ·cases h2;rfl
    ·cases h2
   ·cases h2
  ·cases h2
 | indexAddr t y i=>
  obtain⟨_,h2⟩:=ite_none hc
  split at h2
  ·obtain⟨_,_,rfl⟩:=map_some h2;rfl
  ·obtain⟨_,_,rfl⟩:=map_some h2;rfl
  ·cases h2
 | index t y i=>
  by_cases hstr:∃ s,y=.const (.string s)
  ·obtain⟨s,rfl⟩:=hstr
   obtain⟨_,h2⟩:=ite_none hc
   split at h2
   ·cases h2;rfl
   ·cases h2
  ·have hc':(if okOpd y&&okOpd i then match P.underlying t with
     | some (.array n e)=>match aggT P e,sizeT P e with
      | some true,some s=>some (XOp.idxn n s y i)
      | some false,some s=>if s==1 then some (.idx1 n y i) else none
      | _,_=>none
     | some .string=>some (.idxt y i)
     | _=>none else none)=some x:=by
    rw[←hc]
    cases y with
    | const u=>cases u<;>first|rfl|exact absurd ⟨_,rfl⟩ hstr
    | _=>rfl
   obtain⟨_,h2⟩:=ite_none hc'
   split at h2
   ·split at h2
    ·cases h2;rfl
    ·obtain⟨_,rfl⟩:=ite_some h2;rfl
    ·cases h2
   ·cases h2;rfl
   ·cases h2
 | makeFunc fn first cap=>
  cases fn with
  | func g=>obtain⟨_,rfl⟩:=ite_some hc;rfl
  | _=>simp[compOp] at hc
 | extract y i=>obtain⟨_,rfl⟩:=ite_some hc;rfl
 | panic y=>simp[compOp] at hc;subst hc;rfl
 | makeInterface t y=>simp[compOp] at hc;subst hc;rfl
 | _=>simp[compOp] at hc
def rdOpd:XOp→Option Operand
 | .load1 y|.loadn _ y|.slca _ _ y _ _=>some y
 | _=>none
theorem read_block {x:XOp} (hcl:cls x=1) (hx:xop x f h=some (v,h')):h'=h∧∃ y n off sp,rdOpd x=some y∧ev f y=.pointer (some ⟨n,off,sp⟩)∧(∃ b,h.get n=some b) ∧
  ∀ h2:AH,h2.get n=h.get n→xop x f h2=some (v,h2):=by
 cases x<;>simp[cls] at hcl
 case load1 y=>
  simp only[xop] at hx
  split at hx
  ·rename_i n off sp he
   split at hx
   ·rename_i u hu
    simp only[Option.some.injEq,Prod.mk.injEq] at hx
    obtain⟨rfl,rfl⟩:=hx
    obtain⟨b,hb,_⟩:=Option.bind_eq_some_iff.1 hu
    refine⟨rfl,y,n,off,sp,rfl,he,⟨b,hb⟩,fun h2 h3=>?_⟩
    have:h2.rd1 n off=some u:=by unfold AH.rd1;rw[h3];exact hu
    simp only[xop,he,this]
   ·cases hx
  ·cases hx
 case loadn k y=>
  simp only[xop] at hx
  split at hx
  ·rename_i n off sp he
   split at hx
   ·rename_i u hu
    simp only[Option.some.injEq,Prod.mk.injEq] at hx
    obtain⟨rfl,rfl⟩:=hx
    obtain⟨b,hb,_⟩:=Option.bind_eq_some_iff.1 hu
    refine⟨rfl,y,n,off,sp,rfl,he,⟨b,hb⟩,fun h2 h3=>?_⟩
    have:h2.rdn n off k=some u:=by unfold AH.rdn;rw[h3];exact hu
    simp only[xop,he,this]
   ·cases hx
  ·cases hx
 case slca len sz y lo hi=>
  simp only[xop] at hx
  split at hx
  ·rename_i n off sp he
   split at hx
   ·rename_i b hb
    split at hx
    ·rename_i l u hl hu
     obtain⟨h1,h4⟩:=ite_some hx
     simp only[Prod.mk.injEq] at h4
     obtain⟨rfl,rfl⟩:=h4
     refine⟨rfl,y,n,off,sp,rfl,he,⟨b,hb⟩,fun h2 h3=>?_⟩
     simp only[xop,he,h3,hb,hl,hu]
     rw[if_pos h1]
    ·cases hx
   ·cases hx
  ·cases hx
theorem load_cells (w:World) (b o:Nat) (cs:List Value) (hc:∀ j v,cs[j]?=some v→w.cell? ⟨b,o+j,none⟩=some v):(loadCells ⟨b,o,none⟩ cs.length).run P w=.ok cs.toArray w:=
 run_loadCells_list (P:=P) w ⟨b,o,none⟩ cs (fun j v hv=>by rw[add_at];exact hc j v hv)
theorem read_sound {o:Oper} {x:XOp} (hc:compOp P o.op=some x) (hcl:cls x=1) (hx:xop x f h=some (v,h')) (hv:VO γ f a o.op.operands) (R:Rel P B γ h w) :
  h'=h∧OpPure P γ w a o v:=by
 obtain⟨dst,op,ty,pos,after,guard⟩:=o
 simp only[] at hc hv
 cases op with
 | load t y=>
  obtain⟨h1,h2⟩:=ite_none hc
  have hy:=hv y (by simp[Op.operands]) h1
  split at h2
  ·rename_i n ha hs
   cases h2
   simp only[xop] at hx
   split at hx
   ·rename_i m off sp he
    rw[he] at hy
    obtain⟨_,g,hg,e1⟩:=hy.ptr_inv
    split at hx
    ·rename_i c hc'
     simp only[Option.some.injEq,Prod.mk.injEq] at hx
     obtain⟨rfl,rfl⟩:=hx
     obtain⟨b,hb,h3⟩:=Option.bind_eq_some_iff.1 hc'
     obtain⟨h4,rfl⟩:=ite_some h3
     obtain⟨cs,g1,g2⟩:=R.cells hb hg
     have hlen:((cs.drop off).take n).length=n:=by have:=g1.1;simp;omega
     have hl:=load_cells (P:=P) w g.b (g.o+off) ((cs.drop off).take n) (fun j u hu=>by
      rw[List.getElem?_take] at hu
      split at hu
      ·rw[List.getElem?_drop] at hu
       rw[Nat.add_assoc]
       exact g2 _ _ hu
      ·cases hu)
     rw[hlen] at hl
     refine⟨rfl,.value _,_,?_,rfl,VR.aggL ((g1.drop off).take n)⟩
     simp[execOp,e1,Instr.loadAt,Instr.sureAddr,loadVar,run_isAgg ha,run_size hs,hl]
    ·cases hx
   ·cases hx
  ·rename_i n ha hs
   cases h2
   simp only[xop] at hx
   split at hx
   ·rename_i m off sp he
    rw[he] at hy
    obtain⟨_,g,hg,e1⟩:=hy.ptr_inv
    split at hx
    ·rename_i c hc'
     simp only[Option.some.injEq,Prod.mk.injEq] at hx
     obtain⟨rfl,rfl⟩:=hx
     obtain⟨b,hb,h3⟩:=Option.bind_eq_some_iff.1 hc'
     obtain⟨_,u',h5,h6⟩:=R.cell m b g hb hg off c h3
     refine⟨rfl,.value u',_,?_,rfl,h6⟩
     simp[execOp,e1,Instr.loadAt,Instr.sureAddr,loadVar,run_isAgg ha,h5]
    ·cases hx
   ·cases hx
  ·cases h2
 | slice t y lo hi mx=>
  obtain⟨h1,h2⟩:=ite_none hc
  simp only[Bool.and_eq_true] at h1
  have hy:=hv y (by simp[Op.operands]) h1.1.1
  split at h2
  ·rename_i e hu
   split at h2
   ·split at h2
    ·cases h2;simp[cls] at hcl
    ·split at h2
     ·obtain⟨_,rfl⟩:=ite_some h2;simp[cls] at hcl
     ·cases h2
    ·cases h2
   ·cases h2
  ·rename_i n e hu
   split at h2
   ·rename_i z i hz hi'
    obtain⟨i',y',hi2,_,_,_,_,hpos⟩:=zeroT_some hz
    rw[hi'] at hi2;cases hi2
    have hs:sizeT P e=some i.size:=by simp[sizeT,hi']
    split at h2
    ·cases h2
     have hlo:∀ y,lo=some y→VR γ (ev f y) (a.eval y):=by
      rintro q rfl;exact hv q (by simp[Op.operands]) (by simpa using h1.1.2)
     have hhi:∀ y,hi=some y→VR γ (ev f y) (a.eval y):=by
      rintro q rfl;exact hv q (by simp[Op.operands]) (by simpa using h1.2)
     simp only[xop] at hx
     split at hx
     ·rename_i m off sp he
      rw[he] at hy
      obtain⟨_,g,hg,e1⟩:=hy.ptr_inv
      split at hx
      ·rename_i b hb
       split at hx
       ·rename_i l u hbl hbu
        obtain⟨⟨hro,hfull,hall,hl0,hlu,hul⟩,h4⟩:=ite_some hx
        simp only[Prod.mk.injEq] at h4
        obtain⟨rfl,rfl⟩:=h4
        have bl:=bound_run hbl h1.1.2 hlo
        have bu:=bound_run hbu h1.2 hhi
        obtain⟨ho,_,_,_,hcapf,_⟩:=R.rw m b g hb hg hro
        have hcap:=hcapf hfull
        have e2:∀ l' u':Nat,l=l'→u=u'→(Instr.sliceAt t (a.eval y) (lo.map a.eval) (hi.map a.eval) ((none:Option Operand).map a.eval)).run P w =
          .ok (.slice (some ⟨g.b,g.o+off+l'*i.size,none⟩) (u'-l') (n-l')) w:=by
         intro l' u' hl' hu'
         have hne:¬ n=l':=by omega
         have hle:l'≤u':=by omega
         have hle2:u'≤n:=by omega
         rw[e1]
         rcases bl with⟨rfl,hz⟩|⟨q,k,rfl,hz⟩<;>rcases bu with⟨rfl,hz'⟩|⟨q',k',rfl,hz'⟩
         ·obtain rfl:l'=0:=by omega
          obtain rfl:u'=n:=by omega
          simp[Instr.sliceAt,run_und hu,Instr.sureAddr,Instr.sliceBounds,Instr.sliceBound,asIntOf,run_size hs,hne,add_at]
         ·obtain rfl:l'=0:=by omega
          simp[Instr.sliceAt,run_und hu,Instr.sureAddr,Instr.sliceBounds,Instr.sliceBound,asIntOf,run_size hs,hne,add_at,hz',hu',hle2]
         ·obtain rfl:u'=n:=by omega
          simp[Instr.sliceAt,run_und hu,Instr.sureAddr,Instr.sliceBounds,Instr.sliceBound,asIntOf,run_size hs,hne,add_at,hz,hl',hle]
         ·simp[Instr.sliceAt,run_und hu,Instr.sureAddr,Instr.sliceBounds,Instr.sliceBound,asIntOf,run_size hs,hne,add_at,hz,hl',hz',hu',hle,hle2]
        have hr:=e2 l.toNat u.toNat (by omega) (by omega)
        refine⟨rfl,.value _,_,by (simp only[execOp,Sem.run_bind,hr,Result.andThen_ok,Sem.run_pure];try rfl),rfl,?_⟩
        have e3:n-l.toNat=(g.cap-(off+l.toNat*i.size)) / i.size:=by
         rw[hcap,←hall,Nat.sub_add_eq,Nat.add_sub_cancel_left,←Nat.sub_mul,Nat.mul_div_cancel _ hpos]
        rw[e3,show u.toNat-l.toNat=(u-l).toNat by omega,Nat.add_assoc]
        refine .slc m (off+l.toNat*i.size) (u-l).toNat i.size g hg hpos ?_
        have:l.toNat*i.size+(u-l).toNat*i.size≤n*i.size:=by
         rw[←Nat.add_mul];exact Nat.mul_le_mul_right _ (by omega)
        omega
       ·cases hx
      ·cases hx
     ·cases hx
    ·cases h2
   ·cases h2
  ·cases h2
 | _=>
  have:=cls_op hc
  simp[clsOk,hcl] at this
end Go.Proofs.Ytapafdpnmakekaa.X
