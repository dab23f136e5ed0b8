/- Texts of one claim, put together by merge.py: XBT, XBU, XArgs, XBV, XBW, XBX, XBY, XBZ, XC1, XC2, XC3, XC4, XC5, XCE, XC6, XCF, XS8, XS9, XS10, XS11, XS12, XS13, XS14, XS15, XM7, XDS. -/
import Derived.Test.YtigpfopobpoamaaGreatRE11
import Derived.Shelf.SlSortCmp.NoneTotal
import Derived.Test.YtigpfopobpoamaaGreatRE3
import Derived.Deep.Slices
import Derived.WideKeyArgs
import Derived.ChangeOld
import Derived.ChangeArms
import Derived.OpenShut
import Derived.Test.YtigpfopobpoamaaGreatRE10
import Derived.Test.YtigpfopobpoamaaGreatRE12
import Derived.Test.YtigpfopobpoamaaGreatRE9
set_option linter.unusedVariables false
set_option linter.unusedSimpArgs false
set_option maxRecDepth 20000
set_option maxHeartbeats 4000000
namespace Go.Proofs.YtigpfopobpoamaaGreat.X
open Go Go.RowKit
open Nat (reduceEqDiff reduceAdd reduceSub reduceLeDiff)
def cmpL:List Int→List Int→Int
 | [],[]=>0
 | [],_::_=>-1
 | _::_,[]=>1
 | a::l,b::r=>if a<b then -1 else if b<a then 1 else cmpL l r
theorem cmpL_0:∀ {l r:List Int},cmpL l r=0↔l=r
 | [],[]=>by simp[cmpL]
 | [],_::_=>by simp[cmpL]
 | _::_,[]=>by simp[cmpL]
 | a::l,b::r=>by
  simp only[cmpL,List.cons.injEq]
  by_cases h1:a<b
  ·rw[if_pos h1]
   exact⟨fun h=>by omega,fun h=>by omega⟩
  ·rw[if_neg h1]
   by_cases h2:b<a
   ·rw[if_pos h2]
    exact⟨fun h=>by omega,fun h=>by omega⟩
   ·rw[if_neg h2,cmpL_0]
    exact⟨fun h=>⟨by omega,h⟩,fun h=>h.2⟩
theorem cmpL_neg:∀ {l r:List Int},cmpL r l = -cmpL l r
 | [],[]=>by simp[cmpL]
 | [],_::_=>by simp[cmpL]
 | _::_,[]=>by simp[cmpL]
 | a::l,b::r=>by
  simp only[cmpL]
  by_cases h1:a<b
  ·rw[if_pos h1,if_neg (by omega),if_pos h1]
   omega
  ·rw[if_neg h1]
   by_cases h2:b<a
   ·rw[if_pos h2,if_neg h1,if_pos h2]
   ·simp only[if_neg h1,if_neg h2]
    exact cmpL_neg
theorem cmpL_tr:∀ {l r s:List Int},cmpL l r≤0→cmpL r s≤0→cmpL l s≤0∧(cmpL l r<0∨cmpL r s<0→cmpL l s<0)
 | [],[],s,h1,h2=>⟨h2,fun h=>by
   rcases h with h|h
   ·simp[cmpL] at h
   ·exact h⟩
 | [],_::_,[],h1,h2=>by simp[cmpL] at h2
 | [],_::_,_::_,h1,h2=>by simp[cmpL]
 | _::_,[],s,h1,h2=>by simp[cmpL] at h1
 | a::l,b::r,[],h1,h2=>by simp[cmpL] at h2
 | a::l,b::r,c::s,h1,h2=>by
  simp only[cmpL] at h1 h2 ⊢
  by_cases a1:a<b
  ·by_cases a2:b<c
   ·rw[if_pos (show a<c by omega)]
    omega
   ·by_cases a3:c<b
    ·rw[if_neg a2,if_pos a3] at h2
     omega
    ·rw[if_pos (show a<c by omega)]
     omega
  ·by_cases a1':b<a
   ·rw[if_neg a1,if_pos a1'] at h1
    omega
   ·have:a=b:=by omega
    subst this
    rw[if_neg a1,if_neg a1] at h1 ⊢
    by_cases a2:a<c
    ·rw[if_pos a2]
     omega
    ·by_cases a3:c<a
     ·rw[if_neg a2,if_pos a3] at h2
      omega
     ·simp only[if_neg a2,if_neg a3] at h2 ⊢
      exact cmpL_tr h1 h2
theorem cmpL_app:∀ {l r s t:List Int},l.length=r.length→cmpL (l++s) (r++t)=if cmpL l r≠0 then cmpL l r else cmpL s t
 | [],[],s,t,_=>by simp[cmpL]
 | [],_::_,_,_,h=>by simp at h
 | _::_,[],_,_,h=>by simp at h
 | a::l,b::r,s,t,h=>by
  have e1:∀ l' r',cmpL (a::l') (b::r')=if a<b then -1 else if b<a then 1 else cmpL l' r':=fun _ _=>rfl
  rw[List.cons_append,List.cons_append]
  by_cases h1:a<b
  ·have e2:∀ l' r',cmpL (a::l') (b::r') = -1:=fun l' r'=>by rw[e1,if_pos h1]
   rw[e2,e2]
   rfl
  ·by_cases h2:b<a
   ·have e2:∀ l' r',cmpL (a::l') (b::r')=1:=fun l' r'=>by rw[e1,if_neg h1,if_pos h2]
    rw[e2,e2]
    rfl
   ·have e2:∀ l' r',cmpL (a::l') (b::r')=cmpL l' r':=fun l' r'=>by rw[e1,if_neg h1,if_neg h2]
    rw[e2,e2]
    exact cmpL_app (by simpa using h)
theorem cmpL_at:∀ {l r:List Int} {i:Nat},(∀ j,j<i→l.getD j 0=r.getD j 0)→i<l.length→i<r.length→l.getD i 0≠r.getD i 0→cmpL l r=if l.getD i 0<r.getD i 0 then -1 else 1
 | [],_,_,_,h,_,_=>by simp at h
 | _::_,[],_,_,_,h,_=>by simp at h
 | a::l,b::r,0,_,_,_,hn=>by
  simp only[List.getD_cons_zero] at hn ⊢
  simp only[cmpL]
  by_cases h1:a<b
  ·rw[if_pos h1,if_pos h1]
  ·rw[if_neg h1,if_neg h1,if_pos (by omega)]
 | a::l,b::r,i+1,h0,h1,h2,hn=>by
  have e:=h0 0 (by omega)
  simp only[List.getD_cons_zero] at e
  subst e
  simp only[cmpL]
  rw[if_neg (by omega),if_neg (by omega),List.getD_cons_succ,List.getD_cons_succ]
  exact cmpL_at (fun j hj=>by have:=h0 (j+1) (by omega);rwa [List.getD_cons_succ,List.getD_cons_succ] at this) (by simpa using h1) (by simpa using h2) (by rwa [List.getD_cons_succ,List.getD_cons_succ] at hn)
theorem cmpL_same {l r:List Int} (hl:l.length=r.length) (h:∀ j,j<l.length→l.getD j 0=r.getD j 0):cmpL l r=0:=by
 refine cmpL_0.2 (List.ext_getElem hl fun j h1 h2=>?_)
 have:=h j h1
 rwa [List.getD_eq_getElem?_getD,List.getD_eq_getElem?_getD,List.getElem?_eq_getElem h1,List.getElem?_eq_getElem h2] at this
def slcaV2 (len sz:Nat) (x:Value) (h:AH):Option (Value×AH):=xop (.slca len sz (.const x) none none) (fun _=>undef) h
theorem WX_slca2 {S:XS} {f:Fr} {h:AH} {Q:Value→AH→Prop} {len sz:Nat} {x:Operand}:WX S (.slca len sz x none none) f h Q=OQ (slcaV2 len sz (ev f x) h) Q:=by
 rw[WX_op (fun _=>rfl)]
 rfl
theorem i_isNaNB {a:Int} {h:AH} {Q:Value→AH→Prop} (hQ:Q (.bool false) h):WF S 126 [.int .u8 a] h Q:=by
 refine WF_fn (fn:=c126) rfl rfl ?_
 dsimp only[c126,oO,oM,oS,oG,oK,oE,oL,oF,oX,oN]
 ((try simp (maxSteps:=3000000) (dsimp:=false) (disch:=first|omega|simp only[lnx];omega) only[↓ypre,ypost,↓reduceIte,reduceEqDiff,reduceAdd,reduceSub,reduceLeDiff,zz0,ynew,decide_eq_false (show ¬ a≠a from fun h=>h rfl)]);try simp only[yback])
 exact hQ
theorem i_CompareB {a b:Int} {h:AH} {Q:Value→AH→Prop} (hQ:Q (I64 (if a<b then -1 else if b<a then 1 else 0)) h):WF S 120 [.int .u8 a,.int .u8 b] h Q:=by
 refine WF_fn (fn:=c120) rfl rfl ?_
 dsimp only[c120,oO,oM,oS,oG,oK,oE,oL,oF,oX,oN]
 ((try simp (maxSteps:=3000000) (dsimp:=false) (disch:=first|omega|simp only[lnx];omega) only[↓ypre,ypost,↓reduceIte,reduceEqDiff,reduceAdd,reduceSub,reduceLeDiff,zz0,ynew]);try simp only[yback])
 refine i_isNaNB ?_
 ((try simp (maxSteps:=3000000) (dsimp:=false) (disch:=first|omega|simp only[lnx];omega) only[↓ypre,ypost,↓reduceIte,reduceEqDiff,reduceAdd,reduceSub,reduceLeDiff,zz0,ynew]);try simp only[yback])
 refine i_isNaNB ?_
 by_cases h1:a<b
 ·rw[if_pos h1] at hQ
  ((try simp (maxSteps:=3000000) (dsimp:=false) (disch:=first|omega|simp only[lnx];omega) only[↓ypre,ypost,↓reduceIte,reduceEqDiff,reduceAdd,reduceSub,reduceLeDiff,zz0,ynew,decide_eq_true h1]);try simp only[yback])
  exact hQ
 ·rw[if_neg h1] at hQ
  by_cases h2:a>b
  ·rw[if_pos h2] at hQ
   ((try simp (maxSteps:=3000000) (dsimp:=false) (disch:=first|omega|simp only[lnx];omega) only[↓ypre,ypost,↓reduceIte,reduceEqDiff,reduceAdd,reduceSub,reduceLeDiff,zz0,ynew,decide_eq_false h1,decide_eq_true h2]);try simp only[yback])
   exact hQ
  ·rw[if_neg h2] at hQ
   ((try simp (maxSteps:=3000000) (dsimp:=false) (disch:=first|omega|simp only[lnx];omega) only[↓ypre,ypost,↓reduceIte,reduceEqDiff,reduceAdd,reduceSub,reduceLeDiff,zz0,ynew,decide_eq_false h1,decide_eq_false h2]);try simp only[yback])
   exact hQ
theorem i_CompareS {n n2 o1 o2 t:Nat} {sp:Option Nat} {p q:List Int} {h:AH} {Q:Value→AH→Prop} (ht:(sp=some 0∧t=0)∨(sp=none∧t=1)) (hp:p.length=9) (hq:q.length=9) (r1:∀ j,j<9→h.rd1 n (o1+j)=some (.int .u8 (p.getD j 0))) (r2:∀ j,j<9→h.rd1 n2 (o2+j)=some (.int .u8 (q.getD j 0)))
  (hQ:Q (I64 (cmpL p q)) h):WF S 105 [.slice (some ⟨n,o1,sp⟩) 9 t,.slice (some ⟨n2,o2,sp⟩) 9 t] h Q:=by
 refine WF_fn (fn:=c105) rfl rfl ?_
 dsimp only[c105,oO,oM,oS,oG,oK,oE,oL,oF,oX,oN]
 ((try simp (maxSteps:=3000000) (dsimp:=false) (disch:=first|omega|simp only[lnx];omega) only[↓ypre,ypost,↓reduceIte,reduceEqDiff,reduceAdd,reduceSub,reduceLeDiff,zz0,ynew,show lenV (.slice (some ⟨n,o1,sp⟩) 9 t)=some (I64 9) from rfl]);try simp only[yback])
 refine WC_loop_inv (fun m f K1=>∃ (i:Nat),m=9-i∧i≤9∧f 0=.slice (some ⟨n,o1,sp⟩) 9 t∧f 1=.slice (some ⟨n2,o2,sp⟩) 9 t∧f 9=.slice (some ⟨n,o1,sp⟩) 9 t∧f 10=I64 9∧f 11=I64 i∧K1=h∧((∀ j,j<i→p.getD j 0=q.getD j 0))) ?_ (9-0) _ _ ⟨0,rfl,by omega,(by first|rfl|simp[upd_apply]),(by first|rfl|simp[upd_apply]),(by first|rfl|simp[upd_apply]),(by first|rfl|simp[upd_apply]),(by first|rfl|simp[upd_apply]),rfl,(fun _ h=>absurd h (Nat.not_lt_zero _))⟩
 rintro m f K1 ⟨i,rfl,hi,f0,f1,f9,f10,f11,rfl,no⟩
 by_cases hlt:(i:Int)<9
 ·have hi:i<9:=by omega
  have ix:∀ (n o:Nat),ixsV 1 (.slice (some ⟨n,o,sp⟩) 9 t) (I64 i)=some (.pointer (some ⟨n,o+i,none⟩)):=fun n o=>by
   rcases ht with⟨rfl,rfl⟩|⟨rfl,rfl⟩
   ·rw[ixsV_view,if_pos ⟨by omega,by omega,rfl⟩,Int.toNat_natCast]
   ·rw[ixsV_some,if_pos (by omega),Int.toNat_natCast,Nat.mul_one]
  ((try simp (maxSteps:=3000000) (dsimp:=false) (disch:=first|omega|simp only[lnx];omega) only[↓ypre,ypost,↓reduceIte,reduceEqDiff,reduceAdd,reduceSub,reduceLeDiff,zz0,ynew,f0,f1,f9,f10,f11,decide_eq_true hlt,ix,r1 i hi,show lenV (.slice (some ⟨n2,o2,sp⟩) 9 t)=some (I64 9) from rfl,decide_eq_false (show ¬ ((9:Int)≤(i:Int)) by omega),r2 i hi]);try simp only[yback])
  refine i_CompareB ?_
  by_cases h1:p.getD i 0=q.getD i 0
  ·have e:(if p.getD i 0<q.getD i 0 then (-1:Int) else if q.getD i 0<p.getD i 0 then 1 else 0)=0:=by rw[if_neg (by omega),if_neg (by omega)]
   rw[e]
   ((try simp (maxSteps:=3000000) (dsimp:=false) (disch:=first|omega|simp only[lnx];omega) only[↓ypre,ypost,↓reduceIte,reduceEqDiff,reduceAdd,reduceSub,reduceLeDiff,zz0,ynew,f0,f1,f9,f10,f11,show decide ((0:Int)≠0)=false from rfl,wrap64_in]);try simp only[yback])
   refine InvQ_go (9-(i+1)) (by omega) ⟨(i+1),rfl,by omega,(by first|rfl|exact f0|(simp only[upd_apply];rfl)|(show I64 _=_;congr 1;omega)),(by first|rfl|exact f1|(simp only[upd_apply];rfl)|(show I64 _=_;congr 1;omega)),(by first|rfl|exact f9|(simp only[upd_apply];rfl)|(show I64 _=_;congr 1;omega)),(by first|rfl|exact f10|(simp only[upd_apply];rfl)|(show I64 _=_;congr 1;omega)),(by first|rfl|exact f11|(simp only[upd_apply];rfl)|(show I64 _=_;congr 1;omega)),rfl,(step_all no h1)⟩
  ·rw[cmpL_at no (by omega) (by omega) h1] at hQ
   by_cases h2:p.getD i 0<q.getD i 0
   ·rw[if_pos h2] at hQ ⊢
    ((try simp (maxSteps:=3000000) (dsimp:=false) (disch:=first|omega|simp only[lnx];omega) only[↓ypre,ypost,↓reduceIte,reduceEqDiff,reduceAdd,reduceSub,reduceLeDiff,zz0,ynew,f0,f1,f9,f10,f11,show decide ((-1:Int)≠0)=true from rfl]);try simp only[yback])
    exact hQ
   ·rw[if_neg h2] at hQ ⊢
    rw[if_pos (by omega)]
    ((try simp (maxSteps:=3000000) (dsimp:=false) (disch:=first|omega|simp only[lnx];omega) only[↓ypre,ypost,↓reduceIte,reduceEqDiff,reduceAdd,reduceSub,reduceLeDiff,zz0,ynew,f0,f1,f9,f10,f11,show decide ((1:Int)≠0)=true from rfl]);try simp only[yback])
    exact hQ
 ·have ei:i=9:=by omega
  subst ei
  rw[cmpL_same (by omega) (fun j hj=>no j (by omega))] at hQ
  ((try simp (maxSteps:=3000000) (dsimp:=false) (disch:=first|omega|simp only[lnx];omega) only[↓ypre,ypost,↓reduceIte,reduceEqDiff,reduceAdd,reduceSub,reduceLeDiff,zz0,ynew,f0,f1,f9,f10,f11,decide_eq_false hlt,show lenV (.slice (some ⟨n,o1,sp⟩) 9 t)=some (I64 9) from rfl,show lenV (.slice (some ⟨n2,o2,sp⟩) 9 t)=some (I64 9) from rfl,show decide ((9:Int)<9)=false from rfl]);try simp only[yback])
  exact hQ
theorem i_Or3 {n:Nat} {a b c:Int} {e:TypeId} {ro fl:Bool} {h:AH} {Q:Value→AH→Prop} (hb:h.get n=some ⟨[I64 a,I64 b,I64 c],e,ro,fl⟩) (hQ:Q (I64 (if a≠0 then a else if b≠0 then b else c)) h):WF S 104 [.slice (some ⟨n,0,none⟩) 3 1] h Q:=by
 refine WF_fn (fn:=c104) rfl rfl ?_
 dsimp only[c104,oO,oM,oS,oG,oK,oE,oL,oF,oX,oN]
 have hv:Ints h (.slice (some ⟨n,0,none⟩) 3 1) [a,b,c]:=Ints.own (ns:=[a,b,c]) hb rfl
 ((try simp (maxSteps:=3000000) (dsimp:=false) (disch:=first|omega|simp only[lnx];omega) only[↓ypre,ypost,↓reduceIte,reduceEqDiff,reduceAdd,reduceSub,reduceLeDiff,zz0,ynew,show lenV (.slice (some ⟨n,0,none⟩) 3 1)=some (I64 3) from rfl]);try simp only[yback])
 refine WC_loop_inv (fun m f K1=>∃ (i:Nat),m=3-i∧i≤3∧f 3=I64 0∧f 6=.slice (some ⟨n,0,none⟩) 3 1∧f 7=I64 3∧f 8=I64 i∧K1=h∧((∀ j,j<i→[a,b,c].getD j 0=0))) ?_ (3-0) _ _ ⟨0,rfl,by omega,(by first|rfl|simp[upd_apply]),(by first|rfl|simp[upd_apply]),(by first|rfl|simp[upd_apply]),(by first|rfl|simp[upd_apply]),rfl,(fun _ h=>absurd h (Nat.not_lt_zero _))⟩
 rintro m f K1 ⟨i,rfl,hi,f3,f6,f7,f8,rfl,no⟩
 by_cases hlt:(i:Int)<3
 ·obtain⟨n1,off,ix,rd⟩:=hv.cell (j:=i) (by simp only[List.length_cons,List.length_nil];omega)
  have ix:=ix .i64
  by_cases h1:[a,b,c].getD i 0≠0
  ·((try simp (maxSteps:=3000000) (dsimp:=false) (disch:=first|omega|simp only[lnx];omega) only[↓ypre,ypost,↓reduceIte,reduceEqDiff,reduceAdd,reduceSub,reduceLeDiff,zz0,ynew,f3,f6,f7,f8,decide_eq_true hlt,ix,rd,decide_eq_true h1]);try simp only[yback])
   have hi:i=0∨i=1∨i=2:=by omega
   rcases hi with rfl|rfl|rfl
   ·simp only[List.getD_cons_zero] at h1 ⊢
    rw[if_pos h1] at hQ
    exact hQ
   ·have e0:=no 0 (by omega)
    simp only[List.getD_cons_zero,List.getD_cons_succ] at h1 e0 ⊢
    rw[if_neg (fun q=>q e0),if_pos h1] at hQ
    exact hQ
   ·have e0:=no 0 (by omega)
    have e1:=no 1 (by omega)
    simp only[List.getD_cons_zero,List.getD_cons_succ] at h1 e0 e1 ⊢
    rw[if_neg (fun q=>q e0),if_neg (fun q=>q e1)] at hQ
    exact hQ
  ·((try simp (maxSteps:=3000000) (dsimp:=false) (disch:=first|omega|simp only[lnx];omega) only[↓ypre,ypost,↓reduceIte,reduceEqDiff,reduceAdd,reduceSub,reduceLeDiff,zz0,ynew,f3,f6,f7,f8,decide_eq_true hlt,ix,rd,decide_eq_false h1,wrap64_in]);try simp only[yback])
   refine InvQ_go (3-(i+1)) (by omega) ⟨(i+1),rfl,by omega,(by first|rfl|exact f3|(simp only[upd_apply];rfl)|(show I64 _=_;congr 1;omega)),(by first|rfl|exact f6|(simp only[upd_apply];rfl)|(show I64 _=_;congr 1;omega)),(by first|rfl|exact f7|(simp only[upd_apply];rfl)|(show I64 _=_;congr 1;omega)),(by first|rfl|exact f8|(simp only[upd_apply];rfl)|(show I64 _=_;congr 1;omega)),rfl,(step_all no (Decidable.not_not.1 h1))⟩
 ·have ei:i=3:=by omega
  subst ei
  have e0:=no 0 (by omega)
  have e1:=no 1 (by omega)
  have e2:=no 2 (by omega)
  simp only[List.getD_cons_zero,List.getD_cons_succ] at e0 e1 e2
  rw[if_neg (fun q=>q e0),if_neg (fun q=>q e1),e2] at hQ
  ((try simp (maxSteps:=3000000) (dsimp:=false) (disch:=first|omega|simp only[lnx];omega) only[↓ypre,ypost,↓reduceIte,reduceEqDiff,reduceAdd,reduceSub,reduceLeDiff,zz0,ynew,f3,f6,f7,f8,decide_eq_false hlt]);try simp only[yback])
  exact hQ
theorem slcaV_view {n off:Nat} {c:List Value} {e:TypeId} {h:AH} (hg:h.get n=some ⟨c,e,false,true⟩) (hl:off+9<c.length):slcaV2 9 1 (.pointer (some ⟨n,off,none⟩)) h=some (.slice (some ⟨n,off,some 0⟩) 9 0,h):=by
 simp only[slcaV2,xop,ev,hg,bound]
 rw[if_neg (fun q=>by have:=q.2.2.1;omega),if_pos (by refine⟨?_,?_,?_,?_,?_,?_,?_⟩<;>first|trivial|omega)]
 simp
theorem slcaV_last {n off:Nat} {c:List Value} {e:TypeId} {h:AH} (hg:h.get n=some ⟨c,e,false,true⟩) (hl:off+9=c.length):slcaV2 9 1 (.pointer (some ⟨n,off,none⟩)) h=some (.slice (some ⟨n,off,none⟩) 9 1,h):=by
 simp only[slcaV2,xop,ev,hg,bound]
 rw[if_pos (by refine⟨?_,?_,?_,?_,?_,?_⟩<;>first|trivial|omega)]
 simp
theorem seg_cell {h:AH} {n:Nat} {q:List Int} {e:TypeId} {ro fl:Bool} {f:Nat} (hg:h.get n=some ⟨cel .u8 q,e,ro,fl⟩) (hq:q.length=27) (hf:f<3):∀ o,o=f*9→∀ j,j<9→h.rd1 n (o+j)=some (.int .u8 ((seg q f).getD j 0)):=fun o ho j hj=>by
 subst ho
 rw[rd1_of hg,cel_get (by omega),seg_at hj]
theorem i_compareProducts {p q:List Int} {h:AH} {Q:Value→AH→Prop} (hp:By 27 p) (hq:By 27 q) (hQ:∀ h',h<+:h'→Q (I64 (cmpL p q)) h'):WF S 88 [aggV .u8 p,aggV .u8 q] h Q:=by
 refine WF_fn (fn:=c88) rfl rfl ?_
 dsimp only[c88,oO,oM,oS,oG,oK,oE,oL,oF,oX,oN]
 have p27:=hp.1
 have q27:=hq.1
 ((try simp (maxSteps:=3000000) (dsimp:=false) (disch:=first|omega|simp only[lnx];omega) only[↓ypre,ypost,↓reduceIte,reduceEqDiff,reduceAdd,reduceSub,reduceLeDiff,zz0,ynew,aggV,cellsL_cel,cel_all]);try simp only[yback])
 generalize hH1:AH.new h _=H1
 obtain⟨hb1,p1,n1⟩:=new_facts hH1
 generalize hH2:AH.new H1 _=H2
 obtain⟨hb2,p2,n2⟩:=new_facts hH2
 have g1:=pre_get p2 hb1
 have cp:(cel .u8 p).length=27:=by rw[cel_len,p27]
 have cq:(cel .u8 q).length=27:=by rw[cel_len,q27]
 have v1:=slcaV_view (off:=0) g1 (by omega)
 have v2:=slcaV_view (off:=0) hb2 (by omega)
 have v3:=slcaV_view (off:=9) g1 (by omega)
 have v4:=slcaV_view (off:=9) hb2 (by omega)
 have v5:=slcaV_last (off:=18) g1 (by omega)
 have v6:=slcaV_last (off:=18) hb2 (by omega)
 ((try simp (maxSteps:=3000000) (dsimp:=false) (disch:=first|omega|simp only[lnx];omega) only[↓ypre,ypost,↓reduceIte,reduceEqDiff,reduceAdd,reduceSub,reduceLeDiff,zz0,ynew,↓WX_slca2,v1,v2]);try simp only[yback])
 refine i_CompareS (.inl ⟨rfl,rfl⟩) (seg_n9 p27 (show 0<3 by omega)) (seg_n9 q27 (show 0<3 by omega)) (seg_cell g1 p27 (by omega) 0 rfl) (seg_cell hb2 q27 (by omega) 0 rfl) ?_
 refine⟨List.prefix_refl _,?_⟩
 ((try simp (maxSteps:=3000000) (dsimp:=false) (disch:=first|omega|simp only[lnx];omega) only[↓ypre,ypost,↓reduceIte,reduceEqDiff,reduceAdd,reduceSub,reduceLeDiff,zz0,ynew,↓WX_slca2,v3,v4]);try simp only[yback])
 refine i_CompareS (.inl ⟨rfl,rfl⟩) (seg_n9 p27 (show 1<3 by omega)) (seg_n9 q27 (show 1<3 by omega)) (seg_cell g1 p27 (by omega) 9 rfl) (seg_cell hb2 q27 (by omega) 9 rfl) ?_
 refine⟨List.prefix_refl _,?_⟩
 ((try simp (maxSteps:=3000000) (dsimp:=false) (disch:=first|omega|simp only[lnx];omega) only[↓ypre,ypost,↓reduceIte,reduceEqDiff,reduceAdd,reduceSub,reduceLeDiff,zz0,ynew,↓WX_slca2,v5,v6]);try simp only[yback])
 refine i_CompareS (.inr ⟨rfl,rfl⟩) (seg_n9 p27 (show 2<3 by omega)) (seg_n9 q27 (show 2<3 by omega)) (seg_cell g1 p27 (by omega) 18 rfl) (seg_cell hb2 q27 (by omega) 18 rfl) ?_
 ((try simp (maxSteps:=3000000) (dsimp:=false) (disch:=first|omega|simp only[lnx];omega) only[↓ypre,ypost,↓reduceIte,reduceEqDiff,reduceAdd,reduceSub,reduceLeDiff,zz0,ynew,fillL,zrep,splice_eq]);try simp only[yback])
 generalize hH3:AH.new H2 _=H3
 obtain⟨hb3,p3,n3⟩:=new_facts hH3
 refine i_Or3 hb3 ?_
 have e:cmpL p q=if cmpL (seg p 0) (seg q 0)≠0 then cmpL (seg p 0) (seg q 0) else if cmpL (seg p 1) (seg q 1)≠0 then cmpL (seg p 1) (seg q 1) else cmpL (seg p 2) (seg q 2):=by
  conv=>lhs;rw[←seg3 p27,←seg3 q27,List.append_assoc,List.append_assoc]
  rw[cmpL_app (by rw[seg_n9 p27 (show 0<3 by omega),seg_n9 q27 (show 0<3 by omega)]),cmpL_app (by rw[seg_n9 p27 (show 1<3 by omega),seg_n9 q27 (show 1<3 by omega)])]
 rw[e] at hQ
 ((try simp (maxSteps:=3000000) (dsimp:=false) (disch:=first|omega|simp only[lnx];omega) only[↓ypre,ypost,↓reduceIte,reduceEqDiff,reduceAdd,reduceSub,reduceLeDiff,zz0,ynew]);try simp only[yback])
 exact hQ _ (p1.trans (p2.trans p3))
end Go.Proofs.YtigpfopobpoamaaGreat.X

set_option linter.unusedVariables false
set_option linter.unusedSimpArgs false
set_option maxRecDepth 20000
set_option maxHeartbeats 4000000
namespace Go.Proofs.YtigpfopobpoamaaGreat.X
open Go Go.RowKit Go.Sort
def sortP_ren:Go.Shelf.Ren:=⟨fun|6=>87|15=>103|14=>102|28=>118|29=>119|20=>110|21=>111|22=>112|23=>113|24=>114|25=>115|26=>116|27=>117|46=>121|47=>122|48=>123|49=>124|50=>125|57=>127|n=>n,fun|22=>24|24=>53|25=>109|3=>3|39=>87|0=>0|53=>133|55=>80|4=>4|46=>126|45=>125|50=>130|5=>5|9=>9|66=>137|70=>141|76=>144|77=>145|n=>n,fun|n=>n⟩
theorem sortP:Go.Proofs.SlLaysF0.n6 Tryz.prog sortP_ren:={
 mixed:=by kernel_rfl
 f6:=⟨Tryz.f87.name,by decide,Tryz.func87.trans (congrArg some (by kernel_rfl))⟩
 f14:=⟨Tryz.f102.name,by decide,Tryz.func102.trans (congrArg some (by kernel_rfl))⟩
 f15:=Tryz.func103.trans (congrArg some (by kernel_rfl))
 f20:=⟨Tryz.f110.name,by decide,Tryz.func110.trans (congrArg some (by kernel_rfl))⟩
 f21:=⟨Tryz.f111.name,by decide,Tryz.func111.trans (congrArg some (by kernel_rfl))⟩
 f22:=⟨Tryz.f112.name,by decide,Tryz.func112.trans (congrArg some (by kernel_rfl))⟩
 f23:=⟨Tryz.f113.name,by decide,Tryz.func113.trans (congrArg some (by kernel_rfl))⟩
 f24:=⟨Tryz.f114.name,by decide,Tryz.func114.trans (congrArg some (by kernel_rfl))⟩
 f25:=⟨Tryz.f115.name,by decide,Tryz.func115.trans (congrArg some (by kernel_rfl))⟩
 f26:=⟨Tryz.f116.name,by decide,Tryz.func116.trans (congrArg some (by kernel_rfl))⟩
 f27:=⟨Tryz.f117.name,by decide,Tryz.func117.trans (congrArg some (by kernel_rfl))⟩
 f28:=Tryz.func118.trans (congrArg some (by kernel_rfl))
 f29:=Tryz.func119.trans (congrArg some (by kernel_rfl))
 f46:=⟨Tryz.f121.name,by decide,Tryz.func121.trans (congrArg some (by kernel_rfl))⟩
 f47:=Tryz.func122.trans (congrArg some (by kernel_rfl))
 f48:=Tryz.func123.trans (congrArg some (by kernel_rfl))
 f49:=⟨Tryz.f124.name,by decide,Tryz.func124.trans (congrArg some (by kernel_rfl))⟩
 f50:=⟨Tryz.f125.name,by decide,Tryz.func125.trans (congrArg some (by kernel_rfl))⟩
 f57:=⟨Tryz.f127.name,by decide,Tryz.func127.trans (congrArg some (by kernel_rfl))⟩
 t0:=Tryz.underlying0
 a0:=Tryz.isAgg0
 z0:=Tryz.sizeOf0
 v0:=Tryz.zeroValue0
 t3:=Tryz.underlying3
 a3:=Tryz.isAgg3
 z3:=Tryz.sizeOf3
 v3:=Tryz.zeroValue3
 t4:=Tryz.underlying4
 a4:=Tryz.isAgg4
 z4:=Tryz.sizeOf4
 v4:=Tryz.zeroValue4
 t5:=Tryz.underlying5
 a5:=Tryz.isAgg5
 z5:=Tryz.sizeOf5
 v5:=Tryz.zeroValue5
 t9:=Tryz.underlying9
 a9:=Tryz.isAgg9
 z9:=Tryz.sizeOf9
 v9:=Tryz.zeroValue9
 t22:=Tryz.underlying24
 a22:=Tryz.isAgg24
 z22:=Tryz.sizeOf24
 v22:=Tryz.zeroValue24
 t25:=Tryz.underlying109
 a25:=Tryz.isAgg109
 z25:=Tryz.sizeOf109
 v25:=Tryz.zeroValue109
 t39:=Tryz.underlying87
 a39:=Tryz.isAgg87
 z39:=Tryz.sizeOf87
 v39:=Tryz.zeroValue87
 t45:=Tryz.underlying125
 a45:=Tryz.isAgg125
 z45:=Tryz.sizeOf125
 v45:=Tryz.zeroValue125
 t46:=Tryz.underlying126
 a46:=Tryz.isAgg126
 z46:=Tryz.sizeOf126
 v46:=Tryz.zeroValue126
 t50:=Tryz.underlying130
 a50:=Tryz.isAgg130
 z50:=Tryz.sizeOf130
 v50:=Tryz.zeroValue130
 t53:=Tryz.underlying133
 a53:=Tryz.isAgg133
 z53:=Tryz.sizeOf133
 v53:=Tryz.zeroValue133
 t55:=Tryz.underlying80
 a55:=Tryz.isAgg80
 z55:=Tryz.sizeOf80
 v55:=Tryz.zeroValue80
 t66:=Tryz.underlying137
 a66:=Tryz.isAgg137
 z66:=Tryz.sizeOf137
 v66:=Tryz.zeroValue137
 t70:=Tryz.underlying141
 a70:=Tryz.isAgg141
 z70:=Tryz.sizeOf141
 v70:=Tryz.zeroValue141
 t76:=Tryz.underlying144
 a76:=Tryz.isAgg144
 z76:=Tryz.sizeOf144
 v76:=Tryz.zeroValue144
 t77:=Tryz.underlying145
 a77:=Tryz.isAgg145
 z77:=Tryz.sizeOf145
 v77:=Tryz.zeroValue145 }
abbrev PqT:={q:List Int // By 27 q}
instance:Inhabited PqT:=⟨⟨List.replicate 27 0,List.length_replicate,fun j hj=>by
 rw[List.getD_eq_getElem?_getD,List.getElem?_replicate,if_pos hj]
 exact⟨by decide,by decide⟩⟩⟩
def encP (x:PqT):List Value:=cel .u8 x.1
theorem encP_len (x:PqT):(encP x).length=27:=by
 unfold encP
 rw[cel_len,x.2.1]
theorem encP_one (x:PqT):∀ v∈encP x,v.oneCell'=true:=fun v hv=>by
 unfold encP cel at hv
 obtain⟨a,-,rfl⟩:=List.mem_map.1 hv
 rfl
def cfP (x y:PqT):Int:=cmpL x.1 y.1
theorem swoP:SWO (ltOf cfP) where
 irrefl x:=by
  have:cmpL x.1 x.1=0:=cmpL_0.2 rfl
  simp[ltOf,cfP,this]
 trans x y z h1 h2:=by
  have h1:cmpL x.1 y.1<0:=of_decide_eq_true h1
  have h2:cmpL y.1 z.1<0:=of_decide_eq_true h2
  exact decide_eq_true ((cmpL_tr (Int.le_of_lt h1) (Int.le_of_lt h2)).2 (.inl h1))
 ntrans x y z h1 h2:=by
  have h1:¬ cmpL x.1 y.1<0:=of_decide_eq_false h1
  have h2:¬ cmpL y.1 z.1<0:=of_decide_eq_false h2
  have e1:=cmpL_neg (l:=x.1) (r:=y.1)
  have e2:=cmpL_neg (l:=y.1) (r:=z.1)
  have e3:=cmpL_neg (l:=x.1) (r:=z.1)
  have:=(cmpL_tr (l:=z.1) (r:=y.1) (s:=x.1) (by omega) (by omega)).1
  exact decide_eq_false (show ¬ cmpL x.1 z.1<0 by omega)
theorem totP (x y:PqT) (h1:ltOf cfP x y=false) (h2:ltOf cfP y x=false):x=y:=by
 have h1:¬ cmpL x.1 y.1<0:=of_decide_eq_false h1
 have h2:¬ cmpL y.1 x.1<0:=of_decide_eq_false h2
 have e1:=cmpL_neg (l:=x.1) (r:=y.1)
 exact Subtype.ext (cmpL_0.1 (by omega))
def srtL (L:List (List Int)):List (List Int):=L.mergeSort fun x y=>!decide (cmpL y x<0)
def toPq (L:List (List Int)) (h:∀ q∈L,By 27 q):List PqT:=L.pmap (fun q hq=>⟨q,hq⟩) h
theorem toPq_val {L:List (List Int)} (h:∀ q∈L,By 27 q):(toPq L h).map (·.1)=L:=by
 unfold toPq
 rw[List.map_pmap]
 simp
theorem srt_val {L:List (List Int)} (h:∀ q∈L,By 27 q):((toPq L h).mergeSort fun x y=>!(ltOf cfP) y x).map (·.1)=srtL L:=by
 have e:=List.map_mergeSort (r:=fun x y=>!(ltOf cfP) y x) (s:=fun x y=>!decide (cmpL y x<0)) (f:=fun x:PqT=>x.1) (l:=toPq L h) (fun a _ b _=>rfl)
 rw[toPq_val] at e
 exact e
theorem srtL_perm {L:List (List Int)}:(srtL L).Perm L:=List.mergeSort_perm _ _
theorem srtL_len {L:List (List Int)}:(srtL L).length=L.length:=srtL_perm.length_eq
theorem flat_inj:∀ {A B:List (List Int)},Wid 27 A→Wid 27 B→A.length=B.length→A.flatten=B.flatten→A=B
 | [],[],_,_,_,_=>rfl
 | [],_::_,_,_,h,_=>by simp at h
 | _::_,[],_,_,h,_=>by simp at h
 | a::A,b::B,hA,hB,hl,h=>by
  rw[List.flatten_cons,List.flatten_cons] at h
  have:=List.append_inj h (by rw[hA a (by simp),hB b (by simp)])
  rw[this.1,flat_inj (fun q hq=>hA q (by simp[hq])) (fun q hq=>hB q (by simp[hq])) (by simpa using hl) this.2]
theorem cel_inj {k:IntKind} {a b:List Int} (h:cel k a=cel k b):a=b:=by
 have e:∀ l:List Int,(cel k l).map (fun v=>match v with|.int _ n=>n|_=>0)=l:=fun l=>by
  unfold cel
  rw[List.map_map]
  exact (List.map_congr_left (g:=id) fun a _=>rfl).trans (List.map_id _)
 rw[←e a,←e b,h]
def cmpV:Value:=.func (.func 88) #[] #[]
def SrtAt (args:List Value) (h:AH) (x:Nat×List (List Int)×TypeId×Bool):Prop:=
 args=[.slice (some ⟨x.1,0,none⟩) x.2.1.length 27,cmpV]∧h.get x.1=some ⟨cel .u8 x.2.1.flatten,x.2.2.1,false,x.2.2.2⟩∧Wid 27 x.2.1∧Byt 27 x.2.1∧x.2.1.length<4611686018427387904
theorem SrtAt.eq {args:List Value} {h:AH} {x y:Nat×List (List Int)×TypeId×Bool} (a:SrtAt args h x) (b:SrtAt args h y):x=y:=by
 obtain⟨n,L,e,fu⟩:=x
 obtain⟨n',L',e',fu'⟩:=y
 obtain⟨a1,a2,a3,a4,a5⟩:=a
 obtain⟨b1,b2,b3,b4,b5⟩:=b
 rw[a1] at b1
 simp only[List.cons.injEq,Value.slice.injEq,Option.some.injEq,Addr.mk.injEq,and_true] at b1
 obtain⟨rfl,hl⟩:=b1
 simp only at a2 b2 a3 b3 hl
 rw[a2] at b2
 simp only[Option.some.injEq,Blk.mk.injEq,true_and] at b2
 obtain⟨hc,rfl,rfl⟩:=b2
 rw[flat_inj a3 b3 hl (cel_inj hc)]
open Classical in
noncomputable def srt (args:List Value) (h:AH):Option (Value×AH):=
 if hx:∃ x,SrtAt args h x then some (.tuple #[],h.put hx.choose.1 ⟨cel .u8 (srtL hx.choose.2.1).flatten,hx.choose.2.2.1,false,hx.choose.2.2.2⟩)
 else if args=[.slice none 0 0,cmpV] then some (.tuple #[],h) else none
theorem srt_at {args:List Value} {h:AH} {n:Nat} {L:List (List Int)} {e:TypeId} {fu:Bool} (a:SrtAt args h (n,L,e,fu)):srt args h=some (.tuple #[],h.put n ⟨cel .u8 (srtL L).flatten,e,false,fu⟩):=by
 unfold srt
 rw[dif_pos ⟨_,a⟩]
 have:(show ∃ x,SrtAt args h x from⟨_,a⟩).choose=(n,L,e,fu):=(Exists.choose_spec (show ∃ x,SrtAt args h x from⟨_,a⟩)).eq a
 rw[this]
theorem srt_nil {h:AH}:srt [.slice none 0 0,cmpV] h=some (.tuple #[],h):=by
 unfold srt
 rw[dif_neg,if_pos rfl]
 rintro⟨x,a,-⟩
 simp at a
noncomputable def E1:FuncId→Option (List Value→AH→Option (Value×AH)):=fun g=>if g=87 then some srt else none
noncomputable def S1:XS:=⟨E1,T⟩
theorem up_call:∀ k,CLe (xcall S.E S.T k) (xcall S1.E S1.T k)
 | 0=>fun g a h r hx=>by simp[xcall] at hx
 | k+1=>by
  intro g a h r hx
  have ih:=up_call k
  rw[xcall] at hx ⊢
  have e0:S.E g=none:=rfl
  rw[e0] at hx
  by_cases hg:g=87
  ·subst hg
   exfalso
   have:S.T 87=none:=rfl
   simp only[this] at hx
   cases hx
  ·have e1:S1.E g=none:=if_neg hg
   rw[e1]
   simp only at hx ⊢
   split at hx
   ·cases hx
   ·rename_i fn hfn
    have hfn':S1.T g=some fn:=hfn
    rw[hfn']
    simp only
    split at hx
    ·cases hx
    ·rename_i e f' h' hne hc
     rw[xcode_mono ih (Nat.le_refl _) hc]
     cases e with
     | exit id=>exact (hne id rfl).elim
     | normal=>exact hx
     | ret=>exact hx
    ·cases hx
theorem up {g:FuncId} {args:List Value} {h:AH} {Q:Value→AH→Prop} (w:WF S g args h Q):WF S1 g args h Q:=by
 obtain⟨k,v,h',h1,h2⟩:=w
 exact⟨k,v,h',up_call k g args h _ h1,h2⟩
theorem i_SortFunc {n:Nat} {L:List (List Int)} {e:TypeId} {fu:Bool} {h:AH} {Q:Value→AH→Prop} (hg:h.get n=some ⟨cel .u8 L.flatten,e,false,fu⟩) (w:Wid 27 L) (b:Byt 27 L) (hl:L.length<4611686018427387904)
  (hQ:Q (.tuple #[]) (h.put n ⟨cel .u8 (srtL L).flatten,e,false,fu⟩)):WF S1 87 [.slice (some ⟨n,0,none⟩) L.length 27,cmpV] h Q:=by
 refine⟨1,_,_,?_,hQ⟩
 rw[xcall]
 have e1:S1.E 87=some srt:=by simp[S1,E1]
 rw[e1]
 exact srt_at (n:=n) (L:=L) (e:=e) (fu:=fu) ⟨rfl,hg,w,b,hl⟩
theorem i_SortFunc0 {h:AH} {Q:Value→AH→Prop} (hQ:Q (.tuple #[]) h):WF S1 87 [.slice none 0 0,cmpV] h Q:=by
 refine⟨1,_,_,?_,hQ⟩
 rw[xcall]
 have e1:S1.E 87=some srt:=by simp[S1,E1]
 rw[e1]
 exact srt_nil
end Go.Proofs.YtigpfopobpoamaaGreat.X

set_option linter.unusedVariables false
set_option linter.unusedSimpArgs false
namespace Go.Proofs.YtigpfopobpoamaaGreat.X
open Go Go.RowKit Go.ChangeShapes Go.WideShapes Go.Deep
structure Adm (P:Program) (W:World) (γ:List G) (h:AH):Prop where
 rel:Rel P W.heap.size γ h W
 ro:∀ n b,h.get n=some b→b.ro=true
theorem Adm.nil (P:Program) (W:World):Adm P W [] [] where
 rel:={
  len:=rfl
  cell:=fun n b g h=>by simp[AH.get] at h
  rw:=fun n b g h=>by simp[AH.get] at h
  ro:=fun n b g h=>by simp[AH.get] at h
  inj:=fun n m bn bm g g' h=>by simp[AH.get] at h
  base:=Nat.le_refl _ }
 ro:=fun n b h=>by simp[AH.get] at h
theorem Adm.new {P:Program} {W:World} {γ:List G} {h:AH} (A:Adm P W γ h) {g:G} {cs:List Value} {e:TypeId} (hb:g.b<W.heap.size)
  (hc:∀ j v,cs[j]?=some v→isOne v=true∧∃ v',W.cell? ⟨g.b,g.o+j,none⟩=some v'∧VR γ v v'):Adm P W (γ++[g]) (h.new ⟨cs,e,true,false⟩):=by
 have hl:=A.rel.len
 have hp:γ<+:γ++[g]:=List.prefix_append _ _
 have old:∀ {n:Nat} {g':G},n<h.length→(γ++[g])[n]?=some g'→γ[n]?=some g':=fun hn hg=>by
  rw[List.getElem?_append_left (by omega)] at hg
  exact hg
 have new:∀ {g':G},(γ++[g])[h.length]?=some g'→g'=g:=fun hg=>by
  rw[←hl] at hg
  simpa using hg.symm
 refine⟨⟨by simp[len_new,hl],?_,?_,?_,?_,Nat.le_refl _⟩,?_⟩
 ·intro n b g' hb' hg' j v hv
  rcases get_new_cases hb' with hb'|⟨rfl,rfl⟩
  ·obtain⟨q1,v',q2,q3⟩:=A.rel.cell n b g' hb' (old (get_lt hb') hg') j v hv
   exact⟨q1,v',q2,q3.mono hp⟩
  ·obtain rfl:=new hg'
   obtain⟨q1,v',q2,q3⟩:=hc j v hv
   exact⟨q1,v',q2,q3.mono hp⟩
 ·intro n b g' hb' hg' hro
  rcases get_new_cases hb' with hb'|⟨rfl,rfl⟩
  ·rw[A.ro n b hb'] at hro
   cases hro
  ·cases hro
 ·intro n b g' hb' hg' hro
  rcases get_new_cases hb' with hb'|⟨rfl,rfl⟩
  ·exact A.rel.ro n b g' hb' (old (get_lt hb') hg') hro
  ·obtain rfl:=new hg'
   exact hb
 ·intro n m bn bm g1 g2 h1 h2 h3 h4 hro
  rcases get_new_cases h1 with hb'|⟨rfl,rfl⟩
  ·rw[A.ro n bn hb'] at hro
   cases hro
  ·cases hro
 ·intro n b hb'
  rcases get_new_cases hb' with hb'|⟨rfl,rfl⟩
  ·exact A.ro n b hb'
  ·rfl
section
variable {H:Type} {enc:TypeId×Value→H} {P:Program} {W:World}
theorem add_off (a:Addr) (ha:a.spot=none) (i:Nat):a.add i=⟨a.block,a.off+i,none⟩:=by
 unfold Addr.add
 split
 ·rename_i h0
  subst h0
  obtain⟨b,o,s⟩:=a
  simp at ha
  subst ha
  rfl
 ·rfl
def tyInt (P:Program) (t:TypeId):Bool:=match P.underlying t with
 | some (.int .i64)=>true
 | _=>false
def tySlice (P:Program) (t e:TypeId):Bool:=match P.underlying t with
 | some (.slice e')=>e'==e
 | _=>false
theorem tySlice_eq {t e:TypeId} (h:tySlice P t e=true):P.underlying t=some (.slice e):=by
 unfold tySlice at h
 split at h
 ·rename_i e' he
  have:e'=e:=by simpa using h
  rw[he,this]
 ·cases h
theorem stays_all (hl:laidOutB P=true) {W W':World} (bel:Below W.heap.size W W'):∀ {ts:List TypeId} {vs:List Value} {ds:List (DataW H)} {ps:List MemPlace},
  (∀ t∈ts,P.readableRec t=true∧t<P.types.size)→DataW.TrodAll enc P W 0 (fun _=>true) true ts vs ds ps→DataW.TrodAll enc P W' 0 (fun b=>decide (b<W.heap.size)) true ts vs ds ps
 | [],[],[],_,_,h=>h
 | _::_,_::_,_::_,_,ht,⟨p,q,h1,h2,e⟩=>by
  have hlt:∀ r∈p,r.block<W.heap.size:=by
   have hall:DataW.TrodAll enc P W 0 (fun _=>true) true [_] [_] [_] p:=trodAll_mk1 h1
   exact hall.lt
  refine⟨p,q,Go.WideElems.Trod_stays hl (ht _ (List.mem_cons.2 (.inl rfl))).1 (ht _ (List.mem_cons.2 (.inl rfl))).2 h1 (fun r hr=>bel.same (hlt r hr)) (fun r hr=>by simpa using hlt r hr),?_,e⟩
  exact stays_all hl bel (fun t ht'=>ht t (List.mem_cons.2 (.inr ht'))) h2
theorem calls_of_WF {S:XS} (hm:P.follows .mixedOrders=true) (hE:ESound P S.E) (hT:TSound P S.T) {g:FuncId} {args args':List Value} {γ:List G} {h:AH} {W:World} {Q:Value→AH→Prop}
  (A:Adm P W γ h) (hv:VRL γ args args') (hw:WF S g args h Q) :
  Calls P g args'.toArray W (fun e W'=>∃ v v' γ' h',e=.returned v'∧VR γ' v v'∧Q v h'∧Below W.heap.size W W'):=by
 obtain⟨k,v,h',h1,h2⟩:=hw
 have:=(xcall_sound hm hE hT k g args h v h' h1).2 W.heap.size γ W args' A.rel hv
 refine this.mono fun e W' ⟨γ',v',q1,q2,q3⟩=>⟨v,v',γ',h',q1,q2,h2,?_⟩
 refine⟨q3.os,q3.tape,q3.output,q3.size,fun b hb=>q3.frame b hb fun ⟨n,blk,g,o1,o2,o3,o4⟩=>?_⟩
 rw[A.ro n blk o1] at o3
 cases o3
end
end Go.Proofs.YtigpfopobpoamaaGreat.X

set_option linter.unusedVariables false
set_option linter.unusedSimpArgs false
set_option maxRecDepth 20000
set_option maxHeartbeats 4000000
namespace Go.Proofs.YtigpfopobpoamaaGreat.X
open Go Go.RowKit Go.Sort
section
variable {P:Program} {B:Nat} {γ γ':List G} {h h':AH} {w w':World}
theorem VR.ints {k:IntKind} {q:List Int}:VR γ (aggV k q) (aggV k q):=by
 refine VR.aggL ⟨rfl,fun i a b ha hb=>?_⟩
 rw[ha] at hb
 cases hb
 have:=List.mem_of_getElem? ha
 unfold cel at this
 obtain⟨n,-,rfl⟩:=List.mem_map.1 this
 exact .int _ _
theorem Sim.ahead (R:Rel P B γ h w) (n:Nat):Sim P B γ h w γ h (Sort.ahead w n):=
 ⟨⟨R.len,R.cell,R.rw,R.ro,R.inj,R.base⟩,List.prefix_refl _,Nat.le_refl _,fun _ _ _=>rfl,fun b hb=>.inl hb,rfl,rfl,rfl,Nat.le_add_right _ _⟩
theorem Sim.grown {γ0:List G} {h0:AH} {w0:World}:∀ (os:List Obj) {w:World},Sim P B γ0 h0 w0 γ h w→Sim P B γ0 h0 w0 γ h (grow w os.toArray)
 | [],w,S=>by rw[show ([]:List Obj).toArray=#[] from rfl,grow_empty];exact S
 | o::os,w,S=>by
  have:=Sim.grown os (S.besideAlloc o)
  rw[alloc_eq_grow,grow_grow] at this
  have e:#[o]++os.toArray=(o::os).toArray:=by simp
  rwa [e] at this
theorem sim_grow {g':List G} (S:Sim P B [] [] w g' h' w'):w'=grow (w.drewN (w'.drawn-w.drawn)) (w'.heap.extract w.heap.size w'.heap.size):=by
 have hs:=S.size
 have hh:w'.heap=w.heap++w'.heap.extract w.heap.size w'.heap.size:=by
  refine Array.ext_getElem? fun k=>?_
  by_cases hk:k<w.heap.size
  ·rw[Array.getElem?_append_left hk]
   exact S.frame k hk fun ⟨n,blk,g,h1,_⟩=>by simp[AH.get] at h1
  ·rw[Array.getElem?_append_right (by omega),Array.getElem?_extract]
   by_cases h2:k<w'.heap.size
   ·rw[if_pos (by omega)]
    congr 1
    omega
   ·rw[if_neg (by omega),Array.getElem?_eq_none (by omega)]
 have ho:=S.os
 have ht:=S.tape
 have hp:=S.output
 have hd:=S.dr
 obtain⟨a,b,c,d,e⟩:=w
 obtain⟨a',b',c',d',e'⟩:=w'
 simp only at hh ho ht hp hd hs
 subst ho ht hp
 unfold grow World.drewN
 simp only[World.mk.injEq,and_true]
 exact⟨hh,trivial,by omega⟩
theorem mapBlock_setRow {w:World} {b:Nat} {f:Array Value→Array Value} {cur:Array Value} {e:TypeId} {fr:Nat×Nat} (hb:w.heap[b]?=some (.cells cur e fr)):mapBlock w b f=w.setRow b (f cur):=by
 unfold mapBlock World.setRow
 congr 1
 refine Array.ext_getElem? fun k=>?_
 rw[Array.getElem?_modify,Array.getElem?_modify]
 by_cases hk:b=k
 ·subst hk
  rw[if_pos rfl,if_pos rfl,hb]
  rfl
 ·rw[if_neg hk,if_neg hk]
end
theorem cmp_lays (blk off size:Nat) (w:World):CmpLays Tryz.prog 88 #[] encP 27 cfP blk off size w:=by
 intro m os dk _ x y
 generalize sortWorldK encP 27 w blk off m dk os=W
 obtain⟨k,v,h',h1,h2⟩:=i_compareProducts (h:=[]) (Q:=fun v h'=>v=I64 (cmpL x.1 y.1)) x.2 y.2 (fun _ _=>rfl)
 subst h2
 have:=(xcall_sound orders esound tsound k _ _ _ _ _ h1).2 W.heap.size [] W [aggV .u8 x.1,aggV .u8 y.1] (Adm.nil Tryz.prog W).rel (VRL.cons VR.ints (VRL.cons VR.ints (VRL.nil _)))
 have e0:(#[Value.agg (encP x).toArray,Value.agg (encP y).toArray]++#[]:Array Value)=#[aggV .u8 x.1,aggV .u8 y.1]:=rfl
 rw[e0]
 refine Calls.mono this ?_
 rintro e w' ⟨γ',v',rfl,hv,S⟩
 exact⟨by rw[hv.int_inv];rfl,_,_,sim_grow S⟩
theorem flatK_at {d:Array PqT} {L:List (List Int)} (hd:d.toList.map (·.1)=L) (w27:Wid 27 L) {t:Nat} (ht:t<d.size*27):some (flatK encP 27 d)[t]! = (cel .u8 L.flatten)[t]?:=by
 have hl:d.size=L.length:=by rw[←hd];simp
 rw[get_flatK _ _ _ _ ht]
 have h1:t / 27<L.length:=by omega
 have h2:t%27<27:=Nat.mod_lt _ (by omega)
 have g1:t / 27<d.size:=by omega
 have e1:(d[t / 27]!).1=L.getD (t / 27) []:=by
  have e0:L.getD (t / 27) []=(d.toList.map (·.1)).getD (t / 27) []:=by rw[hd]
  rw[e0,getElem!_pos d (t / 27) g1,List.getD_eq_getElem?_getD,List.getElem?_map,Array.getElem?_toList,Array.getElem?_eq_getElem g1]
  rfl
 have hq:(L.getD (t / 27) []).length=27:=w27 _ (gd_mem h1)
 have e2:L.flatten.getD t 0=(L.getD (t / 27) []).getD (t%27) 0:=by
  have f1:=flat_dr w27 (i:=t / 27) (by omega)
  have:L.flatten.getD t 0=(L.flatten.drop (t / 27*27)).getD (t%27) 0:=by
   rw[List.getD_eq_getElem?_getD,List.getD_eq_getElem?_getD,List.getElem?_drop]
   congr 2
   omega
  rw[this,f1,List.drop_eq_getElem_cons h1,List.flatten_cons,getD_app_l (by rw[w27 _ (List.getElem_mem h1)];exact h2),List.getD_eq_getElem?_getD (l:=L),List.getElem?_eq_getElem h1,Option.getD_some]
 have fl:=flat_len w27
 have ht':t<L.flatten.length:=by rw[fl];omega
 rw[cel_get ht',e2,←e1]
 unfold encP
 have hlen:(d[t / 27]!).1.length=27:=by rw[e1];exact hq
 rw[List.getElem!_eq_getElem?_getD,cel_get (by omega)]
 rfl
theorem srtL_wid {L:List (List Int)} (w:Wid 27 L):Wid 27 (srtL L):=fun q hq=>w q (srtL_perm.mem_iff.1 hq)
theorem sort_sim {B:Nat} {γ:List G} {h:AH} {w:World} {n:Nat} {L:List (List Int)} {e:TypeId} {fu:Bool} {gg:G} (R:Rel Tryz.prog B γ h w) (hg:h.get n=some ⟨cel .u8 L.flatten,e,false,fu⟩) (hgγ:γ[n]?=some gg) (w27:Wid 27 L) (hby:∀ q∈L,By 27 q)
  {d':Array PqT} (hd:d'.toList.map (·.1)=srtL L) (k:Nat) (os:Array Obj) :
  Sim Tryz.prog B γ h w γ (h.put n ⟨cel .u8 (srtL L).flatten,e,false,fu⟩) (sortWorldK encP 27 w gg.b 0 k d' os):=by
 obtain⟨ho,hB,hcapb,⟨cur,hcur,hcs⟩,hfull,hdiv⟩:=R.rw n _ gg hg hgγ rfl
 have fl:=flat_len w27
 have fl':=flat_len (srtL_wid w27)
 rw[srtL_len] at fl'
 have hcapb:L.length*27≤gg.cap:=by simpa [cel_len,fl] using hcapb
 have hds:d'.size=L.length:=by
  have:=congrArg List.length hd
  rw[List.length_map,srtL_len] at this
  simpa using this
 have S0:=Sim.ahead R k
 have hpr:putRowK encP 27 (Sort.ahead w k) gg.b 0 d'=(Sort.ahead w k).setRow gg.b (putCells id 0 (flatK encP 27 d') cur):=mapBlock_setRow (e:=e) (fr:=(0,0)) hcur
 have S2:=Sim.stored S0.rel hg hgγ rfl (cel .u8 (srtL L).flatten) (putCells id 0 (flatK encP 27 d') cur) cur hcur (by simp only[cel_len,fl,fl']) (by simp[putCells]) cel_all (fun j v hv=>by
  have hj:=(List.getElem?_eq_some_iff.1 hv).1
  rw[cel_len,fl'] at hj
  have hF:=flatK_at hd (srtL_wid w27) (t:=j) (by omega)
  rw[hv] at hF
  refine⟨v,?_,?_⟩
  ·unfold putCells
   rw[Array.getElem?_mapIdx,Array.getElem?_eq_getElem (show j<cur.size by omega),Option.map_some,if_pos ⟨Nat.zero_le _,by rw[size_flatK];omega⟩]
   exact hF
  ·rw[cel_get (by omega)] at hv
   cases hv
   exact .int _ _)
 have S3:=Sim.grown os.toList (S0.trans S2)
 unfold sortWorldK
 rw[hpr]
 exact S3
theorem esound1:ESound Tryz.prog S1.E:=by
 intro g p hp
 by_cases hg:g=87
 case neg=>
  have:S1.E g=none:=by simp[S1,E1,hg]
  rw[this] at hp
  cases hp
 subst hg
 have hp:srt=p:=by simpa [S1,E1] using hp
 subst hp
 intro g' args h v h' hx
 simp only at hx
 by_cases hgg:g'=87
 case neg=>rw[if_neg hgg] at hx;cases hx
 rw[if_pos hgg] at hx
 subst hgg
 refine⟨⟨_,Tryz.func87,by kernel_rfl,by kernel_rfl⟩,fun B γ w args' R hv=>?_⟩
 have two:∀ {x:Value},VRL γ [x,cmpV] args'→∃ a',args'=[a',cmpV]∧VR γ x a':=fun {x} hv=>by
  obtain⟨a',f',rfl⟩:∃ a' f',args'=[a',f']:=by
   have:=hv.1
   match args',this with
   | [a',f'],_=>exact⟨a',f',rfl⟩
  have v2:=hv.uncons.2.uncons.1
  have hf:f'=cmpV:=by
   unfold cmpV at v2 ⊢
   cases v2 with
   | func f xs ys hs _=>
    have:ys=#[]:=Array.size_eq_zero_iff.1 hs.symm
    subst this
    rfl
  subst hf
  exact⟨a',rfl,hv.uncons.1⟩
 by_cases hx1:∃ x,SrtAt args h x
 ·obtain⟨⟨n,L,e,fu⟩,a⟩:=hx1
  rw[srt_at a] at hx
  simp only[Option.some.injEq,Prod.mk.injEq] at hx
  obtain⟨rfl,rfl⟩:=hx
  obtain⟨rfl,hg,w27,b27,hl⟩:=a
  simp only at hg w27 b27 hl
  obtain⟨a',rfl,v1⟩:=two hv
  obtain⟨-,gg,hgγ,-,hcap,rfl⟩:=v1.slc_inv (by omega)
  obtain⟨ho,hB,hcapb,⟨cur,hcur,hcs⟩,hfull,hdiv⟩:=R.rw n _ gg hg hgγ rfl
  have hby:∀ q∈L,By 27 q:=(byt_iff w27).1 b27
  have fl:=flat_len w27
  obtain⟨d,hd⟩:∃ d:Array PqT,d=(toPq L hby).toArray:=⟨_,rfl⟩
  have hdl:d.toList.map (·.1)=L:=by rw[hd];exact toPq_val hby
  have hds:d.size=L.length:=by
   have:=congrArg List.length hdl
   rw[List.length_map] at this
   simpa using this
  have hH:HoldsK encP 27 w gg.b 0 d:=by
   intro j hj
   rw[size_flatK] at hj
   have hF:=flatK_at hdl w27 hj
   have hjL:j<L.flatten.length:=by rw[fl,←hds];exact hj
   obtain⟨-,v',h4,h5⟩:=R.cell n _ gg hg hgγ j _ hF.symm
   rw[cel_get hjL] at hF
   have hF:=Option.some.inj hF
   rw[hF] at h5
   refine⟨?_,?_⟩
   ·rw[ho] at h4
    rw[h4,h5.int_inv]
    exact congrArg some hF.symm
   ·unfold World.frozen?
    rw[hcur]
    simp
  have eg:∀ args w,(callFunc 88 args).run Tryz.prog w=.ok (.enter 88 args) w:=enters_of Tryz.func88 (by kernel_rfl) rfl
  have con:=AnyQ.slices_SortFunc_total sortP 27 Tryz.isAgg53 Tryz.sizeOf53 encP encP_len encP_one cfP swoP 88 #[] gg.b 0 ((gg.cap-0) / 27) d w eg (cmp_lays gg.b 0 d.size w) hH (Array.getElem?_eq_some_iff.1 hcur).1 (by omega) totP
  change Calls Tryz.prog 87 _ _ _ at con
  rw[hds] at con
  rw[ho]
  refine Calls.mono con ?_
  rintro e' w' ⟨rfl,m,os,rfl⟩
  refine⟨γ,_,rfl,VR.undef γ,?_⟩
  refine sort_sim R hg hgγ w27 hby ?_ m os
  rw[hd]
  exact srt_val hby
 ·unfold srt at hx
  rw[dif_neg hx1] at hx
  split at hx
  ·rename_i he
   subst he
   simp only[Option.some.injEq,Prod.mk.injEq] at hx
   obtain⟨rfl,rfl⟩:=hx
   obtain⟨a',rfl,v1⟩:=two hv
   obtain⟨-,h3⟩:=v1.nil_inv
   have h3:a'=.slice none 0 0:=by simpa using h3
   subst h3
   have con:=AnyF.slices_SortFunc_none { sortP with } none 0 cmpV w
   change Calls Tryz.prog 87 _ _ _ at con
   refine Calls.mono con ?_
   rintro e' w' ⟨rfl,rfl⟩
   exact⟨γ,_,rfl,VR.undef γ,Sim.refl R⟩
  ·cases hx
end Go.Proofs.YtigpfopobpoamaaGreat.X

set_option linter.unusedVariables false
set_option linter.unusedSimpArgs false
set_option maxRecDepth 20000
set_option maxHeartbeats 4000000
namespace Go.Proofs.YtigpfopobpoamaaGreat.X
open Go Go.RowKit Go.Sort
open Nat (reduceEqDiff reduceAdd reduceSub reduceLeDiff)
theorem srtL_byt {L:List (List Int)} (w:Wid 27 L) (b:Byt 27 L):Byt 27 (srtL L):=(byt_iff (srtL_wid w)).2 fun q hq=>(byt_iff w).1 b q (srtL_perm.mem_iff.1 hq)
theorem i_sorted {x:Sch} {v:Value} {h:AH} {Q:Value→AH→Prop} (hv:Prods h v x.ps) (nk:NK v) (hl:x.ps.length≤1000)
  (hQ:∀ w h',h<+:h'→KN h.length h' (fun h2=>Prods h2 w (srtL x.ps))→Q (schV (wps x (srtL x.ps)) w) h'):WF S1 56 [schV x v] h Q:=by
 refine WF_fn (fn:=c56) rfl rfl ?_
 dsimp only[c56,oO,oM,oS,oG,oK,oE,oL,oF,oX,oN]
 have o1:=hv.one
 ((try simp (maxSteps:=3000000) (dsimp:=false) (disch:=first|omega|simp only[lnx];omega) only[↓ypre,ypost,↓reduceIte,reduceEqDiff,reduceAdd,reduceSub,reduceLeDiff,zz0,ynew,schV,o1]);try simp only[yback])
 generalize hH1:AH.new h _=H1
 obtain⟨hb1,p1,n1⟩:=new_facts hH1
 generalize hH2:AH.new H1 _=H2
 obtain⟨hb2,p2,n2⟩:=new_facts hH2
 have g1:=pre_get p2 hb1
 ((try simp (maxSteps:=3000000) (dsimp:=false) (disch:=first|omega|simp only[lnx];omega) only[↓ypre,ypost,↓reduceIte,reduceEqDiff,reduceAdd,reduceSub,reduceLeDiff,zz0,ynew,rd1_of g1]);try simp only[yback])
 refine up (i_CloneP ((hv.pre (p1.trans p2)).1) nk hl fun w0 H3 p3 on=>?_)
 have g1:=pre_get p3 g1
 have g2:=pre_get p3 hb2
 have q3:=pre_len p3
 have P3:=p1.trans (p2.trans p3)
 have on':=on
 obtain⟨w27,⟨rfl,e0⟩|⟨kb,fu,rfl,hkb,gkb⟩⟩:=on'
 ·((try simp (maxSteps:=3000000) (dsimp:=false) (disch:=first|omega|simp only[lnx];omega) only[↓ypre,ypost,↓reduceIte,reduceEqDiff,reduceAdd,reduceSub,reduceLeDiff,zz0,ynew]);try simp only[yback])
  refine i_SortFunc0 ?_
  have es:srtL x.ps=[]:=List.length_eq_zero_iff.1 (by rw[srtL_len,e0];rfl)
  rw[es] at hQ
  ((try simp (maxSteps:=3000000) (dsimp:=false) (disch:=first|omega|simp only[lnx];omega) only[↓ypre,ypost,↓reduceIte,reduceEqDiff,reduceAdd,reduceSub,reduceLeDiff,zz0,ynew,rdn_of g1]);try simp only[yback])
  refine up (i_with (x:=x) (L:=[]) (v:=v) o1 rfl rfl fun H4 p4=>?_)
  have g2:=pre_get p4 g2
  have l2:=get_lt g2
  have kn:KN H3.length H4 (fun h2=>Prods h2 (.slice none 0 0) []):=fun h2 d1 d2=>⟨.inl ⟨rfl,0,by omega,rfl⟩,fun i hi=>by simp at hi⟩
  ((try simp (maxSteps:=3000000) (dsimp:=false) (disch:=first|omega|simp only[lnx];omega) only[↓ypre,ypost,↓reduceIte,reduceEqDiff,reduceAdd,reduceSub,reduceLeDiff,zz0,ynew,schV,wr_of g2,splice_eq,rdn_put_same]);try simp only[yback])
  exact hQ _ _ (pre_put (P3.trans p4) (by omega)) ((KN.put kn (by omega)).mono (by omega))
 ·((try simp (maxSteps:=3000000) (dsimp:=false) (disch:=first|omega|simp only[lnx];omega) only[↓ypre,ypost,↓reduceIte,reduceEqDiff,reduceAdd,reduceSub,reduceLeDiff,zz0,ynew]);try simp only[yback])
  refine i_SortFunc gkb w27 hv.2 (by omega) ?_
  generalize hH4:AH.put H3 _ _=H4
  have lkb:=get_lt gkb
  have gk:H4.get kb=some ⟨cel .u8 (srtL x.ps).flatten,53,false,fu⟩:=by rw[←hH4];exact get_put_same lkb
  have P4:h<+:H4:=by rw[←hH4];exact pre_put P3 (by omega)
  have g1:=(show AH.get H4 h.length=AH.get H3 h.length from by rw[←hH4];exact get_put_ne (by omega)).trans g1
  have g2:=(show AH.get H4 H1.length=AH.get H3 H1.length from by rw[←hH4];exact get_put_ne (by omega)).trans g2
  have L4:H4.length=H3.length:=by rw[←hH4,len_put]
  have o4:OwnP H2.length H4 (.slice (some ⟨kb,0,none⟩) (srtL x.ps).length 27) (srtL x.ps):=⟨srtL_wid w27,.inr ⟨kb,fu,rfl,hkb,gk⟩⟩
  have ls:(srtL x.ps).length=x.ps.length:=srtL_len
  rw[←ls]
  ((try simp (maxSteps:=3000000) (dsimp:=false) (disch:=first|omega|simp only[lnx];omega) only[↓ypre,ypost,↓reduceIte,reduceEqDiff,reduceAdd,reduceSub,reduceLeDiff,zz0,ynew,rdn_of g1]);try simp only[yback])
  refine up (i_with (x:=x) (L:=srtL x.ps) (v:=v) o1 rfl rfl fun H5 p5=>?_)
  have g2:=pre_get p5 g2
  have l2:=get_lt g2
  have kn:=(o4.pre p5).kN (lo':=H2.length) (srtL_byt w27 hv.2) (Nat.le_refl _)
  ((try simp (maxSteps:=3000000) (dsimp:=false) (disch:=first|omega|simp only[lnx];omega) only[↓ypre,ypost,↓reduceIte,reduceEqDiff,reduceAdd,reduceSub,reduceLeDiff,zz0,ynew,schV,wr_of g2,splice_eq,rdn_put_same]);try simp only[yback])
  exact hQ _ _ (pre_put (P4.trans p5) (by omega)) ((KN.put kn (by omega)).mono (by omega))
theorem i_EqualP {v w:Value} {L R:List (List Int)} {h:AH} {Q:Value→AH→Prop} (hv:Prods h v L) (hw:Prods h w R) (hl:L.length≤1000) (hr:R.length≤1000)
  (hQ:Q (.bool (decide (L=R))) h):WF S 55 [v,w] h Q:=by
 refine WF_fn (fn:=c55) rfl rfl ?_
 dsimp only[c55,oO,oM,oS,oG,oK,oE,oL,oF,oX,oN]
 have vl:=hv.1.len
 have wl:=hw.1.len
 by_cases h0:(L.length:Int)=R.length
 case neg=>
  have:decide (L=R)=false:=decide_eq_false (fun e=>h0 (by rw[e]))
  rw[this] at hQ
  ((try simp (maxSteps:=3000000) (dsimp:=false) (disch:=first|omega|simp only[lnx];omega) only[↓ypre,ypost,↓reduceIte,reduceEqDiff,reduceAdd,reduceSub,reduceLeDiff,zz0,ynew,vl,wl,decide_eq_true (show (L.length:Int)≠R.length from h0)]);try simp only[yback])
  exact hQ
 ((try simp (maxSteps:=3000000) (dsimp:=false) (disch:=first|omega|simp only[lnx];omega) only[↓ypre,ypost,↓reduceIte,reduceEqDiff,reduceAdd,reduceSub,reduceLeDiff,zz0,ynew,vl,wl,decide_eq_false (show ¬ (L.length:Int)≠R.length from fun h=>h h0)]);try simp only[yback])
 refine WC_loop_inv (fun m f K1=>∃ (i:Nat),m=L.length-i∧i≤L.length∧f 0=v∧f 1=w∧f 12=I64 L.length∧f 13=I64 i∧K1=h∧((∀ j,j<i→L.getD j []=R.getD j []))) ?_ (L.length-0) _ _ ⟨0,rfl,by omega,(by first|rfl|simp[upd_apply]),(by first|rfl|simp[upd_apply]),(by first|rfl|simp[upd_apply]),(by first|rfl|simp[upd_apply]),rfl,(fun _ h=>absurd h (Nat.not_lt_zero _))⟩
 rintro m f K1 ⟨i,rfl,hi,f0,f1,f12,f13,rfl,no⟩
 by_cases hlt:(i:Int)<L.length
 ·obtain⟨n1',o1,ix1,rd1⟩:=(hv.1).at (i:=i) (by omega)
  obtain⟨n2',o2,ix2,rd2⟩:=(hw.1).at (i:=i) (by omega)
  have b27:=(hv.by (i:=i) (by omega)).1
  have c27:=(hw.by (i:=i) (by omega)).1
  have r1:=rd1.1 0 27 (by omega)
  have r2:=rd2.1 0 27 (by omega)
  rw[Nat.add_zero,List.drop_zero,List.take_of_length_le (by omega)] at r1 r2
  have e:=eqaV_ceT (k:=.u8) b27 c27 (by omega)
  by_cases he:L.getD i []=R.getD i []
  ·rw[show (L.getD i []==R.getD i [])=true by simpa using he] at e
   ((try simp (maxSteps:=3000000) (dsimp:=false) (disch:=first|omega|simp only[lnx];omega) only[↓ypre,ypost,↓reduceIte,reduceEqDiff,reduceAdd,reduceSub,reduceLeDiff,zz0,ynew,f0,f1,f12,f13,decide_eq_true hlt,ix1,ix2,r1,r2,e,Bool.not_true,wrap64_in]);try simp only[yback])
   refine InvQ_go (L.length-(i+1)) (by omega) ⟨(i+1),rfl,by omega,(by first|rfl|exact f0|(simp only[upd_apply];rfl)|(show I64 _=_;congr 1;omega)),(by first|rfl|exact f1|(simp only[upd_apply];rfl)|(show I64 _=_;congr 1;omega)),(by first|rfl|exact f12|(simp only[upd_apply];rfl)|(show I64 _=_;congr 1;omega)),(by first|rfl|exact f13|(simp only[upd_apply];rfl)|(show I64 _=_;congr 1;omega)),rfl,(step_all no he)⟩
  ·rw[show (L.getD i []==R.getD i [])=false by simpa using he] at e
   have:decide (L=R)=false:=decide_eq_false (fun e=>he (by rw[e]))
   rw[this] at hQ
   ((try simp (maxSteps:=3000000) (dsimp:=false) (disch:=first|omega|simp only[lnx];omega) only[↓ypre,ypost,↓reduceIte,reduceEqDiff,reduceAdd,reduceSub,reduceLeDiff,zz0,ynew,f0,f1,f12,f13,decide_eq_true hlt,ix1,ix2,r1,r2,e,Bool.not_false]);try simp only[yback])
   exact hQ
 ·have ei:i=L.length:=by omega
  subst ei
  have:decide (L=R)=true:=decide_eq_true (List.ext_getElem (by omega) fun j h1 h2=>by
   have:=no j h1
   rwa [List.getD_eq_getElem?_getD,List.getD_eq_getElem?_getD,List.getElem?_eq_getElem h1,List.getElem?_eq_getElem h2] at this)
  rw[this] at hQ
  ((try simp (maxSteps:=3000000) (dsimp:=false) (disch:=first|omega|simp only[lnx];omega) only[↓ypre,ypost,↓reduceIte,reduceEqDiff,reduceAdd,reduceSub,reduceLeDiff,zz0,ynew,f0,f1,f12,f13,decide_eq_false hlt]);try simp only[yback])
  exact hQ
theorem s_l01Less {p q:List Int} {h:AH} {Q:Value→AH→Prop} (hp:By 27 p) (hq:By 27 q) (hQ:∀ h',h<+:h'→Q (.bool (decide (cmpL p q<0))) h'):WF S 89 [aggV .u8 p,aggV .u8 q] h Q:=by
 refine WF_fn (fn:=c89) rfl rfl ?_
 dsimp only[c89,oO,oM,oS,oG,oK,oE,oL,oF,oX,oN]
 have p27:=hp.1
 have q27:=hq.1
 have c0:∀ {q:List Int},(cel .u8 q).take 9=cel .u8 (seg q 0):=fun {q}=>by have:=cel_seg (q:=q) (f:=0);rwa [Nat.zero_mul,List.drop_zero] at this
 have c1:∀ {q:List Int},((cel .u8 q).drop 9).take 9=cel .u8 (seg q 1):=fun {q}=>cel_seg (f:=1)
 have c2:∀ {q:List Int},((cel .u8 q).drop 18).take 9=cel .u8 (seg q 2):=fun {q}=>cel_seg (f:=2)
 obtain⟨sa,sb,sc⟩:=sp27 (seg_n9 p27 (show 0<3 by omega)) (seg_n9 p27 (show 1<3 by omega)) (seg_n9 p27 (show 2<3 by omega))
 obtain⟨ta,tb,tc⟩:=sp27 (seg_n9 q27 (show 0<3 by omega)) (seg_n9 q27 (show 1<3 by omega)) (seg_n9 q27 (show 2<3 by omega))
 rw[seg3 p27] at sc
 rw[seg3 q27] at tc
 ((try simp (maxSteps:=3000000) (dsimp:=false) (disch:=first|omega|simp only[lnx];omega) only[↓ypre,ypost,↓reduceIte,reduceEqDiff,reduceAdd,reduceSub,reduceLeDiff,zz0,ynew,aggV,cellsL_cel,cel_all,cel_len,p27,q27,c0,c1,c2,seg_n9 p27 (show 0<3 by omega),seg_n9 p27 (show 1<3 by omega),seg_n9 p27 (show 2<3 by omega),seg_n9 q27 (show 0<3 by omega),seg_n9 q27 (show 1<3 by omega),seg_n9 q27 (show 2<3 by omega),fillL,zeros27,List.length_replicate,sa,sb,sc,ta,tb,tc]);try simp only[yback])
 generalize hH1:AH.new h _=H1
 obtain⟨hb1,p1,n1⟩:=new_facts hH1
 generalize hH2:AH.new H1 _=H2
 obtain⟨hb2,p2,n2⟩:=new_facts hH2
 generalize hH3:AH.new H2 _=H3
 obtain⟨hb3,p3,n3⟩:=new_facts hH3
 generalize hH4:AH.new H3 _=H4
 obtain⟨hb4,p4,n4⟩:=new_facts hH4
 have g3:=pre_get p4 hb3
 have P4:=p1.trans (p2.trans (p3.trans p4))
 refine WC_loop_inv (fun m f K1=>∃ (u:Nat),m=3-u∧u≤3∧f 5=.pointer (some ⟨H2.length,0,none⟩)∧f 6=.pointer (some ⟨H3.length,0,none⟩)∧f 7=I64 u∧K1=H4∧((∀ j,j<u*9→p.getD j 0=q.getD j 0))) ?_ (3-0) _ _ ⟨0,rfl,by omega,(by first|rfl|simp[upd_apply]),(by first|rfl|simp[upd_apply]),(by first|rfl|simp[upd_apply]),rfl,(fun _ h=>absurd h (by omega))⟩
 rintro m f K1 ⟨u,rfl,hu,f5,f6,f7,rfl,no⟩
 by_cases hu:(u:Int)<3
 ·have ia:∀ n:Nat,ixaV 3 9 (.pointer (some ⟨n,0,none⟩)) (I64 u)=some (.pointer (some ⟨n,u*9,none⟩)):=fun n=>by rw[ixaV_ptr ⟨by omega,by omega⟩,Int.toNat_natCast,Nat.zero_add]
  ((try simp (maxSteps:=3000000) (dsimp:=false) (disch:=first|omega|simp only[lnx];omega) only[↓ypre,ypost,↓reduceIte,reduceEqDiff,reduceAdd,reduceSub,reduceLeDiff,zz0,ynew,f5,f6,f7,decide_eq_true hu]);try simp only[yback])
  refine WC_loop_inv (fun m f K2=>∃ (k:Nat),m=9-k∧k≤9∧f 5=.pointer (some ⟨H2.length,0,none⟩)∧f 6=.pointer (some ⟨H3.length,0,none⟩)∧f 7=I64 u∧f 8=I64 k∧K2=K1∧((∀ j,j<u*9+k→p.getD j 0=q.getD j 0))) ?_ (9-0) _ _ ⟨0,rfl,by omega,(by first|rfl|exact f5|(simp[upd_apply];done)),(by first|rfl|exact f6|(simp[upd_apply];done)),(by first|rfl|exact f7|(simp[upd_apply];done)),(by first|rfl|simp[upd_apply]),rfl,(fun j h=>no j (by omega))⟩
  rintro m f K2 ⟨k,rfl,hk,f5,f6,f7,f8,rfl,no2⟩
  by_cases hk:(k:Int)<9
  ·have ib:∀ n:Nat,ixaV 9 1 (.pointer (some ⟨n,u*9,none⟩)) (I64 k)=some (.pointer (some ⟨n,u*9+k,none⟩)):=fun n=>by rw[ixaV_ptr ⟨by omega,by omega⟩,Int.toNat_natCast,Nat.mul_one]
   have r1:AH.rd1 K2 H2.length (u*9+k)=some (.int .u8 (p.getD (u*9+k) 0)):=by rw[rd1_of g3,cel_get (by omega)]
   have r2:AH.rd1 K2 H3.length (u*9+k)=some (.int .u8 (q.getD (u*9+k) 0)):=by rw[rd1_of hb4,cel_get (by omega)]
   by_cases he:p.getD (u*9+k) 0=q.getD (u*9+k) 0
   ·((try simp (maxSteps:=3000000) (dsimp:=false) (disch:=first|omega|simp only[lnx];omega) only[↓ypre,ypost,↓reduceIte,reduceEqDiff,reduceAdd,reduceSub,reduceLeDiff,zz0,ynew,f5,f6,f7,f8,decide_eq_true hk,↓WX_ixa,ia,ib,r1,r2,decide_eq_false (show ¬ p.getD (u*9+k) 0≠q.getD (u*9+k) 0 from fun x=>x he),wrap64_in]);try simp only[yback])
    refine InvQ_go (9-(k+1)) (by omega) ⟨(k+1),rfl,by omega,(by first|rfl|exact f5|(simp only[upd_apply];rfl)|(show I64 _=_;congr 1;omega)),(by first|rfl|exact f6|(simp only[upd_apply];rfl)|(show I64 _=_;congr 1;omega)),(by first|rfl|exact f7|(simp only[upd_apply];rfl)|(show I64 _=_;congr 1;omega)),(by first|rfl|exact f8|(simp only[upd_apply];rfl)|(show I64 _=_;congr 1;omega)),rfl,(fun j hj=>by rcases Nat.lt_succ_iff_lt_or_eq.1 (show j<u*9+k+1 by omega) with h1|rfl;exact no2 j h1;exact he)⟩
   ·((try simp (maxSteps:=3000000) (dsimp:=false) (disch:=first|omega|simp only[lnx];omega) only[↓ypre,ypost,↓reduceIte,reduceEqDiff,reduceAdd,reduceSub,reduceLeDiff,zz0,ynew,f5,f6,f7,f8,decide_eq_true hk,↓WX_ixa,ia,ib,r1,r2,decide_eq_true (show p.getD (u*9+k) 0≠q.getD (u*9+k) 0 from he)]);try simp only[yback])
    have ec:=cmpL_at (l:=p) (r:=q) (i:=u*9+k) no2 (by omega) (by omega) he
    have ed:decide (cmpL p q<0)=decide (p.getD (u*9+k) 0<q.getD (u*9+k) 0):=by
     rw[ec]
     by_cases hl:p.getD (u*9+k) 0<q.getD (u*9+k) 0
     ·rw[if_pos hl,decide_eq_true hl]
      rfl
     ·rw[if_neg hl,decide_eq_false hl]
      rfl
    rw[ed] at hQ
    exact hQ _ P4
  ·skip
   ((try simp (maxSteps:=3000000) (dsimp:=false) (disch:=first|omega|simp only[lnx];omega) only[↓ypre,ypost,↓reduceIte,reduceEqDiff,reduceAdd,reduceSub,reduceLeDiff,zz0,ynew,f5,f6,f7,f8,decide_eq_false hk,wrap64_in]);try simp only[yback])
   refine InvQ_go (3-(u+1)) (by omega) ⟨(u+1),rfl,by omega,(by first|rfl|exact f5|(simp only[upd_apply];rfl)|(show I64 _=_;congr 1;omega)),(by first|rfl|exact f6|(simp only[upd_apply];rfl)|(show I64 _=_;congr 1;omega)),(by first|rfl|exact f7|(simp only[upd_apply];rfl)|(show I64 _=_;congr 1;omega)),rfl,(fun j hj=>no2 j (by omega))⟩
 ·skip
  ((try simp (maxSteps:=3000000) (dsimp:=false) (disch:=first|omega|simp only[lnx];omega) only[↓ypre,ypost,↓reduceIte,reduceEqDiff,reduceAdd,reduceSub,reduceLeDiff,zz0,ynew,f5,f6,f7,decide_eq_false hu]);try simp only[yback])
  have e:cmpL p q=0:=cmpL_same (by omega) fun j hj=>no j (by omega)
  have ed:decide (cmpL p q<0)=false:=by rw[e];rfl
  rw[ed] at hQ
  exact hQ _ P4
noncomputable def sn (x:Sch):List (List Int):=srtL (nrms x.p x.ps)
noncomputable def aeR (x y:Sch):Bool×Int:=if likeC x y=0 then (decide (sn x=sn y),0) else (false,likeC x y)
theorem sn_len {x:Sch}:(sn x).length=x.ps.length:=by
 unfold sn nrms
 rw[srtL_len,List.length_map]
theorem i_AreEqualSchemes {v w:Value} {x y:Sch} {h:AH} {Q:Value→AH→Prop} (hv:Prods h v x.ps) (hl:SmallX x.ps) (hw:Prods h w y.ps) (hl':SmallX y.ps)
  (hQ:∀ h',h<+:h'→Q (.tuple #[.bool (aeR x y).1,I64 (aeR x y).2]) h'):WF S1 17 [schV x v,schV y w] h Q:=by
 refine WF_fn (fn:=c17) rfl rfl ?_
 dsimp only[c17,oO,oM,oS,oG,oK,oE,oL,oF,oX,oN]
 have o1:=hv.one
 have o2:=hw.one
 ((try simp (maxSteps:=3000000) (dsimp:=false) (disch:=first|omega|simp only[lnx];omega) only[↓ypre,ypost,↓reduceIte,reduceEqDiff,reduceAdd,reduceSub,reduceLeDiff,zz0,ynew,schV,o1,o2]);try simp only[yback])
 generalize hH1:AH.new h _=H1
 obtain⟨hb1,p1,n1⟩:=new_facts hH1
 generalize hH2:AH.new H1 _=H2
 obtain⟨hb2,p2,n2⟩:=new_facts hH2
 have g1:=pre_get p2 hb1
 ((try simp (maxSteps:=3000000) (dsimp:=false) (disch:=first|omega|simp only[lnx];omega) only[↓ypre,ypost,↓reduceIte,reduceEqDiff,reduceAdd,reduceSub,reduceLeDiff,zz0,ynew,rdn_of g1,rdn_of hb2]);try simp only[yback])
 refine up (i_pairCode (hv.pre (p1.trans p2)) hl (hw.pre (p1.trans p2)) hl' fun H3 p3=>?_)
 have g1:=pre_get p3 g1
 have g2:=pre_get p3 hb2
 have ph:=(p1.trans p2).trans p3
 unfold aeR at hQ
 by_cases c0:likeC x y=0
 case neg=>
  have hQ2:=hQ _ ph
  rw[if_neg c0] at hQ2
  ((try simp (maxSteps:=3000000) (dsimp:=false) (disch:=first|omega|simp only[lnx];omega) only[↓ypre,ypost,↓reduceIte,reduceEqDiff,reduceAdd,reduceSub,reduceLeDiff,zz0,ynew,decide_eq_true (show likeC x y≠0 from c0)]);try simp only[yback])
  exact hQ2
 rw[if_pos c0] at hQ
 obtain⟨⟨x1,y1⟩,lk⟩:=likeC_0 c0
 have gx:=GX.of' hv x1
 have gy:=GX.of' hw y1
 obtain⟨nx,-⟩:=nrms_NL gx
 obtain⟨ny,-⟩:=nrms_NL gy
 have lx:=(isX_sz x1).2
 have ly:=(isX_sz y1).2
 have l1:(nrms x.p x.ps).length=x.ps.length:=List.length_map _
 have l2:(nrms y.p y.ps).length=y.ps.length:=List.length_map _
 ((try simp (maxSteps:=3000000) (dsimp:=false) (disch:=first|omega|simp only[lnx];omega) only[↓ypre,ypost,↓reduceIte,reduceEqDiff,reduceAdd,reduceSub,reduceLeDiff,zz0,ynew,decide_eq_false (show ¬ (likeC x y≠0) from fun e=>e c0),rdn_of g1]);try simp only[yback])
 refine up (i_normals (x:=x) gx (hv.pre ph) fun w1 H4 p4 o4=>⟨p4,?_⟩)
 ((try simp (maxSteps:=3000000) (dsimp:=false) (disch:=first|omega|simp only[lnx];omega) only[↓ypre,ypost,↓reduceIte,reduceEqDiff,reduceAdd,reduceSub,reduceLeDiff,zz0,ynew]);try simp only[yback])
 refine i_sorted (x:=wps x (nrms x.p x.ps)) (o4.prods nx.g.b) o4.nk (by show (nrms x.p x.ps).length≤1000;omega) fun s1 H5 p5 k5=>⟨p5,?_⟩
 have g2:=pre_get (p4.trans p5) g2
 ((try simp (maxSteps:=3000000) (dsimp:=false) (disch:=first|omega|simp only[lnx];omega) only[↓ypre,ypost,↓reduceIte,reduceEqDiff,reduceAdd,reduceSub,reduceLeDiff,zz0,ynew,schV,rdn_of g2]);try simp only[yback])
 refine up (i_normals (x:=y) gy (hw.pre (ph.trans (p4.trans p5))) fun w2 H6 p6 o6=>?_)
 ((try simp (maxSteps:=3000000) (dsimp:=false) (disch:=first|omega|simp only[lnx];omega) only[↓ypre,ypost,↓reduceIte,reduceEqDiff,reduceAdd,reduceSub,reduceLeDiff,zz0,ynew]);try simp only[yback])
 refine i_sorted (x:=wps y (nrms y.p y.ps)) (o6.prods ny.g.b) o6.nk (by show (nrms y.p y.ps).length≤1000;omega) fun s2 H7 p7 k7=>?_
 ((try simp (maxSteps:=3000000) (dsimp:=false) (disch:=first|omega|simp only[lnx];omega) only[↓ypre,ypost,↓reduceIte,reduceEqDiff,reduceAdd,reduceSub,reduceLeDiff,zz0,ynew,schV]);try simp only[yback])
 have q5:Prods H7 s1 (sn x):=(KN.pre k5 (p6.trans p7)).now
 have q7:Prods H7 s2 (sn y):=k7.now
 refine up (i_EqualP q5 q7 (by rw[sn_len];omega) (by rw[sn_len];omega) ?_)
 ((try simp (maxSteps:=3000000) (dsimp:=false) (disch:=first|omega|simp only[lnx];omega) only[↓ypre,ypost,↓reduceIte,reduceEqDiff,reduceAdd,reduceSub,reduceLeDiff,zz0,ynew]);try simp only[yback])
 exact hQ _ (ph.trans (p4.trans (p5.trans (p6.trans p7))))
end Go.Proofs.YtigpfopobpoamaaGreat.X

set_option linter.unusedVariables false
set_option linter.unusedSimpArgs false
set_option maxRecDepth 20000
set_option maxHeartbeats 4000000
namespace Go.Proofs.YtigpfopobpoamaaGreat.X
open Go Go.RowKit
open Nat (reduceEqDiff reduceAdd reduceSub reduceLeDiff)
noncomputable def nmR (x:Sch):Sch×Int:=if isX x=true then (wps x (nrms x.p x.ps),0) else (zeroS,1)
theorem i_NormalProducts {x:Sch} {v:Value} {h:AH} {Q:Value→AH→Prop} (hv:Prods h v x.ps) (hl:SmallX x.ps)
  (hQ:∀ w h',h<+:h'→KN h.length h' (fun h2=>Prods h2 w (nmR x).1.ps)→NK w→Q (.tuple #[schV (nmR x).1 w,I64 (nmR x).2]) h'):WF S 21 [schV x v] h Q:=by
 refine WF_fn (fn:=c21) rfl rfl ?_
 dsimp only[c21,oO,oM,oS,oG,oK,oE,oL,oF,oX,oN]
 have o1:=hv.one
 have nz:NK (.slice none 0 0):=.inl (.inl rfl)
 ((try simp (maxSteps:=3000000) (dsimp:=false) (disch:=first|omega|simp only[lnx];omega) only[↓ypre,ypost,↓reduceIte,reduceEqDiff,reduceAdd,reduceSub,reduceLeDiff,zz0,ynew,schV,o1]);try simp only[yback])
 generalize hH1:AH.new h _=H1
 obtain⟨hb1,p1,n1⟩:=new_facts hH1
 generalize hH2:AH.new H1 _=H2
 obtain⟨hb2,p2,n2⟩:=new_facts hH2
 have g1:=pre_get p2 hb1
 ((try simp (maxSteps:=3000000) (dsimp:=false) (disch:=first|omega|simp only[lnx];omega) only[↓ypre,ypost,↓reduceIte,reduceEqDiff,reduceAdd,reduceSub,reduceLeDiff,zz0,ynew,rdn_of g1]);try simp only[yback])
 refine i_IsScheme (x:=x) (hv.pre (p1.trans p2)) hl fun H3 p3=>?_
 have g1:=pre_get p3 g1
 have g2:=pre_get p3 hb2
 have l2:=get_lt g2
 have P3:=p1.trans (p2.trans p3)
 have q3:=pre_len p3
 unfold nmR at hQ
 cases hx:isX x with
 | false=>
  rw[hx] at hQ
  ((try simp (maxSteps:=3000000) (dsimp:=false) (disch:=first|omega|simp only[lnx];omega) only[↓ypre,ypost,↓reduceIte,reduceEqDiff,reduceAdd,reduceSub,reduceLeDiff,zz0,ynew,fillL,wr_of g2,splice_eq,rdn_put_same]);try simp only[yback])
  exact hQ _ _ (pre_put P3 (by omega)) zeroS_kn nz
 | true=>
 rw[hx] at hQ
 simp only[if_true] at hQ
 have g:=GX.of' hv hx
 obtain⟨nl,-⟩:=nrms_NL g
 ((try simp (maxSteps:=3000000) (dsimp:=false) (disch:=first|omega|simp only[lnx];omega) only[↓ypre,ypost,↓reduceIte,reduceEqDiff,reduceAdd,reduceSub,reduceLeDiff,zz0,ynew,rdn_of g1]);try simp only[yback])
 refine i_normals (x:=x) g (hv.pre P3) fun w0 H4 p4 o4=>?_
 have g2:=pre_get p4 g2
 have l2:=get_lt g2
 have kn:=o4.kN (lo':=H2.length) nl.g.b q3
 ((try simp (maxSteps:=3000000) (dsimp:=false) (disch:=first|omega|simp only[lnx];omega) only[↓ypre,ypost,↓reduceIte,reduceEqDiff,reduceAdd,reduceSub,reduceLeDiff,zz0,ynew,schV,o4.nk.one,wr_of g2,splice_eq,rdn_put_same]);try simp only[yback])
 exact hQ w0 _ (pre_put (P3.trans p4) (by omega)) ((KN.put kn (by omega)).mono (by omega)) o4.nk
theorem s_NormalProducts {x:Sch} {v:Value} {h:AH} {Q:Value→AH→Prop} (hv:Prods h v x.ps) (hl:SmallX x.ps)
  (hQ:∀ w h',h<+:h'→KN h.length h' (fun h2=>Prods h2 w (nmR x).1.ps)→Q (.tuple #[schV (nmR x).1 w,I64 (nmR x).2]) h'):WF S 22 [schV x v] h Q:=by
 refine WF_fn (fn:=c22) rfl rfl ?_
 dsimp only[c22,oO,oM,oS,oG,oK,oE,oL,oF,oX,oN]
 have o1:=hv.one
 ((try simp (maxSteps:=3000000) (dsimp:=false) (disch:=first|omega|simp only[lnx];omega) only[↓ypre,ypost,↓reduceIte,reduceEqDiff,reduceAdd,reduceSub,reduceLeDiff,zz0,ynew,schV,o1]);try simp only[yback])
 generalize hH1:AH.new h _=H1
 obtain⟨hb1,p1,n1⟩:=new_facts hH1
 generalize hH2:AH.new H1 _=H2
 obtain⟨hb2,p2,n2⟩:=new_facts hH2
 have g1:=pre_get p2 hb1
 ((try simp (maxSteps:=3000000) (dsimp:=false) (disch:=first|omega|simp only[lnx];omega) only[↓ypre,ypost,↓reduceIte,reduceEqDiff,reduceAdd,reduceSub,reduceLeDiff,zz0,ynew,rdn_of g1]);try simp only[yback])
 refine s_l01Is (x:=x) (hv.pre (p1.trans p2)) hl fun H3 p3=>?_
 have g1:=pre_get p3 g1
 have g2:=pre_get p3 hb2
 have l2:=get_lt g2
 have P3:=p1.trans (p2.trans p3)
 have q3:=pre_len p3
 unfold nmR at hQ
 cases hx:isX x with
 | false=>
  rw[hx] at hQ
  ((try simp (maxSteps:=3000000) (dsimp:=false) (disch:=first|omega|simp only[lnx];omega) only[↓ypre,ypost,↓reduceIte,reduceEqDiff,reduceAdd,reduceSub,reduceLeDiff,zz0,ynew,fillL,wr_of g2,splice_eq,rdn_put_same]);try simp only[yback])
  exact hQ _ _ (pre_put P3 (by omega)) zeroS_kn
 | true=>
 rw[hx] at hQ
 simp only[if_true] at hQ
 have g:=GX.of' hv hx
 ((try simp (maxSteps:=3000000) (dsimp:=false) (disch:=first|omega|simp only[lnx];omega) only[↓ypre,ypost,↓reduceIte,reduceEqDiff,reduceAdd,reduceSub,reduceLeDiff,zz0,ynew,rdn_of g1]);try simp only[yback])
 refine s_l03AllNormal (x:=x) g (hv.pre P3) fun w0 H4 p4 k4=>?_
 have g2:=pre_get p4 g2
 have l2:=get_lt g2
 ((try simp (maxSteps:=3000000) (dsimp:=false) (disch:=first|omega|simp only[lnx];omega) only[↓ypre,ypost,↓reduceIte,reduceEqDiff,reduceAdd,reduceSub,reduceLeDiff,zz0,ynew,schV,k4.now.one,wr_of g2,splice_eq,rdn_put_same]);try simp only[yback])
 exact hQ w0 _ (pre_put (P3.trans p4) (by omega)) ((KN.put k4 (by omega)).mono (by omega))
end Go.Proofs.YtigpfopobpoamaaGreat.X

set_option linter.unusedVariables false
set_option linter.unusedSimpArgs false
set_option maxRecDepth 20000
set_option maxHeartbeats 4000000
namespace Go.Proofs.YtigpfopobpoamaaGreat.X
open Go Go.RowKit
def insP (q:List Int):List (List Int)→List (List Int)
 | []=>[q]
 | r::L=>if cmpL q r<0 then q::r::L else r::insP q L
theorem insP_perm {q:List Int}:∀ {L:List (List Int)},(insP q L).Perm (q::L)
 | []=>.refl _
 | r::L=>by
  unfold insP
  split
  ·exact .refl _
  ·exact (List.Perm.cons r insP_perm).trans (List.Perm.swap q r L)
theorem insP_at {q:List Int}:∀ {L:List (List Int)} {k:Nat},k≤L.length→(∀ j,j<k→¬ cmpL q (L.getD j [])<0)→(k<L.length→cmpL q (L.getD k [])<0)→insP q L=L.take k++q::L.drop k
 | [],k,hk,_,_=>by
  have:k=0:=by simpa using hk
  subst this
  rfl
 | r::L,0,_,_,h=>by
  have:=h (by simp)
  rw[List.getD_cons_zero] at this
  unfold insP
  rw[if_pos this]
  rfl
 | r::L,k+1,hk,h0,h=>by
  have:=h0 0 (by omega)
  rw[List.getD_cons_zero] at this
  unfold insP
  rw[if_neg this,insP_at (L:=L) (k:=k) (by simpa using hk) (fun j hj=>by have:=h0 (j+1) (by omega);rwa [List.getD_cons_succ] at this) (fun hk'=>by have:=h (by simpa using hk');rwa [List.getD_cons_succ] at this)]
  rfl
def leP (a b:List Int):Prop:=cmpL a b≤0
theorem insP_sorted {q:List Int}:∀ {L:List (List Int)},L.Pairwise leP→(insP q L).Pairwise leP
 | [],_=>by simp[insP]
 | r::L,h=>by
  have hr:=(List.pairwise_cons.1 h).1
  have hL:=(List.pairwise_cons.1 h).2
  unfold insP
  split
  ·rename_i hlt
   refine List.pairwise_cons.2 ⟨fun b hb=>?_,h⟩
   rcases List.mem_cons.1 hb with rfl|hb
   ·exact Int.le_of_lt hlt
   ·exact (cmpL_tr (Int.le_of_lt hlt) (hr b hb)).1
  ·rename_i hge
   refine List.pairwise_cons.2 ⟨fun b hb=>?_,insP_sorted hL⟩
   rcases List.mem_cons.1 (insP_perm.mem_iff.1 hb) with rfl|hb
   ·have:=cmpL_neg (l:=r) (r:=b)
    show cmpL r b≤0
    omega
   ·exact hr b hb
def isrt (L:List (List Int)):List (List Int):=L.foldl (fun acc q=>insP q acc) []
theorem isrt_perm {L:List (List Int)}:(isrt L).Perm L:=by
 have key:∀ (L acc:List (List Int)),(L.foldl (fun acc q=>insP q acc) acc).Perm (acc++L):=fun L=>by
  induction L with
  | nil=>intro acc;simp
  | cons q L ih=>
   intro acc
   rw[List.foldl_cons]
   refine (ih _).trans ?_
   refine (List.Perm.append_right L insP_perm).trans ?_
   exact (List.perm_middle (l₁:=acc) (l₂:=L) (a:=q)).symm
 exact key L []
theorem isrt_sorted {L:List (List Int)}:(isrt L).Pairwise leP:=by
 have key:∀ (L acc:List (List Int)),acc.Pairwise leP→(L.foldl (fun acc q=>insP q acc) acc).Pairwise leP:=fun L=>by
  induction L with
  | nil=>exact fun acc h=>h
  | cons q L ih=>exact fun acc h=>ih _ (insP_sorted h)
 exact key L [] List.Pairwise.nil
theorem srtL_sorted {L:List (List Int)}:(srtL L).Pairwise leP:=by
 have:=List.pairwise_mergeSort (le:=fun x y=>!decide (cmpL y x<0)) (fun a b c h1 h2=>by
  have h1:¬ cmpL b a<0:=by simpa using h1
  have h2:¬ cmpL c b<0:=by simpa using h2
  have e1:=cmpL_neg (l:=a) (r:=b)
  have e2:=cmpL_neg (l:=b) (r:=c)
  have e3:=cmpL_neg (l:=a) (r:=c)
  have:=(cmpL_tr (l:=a) (r:=b) (s:=c) (by omega) (by omega)).1
  simp
  omega) (fun a b=>by
  have e1:=cmpL_neg (l:=a) (r:=b)
  by_cases h:cmpL b a<0
  ·have:¬ cmpL a b<0:=by omega
   simp[this]
  ·simp[h]) L
 refine this.imp fun {a b} h=>?_
 have h:¬ cmpL b a<0:=by simpa using h
 have e1:=cmpL_neg (l:=a) (r:=b)
 show cmpL a b≤0
 omega
theorem isrt_eq {L:List (List Int)}:isrt L=srtL L:=by
 refine List.Perm.eq_of_pairwise (le:=leP) (fun a b _ _ h1 h2=>?_) isrt_sorted srtL_sorted (isrt_perm.trans srtL_perm.symm)
 have h1:cmpL a b≤0:=h1
 have h2:cmpL b a≤0:=h2
 have e1:=cmpL_neg (l:=a) (r:=b)
 exact cmpL_0.1 (by omega)
theorem isrt_next {L:List (List Int)} {i:Nat} (hi:i<L.length):isrt (L.take (i+1))=insP (L.getD i []) (isrt (L.take i)):=by
 unfold isrt
 rw[take_next (d:=[]) hi,List.foldl_append]
 rfl
def OwnZ (lo:Nat) (h:AH) (w:Value) (L:List (List Int)):Prop:=(w=.slice none 0 2∧L=[])∨OwnP lo h w L
theorem OwnZ.pre {lo:Nat} {h h':AH} {w:Value} {L:List (List Int)} (o:OwnZ lo h w L) (p:h<+:h'):OwnZ lo h' w L:=o.imp id fun o=>o.pre p
theorem OwnZ.els {lo:Nat} {h:AH} {w:Value} {L:List (List Int)} (o:OwnZ lo h w L):Els .u8 27 h w L:=by
 rcases o with⟨rfl,rfl⟩|o
 ·exact .inl ⟨rfl,2,by omega,rfl⟩
 ·exact o.inE.rd
theorem slc_parts {h:AH} {w:Value} {L:List (List Int)} {k:Nat} (e:Els .u8 27 h w L) (w27:Wid 27 L) (hk:k≤L.length) (h0:L=[]→∃ t,w=.slice none 0 t∨∃ b,w=.slice (some ⟨b,0,none⟩) 0 27) :
  (∃ w1,slcV 27 w none (some (I64 k))=some w1∧(∀ h',h<+:h'→RdE h' w1 (L.take k)))∧∃ w2,slcV 27 w (some (I64 k)) none=some w2∧(∀ h',h<+:h'→RdE h' w2 (L.drop k)):=by
 by_cases hl:L=[]
 ·subst hl
  have hk0:k=0:=by simpa using hk
  subst hk0
  obtain⟨t,rfl|⟨b,rfl⟩⟩:=h0 rfl
  ·exact⟨⟨.slice none 0 t,by simp[slcV,boundV],fun _ _=>.inl ⟨rfl,t,rfl⟩⟩,⟨.slice none 0 t,by simp[slcV,boundV],fun _ _=>.inl ⟨rfl,t,rfl⟩⟩⟩
  ·rcases e with⟨_,t,_,e⟩|⟨b',off,blk,e,hg,_⟩
   ·cases e
   ·simp only[List.length_nil,Value.slice.injEq,Option.some.injEq,Addr.mk.injEq,and_true,true_and] at e
    obtain⟨rfl,rfl⟩:=e
    refine⟨⟨.slice (some ⟨b,0,none⟩) 0 27,by simp[slcV,boundV],fun h' p=>.inr ⟨b,0,rfl,?_⟩⟩,⟨.slice none 0 1,by simp[slcV,boundV],fun _ _=>.inl ⟨rfl,1,rfl⟩⟩⟩
    rw[rdn_of (pre_get p hg)]
    simp[cel]
 ·have hl0:0<L.length:=List.length_pos_iff.2 hl
  obtain⟨b,off,rfl,hrd⟩:=e.rdAll hl0
  have lt:(L.take k).length=k:=by rw[List.length_take];omega
  refine⟨⟨.slice (some ⟨b,off,none⟩) k 27,?_,fun h' p=>.inr ⟨b,off,by rw[lt],?_⟩⟩,?_⟩
  ·simp only[slcV,boundV]
   by_cases hk0:0<k
   ·rw[if_pos ⟨trivial,by omega,by omega,by omega⟩]
    simp
   ·rw[if_neg (fun x=>by have:=x.2.2.1;omega),if_pos ⟨trivial,trivial,trivial,by omega⟩]
    rw[show k=0 by omega]
  ·have:=rdn_sub w27 hrd (j:=0) (m:=k) (by omega)
   rw[Nat.zero_mul,Nat.add_zero,List.drop_zero] at this
   rw[lt]
   exact rdn_pre p this
  ·by_cases h1:k<L.length
   ·refine⟨.slice (some ⟨b,off+k*27,none⟩) (L.length-k) 27,?_,fun h' p=>.inr ⟨b,off+k*27,by rw[List.length_drop],?_⟩⟩
    ·simp only[slcV,boundV]
     rw[if_pos ⟨trivial,by omega,by omega,by omega⟩,Int.toNat_natCast,show ((L.length:Int)-(k:Int)).toNat=L.length-k by omega]
    ·have:=rdn_sub w27 hrd (j:=k) (m:=L.length-k) (by omega)
     rw[List.take_of_length_le (by rw[List.length_drop];exact Nat.le_refl _)] at this
     rw[List.length_drop]
     exact rdn_pre p this
   ·refine⟨.slice none 0 1,?_,fun _ _=>.inl ⟨List.drop_of_length_le (by omega),1,rfl⟩⟩
    simp only[slcV,boundV]
    rw[if_neg (fun x=>by have:=x.2.2.1;omega),if_neg (fun x=>by have:=x.2.1;cases this),if_pos ⟨trivial,by omega,by omega,by omega⟩]
theorem OwnZ.parts {lo:Nat} {h:AH} {w:Value} {L:List (List Int)} {k:Nat} (o:OwnZ lo h w L) (hk:k≤L.length) :
  (∃ w1,slcV 27 w none (some (I64 k))=some w1∧(∀ h',h<+:h'→RdE h' w1 (L.take k)))∧∃ w2,slcV 27 w (some (I64 k)) none=some w2∧(∀ h',h<+:h'→RdE h' w2 (L.drop k)):=by
 refine slc_parts o.els o.els.widL hk fun hl=>?_
 rcases o with⟨rfl,_⟩|⟨_,⟨rfl,_⟩|⟨kb,fu,rfl,_,_⟩⟩
 ·exact⟨2,.inl rfl⟩
 ·exact⟨0,.inl rfl⟩
 ·exact⟨0,.inr ⟨kb,by rw[hl];rfl⟩⟩
end Go.Proofs.YtigpfopobpoamaaGreat.X

set_option linter.unusedVariables false
set_option linter.unusedSimpArgs false
set_option maxRecDepth 20000
set_option maxHeartbeats 4000000
namespace Go.Proofs.YtigpfopobpoamaaGreat.X
open Go Go.RowKit
open Nat (reduceEqDiff reduceAdd reduceSub reduceLeDiff)
theorem OwnP.rdE {lo:Nat} {h:AH} {w:Value} {L:List (List Int)} (o:OwnP lo h w L):RdE h w L:=by
 obtain⟨hw,⟨rfl,rfl⟩|⟨kb,fu,rfl,h2,h3⟩⟩:=o
 ·exact .inl ⟨rfl,0,rfl⟩
 ·refine .inr ⟨kb,0,rfl,?_⟩
  have fl:=flat_len hw
  rw[rdn_of h3]
  simp only
  rw[if_pos (by rw[cel_len,fl];omega),List.drop_zero,List.take_of_length_le (by rw[cel_len,fl];exact Nat.le_refl _)]
theorem OwnP.putlow {lo n:Nat} {h:AH} {w:Value} {L:List (List Int)} {b:Blk} (o:OwnP lo h w L) (hn:n<lo):OwnP lo (h.put n b) w L:=by
 obtain⟨hw,o|⟨kb,fu,h1,h2,h3⟩⟩:=o
 ·exact⟨hw,.inl o⟩
 ·exact⟨hw,.inr ⟨kb,fu,h1,h2,by rw[get_put_ne (by omega)];exact h3⟩⟩
theorem s_l01Sorted {x:Sch} {v:Value} {h:AH} {Q:Value→AH→Prop} (hv:Prods h v x.ps) (hl:x.ps.length≤100) (hQ:∀ w h',h<+:h'→KN h.length h' (fun h2=>Prods h2 w (srtL x.ps))→Q (schV (wps x (srtL x.ps)) w) h'):WF S 58 [schV x v] h Q:=by
 refine WF_fn (fn:=c58) rfl rfl ?_
 dsimp only[c58,oO,oM,oS,oG,oK,oE,oL,oF,oX,oN]
 have o1:=hv.one
 have vl:=hv.1.len
 ((try simp (maxSteps:=3000000) (dsimp:=false) (disch:=first|omega|simp only[lnx];omega) only[↓ypre,ypost,↓reduceIte,reduceEqDiff,reduceAdd,reduceSub,reduceLeDiff,zz0,ynew,schV,o1]);try simp only[yback])
 generalize hH1:AH.new h _=H1
 obtain⟨hb1,p1,n1⟩:=new_facts hH1
 generalize hH2:AH.new H1 _=H2
 obtain⟨hb2,p2,n2⟩:=new_facts hH2
 have g1:=pre_get p2 hb1
 ((try simp (maxSteps:=3000000) (dsimp:=false) (disch:=first|omega|simp only[lnx];omega) only[↓ypre,ypost,↓reduceIte,reduceEqDiff,reduceAdd,reduceSub,reduceLeDiff,zz0,ynew,rdn_of g1]);try simp only[yback])
 refine s_l01Empty (x:=x) o1 fun H3 p3=>?_
 ((try simp (maxSteps:=3000000) (dsimp:=false) (disch:=first|omega|simp only[lnx];omega) only[↓ypre,ypost,↓reduceIte,reduceEqDiff,reduceAdd,reduceSub,reduceLeDiff,zz0,ynew,schV]);try simp only[yback])
 generalize hH4:AH.new H3 _=H4
 obtain⟨hb4,p4,n4⟩:=new_facts hH4
 have g1:=pre_get p3 g1
 have g2:=pre_get p3 hb2
 have q3:=pre_len p3
 have P3:h<+:H3:=p1.trans (p2.trans p3)
 have z0:OwnZ H4.length H4 (.slice none 0 2) (isrt (x.ps.take 0)):=.inl ⟨rfl,rfl⟩
 refine WC_loop_inv (fun m f K1=>∃ (i:Nat) (sv:Value),m=x.ps.length-i∧i≤x.ps.length∧f 1=.pointer (some ⟨h.length,0,none⟩)∧f 2=.pointer (some ⟨H1.length,0,none⟩)∧f 3=.pointer (some ⟨H3.length,0,none⟩)∧f 4=I64 i∧(H3<+:K1)∧(H4.length≤K1.length)∧(OwnB K1 H3.length [I64 x.p,I64 x.n,I64 x.m,I64 x.k,sv] true)∧(OwnZ H4.length K1 sv (isrt (x.ps.take i)))) ?_ (x.ps.length-0) _ _ ⟨0,.slice none 0 2,rfl,by omega,(by first|rfl|simp[upd_apply]),(by first|rfl|simp[upd_apply]),(by first|rfl|simp[upd_apply]),(by first|rfl|simp[upd_apply]),p4,Nat.le_refl _,⟨_,hb4⟩,z0⟩
 rintro m f K1 ⟨i,sv,rfl,hi,f1,f2,f3,f4,pp,l1,g5,oz⟩
 obtain⟨e5,g5⟩:=g5
 have gx:=pre_get pp g1
 by_cases hlt:(i:Int)<x.ps.length
 ·have hi:i<x.ps.length:=by omega
  have li:(isrt (x.ps.take i)).length=i:=by rw[isrt_perm.length_eq,List.length_take];omega
  have sl:=oz.els.len
  rw[li] at sl
  obtain⟨nn,off,ix,rd⟩:=((hv.pre (P3.trans pp)).1).at hi
  have byi:By 27 (x.ps.getD i []):=hv.by hi
  have q27:=byi.1
  have r27:AH.rdn K1 nn off 27=some (cel .u8 (x.ps.getD i [])):=by
   have:=rd.1 0 27 (by omega)
   rwa [Nat.add_zero,List.drop_zero,List.take_of_length_le (by omega)] at this
  have wI:Wid 27 (isrt (x.ps.take i)):=oz.els.widL
  have bI:∀ q∈isrt (x.ps.take i),By 27 q:=fun q hq=>(byt_iff hv.1.widL).1 hv.2 q (List.mem_of_mem_take (isrt_perm.mem_iff.1 hq))
  ((try simp (maxSteps:=3000000) (dsimp:=false) (disch:=first|omega|simp only[lnx];omega) only[↓ypre,ypost,↓reduceIte,reduceEqDiff,reduceAdd,reduceSub,reduceLeDiff,zz0,ynew,f1,f2,f3,f4,rd1_of gx,vl,decide_eq_true hlt]);try simp only[yback])
  refine WC_loop_inv (fun m f K2=>∃ (k:Nat),m=i-k∧k≤i∧f 1=.pointer (some ⟨h.length,0,none⟩)∧f 2=.pointer (some ⟨H1.length,0,none⟩)∧f 3=.pointer (some ⟨H3.length,0,none⟩)∧f 4=I64 i∧f 5=I64 k∧(K1<+:K2)∧((∀ j,j<k→¬ cmpL (x.ps.getD i []) ((isrt (x.ps.take i)).getD j [])<0))) ?_ (i-0) _ _ ⟨0,rfl,by omega,(by first|rfl|exact f1|(simp[upd_apply];done)),(by first|rfl|exact f2|(simp[upd_apply];done)),(by first|rfl|exact f3|(simp[upd_apply];done)),(by first|rfl|exact f4|(simp[upd_apply];done)),(by first|rfl|simp[upd_apply]),List.prefix_refl _,(fun _ h=>absurd h (Nat.not_lt_zero _))⟩
  rintro m f K2 ⟨k,rfl,hk,f1,f2,f3,f4,f5,pp2,no⟩
  have gx2:=pre_get pp2 gx
  have g52:=pre_get pp2 g5
  have r2:=rdn_pre pp2 r27
  by_cases hk:(k:Int)<i
  ·obtain⟨nb,ob,ixb,rdb⟩:=((oz.pre pp2).els).at (i:=k) (by omega)
   have byk:By 27 ((isrt (x.ps.take i)).getD k []):=bI _ (gd_mem (by omega))
   have rb:AH.rdn K2 nb ob 27=some (cel .u8 ((isrt (x.ps.take i)).getD k [])):=by
    have:=rdb.1 0 27 (by omega)
    rwa [Nat.add_zero,List.drop_zero,List.take_of_length_le (by have:=byk.1;omega)] at this
   ((try simp (maxSteps:=3000000) (dsimp:=false) (disch:=first|omega|simp only[lnx];omega) only[↓ypre,ypost,↓reduceIte,reduceEqDiff,reduceAdd,reduceSub,reduceLeDiff,zz0,ynew,f1,f2,f3,f4,f5,rd1_of g52,sl,decide_eq_true hk,rd1_of gx2,ix,r2,ixb,rb]);try simp only[yback])
   refine s_l01Less byi byk fun K3 p3'=>?_
   by_cases hc:cmpL (x.ps.getD i []) ((isrt (x.ps.take i)).getD k [])<0
   ·skip
    have ek:isrt (x.ps.take (i+1))=(isrt (x.ps.take i)).take k++x.ps.getD i []::(isrt (x.ps.take i)).drop k:=by
     rw[isrt_next hi]
     exact insP_at (by omega) no (fun _=>hc)
    obtain⟨⟨w1,s1,e1⟩,w2,s2,e2⟩:=(oz.pre (pp2.trans p3')).parts (k:=k) (by omega)
    have gx3:=pre_get (pp2.trans p3') gx
    have g53:=pre_get (pp2.trans p3') g5
    have r3:=rdn_pre (pp2.trans p3') r27
    have lK:=pre_len (pp2.trans p3')
    ((try simp (maxSteps:=3000000) (dsimp:=false) (disch:=first|omega|simp only[lnx];omega) only[↓ypre,ypost,↓reduceIte,reduceEqDiff,reduceAdd,reduceSub,reduceLeDiff,zz0,ynew,f1,f2,f3,f4,f5,decide_eq_true hc,rd1_of gx3,ix,r3,cel_all,cel_len,q27,zrep27,sp27z q27,fillL,List.append_nil,List.length_replicate]);try simp only[yback])
    generalize hJ1:AH.new K3 _=J1
    obtain⟨b1,t1,m1⟩:=new_facts hJ1
    have oq:OwnP K3.length J1 (.slice (some ⟨K3.length,0,none⟩) 1 27) [x.ps.getD i []]:=⟨fun q hq=>by rw[List.mem_singleton.1 hq];exact q27,.inr ⟨_,true,rfl,by omega,by simpa using b1⟩⟩
    ((try simp (maxSteps:=3000000) (dsimp:=false) (disch:=first|omega|simp only[lnx];omega) only[↓ypre,ypost,↓reduceIte,reduceEqDiff,reduceAdd,reduceSub,reduceLeDiff,zz0,ynew,f1,f2,f3,f4,f5,rd1_of g53,rd1_of (pre_get t1 g53),omapF_none,omapF_some,s2]);try simp only[yback])
    refine oq.appR (e2 _ t1) (fun q hq=>wI q (List.mem_of_mem_drop hq)) (by rw[List.length_drop];simp only[List.length_singleton];omega) (by omega) fun v1 J2 t2' o2=>?_
    have t2:K3<+:J2:=t2' _ (Nat.le_refl _) t1
    have l2J:=pre_len t2
    have w1L:=o2.1
    ((try simp (maxSteps:=3000000) (dsimp:=false) (disch:=first|omega|simp only[lnx];omega) only[↓ypre,ypost,↓reduceIte,reduceEqDiff,reduceAdd,reduceSub,reduceLeDiff,zz0,ynew,f1,f2,f3,f4,f5,fillL,zrep]);try simp only[yback])
    generalize hJ3:AH.new J2 _=J3
    obtain⟨b3,t3,m3⟩:=new_facts hJ3
    have o0:OwnP J2.length J3 (.slice (some ⟨J2.length,0,none⟩) 0 27) []:=⟨fun q hq=>by simp at hq,.inr ⟨_,true,rfl,Nat.le_refl _,b3⟩⟩
    ((try simp (maxSteps:=3000000) (dsimp:=false) (disch:=first|omega|simp only[lnx];omega) only[↓ypre,ypost,↓reduceIte,reduceEqDiff,reduceAdd,reduceSub,reduceLeDiff,zz0,ynew,f1,f2,f3,f4,f5,rd1_of (pre_get t2 g53),rd1_of (pre_get t3 (pre_get t2 g53)),omapF_none,omapF_some,s1]);try simp only[yback])
    refine o0.appR (e1 _ (t2.trans t3)) (fun q hq=>wI q (List.mem_of_mem_take hq)) (by rw[List.length_take];simp only[List.length_nil];omega) (pre_len t3) fun v2 J4 t4' o4=>?_
    have t4:J2<+:J4:=t4' _ (Nat.le_refl _) t3
    ((try simp (maxSteps:=3000000) (dsimp:=false) (disch:=first|omega|simp only[lnx];omega) only[↓ypre,ypost,↓reduceIte,reduceEqDiff,reduceAdd,reduceSub,reduceLeDiff,zz0,ynew,f1,f2,f3,f4,f5]);try simp only[yback])
    refine o4.appR (o2.pre t4).rdE w1L (by rw[List.nil_append,List.length_append,List.length_take,List.length_drop];simp only[List.length_singleton];omega) (pre_len t4) fun v3 J5 t5' o5=>?_
    have t5:J2<+:J5:=t5' _ (Nat.le_refl _) t4
    have g55:=pre_get (t2.trans t5) g53
    have l55:=get_lt g55
    have lK1:=pre_len (pp2.trans p3')
    have o5:OwnP J2.length J5 v3 (isrt (x.ps.take (i+1))):=by rw[ek];exact o5
    ((try simp (maxSteps:=3000000) (dsimp:=false) (disch:=first|omega|simp only[lnx];omega) only[↓ypre,ypost,↓reduceIte,reduceEqDiff,reduceAdd,reduceSub,reduceLeDiff,zz0,ynew,f1,f2,f3,f4,f5,o5.nk.one,o5.nk.cells,wr_of g55,splice_eq,wrap64_in]);try simp only[yback])
    refine InvQ_go (x.ps.length-(i+1)) (by omega) ⟨(i+1),v3,rfl,by omega,(by first|rfl|exact f1|(simp only[upd_apply];rfl)|(show I64 _=_;congr 1;omega)),(by first|rfl|exact f2|(simp only[upd_apply];rfl)|(show I64 _=_;congr 1;omega)),(by first|rfl|exact f3|(simp only[upd_apply];rfl)|(show I64 _=_;congr 1;omega)),(by first|rfl|exact f4|(simp only[upd_apply];rfl)|(show I64 _=_;congr 1;omega)),(pre_put (pp.trans ((pp2.trans p3').trans (t2.trans t5))) (Nat.le_refl _)),(by rw[len_put];have:=pre_len t5;omega),⟨_,get_put_same l55⟩,(.inr ((o5.putlow (by have:=get_lt g5;omega)).low (by omega)))⟩
   ·((try simp (maxSteps:=3000000) (dsimp:=false) (disch:=first|omega|simp only[lnx];omega) only[↓ypre,ypost,↓reduceIte,reduceEqDiff,reduceAdd,reduceSub,reduceLeDiff,zz0,ynew,f1,f2,f3,f4,f5,decide_eq_false hc,wrap64_in]);try simp only[yback])
    refine InvQ_go (i-(k+1)) (by omega) ⟨(k+1),rfl,by omega,(by first|rfl|exact f1|(simp only[upd_apply];rfl)|(show I64 _=_;congr 1;omega)),(by first|rfl|exact f2|(simp only[upd_apply];rfl)|(show I64 _=_;congr 1;omega)),(by first|rfl|exact f3|(simp only[upd_apply];rfl)|(show I64 _=_;congr 1;omega)),(by first|rfl|exact f4|(simp only[upd_apply];rfl)|(show I64 _=_;congr 1;omega)),(by first|rfl|exact f5|(simp only[upd_apply];rfl)|(show I64 _=_;congr 1;omega)),(pp2.trans p3'),(step_all no hc)⟩
  ·skip
   have ki:k=i:=by omega
   have ek:isrt (x.ps.take (i+1))=(isrt (x.ps.take i)).take k++x.ps.getD i []::(isrt (x.ps.take i)).drop k:=by
    rw[isrt_next hi]
    exact insP_at (by omega) no (fun h=>by omega)
   obtain⟨⟨w1,s1,e1⟩,w2,s2,e2⟩:=(oz.pre pp2).parts (k:=k) (by omega)
   have gx3:=pre_get pp2 gx
   have g53:=pre_get pp2 g5
   have r3:=rdn_pre pp2 r27
   have lK:=pre_len pp2
   ((try simp (maxSteps:=3000000) (dsimp:=false) (disch:=first|omega|simp only[lnx];omega) only[↓ypre,ypost,↓reduceIte,reduceEqDiff,reduceAdd,reduceSub,reduceLeDiff,zz0,ynew,f1,f2,f3,f4,f5,rd1_of g52,sl,decide_eq_false hk,yWG_un,rd1_of gx3,ix,r3,cel_all,cel_len,q27,zrep27,sp27z q27,fillL,List.append_nil,List.length_replicate]);try simp only[yback])
   generalize hJ1:AH.new K2 _=J1
   obtain⟨b1,t1,m1⟩:=new_facts hJ1
   have oq:OwnP K2.length J1 (.slice (some ⟨K2.length,0,none⟩) 1 27) [x.ps.getD i []]:=⟨fun q hq=>by rw[List.mem_singleton.1 hq];exact q27,.inr ⟨_,true,rfl,by omega,by simpa using b1⟩⟩
   ((try simp (maxSteps:=3000000) (dsimp:=false) (disch:=first|omega|simp only[lnx];omega) only[↓ypre,ypost,↓reduceIte,reduceEqDiff,reduceAdd,reduceSub,reduceLeDiff,zz0,ynew,f1,f2,f3,f4,f5,rd1_of g53,rd1_of (pre_get t1 g53),omapF_none,omapF_some,s2]);try simp only[yback])
   refine oq.appR (e2 _ t1) (fun q hq=>wI q (List.mem_of_mem_drop hq)) (by rw[List.length_drop];simp only[List.length_singleton];omega) (by omega) fun v1 J2 t2' o2=>?_
   have t2:K2<+:J2:=t2' _ (Nat.le_refl _) t1
   have l2J:=pre_len t2
   have w1L:=o2.1
   ((try simp (maxSteps:=3000000) (dsimp:=false) (disch:=first|omega|simp only[lnx];omega) only[↓ypre,ypost,↓reduceIte,reduceEqDiff,reduceAdd,reduceSub,reduceLeDiff,zz0,ynew,f1,f2,f3,f4,f5,fillL,zrep]);try simp only[yback])
   generalize hJ3:AH.new J2 _=J3
   obtain⟨b3,t3,m3⟩:=new_facts hJ3
   have o0:OwnP J2.length J3 (.slice (some ⟨J2.length,0,none⟩) 0 27) []:=⟨fun q hq=>by simp at hq,.inr ⟨_,true,rfl,Nat.le_refl _,b3⟩⟩
   ((try simp (maxSteps:=3000000) (dsimp:=false) (disch:=first|omega|simp only[lnx];omega) only[↓ypre,ypost,↓reduceIte,reduceEqDiff,reduceAdd,reduceSub,reduceLeDiff,zz0,ynew,f1,f2,f3,f4,f5,rd1_of (pre_get t2 g53),rd1_of (pre_get t3 (pre_get t2 g53)),omapF_none,omapF_some,s1]);try simp only[yback])
   refine o0.appR (e1 _ (t2.trans t3)) (fun q hq=>wI q (List.mem_of_mem_take hq)) (by rw[List.length_take];simp only[List.length_nil];omega) (pre_len t3) fun v2 J4 t4' o4=>?_
   have t4:J2<+:J4:=t4' _ (Nat.le_refl _) t3
   ((try simp (maxSteps:=3000000) (dsimp:=false) (disch:=first|omega|simp only[lnx];omega) only[↓ypre,ypost,↓reduceIte,reduceEqDiff,reduceAdd,reduceSub,reduceLeDiff,zz0,ynew,f1,f2,f3,f4,f5]);try simp only[yback])
   refine o4.appR (o2.pre t4).rdE w1L (by rw[List.nil_append,List.length_append,List.length_take,List.length_drop];simp only[List.length_singleton];omega) (pre_len t4) fun v3 J5 t5' o5=>?_
   have t5:J2<+:J5:=t5' _ (Nat.le_refl _) t4
   have g55:=pre_get (t2.trans t5) g53
   have l55:=get_lt g55
   have lK1:=pre_len pp2
   have o5:OwnP J2.length J5 v3 (isrt (x.ps.take (i+1))):=by rw[ek];exact o5
   ((try simp (maxSteps:=3000000) (dsimp:=false) (disch:=first|omega|simp only[lnx];omega) only[↓ypre,ypost,↓reduceIte,reduceEqDiff,reduceAdd,reduceSub,reduceLeDiff,zz0,ynew,f1,f2,f3,f4,f5,o5.nk.one,o5.nk.cells,wr_of g55,splice_eq,wrap64_in]);try simp only[yback])
   refine InvQ_go (x.ps.length-(i+1)) (by omega) ⟨(i+1),v3,rfl,by omega,(by first|rfl|exact f1|(simp only[upd_apply];rfl)|(show I64 _=_;congr 1;omega)),(by first|rfl|exact f2|(simp only[upd_apply];rfl)|(show I64 _=_;congr 1;omega)),(by first|rfl|exact f3|(simp only[upd_apply];rfl)|(show I64 _=_;congr 1;omega)),(by first|rfl|exact f4|(simp only[upd_apply];rfl)|(show I64 _=_;congr 1;omega)),(pre_put (pp.trans (pp2.trans (t2.trans t5))) (Nat.le_refl _)),(by rw[len_put];have:=pre_len t5;omega),⟨_,get_put_same l55⟩,(.inr ((o5.putlow (by have:=get_lt g5;omega)).low (by omega)))⟩
 ·have ei:i=x.ps.length:=by omega
  subst ei
  rw[List.take_length,isrt_eq] at oz
  have g2:=pre_get pp g2
  have l2:=get_lt g2
  have q1:=pre_len pp
  have bl:Byt 27 (srtL x.ps):=srtL_byt hv.1.widL hv.2
  have kz:KN H4.length K1 (fun h2=>Prods h2 sv (srtL x.ps)):=by
   rcases oz with⟨rfl,e0⟩|oz
   ·rw[e0]
    exact fun h2 d1 d2=>⟨.inl ⟨rfl,2,by omega,rfl⟩,fun i hi=>by simp at hi⟩
   ·exact oz.kN bl (Nat.le_refl _)
  ((try simp (maxSteps:=3000000) (dsimp:=false) (disch:=first|omega|simp only[lnx];omega) only[↓ypre,ypost,↓reduceIte,reduceEqDiff,reduceAdd,reduceSub,reduceLeDiff,zz0,ynew,f1,f2,f3,f4,rd1_of gx,vl,decide_eq_false hlt,rdn_of g5,wr_of g2,splice_eq,rdn_put_same,kz.now.one]);try simp only[yback])
  exact hQ sv _ (pre_put (P3.trans pp) (by omega)) ((KN.put kz (by omega)).mono (by omega))
theorem s_AreEqualSchemes {v w:Value} {x y:Sch} {h:AH} {Q:Value→AH→Prop} (hv:Prods h v x.ps) (hl:SmallX x.ps) (hw:Prods h w y.ps) (hl':SmallX y.ps)
  (hQ:∀ h',h<+:h'→Q (.tuple #[.bool (aeR x y).1,I64 (aeR x y).2]) h'):WF S 18 [schV x v,schV y w] h Q:=by
 refine WF_fn (fn:=c18) rfl rfl ?_
 dsimp only[c18,oO,oM,oS,oG,oK,oE,oL,oF,oX,oN]
 have o1:=hv.one
 have o2:=hw.one
 ((try simp (maxSteps:=3000000) (dsimp:=false) (disch:=first|omega|simp only[lnx];omega) only[↓ypre,ypost,↓reduceIte,reduceEqDiff,reduceAdd,reduceSub,reduceLeDiff,zz0,ynew,schV,o1,o2]);try simp only[yback])
 generalize hH1:AH.new h _=H1
 obtain⟨hb1,p1,n1⟩:=new_facts hH1
 generalize hH2:AH.new H1 _=H2
 obtain⟨hb2,p2,n2⟩:=new_facts hH2
 have g1:=pre_get p2 hb1
 ((try simp (maxSteps:=3000000) (dsimp:=false) (disch:=first|omega|simp only[lnx];omega) only[↓ypre,ypost,↓reduceIte,reduceEqDiff,reduceAdd,reduceSub,reduceLeDiff,zz0,ynew,rdn_of g1,rdn_of hb2]);try simp only[yback])
 refine s_l03Like (hv.pre (p1.trans p2)) hl (hw.pre (p1.trans p2)) hl' fun H3 p3=>?_
 have g1:=pre_get p3 g1
 have g2:=pre_get p3 hb2
 have ph:=(p1.trans p2).trans p3
 unfold aeR at hQ
 by_cases c0:likeC x y=0
 case neg=>
  have hQ2:=hQ _ ph
  rw[if_neg c0] at hQ2
  ((try simp (maxSteps:=3000000) (dsimp:=false) (disch:=first|omega|simp only[lnx];omega) only[↓ypre,ypost,↓reduceIte,reduceEqDiff,reduceAdd,reduceSub,reduceLeDiff,zz0,ynew,decide_eq_true (show likeC x y≠0 from c0)]);try simp only[yback])
  exact hQ2
 rw[if_pos c0] at hQ
 obtain⟨⟨x1,y1⟩,lk⟩:=likeC_0 c0
 have gx:=GX.of' hv x1
 have gy:=GX.of' hw y1
 have lx:=(isX_sz x1).2
 have ly:=(isX_sz y1).2
 have l1:(nrms x.p x.ps).length=x.ps.length:=List.length_map _
 have l2:(nrms y.p y.ps).length=y.ps.length:=List.length_map _
 ((try simp (maxSteps:=3000000) (dsimp:=false) (disch:=first|omega|simp only[lnx];omega) only[↓ypre,ypost,↓reduceIte,reduceEqDiff,reduceAdd,reduceSub,reduceLeDiff,zz0,ynew,decide_eq_false (show ¬ (likeC x y≠0) from fun e=>e c0),rdn_of g1]);try simp only[yback])
 refine s_l03AllNormal (x:=x) gx (hv.pre ph) fun w1 H4 p4 k4=>⟨p4,?_⟩
 ((try simp (maxSteps:=3000000) (dsimp:=false) (disch:=first|omega|simp only[lnx];omega) only[↓ypre,ypost,↓reduceIte,reduceEqDiff,reduceAdd,reduceSub,reduceLeDiff,zz0,ynew]);try simp only[yback])
 refine s_l01Sorted (x:=wps x (nrms x.p x.ps)) k4.now (by show (nrms x.p x.ps).length≤100;omega) fun s1 H5 p5 k5=>⟨p5,?_⟩
 have g2:=pre_get (p4.trans p5) g2
 ((try simp (maxSteps:=3000000) (dsimp:=false) (disch:=first|omega|simp only[lnx];omega) only[↓ypre,ypost,↓reduceIte,reduceEqDiff,reduceAdd,reduceSub,reduceLeDiff,zz0,ynew,rdn_of g2]);try simp only[yback])
 refine s_l03AllNormal (x:=y) gy (hw.pre (ph.trans (p4.trans p5))) fun w2 H6 p6 k6=>?_
 ((try simp (maxSteps:=3000000) (dsimp:=false) (disch:=first|omega|simp only[lnx];omega) only[↓ypre,ypost,↓reduceIte,reduceEqDiff,reduceAdd,reduceSub,reduceLeDiff,zz0,ynew]);try simp only[yback])
 refine s_l01Sorted (x:=wps y (nrms y.p y.ps)) k6.now (by show (nrms y.p y.ps).length≤100;omega) fun s2 H7 p7 k7=>?_
 have q5:Prods H7 s1 (sn x):=(KN.pre k5 (p6.trans p7)).now
 have q7:Prods H7 s2 (sn y):=k7.now
 have e1:isOne s1=true:=q5.one
 have e2:isOne s2=true:=q7.one
 ((try simp (maxSteps:=3000000) (dsimp:=false) (disch:=first|omega|simp only[lnx];omega) only[↓ypre,ypost,↓reduceIte,reduceEqDiff,reduceAdd,reduceSub,reduceLeDiff,zz0,ynew,schV,e1,e2]);try simp only[yback])
 generalize hJ1:AH.new H7 _=J1
 obtain⟨b1,t1,m1⟩:=new_facts hJ1
 generalize hJ2:AH.new J1 _=J2
 obtain⟨b2,t2,m2⟩:=new_facts hJ2
 have b1:=pre_get t2 b1
 have ll1:=q5.1.len
 have ll2:=q7.1.len
 rw[sn_len] at ll1 ll2
 have P:h<+:J2:=ph.trans (p4.trans (p5.trans (p6.trans (p7.trans (t1.trans t2)))))
 ((try simp (maxSteps:=3000000) (dsimp:=false) (disch:=first|omega|simp only[lnx];omega) only[↓ypre,ypost,↓reduceIte,reduceEqDiff,reduceAdd,reduceSub,reduceLeDiff,zz0,ynew,rd1_of b1,rd1_of b2,ll1,ll2]);try simp only[yback])
 refine WC_loop_inv (fun m f K1=>∃ (i:Nat) (b:Bool),m=x.ps.length-i∧i≤x.ps.length∧f 7=.pointer (some ⟨H7.length,0,none⟩)∧f 8=.pointer (some ⟨J1.length,0,none⟩)∧f 9=.bool b∧f 10=I64 i∧K1=J2∧((b=true→x.ps.length=y.ps.length∧∀ j,j<i→(sn x).getD j []=(sn y).getD j []))∧((b=false→sn x≠sn y))) ?_ (x.ps.length-0) _ _ ⟨0,decide ((x.ps.length:Int)=y.ps.length),rfl,by omega,(by first|rfl|simp[upd_apply]),(by first|rfl|simp[upd_apply]),(by first|rfl|simp[upd_apply]),(by first|rfl|simp[upd_apply]),rfl,(fun h=>⟨by have:=of_decide_eq_true h;omega,fun _ h=>absurd h (Nat.not_lt_zero _)⟩),(fun h e=>by have:=congrArg List.length e;rw[sn_len,sn_len] at this;exact of_decide_eq_false h (by omega))⟩
 rintro m f K1 ⟨i,b,rfl,hi,f7,f8,f9,f10,rfl,hb,hn⟩
 cases b with
 | false=>
  rw[decide_eq_false (hn rfl)] at hQ
  by_cases hlt:(i:Int)<x.ps.length
  ·((try simp (maxSteps:=3000000) (dsimp:=false) (disch:=first|omega|simp only[lnx];omega) only[↓ypre,ypost,↓reduceIte,reduceEqDiff,reduceAdd,reduceSub,reduceLeDiff,zz0,ynew,f7,f8,f9,f10,rd1_of b1,ll1,decide_eq_true hlt]);try simp only[yback])
   exact hQ _ P
  ·((try simp (maxSteps:=3000000) (dsimp:=false) (disch:=first|omega|simp only[lnx];omega) only[↓ypre,ypost,↓reduceIte,reduceEqDiff,reduceAdd,reduceSub,reduceLeDiff,zz0,ynew,f7,f8,f9,f10,rd1_of b1,ll1,decide_eq_false hlt]);try simp only[yback])
   exact hQ _ P
 | true=>
  obtain⟨el,ej⟩:=hb rfl
  by_cases hlt:(i:Int)<x.ps.length
  ·obtain⟨n1',o1,ix1,rd1⟩:=(q5.pre (t1.trans t2)).1.at (i:=i) (by rw[sn_len];omega)
   obtain⟨n2',o2,ix2,rd2⟩:=(q7.pre (t1.trans t2)).1.at (i:=i) (by rw[sn_len];omega)
   have b27:=(q5.by (i:=i) (by rw[sn_len];omega)).1
   have c27:=(q7.by (i:=i) (by rw[sn_len];omega)).1
   have r1:=rd1.1 0 27 (by omega)
   have r2:=rd2.1 0 27 (by omega)
   rw[Nat.add_zero,List.drop_zero,List.take_of_length_le (by omega)] at r1 r2
   have e:=eqaV_cel (k:=.u8) b27 c27 (by omega)
   by_cases he:(sn x).getD i []=(sn y).getD i []
   ·rw[show ((sn x).getD i []==(sn y).getD i [])=true by simpa using he] at e
    ((try simp (maxSteps:=3000000) (dsimp:=false) (disch:=first|omega|simp only[lnx];omega) only[↓ypre,ypost,↓reduceIte,reduceEqDiff,reduceAdd,reduceSub,reduceLeDiff,zz0,ynew,f7,f8,f9,f10,rd1_of b1,rd1_of b2,ll1,decide_eq_true hlt,ix1,ix2,r1,r2,e,wrap64_in]);try simp only[yback])
    refine InvQ_go (x.ps.length-(i+1)) (by omega) ⟨(i+1),true,rfl,by omega,(by first|rfl|exact f7|(simp only[upd_apply];rfl)|(show I64 _=_;congr 1;omega)),(by first|rfl|exact f8|(simp only[upd_apply];rfl)|(show I64 _=_;congr 1;omega)),(by first|rfl|exact f9|(simp only[upd_apply];rfl)|(show I64 _=_;congr 1;omega)),(by first|rfl|exact f10|(simp only[upd_apply];rfl)|(show I64 _=_;congr 1;omega)),rfl,(fun _=>⟨el,step_all ej he⟩),(fun h=>by cases h)⟩
   ·rw[show ((sn x).getD i []==(sn y).getD i [])=false by simpa using he] at e
    ((try simp (maxSteps:=3000000) (dsimp:=false) (disch:=first|omega|simp only[lnx];omega) only[↓ypre,ypost,↓reduceIte,reduceEqDiff,reduceAdd,reduceSub,reduceLeDiff,zz0,ynew,f7,f8,f9,f10,rd1_of b1,rd1_of b2,ll1,decide_eq_true hlt,ix1,ix2,r1,r2,e,wrap64_in]);try simp only[yback])
    refine InvQ_go (x.ps.length-(i+1)) (by omega) ⟨(i+1),false,rfl,by omega,(by first|rfl|exact f7|(simp only[upd_apply];rfl)|(show I64 _=_;congr 1;omega)),(by first|rfl|exact f8|(simp only[upd_apply];rfl)|(show I64 _=_;congr 1;omega)),(by first|rfl|exact f9|(simp only[upd_apply];rfl)|(show I64 _=_;congr 1;omega)),(by first|rfl|exact f10|(simp only[upd_apply];rfl)|(show I64 _=_;congr 1;omega)),rfl,(fun h=>by cases h),(fun _ h=>he (by rw[h]))⟩
  ·have es:sn x=sn y:=List.ext_getElem (by rw[sn_len,sn_len];exact el) fun j h1 h2=>by
    have:=ej j (by rw[sn_len] at h1;omega)
    rwa [List.getD_eq_getElem?_getD,List.getD_eq_getElem?_getD,List.getElem?_eq_getElem h1,List.getElem?_eq_getElem h2] at this
   rw[decide_eq_true es] at hQ
   ((try simp (maxSteps:=3000000) (dsimp:=false) (disch:=first|omega|simp only[lnx];omega) only[↓ypre,ypost,↓reduceIte,reduceEqDiff,reduceAdd,reduceSub,reduceLeDiff,zz0,ynew,f7,f8,f9,f10,rd1_of b1,ll1,decide_eq_false hlt]);try simp only[yback])
   exact hQ _ P
theorem appZ {H:AH} {v:Value} {L:List (List Int)} {Q:Value→AH→Prop} (e:Els .u8 27 H v L) (nk:NK v) (hl:L.length≤1000) (hQ:∀ w H',H<+:H'→OwnZ H.length H' w L→Q w H'):OQ (appV 53 27 27 (.slice none 0 2) v H) Q:=by
 by_cases h0:L.length=0
 ·have e0:L=[]:=List.length_eq_zero_iff.1 h0
  subst e0
  have e1:appV 53 27 27 (.slice none 0 2) v H=some (.slice none 0 2,H):=by
   rcases e with⟨-,t,-,rfl⟩|⟨b,off,blk,rfl,hg,-⟩
   ·simp[appV,xop,ev]
   ·rcases nk with (h|h)|⟨b',n',w',h⟩
    ·cases h
    ·cases h
    ·simp only[Value.slice.injEq,Option.some.injEq,Addr.mk.injEq,and_true] at h
     obtain⟨⟨rfl,rfl⟩,-,-⟩:=h
     have:H.rdn b 0 0=some []:=by rw[rdn_of hg];simp
     simp[appV,xop,ev,this]
  rw[e1,OQ_some]
  exact hQ _ _ (List.prefix_refl _) (.inl ⟨rfl,rfl⟩)
 ·have w:=e.widL
  obtain⟨b,off,rfl,hrd⟩:=e.rdAll (by omega)
  have e1:appV 53 27 27 (.slice none 0 2) (.slice (some ⟨b,off,none⟩) L.length 27) H=some (.slice (some ⟨H.length,0,none⟩) L.length 27,H.new ⟨cel .u8 L.flatten,53,false,false⟩):=by
   simp only[appV,xop,ev,if_true,hrd]
   rw[if_pos (by omega),if_pos (by simp),if_neg h0]
  rw[e1,OQ_some]
  exact hQ _ _ (pre_new (List.prefix_refl _)) (.inr ⟨w,.inr ⟨H.length,false,rfl,Nat.le_refl _,get_new_same⟩⟩)
theorem wr_prodE {h:AH} {n i:Nat} {L:List (List Int)} {q:List Int} {e:TypeId} {full:Bool} (g:h.get n=some ⟨cel .u8 L.flatten,e,false,full⟩) (w:Wid 27 L) (hq:q.length=27) (hi:i<L.length):h.wr n (i*27) (cel .u8 q)=some (h.put n ⟨cel .u8 (L.set i q).flatten,e,false,full⟩):=by
 have sf:=splice_flat (k:=.u8) hq w (j:=i) hi
 have fl:=flat_len w
 have w3:AH.wr h n (i*27) (cel .u8 q)=_:=wr_of g
 simp only[cel_len,hq,fl,sf] at w3
 rw[if_pos ⟨trivial,by omega⟩] at w3
 exact w3
structure Ag (lo:Nat) (h0 h:AH):Prop where
 l:h0.length≤h.length
 g:∀ m,lo≤m→m<h0.length→h.get m=h0.get m
section
variable {lo n m:Nat} {h0 h h':AH} {b:Blk} {p:AH→Prop}
theorem Ag.refl:Ag lo h h:=⟨Nat.le_refl _,fun _ _ _=>rfl⟩
theorem Ag.kp (a:Ag lo h0 h) (d:Kp n h h') (hn:n<lo):Ag lo h0 h':=⟨Nat.le_trans a.l d.1,fun m h1 h2=>(d.2 m (Nat.lt_of_lt_of_le h2 a.l) (by omega)).trans (a.g m h1 h2)⟩
theorem Ag.pre (a:Ag lo h0 h) (d:h<+:h'):Ag lo h0 h':=⟨Nat.le_trans a.l (pre_len d),fun m h1 h2=>(prefix_get d (Nat.lt_of_lt_of_le h2 a.l)).trans (a.g m h1 h2)⟩
theorem Ag.put (a:Ag lo h0 h) (hm:m<lo∨h0.length≤m):Ag lo h0 (h.put m b):=⟨by rw[len_put];exact a.l,fun j h1 h2=>(get_put_ne (by omega)).trans (a.g j h1 h2)⟩
theorem KN.ag (k:KN lo h0 p) (a:Ag lo h0 h):p h:=k h a.l a.g
end
theorem OwnZ.cells {lo:Nat} {h:AH} {w:Value} {L:List (List Int)} (o:OwnZ lo h w L):cellsL w=[w]:=by
 rcases o with⟨rfl,_⟩|⟨_,⟨rfl,_⟩|⟨kb,full,rfl,_⟩⟩<;>rfl
theorem OwnZ.kN {lo:Nat} {h:AH} {w:Value} {L:List (List Int)} (o:OwnZ lo h w L) (b:Byt 27 L):KN lo h fun h'=>Prods h' w L:=by
 rcases o with⟨rfl,rfl⟩|o
 ·exact fun h2 _ _=>⟨.inl ⟨rfl,2,by omega,rfl⟩,b⟩
 ·exact o.kN b (Nat.le_refl _)
theorem s_l03Two {h:AH} {cv:Value} {code:List (List Int)} {Q:Value→AH→Prop} (c:Cod h cv code)
  (hQ:∀ (x y:Sch) (v w:Value) (h':AH),h<+:h'→KN h.length h' (fun h2=>Prods h2 v x.ps)→SmallX x.ps→KN h.length h' (fun h2=>Prods h2 w y.ps)→SmallX y.ps→Q (.tuple #[schV x v,schV y w]) h'):WF S 54 [cv] h Q:=by
 refine WF_fn (fn:=c54) rfl rfl ?_
 dsimp only[c54,oO,oM,oS,oG,oK,oE,oL,oF,oX,oN]
 ((try simp (maxSteps:=3000000) (dsimp:=false) (disch:=first|omega|simp only[lnx];omega) only[↓ypre,ypost,↓reduceIte,reduceEqDiff,reduceAdd,reduceSub,reduceLeDiff,zz0,ynew]);try simp only[yback])
 generalize hA1:AH.new h _=A1
 obtain⟨a1,pa1,na1⟩:=new_facts hA1
 generalize hH1:AH.new A1 _=H1
 obtain⟨hb1,p1,n1⟩:=new_facts hH1
 have a1:=pre_get p1 a1
 have PA:=pa1.trans p1
 refine s_l01From (c.els.pre PA) c.byt c.len fun H2 p2 l2 s2=>?_
 ((try simp (maxSteps:=3000000) (dsimp:=false) (disch:=first|omega|simp only[lnx];omega) only[↓ypre,ypost,↓reduceIte,reduceEqDiff,reduceAdd,reduceSub,reduceLeDiff,zz0,ynew]);try simp only[yback])
 refine s_l03Draw s2 fun x v H3 k3 s3 sd xb nk=>?_
 have g2:=k3.get (by omega) (pre_get p2 a1)
 have g3:=k3.get (by omega) (pre_get p2 hb1)
 have k3l:=k3.len
 have o1:=nk.one
 have r3:H1.length<H3.length:=by omega
 have fin:∀ (y:Sch) (w:Value) (H':AH),h<+:H'→Ag H2.length H3 H'→KN H1.length H' (fun h2=>Prods h2 w y.ps)→SmallX y.ps →
   Q (.tuple #[schV x v,schV y w]) ((H'.put A1.length ⟨[I64 y.p,I64 y.n,I64 y.m,I64 y.k,w],26,false,true⟩).put h.length ⟨[I64 x.p,I64 x.n,I64 x.m,I64 x.k,v],26,false,true⟩):=by
  intro y w H' p' aH kY sY
  have lH:=aH.l
  exact hQ x y v w _ (pre_put (pre_put p' (by omega)) (Nat.le_refl _)) (fun h2 d1 d2=>by
   rw[len_put,len_put] at d1 d2
   refine sd h2 (by omega) fun m hm hm2=>?_
   rw[d2 m (by omega) (by omega),get_put_ne (by omega),get_put_ne (by omega)]
   exact aH.g m hm hm2) xb.l ((KN.put (KN.put kY (by omega)) (by omega)).mono (by omega)) sY
 refine WO_cut (fun f:Fr=>f 2=.pointer (some ⟨h.length,0,none⟩)∧f 3=.pointer (some ⟨A1.length,0,none⟩)∧f 4=srcP H1.length∧f 12=schV x v∧True) ⟨(by first|rfl|simp[upd_apply]),(by first|rfl|simp[upd_apply]),(by first|rfl|simp[upd_apply]),(by first|rfl|simp[upd_apply]),trivial⟩ ?_
 rintro f ⟨f2,f3,f4,f12,-⟩
 ((try simp (maxSteps:=3000000) (dsimp:=false) (disch:=first|omega|simp only[lnx];omega) only[↓ypre,ypost,↓reduceIte,reduceEqDiff,reduceAdd,reduceSub,reduceLeDiff,zz0,ynew,f2,f3,f4,f12,schV,o1]);try simp only[yback])
 generalize hH4:AH.new H3 _=H4
 obtain⟨g5,p4,n4⟩:=new_facts hH4
 have g2:=pre_get p4 g2
 have g3:=pre_get p4 g3
 have ag:Ag H2.length H3 H4:=Ag.refl.pre p4
 have s4:=s3.kp p4
 ((try simp (maxSteps:=3000000) (dsimp:=false) (disch:=first|omega|simp only[lnx];omega) only[↓ypre,ypost,↓reduceIte,reduceEqDiff,reduceAdd,reduceSub,reduceLeDiff,zz0,ynew,f2,f3,f4,f12,rdn_of g5]);try simp only[yback])
 refine s_l01Is (x:=x) (sd.ag ag) xb.l fun H5 p5=>?_
 have g2:=pre_get p5 g2
 have g3:=pre_get p5 g3
 have g5:=pre_get p5 g5
 have ag:=ag.pre p5
 have s5:=s4.kp p5
 refine WO_cut (fun f:Fr=>f 2=.pointer (some ⟨h.length,0,none⟩)∧f 3=.pointer (some ⟨A1.length,0,none⟩)∧f 4=srcP H1.length∧f 5=.pointer (some ⟨H3.length,0,none⟩)∧f 14=.bool (isX x)∧True) ⟨(by first|rfl|exact f2|simp[upd_apply,f2]),(by first|rfl|exact f3|simp[upd_apply,f3]),(by first|rfl|exact f4|simp[upd_apply,f4]),(by first|rfl|simp[upd_apply]),(by first|rfl|simp[upd_apply]),trivial⟩ ?_
 rintro f ⟨f2,f3,f4,f5,f14,-⟩
 cases hx:isX x with
 | false=>
  ((try simp (maxSteps:=3000000) (dsimp:=false) (disch:=first|omega|simp only[lnx];omega) only[↓ypre,ypost,↓reduceIte,reduceEqDiff,reduceAdd,reduceSub,reduceLeDiff,zz0,ynew,f2,f3,f4,f5,f14,hx,yWG_un,rdn_of g5]);try simp only[yback])
  refine⟨by omega,?_⟩
  refine s_l01Spoil s5 fun y w H6 k6 s6 sy xy=>?_
  refine⟨⟨_,rfl,k6⟩,?_⟩
  have g2:=k6.get (by omega) g2
  have g3:=k6.get (by omega) g3
  have oy:isOne w=true:=sy.now.one
  have lg2:=get_lt g2
  have lg3:=get_lt g3
  ((try simp (maxSteps:=3000000) (dsimp:=false) (disch:=first|omega|simp only[lnx];omega) only[↓ypre,ypost,↓reduceIte,reduceEqDiff,reduceAdd,reduceSub,reduceLeDiff,zz0,ynew,f2,f3,f4,f5,f14,schV,o1,oy,wr_of g2,wr_of g3,splice_eq,rdn_put_same]);try simp only[yback])
  exact fin y w H6 (PA.trans s6.p) (ag.kp k6 (by omega)) (sy.mono (by have:=s5.lt;omega)) xy.l
 | true=>
 ((try simp (maxSteps:=3000000) (dsimp:=false) (disch:=first|omega|simp only[lnx];omega) only[↓ypre,ypost,↓reduceIte,reduceEqDiff,reduceAdd,reduceSub,reduceLeDiff,zz0,ynew,f2,f3,f4,f5,f14,hx]);try simp only[yback])
 refine s_l01Next s5 fun r H6 k6 l6 s6 hr _=>?_
 have lt5:=s5.lt
 have g2:=k6.get (by omega) g2
 have g3:=k6.get (by omega) g3
 have g5:=k6.get (by omega) g5
 have ag:=ag.kp k6 (by omega)
 by_cases r0:r=0
 ·((try simp (maxSteps:=3000000) (dsimp:=false) (disch:=first|omega|simp only[lnx];omega) only[↓ypre,ypost,↓reduceIte,reduceEqDiff,reduceAdd,reduceSub,reduceLeDiff,zz0,ynew,f2,f3,f4,f5,f14,decide_eq_true r0,yWG_un,rdn_of g5]);try simp only[yback])
  refine⟨by omega,?_⟩
  refine s_l01Spoil s6 fun y w H7 k7 s7 sy xy=>?_
  refine⟨⟨_,rfl,k7⟩,?_⟩
  have g2:=k7.get (by omega) g2
  have g3:=k7.get (by omega) g3
  have oy:isOne w=true:=sy.now.one
  have lg2:=get_lt g2
  have lg3:=get_lt g3
  ((try simp (maxSteps:=3000000) (dsimp:=false) (disch:=first|omega|simp only[lnx];omega) only[↓ypre,ypost,↓reduceIte,reduceEqDiff,reduceAdd,reduceSub,reduceLeDiff,zz0,ynew,f2,f3,f4,f5,f14,schV,o1,oy,wr_of g2,wr_of g3,splice_eq,rdn_put_same]);try simp only[yback])
  exact fin y w H7 (PA.trans s7.p) (ag.kp k7 (by omega)) (sy.mono (by have:=s6.lt;omega)) xy.l
 ((try simp (maxSteps:=3000000) (dsimp:=false) (disch:=first|omega|simp only[lnx];omega) only[↓ypre,ypost,↓reduceIte,reduceEqDiff,reduceAdd,reduceSub,reduceLeDiff,zz0,ynew,f2,f3,f4,f5,f14,decide_eq_false r0,rdn_of g5]);try simp only[yback])
 refine s_l01Empty (x:=x) o1 fun H7 p7=>?_
 have g2:=pre_get p7 g2
 have g3:=pre_get p7 g3
 have g5:=pre_get p7 g5
 have ag:=ag.pre p7
 have s7:=s6.kp p7
 have lg5:=get_lt g5
 have h30:=(isX_sz hx).2
 have zp:=(isX_sz hx).1.p
 ((try simp (maxSteps:=3000000) (dsimp:=false) (disch:=first|omega|simp only[lnx];omega) only[↓ypre,ypost,↓reduceIte,reduceEqDiff,reduceAdd,reduceSub,reduceLeDiff,zz0,ynew,f2,f3,f4,f5,f14,schV,rd1_of g5]);try simp only[yback])
 generalize hH8:AH.new H7 _=H8
 obtain⟨g6,p8,n8⟩:=new_facts hH8
 have g2:=pre_get p8 g2
 have g3:=pre_get p8 g3
 have g5:=pre_get p8 g5
 have ag:=ag.pre p8
 have s8:=s7.kp p8
 refine appZ (sd.ag ag).1 nk (by omega) fun w H9 p9 oz=>?_
 have g2:=pre_get p9 g2
 have g3:=pre_get p9 g3
 have g5:=pre_get p9 g5
 have g6:=pre_get p9 g6
 have ag:=ag.pre p9
 have s9:=s8.kp p9
 have ow:isOne w=true:=oz.els.one
 have cw:=oz.cells
 have lg6:=get_lt g6
 ((try simp (maxSteps:=3000000) (dsimp:=false) (disch:=first|omega|simp only[lnx];omega) only[↓ypre,ypost,↓reduceIte,reduceEqDiff,reduceAdd,reduceSub,reduceLeDiff,zz0,ynew,f2,f3,f4,f5,f14,cw,ow,wr_of g6,splice_eq]);try simp only[yback])
 generalize hHB:AH.put H9 _ _=HB
 have lHB:HB.length=H9.length:=by rw[←hHB,len_put]
 have lp8:=pre_len p8
 have lp9:=pre_len p9
 have l67:=k6.len
 have l77:=pre_len p7
 have g6:AH.get HB H7.length=some ⟨[I64 x.p,I64 x.n,I64 x.m,I64 x.k,w],26,false,true⟩:=by rw[←hHB];exact get_put_same lg6
 have kpB:∀ m c,m≠H7.length→AH.get H9 m=some c→AH.get HB m=some c:=fun m c hm g=>by rw[←hHB,get_put_ne (Ne.symm hm)];exact g
 have g2:=kpB _ _ (by omega) g2
 have g3:=kpB _ _ (by omega) g3
 have g5:=kpB _ _ (by omega) g5
 have lag:=ag.l
 have ag:Ag H2.length H3 HB:=by rw[←hHB];exact ag.put (.inr (by omega))
 have s10:Src H1 HB H1.length:=by rw[←hHB];exact s9.putb (by omega) (by omega)
 have oz:OwnZ H8.length HB w x.ps:=by
  rcases oz with o|o
  ·exact .inl o
  ·rw[←hHB];exact .inr (o.putlow (by omega))
 have by27:=(sd.ag ag).2
 have gX:=GX.of' (sd.ag ag) hx
 refine s_l01Next s10 fun d HC kC lC sC hd _=>?_
 have g2:=kC.get (by omega) g2
 have g3:=kC.get (by omega) g3
 have g5:=kC.get (by omega) g5
 have g6:=kC.get (by omega) g6
 have ag:=ag.kp kC (by omega)
 have lg2:=get_lt g2
 have lg3:=get_lt g3
 have lkC:=kC.len
 have oz:OwnZ H8.length HC w x.ps:=by
  rcases oz with o|⟨hw,o|⟨kb,fu,h1,h2,h3⟩⟩
  ·exact .inl o
  ·exact .inr ⟨hw,.inl o⟩
  ·exact .inr ⟨hw,.inr ⟨kb,fu,h1,h2,kC.get (by omega) h3⟩⟩
 have pw:Prods HC w x.ps:=⟨oz.els,by27⟩
 refine WO_cut (fun f:Fr=>f 2=.pointer (some ⟨h.length,0,none⟩)∧f 3=.pointer (some ⟨A1.length,0,none⟩)∧f 4=srcP H1.length∧f 5=.pointer (some ⟨H3.length,0,none⟩)∧f 6=.pointer (some ⟨H7.length,0,none⟩)∧f 33=I64 d∧True) ⟨(by first|rfl|exact f2|simp[upd_apply,f2]),(by first|rfl|exact f3|simp[upd_apply,f3]),(by first|rfl|exact f4|simp[upd_apply,f4]),(by first|rfl|exact f5|simp[upd_apply,f5]),(by first|rfl|simp[upd_apply]),(by first|rfl|simp[upd_apply]),trivial⟩ ?_
 rintro f ⟨f2,f3,f4,f5,f6,f33,-⟩
 refine WO_joinR (fun f H=>(f 2=.pointer (some ⟨h.length,0,none⟩)∧f 3=.pointer (some ⟨A1.length,0,none⟩)∧f 4=srcP H1.length∧f 5=.pointer (some ⟨H3.length,0,none⟩)∧f 6=.pointer (some ⟨H7.length,0,none⟩))∧Src H1 H H1.length∧HC<+:H) ?_ ?_
 ·by_cases d0:d=0
  ·((try simp (maxSteps:=3000000) (dsimp:=false) (disch:=first|omega|simp only[lnx];omega) only[↓ypre,ypost,↓reduceIte,reduceEqDiff,reduceAdd,reduceSub,reduceLeDiff,zz0,ynew,f2,f3,f4,f5,f6,f33,decide_eq_true d0,rdn_of g5,rdn_of g6]);try simp only[yback])
   refine s_l03AllNormal (x:=x) gX pw fun w1 HD pD kD=>⟨pD,?_⟩
   ((try simp (maxSteps:=3000000) (dsimp:=false) (disch:=first|omega|simp only[lnx];omega) only[↓ypre,ypost,↓reduceIte,reduceEqDiff,reduceAdd,reduceSub,reduceLeDiff,zz0,ynew,f2,f3,f4,f5,f6,f33]);try simp only[yback])
   refine s_l01Sorted (x:=wps x (nrms x.p x.ps)) kD.now (by show (nrms x.p x.ps).length≤100;unfold nrms;rw[List.length_map];omega) fun w2 HE pE kE=>⟨pE,?_⟩
   have pp:=pD.trans pE
   have g2:=pre_get pp g2
   have g3:=pre_get pp g3
   have lg2:=get_lt g2
   have lg3:=get_lt g3
   have lD:=pre_len pD
   ((try simp (maxSteps:=3000000) (dsimp:=false) (disch:=first|omega|simp only[lnx];omega) only[↓ypre,ypost,↓reduceIte,reduceEqDiff,reduceAdd,reduceSub,reduceLeDiff,zz0,ynew,f2,f3,f4,f5,f6,f33,schV,o1,kE.now.one,wr_of g2,wr_of g3,splice_eq,rdn_put_same]);try simp only[yback])
   rw[JrQ_r]
   ((try simp (maxSteps:=3000000) (dsimp:=false) (disch:=first|omega|simp only[lnx];omega) only[↓ypre,ypost,↓reduceIte,reduceEqDiff,reduceAdd,reduceSub,reduceLeDiff,zz0,ynew,f2,f3,f4,f5,f6,f33,rdn_put_same]);try simp only[yback])
   exact fin (wps x (srtL (nrms x.p x.ps))) w2 HE (PA.trans (sC.kp pp).p) (ag.pre pp) (kE.mono (by omega)) (by unfold SmallX;show ((srtL (nrms x.p x.ps)).length:Int)≤_;rw[srtL_len];unfold nrms;rw[List.length_map];omega)
  by_cases d1:d=1
  ·((try simp (maxSteps:=3000000) (dsimp:=false) (disch:=first|omega|simp only[lnx];omega) only[↓ypre,ypost,↓reduceIte,reduceEqDiff,reduceAdd,reduceSub,reduceLeDiff,zz0,ynew,f2,f3,f4,f5,f6,f33,decide_eq_false d0,decide_eq_true d1,rdn_of g5,rdn_of g6]);try simp only[yback])
   refine s_l03Reduce (x:=x) gX pw fun w1 HD pD kD=>⟨pD,?_⟩
   have g2:=pre_get pD g2
   have g3:=pre_get pD g3
   have lg2:=get_lt g2
   have lg3:=get_lt g3
   ((try simp (maxSteps:=3000000) (dsimp:=false) (disch:=first|omega|simp only[lnx];omega) only[↓ypre,ypost,↓reduceIte,reduceEqDiff,reduceAdd,reduceSub,reduceLeDiff,zz0,ynew,f2,f3,f4,f5,f6,f33,schV,o1,kD.now.one,wr_of g2,wr_of g3,splice_eq,rdn_put_same]);try simp only[yback])
   rw[JrQ_r]
   ((try simp (maxSteps:=3000000) (dsimp:=false) (disch:=first|omega|simp only[lnx];omega) only[↓ypre,ypost,↓reduceIte,reduceEqDiff,reduceAdd,reduceSub,reduceLeDiff,zz0,ynew,f2,f3,f4,f5,f6,f33,rdn_put_same]);try simp only[yback])
   exact fin (redX x) w1 HD (PA.trans (sC.kp pD).p) (ag.pre pD) (kD.mono (by omega)) (wps_small (redX_ok gX).1)
  by_cases d2:d=2
  ·((try simp (maxSteps:=3000000) (dsimp:=false) (disch:=first|omega|simp only[lnx];omega) only[↓ypre,ypost,↓reduceIte,reduceEqDiff,reduceAdd,reduceSub,reduceLeDiff,zz0,ynew,f2,f3,f4,f5,f6,f33,decide_eq_false d0,decide_eq_false d1,decide_eq_true d2,rdn_of g6]);try simp only[yback])
   refine s_l03Flips (x:=x) pw h30 fun kb fu B cs HD pD rd=>?_
   have fl:lenV (sl kb (flI x.ps x.ps.length).length)=some (I64 ((flI x.ps x.ps.length).length)):=rfl
   have sD:=sC.kp pD
   by_cases e0:((flI x.ps x.ps.length).length:Int)>0
   case neg=>
    ((try simp (maxSteps:=3000000) (dsimp:=false) (disch:=first|omega|simp only[lnx];omega) only[↓ypre,ypost,↓reduceIte,reduceEqDiff,reduceAdd,reduceSub,reduceLeDiff,zz0,ynew,f2,f3,f4,f5,f6,f33,fl,decide_eq_false e0]);try simp only[yback])
    exact⟨⟨f2,f3,f4,f5,f6⟩,sD,pD⟩
   ((try simp (maxSteps:=3000000) (dsimp:=false) (disch:=first|omega|simp only[lnx];omega) only[↓ypre,ypost,↓reduceIte,reduceEqDiff,reduceAdd,reduceSub,reduceLeDiff,zz0,ynew,f2,f3,f4,f5,f6,f33,fl,decide_eq_true e0]);try simp only[yback])
   refine s_l01Next sD fun j HE kE lE sE hj _=>?_
   have hj:=hj (by omega)
   obtain⟨J,rfl⟩:∃ m:Nat,j=m:=⟨j.toNat,by omega⟩
   have lt7:=sD.lt
   have lD:=pre_len pD
   have g2:=kE.get (by omega) (pre_get pD g2)
   have g3:=kE.get (by omega) (pre_get pD g3)
   have g5:=kE.get (by omega) (pre_get pD g5)
   have g6:=kE.get (by omega) (pre_get pD g6)
   have ag:=(ag.pre pD).kp kE (by omega)
   have pw:Prods HE w x.ps:=(((oz.kN by27).pre pD).kp kE (by omega)).now
   have rd:RowD (HC.length+1) HE kb fu (flI x.ps x.ps.length) B cs:=rd.kp kE (by have:=sC.lt;omega)
   have hJ:J<(flI x.ps x.ps.length).length:=by omega
   obtain⟨a,b,u,a1',a2,a3,a4,a5,a6⟩:=flI_mem (show (flI x.ps x.ps.length).getD J []∈flI x.ps x.ps.length from by rw[List.getD_eq_getElem?_getD,List.getElem?_eq_getElem hJ];exact List.getElem_mem hJ)
   obtain⟨q1,q2,⟨fz,q3⟩,q4⟩:=rd.row J hJ
   rw[a5] at q2 q3
   have rdk:AH.rd1 HE kb J=some (sl (B J) 3):=by
    rw[rd1_of rd.get]
    show cs[J]?=_
    rw[getq (by rw[rd.len];exact hJ),q2]
    rfl
   have ixk:ixsV 1 (sl kb (flI x.ps x.ps.length).length) (I64 J)=some (.pointer (some ⟨kb,J,none⟩)):=by
    unfold sl
    rw[ixsV_some,if_pos (by omega),Int.toNat_natCast,Nat.mul_one,Nat.zero_add]
   have j0:ixsV 1 (sl (B J) 3) (I64 0)=some (.pointer (some ⟨B J,0,none⟩)):=rfl
   have j1:ixsV 1 (sl (B J) 3) (I64 1)=some (.pointer (some ⟨B J,1,none⟩)):=rfl
   have j2:ixsV 1 (sl (B J) 3) (I64 2)=some (.pointer (some ⟨B J,2,none⟩)):=rfl
   have q3':AH.get HE (B J)=some ⟨[I64 a,I64 b,I64 u],_,false,fz⟩:=q3
   ((try simp (maxSteps:=3000000) (dsimp:=false) (disch:=first|omega|simp only[lnx];omega) only[↓ypre,ypost,↓reduceIte,reduceEqDiff,reduceAdd,reduceSub,reduceLeDiff,zz0,ynew,f2,f3,f4,f5,f6,f33,ixk,rdk,j0,j1,j2,rdn_of g5,rdn_of g6,rd1_of q3']);try simp only[yback])
   refine s_l03Flip (x:=x) pw (by omega) zp a1' a2 (show u<3 by omega) (by omega) fun w1 HF pF kF=>⟨pF,?_⟩
   have g2:=pre_get pF g2
   have g3:=pre_get pF g3
   have lg2:=get_lt g2
   have lg3:=get_lt g3
   have lkE:=kE.len
   ((try simp (maxSteps:=3000000) (dsimp:=false) (disch:=first|omega|simp only[lnx];omega) only[↓ypre,ypost,↓reduceIte,reduceEqDiff,reduceAdd,reduceSub,reduceLeDiff,zz0,ynew,f2,f3,f4,f5,f6,f33,schV,o1,kF.now.one,wr_of g2,wr_of g3,splice_eq,rdn_put_same]);try simp only[yback])
   rw[JrQ_r]
   ((try simp (maxSteps:=3000000) (dsimp:=false) (disch:=first|omega|simp only[lnx];omega) only[↓ypre,ypost,↓reduceIte,reduceEqDiff,reduceAdd,reduceSub,reduceLeDiff,zz0,ynew,f2,f3,f4,f5,f6,f33,rdn_put_same]);try simp only[yback])
   exact fin (wps x (toldL (flipL x.p x.ps a b u 1))) w1 HF (PA.trans (sE.kp pF).p) (ag.pre pF) (kF.mono (by omega)) (wps_small (flip_GX gX a1' a2 (by omega)))
  ((try simp (maxSteps:=3000000) (dsimp:=false) (disch:=first|omega|simp only[lnx];omega) only[↓ypre,ypost,↓reduceIte,reduceEqDiff,reduceAdd,reduceSub,reduceLeDiff,zz0,ynew,f2,f3,f4,f5,f6,f33,decide_eq_false d0,decide_eq_false d1,decide_eq_false d2]);try simp only[yback])
  exact⟨⟨f2,f3,f4,f5,f6⟩,sC,List.prefix_refl _⟩
 ·rintro f HD ⟨⟨f2,f3,f4,f5,f6⟩,sD,pD⟩
  have g2:=pre_get pD g2
  have g3:=pre_get pD g3
  have g5:=pre_get pD g5
  have g6:=pre_get pD g6
  have ag:=ag.pre pD
  have oz:=oz.pre pD
  have wl:=oz.els.len
  by_cases e0:(x.ps.length:Int)>0
  case neg=>
   ((try simp (maxSteps:=3000000) (dsimp:=false) (disch:=first|omega|simp only[lnx];omega) only[↓ypre,ypost,↓reduceIte,reduceEqDiff,reduceAdd,reduceSub,reduceLeDiff,zz0,ynew,f2,f3,f4,f5,f6,rd1_of g6,wl,decide_eq_false e0,rdn_of g5,rdn_of g6]);try simp only[yback])
   refine⟨by omega,?_⟩
   have ow:isOne w=true:=oz.els.one
   have lg2:=get_lt g2
   have lg3:=get_lt g3
   ((try simp (maxSteps:=3000000) (dsimp:=false) (disch:=first|omega|simp only[lnx];omega) only[↓ypre,ypost,↓reduceIte,reduceEqDiff,reduceAdd,reduceSub,reduceLeDiff,zz0,ynew,f2,f3,f4,f5,f6,o1,ow,wr_of g2,wr_of g3,splice_eq,rdn_put_same]);try simp only[yback])
   exact fin x w HD (PA.trans sD.p) ag ((oz.kN by27).mono (by omega)) xb.l
  obtain⟨wX,⟨-,e1⟩|⟨kb,fu,rfl,hkb,gk⟩⟩:=oz.resolve_left (fun h=>by rw[h.2] at e0;simp at e0)
  ·rw[e1] at e0
   simp at e0
  ((try simp (maxSteps:=3000000) (dsimp:=false) (disch:=first|omega|simp only[lnx];omega) only[↓ypre,ypost,↓reduceIte,reduceEqDiff,reduceAdd,reduceSub,reduceLeDiff,zz0,ynew,f2,f3,f4,f5,f6,rd1_of g6,wl,decide_eq_true e0]);try simp only[yback])
  refine⟨by omega,?_⟩
  refine s_l01Next sD fun j HE kE lE sE hj _=>?_
  have hj:=hj (by omega)
  obtain⟨J,rfl⟩:∃ m:Nat,j=m:=⟨j.toNat,by omega⟩
  refine⟨⟨_,rfl,kE⟩,?_⟩
  have lkD:=get_lt gk
  have lsD:=sD.lt
  have g2:=kE.get (by omega) g2
  have g3:=kE.get (by omega) g3
  have g5:=kE.get (by omega) g5
  have g6:=kE.get (by omega) g6
  have gk:=kE.get (by omega) gk
  have ag:=ag.kp kE (by omega)
  ((try simp (maxSteps:=3000000) (dsimp:=false) (disch:=first|omega|simp only[lnx];omega) only[↓ypre,ypost,↓reduceIte,reduceEqDiff,reduceAdd,reduceSub,reduceLeDiff,zz0,ynew,f2,f3,f4,f5,f6,rdn_of g5]);try simp only[yback])
  refine⟨by omega,?_⟩
  refine⟨by omega,?_⟩
  refine s_l01DrawOf sE (isX_sz hx).1 o1 fun q HF kF sF bq _=>?_
  refine⟨⟨_,rfl,kF⟩,?_⟩
  have lkF:=kF.len
  have lkE:=kE.len
  have g2:=kF.get (by omega) g2
  have g3:=kF.get (by omega) g3
  have g5:=kF.get (by omega) g5
  have g6:=kF.get (by omega) g6
  have gk:=kF.get (by omega) gk
  have ag:=ag.kp kF (by omega)
  have hJ:J<x.ps.length:=by omega
  have q27:=bq.1
  have ii:=ixs_own (B:=kb) hJ
  have wG:=wr_prodE gk wX q27 hJ
  have lgk:=get_lt gk
  generalize hHG:AH.put HF kb _=HG at wG
  have gG:HG.get kb=some ⟨cel .u8 (x.ps.set J q).flatten,53,false,fu⟩:=by rw[←hHG];exact get_put_same lgk
  have kpG:∀ m c,m≠kb→AH.get HF m=some c→AH.get HG m=some c:=fun m c hm g=>by rw[←hHG,get_put_ne (Ne.symm hm)];exact g
  have g2:=kpG _ _ (by omega) g2
  have g3:=kpG _ _ (by omega) g3
  have g5:=kpG _ _ (by omega) g5
  have g6:=kpG _ _ (by omega) g6
  have lg2:=get_lt g2
  have lg3:=get_lt g3
  have ag:Ag H2.length H3 HG:=by rw[←hHG];exact ag.put (.inr (by omega))
  have oy:OwnP H1.length HG (.slice (some ⟨kb,0,none⟩) x.ps.length 27) (x.ps.set J q):=⟨wid_set wX q27,.inr ⟨kb,fu,by rw[List.length_set],by omega,gG⟩⟩
  ((try simp (maxSteps:=3000000) (dsimp:=false) (disch:=first|omega|simp only[lnx];omega) only[↓ypre,ypost,↓reduceIte,reduceEqDiff,reduceAdd,reduceSub,reduceLeDiff,zz0,ynew,f2,f3,f4,f5,f6,aggV,cellsL_cel,cel_all,cel_len,q27,ii,wG,rdn_of g5,rdn_of g6]);try simp only[yback])
  refine⟨by omega,?_⟩
  ((try simp (maxSteps:=3000000) (dsimp:=false) (disch:=first|omega|simp only[lnx];omega) only[↓ypre,ypost,↓reduceIte,reduceEqDiff,reduceAdd,reduceSub,reduceLeDiff,zz0,ynew,f2,f3,f4,f5,f6,o1,oy.nk.one,wr_of g2,wr_of g3,splice_eq,rdn_put_same]);try simp only[yback])
  exact fin (wps x (x.ps.set J q)) _ HG (by rw[←hHG];exact pre_put (PA.trans sF.p) (by omega)) ag (oy.kN (byt_setq by27 bq) (Nat.le_refl _)) (by unfold SmallX;show ((x.ps.set J q).length:Int)≤_;rw[List.length_set];omega)
theorem s_DrawAreEqualSchemes {h:AH} {cv:Value} {code:List (List Int)} {Q:Value→AH→Prop} (c:Cod h cv code)
  (hQ:∀ (x y:Sch) (v w:Value) (h':AH),h<+:h'→Prods h' v x.ps→SmallX x.ps→Prods h' w y.ps→SmallX y.ps→Q (.tuple #[schV x v,schV y w]) h'):WF S 16 [cv] h Q:=by
 refine WF_fn (fn:=c16) rfl rfl ?_
 dsimp only[c16,oO,oM,oS,oG,oK,oE,oL,oF,oX,oN]
 ((try simp (maxSteps:=3000000) (dsimp:=false) (disch:=first|omega|simp only[lnx];omega) only[↓ypre,ypost,↓reduceIte,reduceEqDiff,reduceAdd,reduceSub,reduceLeDiff,zz0,ynew]);try simp only[yback])
 generalize hA1:AH.new h _=A1
 obtain⟨a1,pa1,na1⟩:=new_facts hA1
 generalize hH1:AH.new A1 _=H1
 obtain⟨hb1,p1,n1⟩:=new_facts hH1
 have a1:=pre_get p1 a1
 have PA:=pa1.trans p1
 refine s_l03Two (c.pre PA) fun x y v w H2 p2 kx sx ky sy=>?_
 have o1:isOne v=true:=kx.now.one
 have o2:isOne w=true:=ky.now.one
 have g2:=pre_get p2 a1
 have g3:=pre_get p2 hb1
 refine WO_cut (fun f:Fr=>f 2=.pointer (some ⟨h.length,0,none⟩)∧f 3=.pointer (some ⟨A1.length,0,none⟩)∧f 8=.tuple #[schV x v,schV y w]∧True) ⟨(by first|rfl|simp[upd_apply]),(by first|rfl|simp[upd_apply]),(by first|rfl|simp[upd_apply]),trivial⟩ ?_
 rintro f ⟨f2,f3,f8,-⟩
 ((try simp (maxSteps:=3000000) (dsimp:=false) (disch:=first|omega|simp only[lnx];omega) only[↓ypre,ypost,↓reduceIte,reduceEqDiff,reduceAdd,reduceSub,reduceLeDiff,zz0,ynew,f2,f3,f8,schV,o1,o2]);try simp only[yback])
 simp only[len_new]
 generalize hJ1:AH.new H2 _=J1
 obtain⟨b1,t1,m1⟩:=new_facts hJ1
 generalize hJ2:AH.new J1 _=J2
 obtain⟨b2,t2,m2⟩:=new_facts hJ2
 rw[m1] at b2
 have b1:=pre_get t2 b1
 have TT:=t1.trans t2
 have g2:=pre_get TT g2
 have g3:=pre_get TT g3
 have lg2:=get_lt (pre_get p2 a1)
 have lg3:=get_lt (pre_get p2 hb1)
 ((try simp (maxSteps:=3000000) (dsimp:=false) (disch:=first|omega|simp only[lnx];omega) only[↓ypre,ypost,↓reduceIte,reduceEqDiff,reduceAdd,reduceSub,reduceLeDiff,zz0,ynew,f2,f3,f8,wr_of b2,splice_eq,rdn_of b1]);try simp only[yback])
 refine⟨by omega,?_⟩
 ((try simp (maxSteps:=3000000) (dsimp:=false) (disch:=first|omega|simp only[lnx];omega) only[↓ypre,ypost,↓reduceIte,reduceEqDiff,reduceAdd,reduceSub,reduceLeDiff,zz0,ynew,f2,f3,f8,o1,o2,wr_of g2,wr_of g3,splice_eq,rdn_put_same]);try simp only[yback])
 have agF:∀ {b c d:Blk},Ag H1.length H2 (((J2.put A1.length b).put h.length c).put (H2.length+1) d):=fun {b c d}=>(((Ag.refl.pre TT).put (.inl (by omega))).put (.inl (by omega))).put (.inr (by omega))
 exact hQ x y v w _ (pre_put (pre_put (pre_put (PA.trans (p2.trans TT)) (by omega)) (Nat.le_refl _)) (by omega)) (kx.ag agF) sx (ky.ag agF) sy
end Go.Proofs.YtigpfopobpoamaaGreat.X

set_option linter.unusedVariables false
set_option linter.unusedSimpArgs false
set_option maxRecDepth 20000
set_option maxHeartbeats 4000000
namespace Go.Proofs.YtigpfopobpoamaaGreat.X
open Go Go.RowKit
theorem sT_perm {L R:List (List Int)} {a b c:Nat} (h:L.Perm R):sT L a b c=sT R a b c:=by
 induction h with
 | nil=>rfl
 | cons q _ ih=>simp only[sT,ih]
 | swap q r l=>simp only[sT];omega
 | trans _ _ i1 i2=>exact i1.trans i2
theorem sn_EqS {x y:Sch} (gx:GX x) (gy:GX y) (l:x.p=y.p∧x.n=y.n∧x.m=y.m∧x.k=y.k) (h:sn x=sn y):EqS x y:=by
 obtain⟨-,ex⟩:=nrms_NL gx
 obtain⟨-,ey⟩:=nrms_NL gy
 have hp:(nrms x.p x.ps).Perm (nrms y.p y.ps):=(srtL_perm (L:=nrms x.p x.ps)).symm.trans ((show srtL (nrms x.p x.ps)=srtL (nrms y.p y.ps) from h)▸srtL_perm)
 refine⟨l,fun a b c ha hb hc=>?_⟩
 have h1:=ex.s a b c ha hb hc
 have h2:=ey.s a b c ha hb hc
 have e:sT (nrms x.p x.ps) a b c=sT (nrms y.p y.ps) a b c:=sT_perm hp
 have h1:Cg x.p (sT x.ps a b c) (sT (nrms x.p x.ps) a b c):=h1
 have h2:Cg y.p (sT y.ps a b c) (sT (nrms y.p y.ps) a b c):=h2
 rw[e] at h1
 generalize sT (nrms y.p y.ps) a b c=m at *
 rw[←l.1] at h2
 exact h1.trans h2.symm
theorem sn_nrms {x:Sch} (gx:GX x):sn (wps x (nrms x.p x.ps))=sn x:=by
 obtain⟨nx,-⟩:=nrms_NL gx
 show srtL (nrms x.p (nrms x.p x.ps))=srtL (nrms x.p x.ps)
 rw[nrms_id nx]
theorem WO_join0 {S:XS} {ops:List XI} {a REST:IR} {f:Fr} {h:AH} {R:XE→Fr→AH→Prop} (I:Fr→AH→Prop) (w:WO S ops f h (RegQ (SeqQ S a (JnQ I)))) (hr:∀ f h,I f h→WC S REST f h R) :
  WO S ops f h (RegQ (SeqQ S (.seq a REST) R)):=by
 refine w.mono fun f1 h1 q=>?_
 show WC S (.seq a REST) f1 h1 R
 rw[WC_seq]
 exact WO_mono' I q hr
section
variable {x y:Sch}
theorem rdR_of (hv:Wid 27 x.ps∧Byt 27 x.ps) (h:(rdR x).2=0):GX x∧rdR x=(redX x,0):=by
 unfold rdR at h ⊢
 by_cases hx:isX x=true
 ·rw[if_pos hx]
  exact⟨⟨hx,hv.1,hv.2⟩,rfl⟩
 ·rw[if_neg hx] at h
  cases h
theorem rdR_small (hv:Wid 27 x.ps∧Byt 27 x.ps):SmallX (rdR x).1.ps:=by
 by_cases h:(rdR x).2=0
 ·obtain⟨g,e⟩:=rdR_of hv h
  rw[e]
  exact wps_small (redX_ok g).1
 ·unfold rdR at h ⊢
  by_cases hx:isX x=true
  ·rw[if_pos hx] at h
   exact absurd rfl h
  ·rw[if_neg hx]
   exact z_small
theorem rdR_again (g:GX x):rdR (redX x)=(redX x,0):=by
 unfold rdR
 rw[if_pos (redX_ok g).1.ok,redX_again g]
theorem nmR_of (hv:Wid 27 x.ps∧Byt 27 x.ps) (h:(nmR x).2=0):GX x∧nmR x=(wps x (nrms x.p x.ps),0):=by
 unfold nmR at h ⊢
 by_cases hx:isX x=true
 ·rw[if_pos hx]
  exact⟨⟨hx,hv.1,hv.2⟩,rfl⟩
 ·rw[if_neg hx] at h
  cases h
theorem nmR_small (hv:Wid 27 x.ps∧Byt 27 x.ps):SmallX (nmR x).1.ps:=by
 by_cases h:(nmR x).2=0
 ·obtain⟨g,e⟩:=nmR_of hv h
  rw[e]
  exact wps_small (nrms_NL g).1.g
 ·unfold nmR at h ⊢
  by_cases hx:isX x=true
  ·rw[if_pos hx] at h
   exact absurd rfl h
  ·rw[if_neg hx]
   exact z_small
theorem aeR_nm (g:GX x):aeR x (wps x (nrms x.p x.ps))=(true,0):=by
 have hc:likeC x (wps x (nrms x.p x.ps))=0:=by
  unfold likeC
  rw[if_pos ⟨g.ok,(nrms_NL g).1.g.ok⟩,if_pos ⟨rfl,rfl,rfl,rfl⟩]
 unfold aeR
 rw[if_pos hc,sn_nrms g,decide_eq_true rfl]
theorem aeR_he (hv:Wid 27 x.ps∧Byt 27 x.ps) (hw:Wid 27 y.ps∧Byt 27 y.ps) (h:(aeR x y).1=true):(heR x y).1=true:=by
 unfold aeR at h
 by_cases hc:likeC x y=0
 ·rw[if_pos hc] at h
  obtain⟨⟨x1,y1⟩,lk⟩:=likeC_0 hc
  have gx:GX x:=⟨x1,hv.1,hv.2⟩
  have gy:GX y:=⟨y1,hw.1,hw.2⟩
  rw[heR_true gx gy (sn_EqS gx gy lk (of_decide_eq_true h))]
 ·rw[if_neg hc] at h
  cases h
end
def smW (g:Nat→Int):Nat→Int
 | 0=>0
 | n+1=>smW g n+g n
def nz (a:Int):Int:=if a=0 then 0 else 1
def wt (f:List Int) (i:Nat):Int:=smW (fun j=>nz (f.getD j 0)) i
def cw (L:List (List Int)) (s:Nat) (i:Nat):Int:=smW (fun j=>wt (seg (L.getD j []) s) 9-1) i
def cc (L:List (List Int)) (c i:Nat):Int:=smW (fun j=>nz ((L.getD j []).getD (18+c) 0)) i
def mx (a:Int):Int:=if 0>a then 0 else a
def cq (L:List (List Int)) (n c:Nat):Int:=smW (fun c=>mx (cc L c n-1)) c
def more (x:Sch):Int:=cw x.ps 0 x.ps.length+cw x.ps 1 x.ps.length+cq x.ps x.ps.length 9
def mn (a:Int):Int:=if 1000000000000001<a then 1000000000000001 else a
def over (a b:Int):Prop:=0<mn b∧(1000000000000000:Int).tdiv (mn b)<mn a
instance {a b:Int}:Decidable (over a b):=by unfold over;infer_instance
def gain (n z:Int):Prop:=80000<z∨n<2*z*z*z-z*z
instance {n z:Int}:Decidable (gain n z):=by unfold gain;infer_instance
end Go.Proofs.YtigpfopobpoamaaGreat.X
