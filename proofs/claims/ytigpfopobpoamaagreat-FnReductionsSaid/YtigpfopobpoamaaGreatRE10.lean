/- Texts of one claim, put together by merge.py: XU5, XW1, XV1, XM2, XM3, XM5, XP9, XM6, XDN, XDD, XDO, XZ7, XV2, XZ8, XB1, XB2, XB3, XB4, XV3, XV4, XQ4, XN1, XN2, XB5, XS21, XS22, XB6, XS18, XN3, XV5, XN4, XM9, XR3, XR4, XB7, XB8, XB9, XBA, XBB. -/
import Derived.Test.YtigpfopobpoamaaGreatRE9
import Derived.Test.YtigpfopobpoamaaGreatRE8
set_option linter.unusedVariables false
set_option linter.unusedSimpArgs false
set_option maxRecDepth 20000
set_option maxHeartbeats 4000000
namespace Go.Proofs.YtigpfopobpoamaaGreat.X
open Go Go.RowKit
def dot (q ns:List Int):Nat→Int
 | 0=>0
 | j+1=>dot q ns j+q.getD j 0*ns.getD j 0
@[simp] theorem dot_0 {q ns:List Int}:dot q ns 0=0:=rfl
section
variable (x:Prg)
def nSt (i:Nat) (r:Nat):Nat:=nq (x.st.getD i []) r
def nOut (i:Nat):Nat:=nq (x.out.getD i []) 0
def uO:Nat→List Bool
 | 0=>List.replicate (x.n.toNat+x.st.length) false
 | i+1=>if (x.out.getD i []).getD 1 0=0 then uO i else (uO i).set (nOut x i) true
def uS:Nat→List Bool
 | 0=>uO x x.out.length
 | m+1=>if (uS m).getD (x.n.toNat+(x.st.length-1-m)) false=true then ((uS m).set (nSt x (x.st.length-1-m) 0) true).set (nSt x (x.st.length-1-m) 1) true else uS m
def kp (j:Nat):Bool:=decide (j<x.n.toNat)||(uS x x.st.length).getD j false
def rk:Nat→Int
 | 0=>0
 | j+1=>rk j+(if kp x j=true then 1 else 0)
end
variable {x:Prg}
section
variable {x:Prg}
end
end Go.Proofs.YtigpfopobpoamaaGreat.X

set_option linter.unusedVariables false
set_option linter.unusedSimpArgs false
set_option maxRecDepth 20000
set_option maxHeartbeats 4000000
namespace Go.Proofs.YtigpfopobpoamaaGreat.X
open Go Go.RowKit
open Nat (reduceEqDiff reduceAdd reduceSub reduceLeDiff)
theorem l_big {h:AH} {cv:Value} {code:List (List Int)} {Q:Value→AH→Prop} (c:Els .u8 1 h cv code)
  (hQ:Q (.bool (decide ((code.length:Int)>4096))) h):WF S 4 [cv] h Q:=by
 refine WF_fn (fn:=c4) rfl rfl ?_
 dsimp only[c4,oO,oM,oS,oG,oK,oE,oL,oF,oX,oN]
 ((try simp (maxSteps:=3000000) (dsimp:=false) (disch:=first|omega|simp only[lnx];omega) only[↓ypre,ypost,↓reduceIte,reduceEqDiff,reduceAdd,reduceSub,reduceLeDiff,zz0,ynew,c.len]);try simp only[yback])
 exact hQ
end Go.Proofs.YtigpfopobpoamaaGreat.X

set_option linter.unusedVariables false
set_option linter.unusedSimpArgs false
set_option maxRecDepth 20000
set_option maxHeartbeats 4000000
namespace Go.Proofs.YtigpfopobpoamaaGreat.X
open Go Go.RowKit
theorem ProgD.one {lo:Nat} {h:AH} {v w:Value} {x:Prg} (o:ProgD lo h v w x):isOne v=true∧isOne w=true:=⟨o.now.1.one,o.now.2.one⟩
end Go.Proofs.YtigpfopobpoamaaGreat.X

set_option linter.unusedVariables false
set_option linter.unusedSimpArgs false
set_option maxRecDepth 20000
set_option maxHeartbeats 4000000
namespace Go.Proofs.YtigpfopobpoamaaGreat.X
open Go Go.RowKit
open Nat (reduceEqDiff reduceAdd reduceSub reduceLeDiff)
theorem seg_n9 {q:List Int} (hq:q.length=27) {i:Nat} (hi:i<3):(seg q i).length=9:=by
 unfold seg
 rw[List.length_take,List.length_drop]
 omega
theorem seg_by {q:List Int} (hq:By 27 q) {f:Nat} (hf:f<3):By 9 (seg q f):=⟨seg_n9 hq.1 hf,fun j hj=>by
 unfold seg
 rw[List.getD_eq_getElem?_getD,List.getElem?_take_of_lt hj,List.getElem?_drop,←List.getD_eq_getElem?_getD]
 exact hq.2 _ (by omega)⟩
theorem cel_seg {q:List Int} {f:Nat}:((cel .u8 q).drop (f*9)).take 9=cel .u8 (seg q f):=by rw[cel_drop,cel_take];rfl
theorem s_l03Factor {q:List Int} {f:Nat} {h:AH} {Q:Value→AH→Prop} (hq:By 27 q) (hf:f<3) (hQ:∀ h',h<+:h'→Q (aggV .u8 (seg q f)) h'):WF S 40 [aggV .u8 q,I64 f] h Q:=by
 refine WF_fn (fn:=c40) rfl rfl ?_
 dsimp only[c40,oO,oM,oS,oG,oK,oE,oL,oF,oX,oN]
 have q27:=hq.1
 ((try simp (maxSteps:=3000000) (dsimp:=false) (disch:=first|omega|simp only[lnx];omega) only[↓ypre,ypost,↓reduceIte,reduceEqDiff,reduceAdd,reduceSub,reduceLeDiff,zz0,ynew,aggV,cellsL_cel,cel_all,zeros9]);try simp only[yback])
 generalize hH1:AH.new h _=H1
 obtain⟨hb1,p1,n1⟩:=new_facts hH1
 generalize hH2:AH.new H1 _=H2
 obtain⟨hb2,p2,n2⟩:=new_facts hH2
 have g1:=pre_get p2 hb1
 have l2:=get_lt hb2
 have w9:=wr_full (vs:=cel .u8 (seg q f)) hb2 (by rw[cel_len,seg_n9 q27 hf];rfl)
 have s9:=seg_n9 q27 hf
 have fin:=hQ _ (pre_put (b:=⟨cel .u8 (seg q f),34,false,true⟩) (p1.trans p2) (n:=H1.length) (by omega))
 have tf:(cel .u8 (seg q f)).take 9=cel .u8 (seg q f):=List.take_of_length_le (by rw[cel_len,s9];exact Nat.le_refl _)
 have c0:(cel .u8 q).take 9=cel .u8 (seg q 0):=by have:=cel_seg (q:=q) (f:=0);rwa [Nat.zero_mul,List.drop_zero] at this
 have c1:((cel .u8 q).drop 9).take 9=cel .u8 (seg q 1):=cel_seg (f:=1)
 have c2:((cel .u8 q).drop 18).take 9=cel .u8 (seg q 2):=cel_seg (f:=2)
 have:f=0∨f=1∨f=2:=by omega
 rcases this with rfl|rfl|rfl
 ·((try simp (maxSteps:=3000000) (dsimp:=false) (disch:=first|omega|simp only[lnx];omega) only[↓ypre,ypost,↓reduceIte,reduceEqDiff,reduceAdd,reduceSub,reduceLeDiff,zz0,ynew,show ((0:Nat):Int)=0 from rfl,show decide ((0:Int)=0)=true from rfl,rdn_of g1,cel_len,q27,c0,s9,cel_all,w9,rdn_put_same,tf]);try simp only[yback])
  exact fin
 ·((try simp (maxSteps:=3000000) (dsimp:=false) (disch:=first|omega|simp only[lnx];omega) only[↓ypre,ypost,↓reduceIte,reduceEqDiff,reduceAdd,reduceSub,reduceLeDiff,zz0,ynew,show ((1:Nat):Int)=1 from rfl,show decide ((1:Int)=0)=false from rfl,show decide ((1:Int)=1)=true from rfl,rdn_of g1,cel_len,q27,c1,s9,cel_all,w9,rdn_put_same,tf]);try simp only[yback])
  exact fin
 ·((try simp (maxSteps:=3000000) (dsimp:=false) (disch:=first|omega|simp only[lnx];omega) only[↓ypre,ypost,↓reduceIte,reduceEqDiff,reduceAdd,reduceSub,reduceLeDiff,zz0,ynew,show ((2:Nat):Int)=2 from rfl,show decide ((2:Int)=0)=false from rfl,show decide ((2:Int)=1)=false from rfl,rdn_of g1,cel_len,q27,c2,s9,cel_all,w9,rdn_put_same,tf]);try simp only[yback])
  exact fin
def wth (q:List Int) (f:Nat) (r:List Int):List Int:=q.take (f*9)++r++q.drop (f*9+9)
theorem wth_len {q r:List Int} {f:Nat} (hq:q.length=27) (hr:r.length=9) (hf:f<3):(wth q f r).length=27:=by
 unfold wth
 rw[List.length_append,List.length_append,List.length_take,List.length_drop]
 omega
theorem wth_by {q r:List Int} {f:Nat} (hq:By 27 q) (hr:By 9 r) (hf:f<3):By 27 (wth q f r):=by
 refine⟨wth_len hq.1 hr.1 hf,fun j hj=>?_⟩
 have lt:(q.take (f*9)).length=f*9:=by rw[List.length_take,hq.1];omega
 unfold wth
 by_cases h1:j<f*9
 ·rw[List.append_assoc,getD_app_l (by omega),List.getD_eq_getElem?_getD,List.getElem?_take_of_lt h1,←List.getD_eq_getElem?_getD]
  exact hq.2 j hj
 ·by_cases h2:j<f*9+9
  ·rw[getD_app_l (by rw[List.length_append,lt,hr.1];exact h2),getD_app_r (by omega),lt]
   exact hr.2 _ (by omega)
  ·rw[getD_app_r (by rw[List.length_append,lt,hr.1];omega),List.length_append,lt,hr.1,List.getD_eq_getElem?_getD,List.getElem?_drop,show f*9+9+(j-(f*9+9))=j by omega,←List.getD_eq_getElem?_getD]
   exact hq.2 j hj
theorem splice_wth {q r:List Int} {f:Nat} (hr:r.length=9):splice (cel .u8 q) (f*9) (cel .u8 r)=cel .u8 (wth q f r):=by
 rw[cel_splice,hr]
 rfl
theorem s_l03With {q r:List Int} {f:Nat} {h:AH} {Q:Value→AH→Prop} (hq:By 27 q) (hr:By 9 r) (hf:f<3) (hQ:∀ h',h<+:h'→Q (aggV .u8 (wth q f r)) h'):WF S 50 [aggV .u8 q,I64 f,aggV .u8 r] h Q:=by
 refine WF_fn (fn:=c50) rfl rfl ?_
 dsimp only[c50,oO,oM,oS,oG,oK,oE,oL,oF,oX,oN]
 have q27:=hq.1
 have r9:=hr.1
 have w27:=wth_len (f:=f) q27 r9 hf
 ((try simp (maxSteps:=3000000) (dsimp:=false) (disch:=first|omega|simp only[lnx];omega) only[↓ypre,ypost,↓reduceIte,reduceEqDiff,reduceAdd,reduceSub,reduceLeDiff,zz0,ynew,aggV,cellsL_cel,cel_all,zeros27]);try simp only[yback])
 generalize hH1:AH.new h _=H1
 obtain⟨hb1,p1,n1⟩:=new_facts hH1
 generalize hH2:AH.new H1 _=H2
 obtain⟨hb2,p2,n2⟩:=new_facts hH2
 generalize hH3:AH.new H2 _=H3
 obtain⟨hb3,p3,n3⟩:=new_facts hH3
 have g1:=pre_get (p2.trans p3) hb1
 have g2:=pre_get p3 hb2
 have l1:=get_lt g1
 have l3:=get_lt hb3
 have t9:(cel .u8 r).take 9=cel .u8 r:=List.take_of_length_le (by rw[cel_len,r9];exact Nat.le_refl _)
 have t27:(cel .u8 (wth q f r)).take 27=cel .u8 (wth q f r):=List.take_of_length_le (by rw[cel_len,w27];exact Nat.le_refl _)
 have sw:=splice_wth (q:=q) (f:=f) r9
 have g3:=fun e:TypeId=>(get_put_ne (h:=H3) (b:=⟨cel .u8 (wth q f r),e,false,true⟩) (show h.length≠H2.length by omega)).trans hb3
 have w3:=fun e:TypeId=>wr_full (vs:=cel .u8 (wth q f r)) (g3 e) (by rw[cel_len,w27];rfl)
 have fin:=fun e:TypeId=>hQ _ (pre_put (b:=⟨cel .u8 (wth q f r),53,false,true⟩) (pre_put (b:=⟨cel .u8 (wth q f r),e,false,true⟩) (p1.trans (p2.trans p3)) (n:=h.length) (Nat.le_refl _)) (n:=H2.length) (by omega))
 have:f=0∨f=1∨f=2:=by omega
 rcases this with rfl|rfl|rfl
 ·rw[Nat.zero_mul] at sw
  ((try simp (maxSteps:=3000000) (dsimp:=false) (disch:=first|omega|simp only[lnx];omega) only[↓ypre,ypost,↓reduceIte,reduceEqDiff,reduceAdd,reduceSub,reduceLeDiff,zz0,ynew,show ((0:Nat):Int)=0 from rfl,show decide ((0:Int)=0)=true from rfl,rdn_of g2,cel_len,r9,t9,cel_all,wr_of g1,q27,sw,rdn_put_same,w27,t27,w3]);try simp only[yback])
  exact fin _
 ·rw[Nat.one_mul] at sw
  ((try simp (maxSteps:=3000000) (dsimp:=false) (disch:=first|omega|simp only[lnx];omega) only[↓ypre,ypost,↓reduceIte,reduceEqDiff,reduceAdd,reduceSub,reduceLeDiff,zz0,ynew,show ((1:Nat):Int)=1 from rfl,show decide ((1:Int)=0)=false from rfl,show decide ((1:Int)=1)=true from rfl,rdn_of g2,cel_len,r9,t9,cel_all,wr_of g1,q27,sw,rdn_put_same,w27,t27,w3]);try simp only[yback])
  exact fin _
 ·have sw:splice (cel .u8 q) 18 (cel .u8 r)=cel .u8 (wth q 2 r):=sw
  ((try simp (maxSteps:=3000000) (dsimp:=false) (disch:=first|omega|simp only[lnx];omega) only[↓ypre,ypost,↓reduceIte,reduceEqDiff,reduceAdd,reduceSub,reduceLeDiff,zz0,ynew,show ((2:Nat):Int)=2 from rfl,show decide ((2:Int)=0)=false from rfl,show decide ((2:Int)=1)=false from rfl,rdn_of g2,cel_len,r9,t9,cel_all,wr_of g1,q27,sw,rdn_put_same,w27,t27,w3]);try simp only[yback])
  exact fin _
def addF (p:Int) (a b:List Int) (k:Int) (i:Nat):List Int:=(gen i fun j=>md p (a.getD j 0+k*b.getD j 0))++a.drop i
theorem addF_len {p k:Int} {a b:List Int} {i:Nat} (ha:a.length=9) (hi:i≤9):(addF p a b k i).length=9:=by
 unfold addF
 rw[List.length_append,gen_len,List.length_drop]
 omega
theorem gen_snoc {i:Nat} {g:Nat→Int}:gen (i+1) g=gen i g++[g i]:=by simp[gen,List.range_succ]
theorem addF_at {p k:Int} {a b:List Int} {i j:Nat} (hi:i≤j):(addF p a b k i).getD j 0=a.getD j 0:=by
 unfold addF
 rw[getD_app_r (by rw[gen_len];exact hi),gen_len,List.getD_eq_getElem?_getD,List.getElem?_drop,show i+(j-i)=j by omega,←List.getD_eq_getElem?_getD]
theorem addF_set {p k:Int} {a b:List Int} {i:Nat} (ha:a.length=9) (hi:i<9):(addF p a b k i).set i (md p (a.getD i 0+k*b.getD i 0))=addF p a b k (i+1):=by
 unfold addF
 rw[List.set_append_right _ _ (by rw[gen_len];exact Nat.le_refl _),gen_len,Nat.sub_self,List.drop_eq_getElem_cons (by omega),List.set_cons_zero,gen_snoc]
 simp
theorem addF_by {p k:Int} {a b:List Int} {i:Nat} (hp:2≤p∧p≤5) (ha:By 9 a) (hi:i≤9):By 9 (addF p a b k i):=by
 refine⟨addF_len ha.1 hi,fun j hj=>?_⟩
 by_cases h:j<i
 ·unfold addF
  rw[getD_app_l (by rw[gen_len];exact h),gen_get h]
  have:=md_in (x:=a.getD j 0+k*b.getD j 0) hp.1
  omega
 ·rw[addF_at (by omega)]
  exact ha.2 j hj
theorem s_l01Add {p k:Int} {a b:List Int} {h:AH} {Q:Value→AH→Prop} (hp:2≤p∧p≤5) (ha:By 9 a) (hb:By 9 b) (hk:-1000≤k∧k≤1000) (hQ:∀ h',h<+:h'→Q (aggV .u8 (addF p a b k 9)) h'):WF S 51 [I64 p,aggV .u8 a,aggV .u8 b,I64 k] h Q:=by
 refine WF_fn (fn:=c51) rfl rfl ?_
 dsimp only[c51,oO,oM,oS,oG,oK,oE,oL,oF,oX,oN]
 have a9:=ha.1
 have b9:=hb.1
 ((try simp (maxSteps:=3000000) (dsimp:=false) (disch:=first|omega|simp only[lnx];omega) only[↓ypre,ypost,↓reduceIte,reduceEqDiff,reduceAdd,reduceSub,reduceLeDiff,zz0,ynew,aggV,cellsL_cel,cel_all,zeros9]);try simp only[yback])
 generalize hH1:AH.new h _=H1
 obtain⟨hb1,p1,n1⟩:=new_facts hH1
 generalize hH2:AH.new H1 _=H2
 obtain⟨hb2,p2,n2⟩:=new_facts hH2
 generalize hH3:AH.new H2 _=H3
 obtain⟨hb3,p3,n3⟩:=new_facts hH3
 have e0:addF p a b k 0=a:=by simp[addF,gen]
 refine WC_loop_inv (fun m f K1=>∃ (i:Nat),m=9-i∧i≤9∧f 0=I64 p∧f 3=I64 k∧f 5=.pointer (some ⟨h.length,0,none⟩)∧f 6=.pointer (some ⟨H1.length,0,none⟩)∧f 8=.pointer (some ⟨H2.length,0,none⟩)∧f 9=I64 i∧(h<+:K1)∧(K1.get h.length=some ⟨cel .u8 (addF p a b k i),34,false,true⟩)∧(K1.get H1.length=some ⟨cel .u8 b,34,false,true⟩)∧(K1.get H2.length=some ⟨cel .u8 (List.replicate 9 0),34,false,true⟩)) ?_ (9-0) _ _ ⟨0,rfl,by omega,(by first|rfl|simp[upd_apply]),(by first|rfl|simp[upd_apply]),(by first|rfl|simp[upd_apply]),(by first|rfl|simp[upd_apply]),(by first|rfl|simp[upd_apply]),(by first|rfl|simp[upd_apply]),p1.trans (p2.trans p3),(by rw[e0];exact pre_get (p2.trans p3) hb1),pre_get p3 hb2,hb3⟩
 rintro m f K1 ⟨i,rfl,hi,f0,f3,f5,f6,f8,f9,pp,g1,g2,g3⟩
 have lF:=addF_len (p:=p) (k:=k) (a:=a) (b:=b) (i:=i) a9 (by omega)
 by_cases hlt:(i:Int)<9
 ·have ba:=ha.2 i (by omega)
  have bb:=hb.2 i (by omega)
  have c1:=cel_get (k:=.u8) (q:=addF p a b k i) (j:=i) (by omega)
  rw[addF_at (Nat.le_refl _)] at c1
  have c2:=cel_get (k:=.u8) (q:=b) (j:=i) (by omega)
  have kb:-255000≤k*b.getD i 0∧k*b.getD i 0≤255000:=by
   generalize b.getD i 0=y at bb
   constructor
   ·have:=Int.mul_le_mul_of_nonneg_right (show -k≤1000 by omega) bb.1
    have h2:-k*y = -(k*y):=Int.neg_mul k y
    omega
   ·have:=Int.mul_le_mul_of_nonneg_right hk.2 bb.1
    omega
  have mi:=md_in (x:=a.getD i 0+k*b.getD i 0) hp.1
  have st:=cel_set (k:=.u8) (q:=addF p a b k i) (j:=i) (x:=md p (a.getD i 0+k*b.getD i 0)) (by omega)
  rw[addF_set a9 (by omega)] at st
  have ia:∀ m:Nat,ixaV 9 1 (.pointer (some ⟨m,0,none⟩)) (I64 i)=_:=fun m=>ixaV_ptr ⟨by omega,by omega⟩
  have w1:IntKind.i64.wrap (k*b.getD i 0)=k*b.getD i 0:=wrap64_in (by omega) (by omega)
  have w2:IntKind.i64.wrap (a.getD i 0+k*b.getD i 0)=a.getD i 0+k*b.getD i 0:=wrap64_in (by omega) (by omega)
  ((try simp (maxSteps:=3000000) (dsimp:=false) (disch:=first|omega|simp only[lnx];omega) only[↓ypre,ypost,↓reduceIte,reduceEqDiff,reduceAdd,reduceSub,reduceLeDiff,zz0,ynew,f0,f3,f5,f6,f8,f9,decide_eq_true hlt,↓WX_ixa,ia,Int.toNat_natCast,Nat.mul_one,rd1_of g1,rd1_of g2,c1,c2,wrap64_in,w1,w2]);try simp only[yback])
  refine s_l01Mod hp ?_
  ((try simp (maxSteps:=3000000) (dsimp:=false) (disch:=first|omega|simp only[lnx];omega) only[↓ypre,ypost,↓reduceIte,reduceEqDiff,reduceAdd,reduceSub,reduceLeDiff,zz0,ynew,f0,f3,f5,f6,f8,f9,wrap8_in,↓WX_ixa,ia,Int.toNat_natCast,Nat.mul_one,wr_of g1,st,cel_len,lF,wrap64_in]);try simp only[yback])
  refine⟨by omega,?_⟩
  ((try simp (maxSteps:=3000000) (dsimp:=false) (disch:=first|omega|simp only[lnx];omega) only[↓ypre,ypost,↓reduceIte,reduceEqDiff,reduceAdd,reduceSub,reduceLeDiff,zz0,ynew,f0,f3,f5,f6,f8,f9,wrap64_in]);try simp only[yback])
  refine InvQ_go (9-(i+1)) (by omega) ⟨(i+1),rfl,by omega,(by first|rfl|exact f0|(simp only[upd_apply];rfl)|(show I64 _=_;congr 1;omega)),(by first|rfl|exact f3|(simp only[upd_apply];rfl)|(show I64 _=_;congr 1;omega)),(by first|rfl|exact f5|(simp only[upd_apply];rfl)|(show I64 _=_;congr 1;omega)),(by first|rfl|exact f6|(simp only[upd_apply];rfl)|(show I64 _=_;congr 1;omega)),(by first|rfl|exact f8|(simp only[upd_apply];rfl)|(show I64 _=_;congr 1;omega)),(by first|rfl|exact f9|(simp only[upd_apply];rfl)|(show I64 _=_;congr 1;omega)),(pre_put pp (Nat.le_refl _)),(get_put_same (get_lt g1)),(by rw[get_put_ne (by omega)];exact g2),(by rw[get_put_ne (by omega)];exact g3)⟩
 ·have ei:i=9:=by omega
  subst ei
  have t9:(cel .u8 (addF p a b k 9)).take 9=cel .u8 (addF p a b k 9):=List.take_of_length_le (by rw[cel_len,lF];exact Nat.le_refl _)
  have w9:=wr_full (vs:=cel .u8 (addF p a b k 9)) g3 (by rw[cel_len,lF];rfl)
  have l3:=get_lt g3
  ((try simp (maxSteps:=3000000) (dsimp:=false) (disch:=first|omega|simp only[lnx];omega) only[↓ypre,ypost,↓reduceIte,reduceEqDiff,reduceAdd,reduceSub,reduceLeDiff,zz0,ynew,f0,f3,f5,f6,f8,f9,decide_eq_false hlt,rdn_of g1,cel_len,lF,t9,cel_all,w9,rdn_put_same]);try simp only[yback])
  exact hQ _ (pre_put pp (by omega))
def toldL (L:List (List Int)):List (List Int):=L.filter fun q=>!hasZ q
theorem toldL_snoc {L:List (List Int)} {q:List Int}:toldL (L++[q])=if hasZ q=true then toldL L else toldL L++[q]:=by
 unfold toldL
 rw[List.filter_append]
 cases h:hasZ q<;>simp[h]
theorem toldL_len {L:List (List Int)}:(toldL L).length≤L.length:=List.length_filter_le _ _
theorem WayZ.putz {lo a b n:Nat} {h:AH} {sv:Value} {L:List (List Int)} {c:Blk} (o:WayZ lo a b h sv L) (hn:n<lo):WayZ lo a b (h.put n c) sv L:=by
 obtain⟨hw,o|⟨kb,h1,h2,h3,h4⟩⟩:=o
 ·exact⟨hw,.inl o⟩
 ·exact⟨hw,.inr ⟨kb,h1,h2,h3,by rw[get_put_ne (by omega)];exact h4⟩⟩
theorem WayZ.els {lo a b:Nat} {h:AH} {sv:Value} {L:List (List Int)} (o:WayZ lo a b h sv L):Els .u8 27 h sv L:=by
 obtain⟨hw,⟨rfl,rfl⟩|⟨kb,h1,h2,h3,h4⟩⟩:=o
 ·exact .inl ⟨rfl,2,by omega,rfl⟩
 ·exact InE.rd (a:=lo) (b:=h.length) (.inr ⟨kb,_,false,⟨h2,get_lt h4⟩,h1,h4,hw⟩)
theorem WayZ.kN {lo lo' a b:Nat} {h:AH} {sv:Value} {L:List (List Int)} (o:WayZ lo a b h sv L) (bl:Byt 27 L) (hl:lo'≤lo):KN lo' h fun h'=>Prods h' sv L:=fun h' l g=>by
 refine⟨WayZ.els (lo:=lo) (a:=a) (b:=b) ?_,bl⟩
 obtain⟨hw,o|⟨kb,h1,h2,h3,h4⟩⟩:=o
 ·exact⟨hw,.inl o⟩
 ·exact⟨hw,.inr ⟨kb,h1,h2,h3,(g kb (by omega) (get_lt h4)).trans h4⟩⟩
theorem s_l03Told {x:Sch} {v w:Value} {L:List (List Int)} {h:AH} {Q:Value→AH→Prop} (hv:isOne v=true) (hw:Prods h w L) (ll:L.length≤100)
  (hQ:∀ (w':Value) (h':AH),h<+:h'→KN h.length h' (fun h2=>Prods h2 w' (toldL L))→Q (schV ⟨x.p,x.n,x.m,x.k,toldL L⟩ w') h'):WF S 52 [schV x v,w] h Q:=by
 refine WF_fn (fn:=c52) rfl rfl ?_
 dsimp only[c52,oO,oM,oS,oG,oK,oE,oL,oF,oX,oN]
 ((try simp (maxSteps:=3000000) (dsimp:=false) (disch:=first|omega|simp only[lnx];omega) only[↓ypre,ypost,↓reduceIte,reduceEqDiff,reduceAdd,reduceSub,reduceLeDiff,zz0,ynew,schV,hv]);try simp only[yback])
 generalize hH1:AH.new h _=H1
 obtain⟨hb1,p1,n1⟩:=new_facts hH1
 generalize hH2:AH.new H1 _=H2
 obtain⟨hb2,p2,n2⟩:=new_facts hH2
 have g1:=pre_get p2 hb1
 ((try simp (maxSteps:=3000000) (dsimp:=false) (disch:=first|omega|simp only[lnx];omega) only[↓ypre,ypost,↓reduceIte,reduceEqDiff,reduceAdd,reduceSub,reduceLeDiff,zz0,ynew,rdn_of g1]);try simp only[yback])
 refine s_l01Empty (x:=x) hv fun H3 p3=>?_
 ((try simp (maxSteps:=3000000) (dsimp:=false) (disch:=first|omega|simp only[lnx];omega) only[↓ypre,ypost,↓reduceIte,reduceEqDiff,reduceAdd,reduceSub,reduceLeDiff,zz0,ynew,schV]);try simp only[yback])
 generalize hH4:AH.new H3 _=H4
 obtain⟨hb4,p4,n4⟩:=new_facts hH4
 have g2:=pre_get p3 hb2
 have q3:=pre_len p3
 have P3:h<+:H3:=p1.trans (p2.trans p3)
 have w0:WayZ H4.length H4.length H4.length H4 (.slice none 0 2) (toldL (L.take 0)):=⟨fun r hr=>by simp[toldL] at hr,.inl ⟨rfl,rfl⟩⟩
 have elen:=hw.1.len
 refine WC_loop_inv (fun m f K1=>∃ (i:Nat) (sv:Value),m=L.length-i∧i≤L.length∧f 1=w∧f 4=.pointer (some ⟨H1.length,0,none⟩)∧f 5=.pointer (some ⟨H3.length,0,none⟩)∧f 6=I64 i∧(H3<+:K1)∧(H4.length≤K1.length)∧(OwnB K1 H3.length [I64 x.p,I64 x.n,I64 x.m,I64 x.k,sv] true)∧(WayZ H4.length H4.length H4.length K1 sv (toldL (L.take i)))∧(Byt 27 (toldL (L.take i)))) ?_ (L.length-0) _ _ ⟨0,.slice none 0 2,rfl,by omega,(by first|rfl|simp[upd_apply]),(by first|rfl|simp[upd_apply]),(by first|rfl|simp[upd_apply]),(by first|rfl|simp[upd_apply]),p4,Nat.le_refl _,⟨_,hb4⟩,w0,(fun _ h=>by simp[toldL] at h)⟩
 rintro m f K1 ⟨i,sv,rfl,hi,f1,f4,f5,f6,pp,l1,g5,ww,bl⟩
 obtain⟨e5,g5⟩:=g5
 by_cases hlt:(i:Int)<L.length
 ·have hi:i<L.length:=by omega
  obtain⟨nn,off,ix,rd⟩:=((hw.pre (P3.trans pp)).1).at hi
  have by27:By 27 (L.getD i []):=⟨hw.1.wid hi,fun j hj=>hw.2 i hi j hj⟩
  have et:toldL (L.take (i+1))=if hasZ (L.getD i [])=true then toldL (L.take i) else toldL (L.take i)++[L.getD i []]:=by rw[take_next (d:=[]) hi,toldL_snoc]
  generalize L.getD i []=q at rd by27 et
  have q27:=by27.1
  have r27:K1.rdn nn off 27=some (cel .u8 q):=by
   have:=rd.1 0 27 (by omega)
   rwa [Nat.add_zero,List.drop_zero,List.take_of_length_le (by omega)] at this
  have c0:(cel .u8 q).take 9=cel .u8 (seg q 0):=by have:=cel_seg (q:=q) (f:=0);rwa [Nat.zero_mul,List.drop_zero] at this
  have c1:((cel .u8 q).drop 9).take 9=cel .u8 (seg q 1):=cel_seg (f:=1)
  have c2:((cel .u8 q).drop 18).take 9=cel .u8 (seg q 2):=cel_seg (f:=2)
  have n0:=seg_n9 q27 (show 0<3 by omega)
  have n1':=seg_n9 q27 (show 1<3 by omega)
  have n2':=seg_n9 q27 (show 2<3 by omega)
  ((try simp (maxSteps:=3000000) (dsimp:=false) (disch:=first|omega|simp only[lnx];omega) only[↓ypre,ypost,↓reduceIte,reduceEqDiff,reduceAdd,reduceSub,reduceLeDiff,zz0,ynew,f1,f4,f5,f6,elen,decide_eq_true hlt,ix,r27,cel_all,cel_len,q27,sp27z q27,zrep27,splice_27 q27,c0]);try simp only[yback])
  generalize hK2:AH.new K1 _=K2
  obtain⟨hb7,p7,n7⟩:=new_facts hK2
  refine s_l01Zero n0 fun K3 pa=>?_
  have g7:=pre_get pa hb7
  cases z0:isZ (seg q 0) with
  | true=>
   have hz:hasZ q=true:=by unfold hasZ;rw[z0];rfl
   rw[hz,if_pos rfl] at et
   ((try simp (maxSteps:=3000000) (dsimp:=false) (disch:=first|omega|simp only[lnx];omega) only[↓ypre,ypost,↓reduceIte,reduceEqDiff,reduceAdd,reduceSub,reduceLeDiff,zz0,ynew,f1,f4,f5,f6,wrap64_in]);try simp only[yback])
   refine InvQ_go (L.length-(i+1)) (by omega) ⟨(i+1),sv,rfl,by omega,(by first|rfl|exact f1|(simp only[upd_apply];rfl)|(show I64 _=_;congr 1;omega)),(by first|rfl|exact f4|(simp only[upd_apply];rfl)|(show I64 _=_;congr 1;omega)),(by first|rfl|exact f5|(simp only[upd_apply];rfl)|(show I64 _=_;congr 1;omega)),(by first|rfl|exact f6|(simp only[upd_apply];rfl)|(show I64 _=_;congr 1;omega)),(pp.trans (p7.trans pa)),(by have:=pre_len (p7.trans pa);omega),⟨_,pre_get (p7.trans pa) g5⟩,(by rw[et];exact ww.pre (p7.trans pa)),(by rw[et];exact bl)⟩
  | false=>
   ((try simp (maxSteps:=3000000) (dsimp:=false) (disch:=first|omega|simp only[lnx];omega) only[↓ypre,ypost,↓reduceIte,reduceEqDiff,reduceAdd,reduceSub,reduceLeDiff,zz0,ynew,f1,f4,f5,f6,rdn_of g7,cel_len,q27,c1]);try simp only[yback])
   refine s_l01Zero n1' fun K4 pb=>?_
   have g7:=pre_get pb g7
   cases z1:isZ (seg q 1) with
   | true=>
    have hz:hasZ q=true:=by unfold hasZ;rw[z0,z1];rfl
    rw[hz,if_pos rfl] at et
    ((try simp (maxSteps:=3000000) (dsimp:=false) (disch:=first|omega|simp only[lnx];omega) only[↓ypre,ypost,↓reduceIte,reduceEqDiff,reduceAdd,reduceSub,reduceLeDiff,zz0,ynew,f1,f4,f5,f6,wrap64_in]);try simp only[yback])
    refine InvQ_go (L.length-(i+1)) (by omega) ⟨(i+1),sv,rfl,by omega,(by first|rfl|exact f1|(simp only[upd_apply];rfl)|(show I64 _=_;congr 1;omega)),(by first|rfl|exact f4|(simp only[upd_apply];rfl)|(show I64 _=_;congr 1;omega)),(by first|rfl|exact f5|(simp only[upd_apply];rfl)|(show I64 _=_;congr 1;omega)),(by first|rfl|exact f6|(simp only[upd_apply];rfl)|(show I64 _=_;congr 1;omega)),(pp.trans (p7.trans (pa.trans pb))),(by have:=pre_len (p7.trans (pa.trans pb));omega),⟨_,pre_get (p7.trans (pa.trans pb)) g5⟩,(by rw[et];exact ww.pre (p7.trans (pa.trans pb))),(by rw[et];exact bl)⟩
   | false=>
    ((try simp (maxSteps:=3000000) (dsimp:=false) (disch:=first|omega|simp only[lnx];omega) only[↓ypre,ypost,↓reduceIte,reduceEqDiff,reduceAdd,reduceSub,reduceLeDiff,zz0,ynew,f1,f4,f5,f6,rdn_of g7,cel_len,q27,c2]);try simp only[yback])
    refine s_l01Zero n2' fun K5 pc=>?_
    have g7:=pre_get pc g7
    cases z2:isZ (seg q 2) with
    | true=>
    have hz:hasZ q=true:=by unfold hasZ;rw[z0,z1,z2];rfl
    rw[hz,if_pos rfl] at et
    ((try simp (maxSteps:=3000000) (dsimp:=false) (disch:=first|omega|simp only[lnx];omega) only[↓ypre,ypost,↓reduceIte,reduceEqDiff,reduceAdd,reduceSub,reduceLeDiff,zz0,ynew,f1,f4,f5,f6,wrap64_in]);try simp only[yback])
    refine InvQ_go (L.length-(i+1)) (by omega) ⟨(i+1),sv,rfl,by omega,(by first|rfl|exact f1|(simp only[upd_apply];rfl)|(show I64 _=_;congr 1;omega)),(by first|rfl|exact f4|(simp only[upd_apply];rfl)|(show I64 _=_;congr 1;omega)),(by first|rfl|exact f5|(simp only[upd_apply];rfl)|(show I64 _=_;congr 1;omega)),(by first|rfl|exact f6|(simp only[upd_apply];rfl)|(show I64 _=_;congr 1;omega)),(pp.trans (p7.trans (pa.trans (pb.trans pc)))),(by have:=pre_len (p7.trans (pa.trans (pb.trans pc)));omega),⟨_,pre_get (p7.trans (pa.trans (pb.trans pc))) g5⟩,(by rw[et];exact ww.pre (p7.trans (pa.trans (pb.trans pc)))),(by rw[et];exact bl)⟩
    | false=>
     have hz:hasZ q=false:=by unfold hasZ;rw[z0,z1,z2];rfl
     rw[hz,if_neg (by decide)] at et
     have P5:K1<+:K5:=p7.trans (pa.trans (pb.trans pc))
     have L5:=pre_len P5
     have g55:=pre_get P5 g5
     have t27:(cel .u8 q).take 27=cel .u8 q:=List.take_of_length_le (by rw[cel_len,q27];exact Nat.le_refl _)
     have tl:=toldL_len (L:=L.take i)
     have tk:(L.take i).length=i:=by rw[List.length_take];omega
     ((try simp (maxSteps:=3000000) (dsimp:=false) (disch:=first|omega|simp only[lnx];omega) only[↓ypre,ypost,↓reduceIte,reduceEqDiff,reduceAdd,reduceSub,reduceLeDiff,zz0,ynew,f1,f4,f5,f6,rd1_of g55,rdn_of g7,cel_len,q27,t27,zrep27,sp27z q27,fillL,cel_all,List.append_nil,List.length_replicate]);try simp only[yback])
     refine (ww.pre P5).app (q:=q) q27 (by omega) (by omega) (by omega) fun sv' H' l' pre' keep' w'=>?_
     have g6:=keep' _ _ (.inl (by omega)) g55
     have lt6:=get_lt g6
     ((try simp (maxSteps:=3000000) (dsimp:=false) (disch:=first|omega|simp only[lnx];omega) only[↓ypre,ypost,↓reduceIte,reduceEqDiff,reduceAdd,reduceSub,reduceLeDiff,zz0,ynew,f1,f4,f5,f6,w'.one,w'.cells,wr_of g6,splice_eq,wrap64_in]);try simp only[yback])
     rw[←et] at w'
     refine InvQ_go (L.length-(i+1)) (by omega) ⟨(i+1),sv',rfl,by omega,(by first|rfl|exact f1|(simp only[upd_apply];rfl)|(show I64 _=_;congr 1;omega)),(by first|rfl|exact f4|(simp only[upd_apply];rfl)|(show I64 _=_;congr 1;omega)),(by first|rfl|exact f5|(simp only[upd_apply];rfl)|(show I64 _=_;congr 1;omega)),(by first|rfl|exact f6|(simp only[upd_apply];rfl)|(show I64 _=_;congr 1;omega)),(pre_put (pre' _ (by omega) (pp.trans P5)) (Nat.le_refl _)),(by rw[len_put];omega),⟨_,get_put_same lt6⟩,(w'.putz (by omega)),(by rw[et];exact byt_snoc bl by27)⟩
 ·have ei:i=L.length:=by omega
  subst ei
  rw[List.take_length] at ww bl
  have g2:=pre_get pp g2
  have lt2:=get_lt g2
  have q1:=pre_len pp
  ((try simp (maxSteps:=3000000) (dsimp:=false) (disch:=first|omega|simp only[lnx];omega) only[↓ypre,ypost,↓reduceIte,reduceEqDiff,reduceAdd,reduceSub,reduceLeDiff,zz0,ynew,f1,f4,f5,f6,elen,decide_eq_false hlt,rdn_of g5,wr_of g2,splice_eq,rdn_put_same,ww.one]);try simp only[yback])
  exact hQ sv _ (pre_put (P3.trans pp) (by omega)) ((ww.putz (by omega)).kN bl (by omega))
def flG' (f:Nat):Nat:=(f+1)%3
def flH' (f:Nat):Nat:=(f+2)%3
def flOne (p:Int) (a b:List Int) (f:Nat) (s:Int):List Int:=wth a (flG' f) (addF p (seg a (flG' f)) (seg b (flG' f)) s 9)
def flTwo (p:Int) (a b:List Int) (f:Nat) (s:Int):List Int:=wth b (flH' f) (addF p (seg b (flH' f)) (seg a (flH' f)) (-s) 9)
def flipL (p:Int) (L:List (List Int)) (i k f:Nat) (s:Int):List (List Int):=(L.set i (flOne p (L.getD i []) (L.getD k []) f s)).set k (flTwo p (L.getD i []) (L.getD k []) f s)
theorem byt_setq {L:List (List Int)} {q:List Int} {i:Nat} (hb:Byt 27 L) (hq:By 27 q):Byt 27 (L.set i q):=fun m hm j hj=>by
 rw[List.length_set] at hm
 by_cases e:m=i
 ·subst e
  rw[List.getD_eq_getElem?_getD (l:=L.set m q),List.getElem?_set_self hm,Option.getD_some]
  exact hq.2 j hj
 ·rw[List.getD_eq_getElem?_getD (l:=L.set i q),List.getElem?_set_ne (Ne.symm e),←List.getD_eq_getElem?_getD]
  exact hb m hm j hj
theorem s_l03Flip {x:Sch} {v:Value} {i k r:Nat} {s:Int} {h:AH} {Q:Value→AH→Prop} (hv:Prods h v x.ps) (ll:x.ps.length≤100) (hp:2≤x.p∧x.p≤5) (hi:i<x.ps.length) (hk:k<x.ps.length) (hf:r<3) (hs:1≤s∧s≤1000)
  (hQ:∀ (w':Value) (h':AH),h<+:h'→KN h.length h' (fun h2=>Prods h2 w' (toldL (flipL x.p x.ps i k r s)))→Q (schV ⟨x.p,x.n,x.m,x.k,toldL (flipL x.p x.ps i k r s)⟩ w') h'):WF S 85 [schV x v,I64 i,I64 k,I64 r,I64 s] h Q:=by
 refine WF_fn (fn:=c85) rfl rfl ?_
 dsimp only[c85,oO,oM,oS,oG,oK,oE,oL,oF,oX,oN]
 have v1:isOne v=true:=hv.one
 ((try simp (maxSteps:=3000000) (dsimp:=false) (disch:=first|omega|simp only[lnx];omega) only[↓ypre,ypost,↓reduceIte,reduceEqDiff,reduceAdd,reduceSub,reduceLeDiff,zz0,ynew,schV,v1]);try simp only[yback])
 generalize hH1:AH.new h _=H1
 obtain⟨hb1,p1,n1⟩:=new_facts hH1
 generalize hH2:AH.new H1 _=H2
 obtain⟨hb2,p2,n2⟩:=new_facts hH2
 have g1:=pre_get p2 hb1
 have gf:flG' r<3:=Nat.mod_lt _ (by omega)
 have gh:flH' r<3:=Nat.mod_lt _ (by omega)
 ((try simp (maxSteps:=3000000) (dsimp:=false) (disch:=first|omega|simp only[lnx];omega) only[↓ypre,ypost,↓reduceIte,reduceEqDiff,reduceAdd,reduceSub,reduceLeDiff,zz0,ynew,rd1_of g1,zrep,fillL]);try simp only[yback])
 have w27:Wid 27 x.ps:=hv.1.widL
 refine copy_zero (hv.1.pre (p1.trans p2)) (by omega) (by omega) fun H3 l3 p3 gB=>?_
 have g1:=pre_get p3 g1
 have g10:=pre_get p3 hb2
 have wg:(IntKind.i64.wrap ((r:Int)+1)).tmod 3=((flG' r:Nat):Int):=by
  have:r=0∨r=1∨r=2:=by omega
  rcases this with rfl|rfl|rfl<;>rfl
 have wh:(IntKind.i64.wrap ((r:Int)+2)).tmod 3=((flH' r:Nat):Int):=by
  have:r=0∨r=1∨r=2:=by omega
  rcases this with rfl|rfl|rfl<;>rfl
 refine WO_cut (fun f:Fr=>f 1=I64 i∧f 2=I64 k∧f 3=I64 r∧f 4=I64 s∧f 5=.pointer (some ⟨h.length,0,none⟩)∧f 10=.pointer (some ⟨H1.length,0,none⟩)∧f 19=.slice (some ⟨H2.length+1,0,none⟩) x.ps.length 27∧True) ⟨(by first|rfl|simp[upd_apply]),(by first|rfl|simp[upd_apply]),(by first|rfl|simp[upd_apply]),(by first|rfl|simp[upd_apply]),(by first|rfl|simp[upd_apply]),(by first|rfl|simp[upd_apply]),(by first|rfl|simp[upd_apply]),trivial⟩ ?_
 rintro f ⟨f1,f2,f3,f4,f5,f10,f19,-⟩
 have el:Els .u8 27 H3 (.slice (some ⟨H2.length+1,0,none⟩) x.ps.length 27) x.ps:=(blk_kN (lo:=0) gB w27 (Nat.zero_le _)).now
 obtain⟨ni,oi,ixi,rdi⟩:=el.at hi
 obtain⟨nk,ok,ixk,rdk⟩:=el.at hk
 have byi:By 27 (x.ps.getD i []):=⟨hv.1.wid hi,fun j hj=>hv.2 i hi j hj⟩
 have byk:By 27 (x.ps.getD k []):=⟨hv.1.wid hk,fun j hj=>hv.2 k hk j hj⟩
 unfold flipL at hQ
 generalize x.ps.getD i []=a at rdi byi hQ
 generalize x.ps.getD k []=b at rdk byk hQ
 have a27:=byi.1
 have b27:=byk.1
 have ri:H3.rdn ni oi 27=some (cel .u8 a):=by
  have:=rdi.1 0 27 (by omega)
  rwa [Nat.add_zero,List.drop_zero,List.take_of_length_le (by omega)] at this
 have rk:H3.rdn nk ok 27=some (cel .u8 b):=by
  have:=rdk.1 0 27 (by omega)
  rwa [Nat.add_zero,List.drop_zero,List.take_of_length_le (by omega)] at this
 have ta:(cel .u8 a).take 27=cel .u8 a:=List.take_of_length_le (by rw[cel_len,a27];exact Nat.le_refl _)
 have tb:(cel .u8 b).take 27=cel .u8 b:=List.take_of_length_le (by rw[cel_len,b27];exact Nat.le_refl _)
 ((try simp (maxSteps:=3000000) (dsimp:=false) (disch:=first|omega|simp only[lnx];omega) only[↓ypre,ypost,↓reduceIte,reduceEqDiff,reduceAdd,reduceSub,reduceLeDiff,zz0,ynew,f1,f2,f3,f4,f5,f10,f19,bin_rem (show (3:Int)≠0 by decide),wg,wh,ixi,ixk,ri,rk,cellsL_cel,cel_all,cel_len,a27,b27,rd1_of g1,ta,tb]);try simp only[yback])
 generalize hK1:AH.new H3 _=K1
 obtain⟨ka,pa,na⟩:=new_facts hK1
 generalize hK2:AH.new K1 _=K2
 obtain⟨kb,pb,nb⟩:=new_facts hK2
 have ka:=pre_get pb ka
 have P2:H3<+:K2:=pa.trans pb
 refine s_l03Factor (q:=a) byi gf fun K3 q3=>⟨q3,?_⟩
 have ka:=pre_get q3 ka
 have kb:=pre_get q3 kb
 ((try simp (maxSteps:=3000000) (dsimp:=false) (disch:=first|omega|simp only[lnx];omega) only[↓ypre,ypost,↓reduceIte,reduceEqDiff,reduceAdd,reduceSub,reduceLeDiff,zz0,ynew,f1,f2,f3,f4,f5,f10,f19,rdn_of kb,cel_len,b27,tb]);try simp only[yback])
 refine s_l03Factor (q:=b) byk gf fun K4 q4=>⟨q4,?_⟩
 have ka:=pre_get q4 ka
 have kb:=pre_get q4 kb
 ((try simp (maxSteps:=3000000) (dsimp:=false) (disch:=first|omega|simp only[lnx];omega) only[↓ypre,ypost,↓reduceIte,reduceEqDiff,reduceAdd,reduceSub,reduceLeDiff,zz0,ynew,f1,f2,f3,f4,f5,f10,f19]);try simp only[yback])
 have sga:=seg_by byi gf
 have sgb:=seg_by byk gf
 refine s_l01Add (k:=s) hp sga sgb (by omega) fun K5 q5=>⟨q5,?_⟩
 ((try simp (maxSteps:=3000000) (dsimp:=false) (disch:=first|omega|simp only[lnx];omega) only[↓ypre,ypost,↓reduceIte,reduceEqDiff,reduceAdd,reduceSub,reduceLeDiff,zz0,ynew,f1,f2,f3,f4,f5,f10,f19]);try simp only[yback])
 have ad:=addF_by (k:=s) (b:=seg b (flG' r)) (i:=9) hp sga (Nat.le_refl _)
 refine s_l03With byi ad gf fun K6 q6=>?_
 have ka:=pre_get (q5.trans q6) ka
 have kb:=pre_get (q5.trans q6) kb
 have P6:H3<+:K6:=P2.trans (q3.trans (q4.trans (q5.trans q6)))
 have gB6:=pre_get P6 gB
 have by1:By 27 (flOne x.p a b r s):=wth_by byi ad gf
 have l1:=by1.1
 have e1:wth a (flG' r) (addF x.p (seg a (flG' r)) (seg b (flG' r)) s 9)=flOne x.p a b r s:=rfl
 rw[e1]
 have i1:ixsV 27 (.slice (some ⟨H2.length+1,0,none⟩) x.ps.length 27) (I64 i)=some (.pointer (some ⟨H2.length+1,i*27,none⟩)):=by
  rw[ixsV_some,if_pos (by omega),Int.toNat_natCast,Nat.zero_add]
 have i2:ixsV 27 (.slice (some ⟨H2.length+1,0,none⟩) x.ps.length 27) (I64 k)=some (.pointer (some ⟨H2.length+1,k*27,none⟩)):=by
  rw[ixsV_some,if_pos (by omega),Int.toNat_natCast,Nat.zero_add]
 have sf1:=splice_flat (k:=.u8) l1 w27 (j:=i) hi
 have fl:=flat_len w27
 have g16:=pre_get P6 g1
 have g106:=pre_get P6 g10
 have n3:=get_lt gB
 ((try simp (maxSteps:=3000000) (dsimp:=false) (disch:=first|omega|simp only[lnx];omega) only[↓ypre,ypost,↓reduceIte,reduceEqDiff,reduceAdd,reduceSub,reduceLeDiff,zz0,ynew,f1,f2,f3,f4,f5,f10,f19,aggV,cellsL_cel,cel_all,cel_len,l1,i1,wr_of gB6,sf1,fl,rdn_of kb,b27,tb,rd1_of g16]);try simp only[yback])
 refine⟨by omega,?_⟩
 generalize hK7:AH.put K6 _ _=K7
 have ne1:H2.length+1≠h.length:=by omega
 have ne10:H2.length+1≠H1.length:=by omega
 have L6:=pre_len P6
 have kp:∀ m c,m≠H2.length+1→AH.get K6 m=some c→AH.get K7 m=some c:=fun m c hm g=>by rw[←hK7,get_put_ne (Ne.symm hm)];exact g
 have gB7:K7.get (H2.length+1)=some ⟨cel .u8 (x.ps.set i (flOne x.p a b r s)).flatten,53,false,false⟩:=by rw[←hK7];exact get_put_same (get_lt gB6)
 have g17:=kp _ _ (by omega) g16
 have g107:=kp _ _ (by omega) g106
 have ka7:=kp _ _ (by omega) ka
 have kb7:=kp _ _ (by omega) kb
 have P7:H2<+:K7:=by rw[←hK7];exact pre_put (p3.trans P6) (by omega)
 refine s_l03Factor (q:=b) byk gh fun K8 q8=>⟨q8,?_⟩
 have ka8:=pre_get q8 ka7
 ((try simp (maxSteps:=3000000) (dsimp:=false) (disch:=first|omega|simp only[lnx];omega) only[↓ypre,ypost,↓reduceIte,reduceEqDiff,reduceAdd,reduceSub,reduceLeDiff,zz0,ynew,f1,f2,f3,f4,f5,f10,f19,rdn_of ka8,cel_len,a27,ta]);try simp only[yback])
 refine s_l03Factor (q:=a) byi gh fun K9 q9=>⟨q9,?_⟩
 have wn:IntKind.i64.wrap (0-s) = -s:=by rw[wrap64_in (by omega) (by omega)];omega
 ((try simp (maxSteps:=3000000) (dsimp:=false) (disch:=first|omega|simp only[lnx];omega) only[↓ypre,ypost,↓reduceIte,reduceEqDiff,reduceAdd,reduceSub,reduceLeDiff,zz0,ynew,f1,f2,f3,f4,f5,f10,f19,wn]);try simp only[yback])
 have tgb:=seg_by byk gh
 have tga:=seg_by byi gh
 refine s_l01Add (k:=-s) hp tgb tga (by omega) fun K10 q10=>⟨q10,?_⟩
 ((try simp (maxSteps:=3000000) (dsimp:=false) (disch:=first|omega|simp only[lnx];omega) only[↓ypre,ypost,↓reduceIte,reduceEqDiff,reduceAdd,reduceSub,reduceLeDiff,zz0,ynew,f1,f2,f3,f4,f5,f10,f19]);try simp only[yback])
 have ad2:=addF_by (k:=-s) (b:=seg a (flH' r)) (i:=9) hp tgb (Nat.le_refl _)
 refine s_l03With byk ad2 gh fun K11 q11=>?_
 have P11:K7<+:K11:=q8.trans (q9.trans (q10.trans q11))
 have gB11:=pre_get P11 gB7
 have g111:=pre_get P11 g17
 have g1011:=pre_get P11 g107
 have by2:By 27 (flTwo x.p a b r s):=wth_by byk ad2 gh
 have l2:=by2.1
 have e2:wth b (flH' r) (addF x.p (seg b (flH' r)) (seg a (flH' r)) (-s) 9)=flTwo x.p a b r s:=rfl
 rw[e2]
 have w27':Wid 27 (x.ps.set i (flOne x.p a b r s)):=wid_set w27 l1
 have lS:(x.ps.set i (flOne x.p a b r s)).length=x.ps.length:=List.length_set
 have sf2:=splice_flat (k:=.u8) l2 w27' (j:=k) (by rw[lS];exact hk)
 have fl':=flat_len w27'
 rw[lS] at fl'
 ((try simp (maxSteps:=3000000) (dsimp:=false) (disch:=first|omega|simp only[lnx];omega) only[↓ypre,ypost,↓reduceIte,reduceEqDiff,reduceAdd,reduceSub,reduceLeDiff,zz0,ynew,f1,f2,f3,f4,f5,f10,f19,aggV,cellsL_cel,cel_all,cel_len,l2,i2,wr_of gB11,sf2,fl',rdn_of g111]);try simp only[yback])
 refine⟨by omega,?_⟩
 generalize hK12:AH.put K11 _ _=K12
 generalize hL:(x.ps.set i (flOne x.p a b r s)).set k (flTwo x.p a b r s)=L at *
 have lL:L.length=x.ps.length:=by rw[←hL,List.length_set,lS]
 have gB12:AH.get K12 (H2.length+1)=some ⟨cel .u8 L.flatten,53,false,false⟩:=by rw[←hK12];exact get_put_same (get_lt gB11)
 have bL:Byt 27 L:=by rw[←hL];exact byt_setq (byt_setq hv.2 by1) by2
 have wL:Wid 27 L:=by rw[←hL];exact wid_set w27' l2
 have pr:Prods K12 (.slice (some ⟨H2.length+1,0,none⟩) x.ps.length 27) L:=⟨by rw[←lL];exact (blk_kN (lo:=0) gB12 wL (Nat.zero_le _)).now,bL⟩
 have P12:H2<+:K12:=by rw[←hK12];exact pre_put (P7.trans P11) (by omega)
 have g1012:=(show AH.get K12 H1.length=AH.get K11 H1.length from by rw[←hK12];exact get_put_ne (by omega)).trans g1011
 refine s_l03Told (x:=x) v1 pr (by omega) fun w' H13 p13 hw'=>?_
 have g13:=pre_get p13 g1012
 have l13:=get_lt g13
 have P13:=P12.trans p13
 ((try simp (maxSteps:=3000000) (dsimp:=false) (disch:=first|omega|simp only[lnx];omega) only[↓ypre,ypost,↓reduceIte,reduceEqDiff,reduceAdd,reduceSub,reduceLeDiff,zz0,ynew,f1,f2,f3,f4,f5,f10,f19,schV,hw'.now.one,wr_of g13,splice_eq,rdn_put_same]);try simp only[yback])
 have q13:=pre_len P12
 exact hQ w' _ (pre_put ((p1.trans p2).trans P13) (by omega)) (KN.mono (KN.put hw' (by omega)) (by omega))
def numOk (n:Nat) (a:Int):Bool:=decide (0≤a∧a≤(n:Int)-1)
theorem s_l03Numbers {x:Sch} {v w:Value} {ns:List Int} {h:AH} {Q:Value→AH→Prop} (hv:Prods h v x.ps) (hl:SmallX x.ps) (hw:Ints h w ns) (hn:ns.length≤10) (hQ:∀ h',h<+:h'→Q (.bool (ns.all (numOk x.ps.length))) h'):WF S 39 [schV x v,w] h Q:=by
 refine WF_fn (fn:=c39) rfl rfl ?_
 dsimp only[c39,oO,oM,oS,oG,oK,oE,oL,oF,oX,oN]
 have v1:isOne v=true:=hv.one
 unfold SmallX at hl
 ((try simp (maxSteps:=3000000) (dsimp:=false) (disch:=first|omega|simp only[lnx];omega) only[↓ypre,ypost,↓reduceIte,reduceEqDiff,reduceAdd,reduceSub,reduceLeDiff,zz0,ynew,schV,v1]);try simp only[yback])
 generalize hH1:AH.new h _=H1
 obtain⟨hb1,p1,n1⟩:=new_facts hH1
 have wl:=hw.len
 have vl:=hv.1.len
 refine WC_loop_inv (fun m f K1=>∃ (i:Nat),m=ns.length-i∧i≤ns.length∧f 1=w∧f 2=.pointer (some ⟨h.length,0,none⟩)∧f 5=I64 i∧K1=H1∧((∀ j,j<i→numOk x.ps.length (ns.getD j 0)=true))) ?_ (ns.length-0) _ _ ⟨0,rfl,by omega,(by first|rfl|simp[upd_apply]),(by first|rfl|simp[upd_apply]),(by first|rfl|simp[upd_apply]),rfl,(fun _ h=>absurd h (Nat.not_lt_zero _))⟩
 rintro m f K1 ⟨i,rfl,hi,f1,f2,f5,rfl,al⟩
 by_cases hlt:(i:Int)<ns.length
 ·have hi:i<ns.length:=by omega
  obtain⟨nn,off,ix,rd⟩:=(hw.pre p1).cell hi
  have ix:=ix .i64
  ((try simp (maxSteps:=3000000) (dsimp:=false) (disch:=first|omega|simp only[lnx];omega) only[↓ypre,ypost,↓reduceIte,reduceEqDiff,reduceAdd,reduceSub,reduceLeDiff,zz0,ynew,f1,f2,f5,wl,decide_eq_true hlt,ix,rd,rd1_of hb1,vl,wrap64_in]);try simp only[yback])
  refine s_l01In ?_
  cases c:numOk x.ps.length (ns.getD i 0) with
  | false=>
   have c':decide (0≤ns.getD i 0∧ns.getD i 0≤(x.ps.length:Int)-1)=false:=c
   ((try simp (maxSteps:=3000000) (dsimp:=false) (disch:=first|omega|simp only[lnx];omega) only[↓ypre,ypost,↓reduceIte,reduceEqDiff,reduceAdd,reduceSub,reduceLeDiff,zz0,ynew,f1,f2,f5,c',wrap64_in]);try simp only[yback])
   have e:ns.all (numOk x.ps.length)=false:=by
    rw[List.all_eq_false]
    refine⟨ns[i],List.getElem_mem hi,?_⟩
    rw[List.getD_eq_getElem?_getD,List.getElem?_eq_getElem hi,Option.getD_some] at c
    rw[c]
    decide
   rw[e] at hQ
   exact hQ _ p1
  | true=>
   have c':decide (0≤ns.getD i 0∧ns.getD i 0≤(x.ps.length:Int)-1)=true:=c
   ((try simp (maxSteps:=3000000) (dsimp:=false) (disch:=first|omega|simp only[lnx];omega) only[↓ypre,ypost,↓reduceIte,reduceEqDiff,reduceAdd,reduceSub,reduceLeDiff,zz0,ynew,f1,f2,f5,c',wrap64_in]);try simp only[yback])
   refine InvQ_go (ns.length-(i+1)) (by omega) ⟨(i+1),rfl,by omega,(by first|rfl|exact f1|(simp only[upd_apply];rfl)|(show I64 _=_;congr 1;omega)),(by first|rfl|exact f2|(simp only[upd_apply];rfl)|(show I64 _=_;congr 1;omega)),(by first|rfl|exact f5|(simp only[upd_apply];rfl)|(show I64 _=_;congr 1;omega)),rfl,(fun j hj=>by rcases Nat.lt_succ_iff_lt_or_eq.1 hj with h1|rfl;exact al j h1;exact c)⟩
 ·((try simp (maxSteps:=3000000) (dsimp:=false) (disch:=first|omega|simp only[lnx];omega) only[↓ypre,ypost,↓reduceIte,reduceEqDiff,reduceAdd,reduceSub,reduceLeDiff,zz0,ynew,f1,f2,f5,wl,decide_eq_false hlt]);try simp only[yback])
  have e:ns.all (numOk x.ps.length)=true:=by
   rw[List.all_eq_true]
   intro a ha
   obtain⟨j,hj,rfl⟩:=List.getElem_of_mem ha
   have:=al j (by omega)
   rwa [List.getD_eq_getElem?_getD,List.getElem?_eq_getElem hj,Option.getD_some] at this
  rw[e] at hQ
  exact hQ _ p1
def flF (L:List (List Int)) (i k:Nat):Nat→List (List Int)
 | 0=>[]
 | r+1=>flF L i k r++(if seg (L.getD i []) r=seg (L.getD k []) r then [[(i:Int),k,r]] else [])
def flK (L:List (List Int)) (i:Nat):Nat→List (List Int)
 | 0=>[]
 | k+1=>flK L i k++(if i=k then [] else flF L i k 3)
def flI (L:List (List Int)):Nat→List (List Int)
 | 0=>[]
 | i+1=>flI L i++flK L i L.length
end Go.Proofs.YtigpfopobpoamaaGreat.X

set_option linter.unusedVariables false
set_option linter.unusedSimpArgs false
set_option maxRecDepth 20000
set_option maxHeartbeats 4000000
namespace Go.Proofs.YtigpfopobpoamaaGreat.X
open Go Go.RowKit
end Go.Proofs.YtigpfopobpoamaaGreat.X

set_option linter.unusedVariables false
set_option linter.unusedSimpArgs false
set_option maxRecDepth 20000
set_option maxHeartbeats 4000000
namespace Go.Proofs.YtigpfopobpoamaaGreat.X
theorem Cg.tmod (x p:Int):Cg p (x.tmod p) x:=(show Cg p x (x.tmod p) from tmod_dvd x p).symm
theorem seg_at {q:List Int} {i j:Nat} (hj:j<9):(seg q i).getD j 0=q.getD (i*9+j) 0:=by
 unfold seg
 rw[cut_get hj]
def wn (m k a b c:Nat):Int:=if a%m=b / k∧a / m=c / k∧b%k=c%k then 1 else 0
section
variable {x y:Sch} {L R:List (List Int)} {n m k:Nat}
end
end Go.Proofs.YtigpfopobpoamaaGreat.X

set_option linter.unusedVariables false
set_option linter.unusedSimpArgs false
set_option maxRecDepth 20000
set_option maxHeartbeats 4000000
namespace Go.Proofs.YtigpfopobpoamaaGreat.X
open Go Go.RowKit
section
variable (x:Sch) (J K:Nat)
end
theorem RowD.pre {lo kb:Nat} {H H':AH} {fu:Bool} {rows:List (List Int)} {B:Nat→Nat} {cs:List Value} (r:RowD lo H kb fu rows B cs) (p:H<+:H'):RowD lo H' kb fu rows B cs:=
 ⟨pre_get p r.get,r.len,r.low,fun i hi=>by
  obtain⟨h1,h2,⟨f,h3⟩,h4⟩:=r.row i hi
  exact⟨h1,h2,⟨f,pre_get p h3⟩,h4⟩,r.inc⟩
end Go.Proofs.YtigpfopobpoamaaGreat.X

set_option linter.unusedVariables false
set_option linter.unusedSimpArgs false
set_option maxRecDepth 20000
set_option maxHeartbeats 4000000
namespace Go.Proofs.YtigpfopobpoamaaGreat.X
open Go Go.RowKit
open Nat (reduceEqDiff reduceAdd reduceSub reduceLeDiff)
theorem rowd_appB {lo kb b:Nat} {H:AH} {fu f ro fz:Bool} {e':TypeId} {rows:List (List Int)} {l:List Int} {B:Nat→Nat} {cs:List Value} (r:RowD lo H kb fu rows B cs) (hl:rows.length≤100000) (hb:lo≤b) (hkb:b≠kb)
  (hB:∀ i,i<rows.length→B i<b) (hx:Lst H b l f) {Q:Value→AH→Prop}
  (hQ:∀ H':AH,H'.length=H.length+2→Kp kb H H'→RowD lo H' (H.length+1) false (rows++[l]) (fun i=>if i<rows.length then B i else b) (cs++[sl b l.length])→Q (sl (H.length+1) (rows++[l]).length) H') :
  OQ (appV 56 1 24 (sl kb rows.length) (.slice (some ⟨H.length,0,none⟩) 1 1) (H.new ⟨[sl b l.length],e',ro,fz⟩)) Q:=by
 have hn:(H.new ⟨[sl b l.length],e',ro,fz⟩).rdn H.length 0 1=some [sl b l.length]:=by rw[rdn_new_same];rfl
 have hk:(H.new ⟨[sl b l.length],e',ro,fz⟩).get kb=some ⟨cs,56,false,fu⟩:=get_new_any r.get
 have hkl:=get_lt r.get
 have hbl:=get_lt hx
 unfold sl
 unfold sl at hn hk
 rw[app_ownW (n:=rows.length) hk (by rw[r.len,Nat.mul_one]) hn (by omega),OQ_some,len_new]
 have kk:Kp kb H (((H.new ⟨[sl b l.length],e',ro,fz⟩).kill kb).new ⟨cs++[sl b l.length],56,false,false⟩):=⟨by rw[len_new,len_kill,len_new];omega,fun j hj hne=>by
   rw[show (((H.new ⟨[sl b l.length],e',ro,fz⟩).kill kb).new ⟨cs++[sl b l.length],56,false,false⟩).get j=((H.new ⟨[sl b l.length],e',ro,fz⟩).kill kb).get j from prefix_get (pre_new (List.prefix_refl _)) (by rw[len_kill,len_new];omega),get_kill_ne (Ne.symm hne)]
   exact prefix_get (pre_new (List.prefix_refl _)) hj⟩
 have:=hQ _ (by rw[len_new,len_kill,len_new]) kk ⟨get_new_eq (by rw[len_kill,len_new]),by simp[r.len],by have:=r.low;omega,fun i hi=>?_,fun i j hij hj=>?_⟩
 ·unfold sl at this
  rw[List.length_append,List.length_singleton] at this
  exact this
 ·by_cases h:i<rows.length
  ·obtain⟨h1,h2,⟨g,h3⟩,h4⟩:=r.row i h
   have lb:=get_lt h3
   simp only[if_pos h]
   refine⟨h1,?_,⟨g,?_⟩,by omega⟩
   ·rw[getD_snocD,if_pos (by rw[r.len];exact h),h2,getD_snocD,if_pos h]
   ·rw[getD_snocD,if_pos h]
    exact kk.get h4 h3
  ·have e:i=rows.length:=by simp at hi;omega
   subst e
   simp only[if_neg h]
   refine⟨hb,?_,⟨f,?_⟩,by omega⟩
   ·rw[getD_snocD,if_neg (by rw[r.len];omega),if_pos r.len.symm,getD_snocD,if_neg (by omega),if_pos rfl]
   ·rw[getD_snocD,if_neg (by omega),if_pos rfl]
    exact kk.get hkb hx
 ·simp only[List.length_append,List.length_singleton] at hj
  by_cases h:j<rows.length
  ·simp only[if_pos h,if_pos (show i<rows.length by omega)]
   exact r.inc i j hij h
  ·simp only[if_neg h,if_pos (show i<rows.length by omega)]
   exact hB i (by omega)
theorem flF_len {L:List (List Int)} {i k:Nat}:∀ {r:Nat},(flF L i k r).length≤r
 | 0=>Nat.le_refl _
 | r+1=>by
  have:=flF_len (L:=L) (i:=i) (k:=k) (r:=r)
  unfold flF
  rw[List.length_append]
  split<;>simp<;>omega
theorem flK_len {L:List (List Int)} {i:Nat}:∀ {k:Nat},(flK L i k).length≤3*k
 | 0=>Nat.le_refl _
 | k+1=>by
  have:=flK_len (L:=L) (i:=i) (k:=k)
  have h3:=flF_len (L:=L) (i:=i) (k:=k) (r:=3)
  unfold flK
  rw[List.length_append]
  split
  ·simp;omega
  ·omega
theorem flI_len {L:List (List Int)}:∀ {i:Nat},(flI L i).length≤3*L.length*i
 | 0=>Nat.le_refl _
 | i+1=>by
  have:=flI_len (L:=L) (i:=i)
  have h3:=flK_len (L:=L) (i:=i) (k:=L.length)
  unfold flI
  rw[List.length_append,Nat.mul_succ]
  omega
theorem s_l03Flips {x:Sch} {v:Value} {h:AH} {Q:Value→AH→Prop} (hv:Prods h v x.ps) (hl:x.ps.length≤30)
  (hQ:∀ kb fu B cs h',h<+:h'→RowD (h.length+1) h' kb fu (flI x.ps x.ps.length) B cs→Q (sl kb (flI x.ps x.ps.length).length) h'):WF S 84 [schV x v] h Q:=by
 refine WF_fn (fn:=c84) rfl rfl ?_
 dsimp only[c84,oO,oM,oS,oG,oK,oE,oL,oF,oX,oN]
 have o1:=hv.one
 have vl:=hv.1.len
 ((try simp (maxSteps:=3000000) (dsimp:=false) (disch:=first|omega|simp only[lnx];omega) only[↓ypre,ypost,↓reduceIte,reduceEqDiff,reduceAdd,reduceSub,reduceLeDiff,zz0,ynew,schV,o1,fillL,zrep]);try simp only[yback])
 generalize hH1:AH.new h _=H1
 obtain⟨hb1,p1,n1⟩:=new_facts hH1
 generalize hH2:AH.new H1 _=H2
 obtain⟨hb2,p2,n2⟩:=new_facts hH2
 have hb1:=pre_get p2 hb1
 have r0:RowD (h.length+1) H2 H1.length true [] (fun _=>0) []:=⟨hb2,rfl,by omega,fun i hi=>by simp at hi,fun i j _ hj=>by simp at hj⟩
 refine WC_loop_inv (fun m f K1=>∃ (i:Nat) (kb:Nat) (fu:Bool) (B:(Nat→Nat)) (cs:List Value),m=x.ps.length-i∧i≤x.ps.length∧f 1=.pointer (some ⟨h.length,0,none⟩)∧f 3=sl kb (flI x.ps i).length∧f 4=I64 i∧(h<+:K1)∧(OwnB K1 h.length [I64 x.p,I64 x.n,I64 x.m,I64 x.k,v] true)∧(RowD (h.length+1) K1 kb fu (flI x.ps i) B cs)∧(∀ j,j<(flI x.ps i).length→B j<K1.length)) ?_ (x.ps.length-0) _ _ ⟨0,H1.length,true,(fun _=>0),[],rfl,by omega,(by first|rfl|simp[upd_apply]),(by first|rfl|simp[upd_apply]),(by first|rfl|simp[upd_apply]),p1.trans p2,⟨_,hb1⟩,r0,(fun j hj=>by simp[flI] at hj)⟩
 rintro m f K1 ⟨i,kb,fu,B,cs,rfl,hi,f1,f3,f4,pp,g1,r,hB⟩
 obtain⟨e1,g1⟩:=g1
 by_cases hi:(i:Int)<x.ps.length
 ·((try simp (maxSteps:=3000000) (dsimp:=false) (disch:=first|omega|simp only[lnx];omega) only[↓ypre,ypost,↓reduceIte,reduceEqDiff,reduceAdd,reduceSub,reduceLeDiff,zz0,ynew,f1,f3,f4,rd1_of g1,vl,decide_eq_true hi]);try simp only[yback])
  have z0:flI x.ps i++flK x.ps i 0=flI x.ps i:=by rw[show flK x.ps i 0=[] from rfl,List.append_nil]
  have f3:f 3=sl kb (flI x.ps i++flK x.ps i 0).length:=by rw[z0];exact f3
  refine WC_loop_inv (fun m f K2=>∃ (k:Nat) (kb:Nat) (fu:Bool) (B:(Nat→Nat)) (cs:List Value),m=x.ps.length-k∧k≤x.ps.length∧f 1=.pointer (some ⟨h.length,0,none⟩)∧f 3=sl kb (flI x.ps i++flK x.ps i k).length∧f 4=I64 i∧f 5=I64 k∧(h<+:K2)∧(OwnB K2 h.length [I64 x.p,I64 x.n,I64 x.m,I64 x.k,v] true)∧(RowD (h.length+1) K2 kb fu (flI x.ps i++flK x.ps i k) B cs)∧(∀ j,j<(flI x.ps i++flK x.ps i k).length→B j<K2.length)) ?_ (x.ps.length-0) _ _ ⟨0,kb,fu,B,cs,rfl,by omega,(by first|rfl|exact f1|(simp[upd_apply];done)),(by first|rfl|exact f3|(simp[upd_apply];done)),(by first|rfl|exact f4|(simp[upd_apply];done)),(by first|rfl|simp[upd_apply]),pp,⟨_,g1⟩,(by rw[show flK x.ps i 0=[] from rfl,List.append_nil];exact r),(by rw[show flK x.ps i 0=[] from rfl,List.append_nil];exact hB)⟩
  rintro m f K2 ⟨k,kb,fu,B,cs,rfl,hk,f1,f3,f4,f5,pp,g1,r,hB⟩
  obtain⟨e1',g1⟩:=g1
  by_cases hk:(k:Int)<x.ps.length
  ·((try simp (maxSteps:=3000000) (dsimp:=false) (disch:=first|omega|simp only[lnx];omega) only[↓ypre,ypost,↓reduceIte,reduceEqDiff,reduceAdd,reduceSub,reduceLeDiff,zz0,ynew,f1,f3,f4,f5,rd1_of g1,vl,decide_eq_true hk]);try simp only[yback])
   have z1:flI x.ps i++flK x.ps i k++(if i=k then [] else flF x.ps i k 0)=flI x.ps i++flK x.ps i k:=by rw[show (if i=k then [] else flF x.ps i k 0)=[] from by split<;>rfl,List.append_nil]
   have f3:f 3=sl kb (flI x.ps i++flK x.ps i k++(if i=k then [] else flF x.ps i k 0)).length:=by rw[z1];exact f3
   refine WC_loop_inv (fun m f K3=>∃ (u:Nat) (kb:Nat) (fu:Bool) (B:(Nat→Nat)) (cs:List Value),m=3-u∧u≤3∧f 1=.pointer (some ⟨h.length,0,none⟩)∧f 3=sl kb (flI x.ps i++flK x.ps i k++(if i=k then [] else flF x.ps i k u)).length∧f 4=I64 i∧f 5=I64 k∧f 6=I64 u∧(h<+:K3)∧(OwnB K3 h.length [I64 x.p,I64 x.n,I64 x.m,I64 x.k,v] true)∧(RowD (h.length+1) K3 kb fu (flI x.ps i++flK x.ps i k++(if i=k then [] else flF x.ps i k u)) B cs)∧(∀ j,j<(flI x.ps i++flK x.ps i k++(if i=k then [] else flF x.ps i k u)).length→B j<K3.length)) ?_ (3-0) _ _ ⟨0,kb,fu,B,cs,rfl,by omega,(by first|rfl|exact f1|(simp[upd_apply];done)),(by first|rfl|exact f3|(simp[upd_apply];done)),(by first|rfl|exact f4|(simp[upd_apply];done)),(by first|rfl|exact f5|(simp[upd_apply];done)),(by first|rfl|simp[upd_apply]),pp,⟨_,g1⟩,(by rw[show (if i=k then [] else flF x.ps i k 0)=[] from by split<;>rfl,List.append_nil];exact r),(by rw[show (if i=k then [] else flF x.ps i k 0)=[] from by split<;>rfl,List.append_nil];exact hB)⟩
   rintro m f K3 ⟨u,kb,fu,B,cs,rfl,hu,f1,f3,f4,f5,f6,pp,g1,r,hB⟩
   obtain⟨e1'',g1⟩:=g1
   by_cases hu:(u:Int)<3
   ·by_cases hik:i=k
    ·have en:flK x.ps i (k+1)=flK x.ps i k:=by rw[show flK x.ps i (k+1)=flK x.ps i k++(if i=k then [] else flF x.ps i k 3) from rfl,if_pos hik,List.append_nil]
     rw[if_pos hik,List.append_nil] at r hB f3
     ((try simp (maxSteps:=3000000) (dsimp:=false) (disch:=first|omega|simp only[lnx];omega) only[↓ypre,ypost,↓reduceIte,reduceEqDiff,reduceAdd,reduceSub,reduceLeDiff,zz0,ynew,f1,f3,f4,f5,f6,decide_eq_true hu,decide_eq_false (show ¬ (i:Int)≠k by omega),wrap64_in]);try simp only[yback])
     refine InvQ_go (x.ps.length-(k+1)) (by omega) ⟨(k+1),kb,fu,B,cs,rfl,by omega,(by first|rfl|exact f1|(simp only[upd_apply];rfl)|(show I64 _=_;congr 1;omega)),(by rw[en];exact f3),(by first|rfl|exact f4|(simp only[upd_apply];rfl)|(show I64 _=_;congr 1;omega)),(by first|rfl|exact f5|(simp only[upd_apply];rfl)|(show I64 _=_;congr 1;omega)),pp,⟨_,g1⟩,(by rw[en];exact r),(by rw[en];exact hB)⟩
    ·rw[if_neg hik] at r hB f3
     have hi':i<x.ps.length:=by omega
     have hk':k<x.ps.length:=by omega
     obtain⟨ni,oi,ixi,rdi⟩:=((hv.pre pp).1).at hi'
     have byi:By 27 (x.ps.getD i []):=⟨hv.1.wid hi',fun j hj=>hv.2 i hi' j hj⟩
     have byk:By 27 (x.ps.getD k []):=⟨hv.1.wid hk',fun j hj=>hv.2 k hk' j hj⟩
     have nx:flF x.ps i k (u+1)=flF x.ps i k u++(if seg (x.ps.getD i []) u=seg (x.ps.getD k []) u then [[(i:Int),k,u]] else []):=rfl
     have len1:=flI_len (L:=x.ps) (i:=i)
     have len2:=flK_len (L:=x.ps) (i:=i) (k:=k)
     have len3:=flF_len (L:=x.ps) (i:=i) (k:=k) (r:=u)
     have len4:3*x.ps.length*i≤3*30*30:=Nat.mul_le_mul (Nat.mul_le_mul (Nat.le_refl 3) hl) (by omega)
     generalize x.ps.getD i []=a at rdi byi nx
     have a27:=byi.1
     have ri:K3.rdn ni oi 27=some (cel .u8 a):=by
      have:=rdi.1 0 27 (by omega)
      rwa [Nat.add_zero,List.drop_zero,List.take_of_length_le (by omega)] at this
     ((try simp (maxSteps:=3000000) (dsimp:=false) (disch:=first|omega|simp only[lnx];omega) only[↓ypre,ypost,↓reduceIte,reduceEqDiff,reduceAdd,reduceSub,reduceLeDiff,zz0,ynew,f1,f3,f4,f5,f6,decide_eq_true hu,decide_eq_true (show (i:Int)≠k by omega),rd1_of g1,ixi,ri]);try simp only[yback])
     refine s_l03Factor (q:=a) byi (by omega) fun K4 p4=>⟨p4,?_⟩
     have g1:=pre_get p4 g1
     have r:=r.pre p4
     have l4:=pre_len p4
     obtain⟨nk,ok,ixk,rdk⟩:=((hv.pre (pp.trans p4)).1).at hk'
     generalize x.ps.getD k []=b at rdk byk nx
     have b27:=byk.1
     have rk:AH.rdn K4 nk ok 27=some (cel .u8 b):=by
      have:=rdk.1 0 27 (by omega)
      rwa [Nat.add_zero,List.drop_zero,List.take_of_length_le (by omega)] at this
     ((try simp (maxSteps:=3000000) (dsimp:=false) (disch:=first|omega|simp only[lnx];omega) only[↓ypre,ypost,↓reduceIte,reduceEqDiff,reduceAdd,reduceSub,reduceLeDiff,zz0,ynew,f1,f3,f4,f5,f6,rd1_of g1,ixk,rk]);try simp only[yback])
     refine s_l03Factor (q:=b) byk (by omega) fun K5 p5=>?_
     have g1:=pre_get p5 g1
     have r:=r.pre p5
     have l5:=pre_len p5
     have ea:=eqaV_cel (k:=.u8) (seg_n9 a27 (show u<3 by omega)) (seg_n9 b27 (show u<3 by omega)) (by omega)
     have p45:=p4.trans p5
     by_cases hs:seg a u=seg b u
     ·have hb:(seg a u==seg b u)=true:=by rw[hs];simp
      rw[if_pos hs] at nx
      ((try simp (maxSteps:=3000000) (dsimp:=false) (disch:=first|omega|simp only[lnx];omega) only[↓ypre,ypost,↓reduceIte,reduceEqDiff,reduceAdd,reduceSub,reduceLeDiff,zz0,ynew,f1,f3,f4,f5,f6,aggV,ea,hb,fillL,zrep]);try simp only[yback])
      generalize hH7:AH.new K5 _=H7
      obtain⟨g7,p7,n7⟩:=new_facts hH7
      have rk':=get_lt r.get
      have rlow:=r.low
      have q7:Lst H7 K5.length [(i:Int),k,u] true:=g7
      refine rowd_appB (r.pre p7) (by rw[List.length_append,List.length_append];omega) (by have:=pp.length_le;have:=pre_len p45;omega) (by omega) (fun j hj=>by have:=hB j hj;have:=pre_len p45;omega) q7 fun HZ lZ kZ rZ=>?_
      have g1Z:=kZ.get (by omega) (pre_get p7 g1)
      have nxx:flI x.ps i++flK x.ps i k++flF x.ps i k (u+1)=flI x.ps i++flK x.ps i k++flF x.ps i k u++[[(i:Int),k,u]]:=by rw[nx];simp only[List.append_assoc]
      have hB2:∀ j,j<(flI x.ps i++flK x.ps i k++flF x.ps i k u++[[(i:Int),k,u]]).length→(if j<(flI x.ps i++flK x.ps i k++flF x.ps i k u).length then B j else K5.length)<HZ.length:=fun j hj=>by
       split
       ·rename_i hjr
        have:=hB j hjr
        have:=pre_len p45
        omega
       ·omega
      ((try simp (maxSteps:=3000000) (dsimp:=false) (disch:=first|omega|simp only[lnx];omega) only[↓ypre,ypost,↓reduceIte,reduceEqDiff,reduceAdd,reduceSub,reduceLeDiff,zz0,ynew,f1,f3,f4,f5,f6,wrap64_in]);try simp only[yback])
      refine InvQ_go (3-(u+1)) (by omega) ⟨(u+1),(H7.length+1),false,_,_,rfl,by omega,(by first|rfl|exact f1|(simp only[upd_apply];rfl)|(show I64 _=_;congr 1;omega)),(by rw[if_neg hik,nxx];rfl),(by first|rfl|exact f4|(simp only[upd_apply];rfl)|(show I64 _=_;congr 1;omega)),(by first|rfl|exact f5|(simp only[upd_apply];rfl)|(show I64 _=_;congr 1;omega)),(by first|rfl|exact f6|(simp only[upd_apply];rfl)|(show I64 _=_;congr 1;omega)),(kZ.pre (pp.trans (p45.trans p7)) (by omega)),⟨_,g1Z⟩,(by rw[if_neg hik,nxx];exact rZ),(by rw[if_neg hik,nxx];exact hB2)⟩
     ·have hb:(seg a u==seg b u)=false:=by simpa using hs
      rw[if_neg hs,List.append_nil] at nx
      ((try simp (maxSteps:=3000000) (dsimp:=false) (disch:=first|omega|simp only[lnx];omega) only[↓ypre,ypost,↓reduceIte,reduceEqDiff,reduceAdd,reduceSub,reduceLeDiff,zz0,ynew,f1,f3,f4,f5,f6,aggV,ea,hb,wrap64_in]);try simp only[yback])
      refine InvQ_go (3-(u+1)) (by omega) ⟨(u+1),kb,fu,B,cs,rfl,by omega,(by first|rfl|exact f1|(simp only[upd_apply];rfl)|(show I64 _=_;congr 1;omega)),(by rw[if_neg hik,nx];exact f3),(by first|rfl|exact f4|(simp only[upd_apply];rfl)|(show I64 _=_;congr 1;omega)),(by first|rfl|exact f5|(simp only[upd_apply];rfl)|(show I64 _=_;congr 1;omega)),(by first|rfl|exact f6|(simp only[upd_apply];rfl)|(show I64 _=_;congr 1;omega)),(pp.trans p45),⟨_,g1⟩,(by rw[if_neg hik,nx];exact r),(by rw[if_neg hik,nx];exact fun j hj=>Nat.lt_of_lt_of_le (hB j hj) (Nat.le_trans l4 l5))⟩
   ·have eu:u=3:=by omega
    subst eu
    have en:flI x.ps i++flK x.ps i (k+1)=flI x.ps i++flK x.ps i k++(if i=k then [] else flF x.ps i k 3):=by rw[List.append_assoc];rfl
    ((try simp (maxSteps:=3000000) (dsimp:=false) (disch:=first|omega|simp only[lnx];omega) only[↓ypre,ypost,↓reduceIte,reduceEqDiff,reduceAdd,reduceSub,reduceLeDiff,zz0,ynew,f1,f3,f4,f5,f6,decide_eq_false hu,wrap64_in]);try simp only[yback])
    refine InvQ_go (x.ps.length-(k+1)) (by omega) ⟨(k+1),kb,fu,B,cs,rfl,by omega,(by first|rfl|exact f1|(simp only[upd_apply];rfl)|(show I64 _=_;congr 1;omega)),(by rw[en];exact f3),(by first|rfl|exact f4|(simp only[upd_apply];rfl)|(show I64 _=_;congr 1;omega)),(by first|rfl|exact f5|(simp only[upd_apply];rfl)|(show I64 _=_;congr 1;omega)),pp,⟨_,g1⟩,(by rw[en];exact r),(by rw[en];exact hB)⟩
  ·have _t:=hk
   ((try simp (maxSteps:=3000000) (dsimp:=false) (disch:=first|omega|simp only[lnx];omega) only[↓ypre,ypost,↓reduceIte,reduceEqDiff,reduceAdd,reduceSub,reduceLeDiff,zz0,ynew,f1,f3,f4,f5,rd1_of g1,vl,decide_eq_false hk,wrap64_in]);try simp only[yback])
   have ek:k=x.ps.length:=by omega
   subst ek
   refine InvQ_go (x.ps.length-(i+1)) (by omega) ⟨(i+1),kb,fu,B,cs,rfl,by omega,(by first|rfl|exact f1|(simp only[upd_apply];rfl)|(show I64 _=_;congr 1;omega)),(by first|rfl|exact f3|(simp only[upd_apply];rfl)|(show I64 _=_;congr 1;omega)),(by first|rfl|exact f4|(simp only[upd_apply];rfl)|(show I64 _=_;congr 1;omega)),pp,⟨_,g1⟩,r,hB⟩
 ·have ei:i=x.ps.length:=by omega
  subst ei
  ((try simp (maxSteps:=3000000) (dsimp:=false) (disch:=first|omega|simp only[lnx];omega) only[↓ypre,ypost,↓reduceIte,reduceEqDiff,reduceAdd,reduceSub,reduceLeDiff,zz0,ynew,f1,f3,f4,rd1_of g1,vl,decide_eq_false hi]);try simp only[yback])
  exact hQ kb fu B cs _ pp r
end Go.Proofs.YtigpfopobpoamaaGreat.X

set_option linter.unusedVariables false
set_option linter.unusedSimpArgs false
set_option maxRecDepth 20000
set_option maxHeartbeats 4000000
namespace Go.Proofs.YtigpfopobpoamaaGreat.X
open Go Go.RowKit
def Twgs (h:AH) (v:Value) (L:List (List Int)):Prop:=Els .u8 108 h v L∧Byt 108 L
def InB (a b:Nat) (h:AH) (v:Value) (L:List (List Int)):Prop:=InE .u8 108 a b h v L∧Byt 108 L
section
variable {a b c d:Nat} {h h':AH} {v:Value} {L:List (List Int)}
theorem Twgs.pre (o:Twgs h v L) (p:h<+:h'):Twgs h' v L:=⟨o.1.pre p,o.2⟩
theorem Twgs.one (o:Twgs h v L):isOne v=true:=o.1.one
theorem InB.rd (o:InB a b h v L):Twgs h v L:=⟨o.1.rd,o.2⟩
theorem InB.pre (o:InB a b h v L) (p:h<+:h'):InB a b h' v L:=⟨o.1.pre p,o.2⟩
end
def zeroS:Sch:=⟨0,0,0,0,[]⟩
theorem zeroS_kn {lo:Nat} {h:AH}:KN lo h fun h2=>Prods h2 (.slice none 0 0) zeroS.ps:=fun h2 _ _=>⟨.inl ⟨rfl,0,by omega,rfl⟩,fun _ h=>by simp[zeroS] at h⟩
end Go.Proofs.YtigpfopobpoamaaGreat.X

set_option linter.unusedVariables false
set_option linter.unusedSimpArgs false
set_option maxRecDepth 20000
set_option maxHeartbeats 4000000
namespace Go.Proofs.YtigpfopobpoamaaGreat.X
open Go Go.RowKit
open Nat (reduceEqDiff reduceAdd reduceSub reduceLeDiff)
def like (x y:Sch):Prop:=x.p=y.p∧x.n=y.n∧x.m=y.m∧x.k=y.k
instance {x y:Sch}:Decidable (like x y):=by unfold like;infer_instance
def likeC (x y:Sch):Int:=if isX x=true∧isX y=true then (if like x y then 0 else 2) else 1
def heR (x y:Sch):Bool×Int:=if likeC x y=0 then (decide ((tofX x).ns=(tofX y).ns),0) else (false,likeC x y)
theorem likeC_0 {x y:Sch} (h:likeC x y=0):(isX x=true∧isX y=true)∧like x y:=by
 unfold likeC at h
 split at h
 ·rename_i h1
  split at h
  ·rename_i h2
   exact⟨h1,h2⟩
  ·cases h
 ·cases h
theorem s_l03Like {v w:Value} {x y:Sch} {h:AH} {Q:Value→AH→Prop} (hv:Prods h v x.ps) (hl:SmallX x.ps) (hw:Prods h w y.ps) (hl':SmallX y.ps)
  (hQ:∀ h',h<+:h'→Q (I64 (likeC x y)) h'):WF S 57 [schV x v,schV y w] h Q:=by
 refine WF_fn (fn:=c57) rfl rfl ?_
 dsimp only[c57,oO,oM,oS,oG,oK,oE,oL,oF,oX,oN]
 try simp (maxSteps:=3000000) (disch:=first|omega|simp only[lnx];omega) only[↓xpre,xpost,↓reduceIte,reduceEqDiff,reduceAdd,reduceSub,reduceLeDiff,zz0,schV,hv.one,hw.one]
 generalize hH1:AH.new h _=H1
 obtain⟨hb1,p1,n1⟩:=new_facts hH1
 generalize hH2:AH.new H1 _=H2
 obtain⟨hb2,p2,n2⟩:=new_facts hH2
 have hb1:=pre_get p2 hb1
 try simp (maxSteps:=3000000) (disch:=first|omega|simp only[lnx];omega) only[↓xpre,xpost,↓reduceIte,reduceEqDiff,reduceAdd,reduceSub,reduceLeDiff,zz0,rdn_of hb1]
 refine s_l01Is (hv.pre (p1.trans p2)) hl fun H3 p3=>?_
 have hb1:=pre_get p3 hb1
 have hb2:=pre_get p3 hb2
 unfold likeC at hQ
 cases c0:isX x with
 | false=>
  have hQ2:=hQ _ ((p1.trans p2).trans p3)
  rw[if_neg (fun e=>by rw[c0] at e;cases e.1)] at hQ2
  try simp (maxSteps:=3000000) (disch:=first|omega|simp only[lnx];omega) only[↓xpre,xpost,↓reduceIte,reduceEqDiff,reduceAdd,reduceSub,reduceLeDiff,zz0,WG_un]
  exact hQ2
 | true=>
  try simp (maxSteps:=3000000) (disch:=first|omega|simp only[lnx];omega) only[↓xpre,xpost,↓reduceIte,reduceEqDiff,reduceAdd,reduceSub,reduceLeDiff,zz0,rdn_of hb2]
  refine s_l01Is (hw.pre ((p1.trans p2).trans p3)) hl' fun H4 p4=>?_
  have hb1:=pre_get p4 hb1
  have hb2:=pre_get p4 hb2
  have hQ2:=hQ _ (((p1.trans p2).trans p3).trans p4)
  cases c1:isX y with
  | false=>
   rw[if_neg (fun e=>by rw[c1] at e;cases e.2)] at hQ2
   try simp (maxSteps:=3000000) (disch:=first|omega|simp only[lnx];omega) only[↓xpre,xpost,↓reduceIte,reduceEqDiff,reduceAdd,reduceSub,reduceLeDiff,zz0]
   exact hQ2
  | true=>
   rw[if_pos ⟨c0,c1⟩] at hQ2
   by_cases k1:x.p=y.p
   case neg=>
    try simp (maxSteps:=3000000) (disch:=first|omega|simp only[lnx];omega) only[↓xpre,xpost,↓reduceIte,reduceEqDiff,reduceAdd,reduceSub,reduceLeDiff,zz0,rd1_of hb1,rd1_of hb2,decide_eq_true (show x.p≠y.p from k1),WG_un]
    rw[if_neg (fun e=>k1 e.1)] at hQ2
    exact hQ2
   have d1:=decide_eq_false (show ¬ (x.p≠y.p) from fun e=>e k1)
   by_cases k2:x.n=y.n
   case neg=>
    try simp (maxSteps:=3000000) (disch:=first|omega|simp only[lnx];omega) only[↓xpre,xpost,↓reduceIte,reduceEqDiff,reduceAdd,reduceSub,reduceLeDiff,zz0,rd1_of hb1,rd1_of hb2,d1,decide_eq_true (show x.n≠y.n from k2),WG_un]
    rw[if_neg (fun e=>k2 e.2.1)] at hQ2
    exact hQ2
   have d2:=decide_eq_false (show ¬ (x.n≠y.n) from fun e=>e k2)
   by_cases k3:x.m=y.m
   case neg=>
    try simp (maxSteps:=3000000) (disch:=first|omega|simp only[lnx];omega) only[↓xpre,xpost,↓reduceIte,reduceEqDiff,reduceAdd,reduceSub,reduceLeDiff,zz0,rd1_of hb1,rd1_of hb2,d1,d2,decide_eq_true (show x.m≠y.m from k3),WG_un]
    rw[if_neg (fun e=>k3 e.2.2.1)] at hQ2
    exact hQ2
   have d3:=decide_eq_false (show ¬ (x.m≠y.m) from fun e=>e k3)
   by_cases k4:x.k=y.k
   ·try simp (maxSteps:=3000000) (disch:=first|omega|simp only[lnx];omega) only[↓xpre,xpost,↓reduceIte,reduceEqDiff,reduceAdd,reduceSub,reduceLeDiff,zz0,rd1_of hb1,rd1_of hb2,d1,d2,d3,decide_eq_false (show ¬ (x.k≠y.k) from fun e=>e k4)]
    rw[if_pos ⟨k1,k2,k3,k4⟩] at hQ2
    exact hQ2
   ·try simp (maxSteps:=3000000) (disch:=first|omega|simp only[lnx];omega) only[↓xpre,xpost,↓reduceIte,reduceEqDiff,reduceAdd,reduceSub,reduceLeDiff,zz0,rd1_of hb1,rd1_of hb2,d1,d2,d3,decide_eq_true (show x.k≠y.k from k4)]
    rw[if_neg (fun e=>k4 e.2.2.2)] at hQ2
    exact hQ2
theorem i_pairCode {v w:Value} {x y:Sch} {h:AH} {Q:Value→AH→Prop} (hv:Prods h v x.ps) (hl:SmallX x.ps) (hw:Prods h w y.ps) (hl':SmallX y.ps)
  (hQ:∀ h',h<+:h'→Q (I64 (likeC x y)) h'):WF S 32 [schV x v,schV y w] h Q:=by
 refine WF_fn (fn:=c32) rfl rfl ?_
 dsimp only[c32,oO,oM,oS,oG,oK,oE,oL,oF,oX,oN]
 try simp (maxSteps:=3000000) (disch:=first|omega|simp only[lnx];omega) only[↓xpre,xpost,↓reduceIte,reduceEqDiff,reduceAdd,reduceSub,reduceLeDiff,zz0,schV,hv.one,hw.one]
 generalize hH1:AH.new h _=H1
 obtain⟨hb1,p1,n1⟩:=new_facts hH1
 generalize hH2:AH.new H1 _=H2
 obtain⟨hb2,p2,n2⟩:=new_facts hH2
 have hb1:=pre_get p2 hb1
 try simp (maxSteps:=3000000) (disch:=first|omega|simp only[lnx];omega) only[↓xpre,xpost,↓reduceIte,reduceEqDiff,reduceAdd,reduceSub,reduceLeDiff,zz0,rdn_of hb1,rdn_of hb2,fillL,zrep,hv.one,hw.one]
 generalize hH3:AH.new H2 _=H3
 obtain⟨hb3,p3,n3⟩:=new_facts hH3
 have ph:=(p1.trans p2).trans p3
 refine i_areSchemes (hv.pre ph) (hw.pre ph) hl hl' hb3 fun H4 p4=>?_
 have hb1:=pre_get (p3.trans p4) hb1
 have hb2:=pre_get (p3.trans p4) hb2
 unfold likeC at hQ
 have hQ2:=hQ _ (ph.trans p4)
 cases c0:(isX x&&isX y) with
 | false=>
  rw[if_neg (fun e=>by rw[e.1,e.2] at c0;cases c0)] at hQ2
  try simp (maxSteps:=3000000) (disch:=first|omega|simp only[lnx];omega) only[↓xpre,xpost,↓reduceIte,reduceEqDiff,reduceAdd,reduceSub,reduceLeDiff,zz0]
  exact hQ2
 | true=>
  simp only[Bool.and_eq_true] at c0
  rw[if_pos c0] at hQ2
  by_cases k1:x.p=y.p
  case neg=>
   try simp (maxSteps:=3000000) (disch:=first|omega|simp only[lnx];omega) only[↓xpre,xpost,↓reduceIte,reduceEqDiff,reduceAdd,reduceSub,reduceLeDiff,zz0,rd1_of hb1,rd1_of hb2,decide_eq_true (show x.p≠y.p from k1),WG_un]
   rw[if_neg (fun e=>k1 e.1)] at hQ2
   exact hQ2
  have d1:=decide_eq_false (show ¬ (x.p≠y.p) from fun e=>e k1)
  by_cases k2:x.n=y.n
  case neg=>
   try simp (maxSteps:=3000000) (disch:=first|omega|simp only[lnx];omega) only[↓xpre,xpost,↓reduceIte,reduceEqDiff,reduceAdd,reduceSub,reduceLeDiff,zz0,rd1_of hb1,rd1_of hb2,d1,decide_eq_true (show x.n≠y.n from k2),WG_un]
   rw[if_neg (fun e=>k2 e.2.1)] at hQ2
   exact hQ2
  have d2:=decide_eq_false (show ¬ (x.n≠y.n) from fun e=>e k2)
  by_cases k3:x.m=y.m
  case neg=>
   try simp (maxSteps:=3000000) (disch:=first|omega|simp only[lnx];omega) only[↓xpre,xpost,↓reduceIte,reduceEqDiff,reduceAdd,reduceSub,reduceLeDiff,zz0,rd1_of hb1,rd1_of hb2,d1,d2,decide_eq_true (show x.m≠y.m from k3),WG_un]
   rw[if_neg (fun e=>k3 e.2.2.1)] at hQ2
   exact hQ2
  have d3:=decide_eq_false (show ¬ (x.m≠y.m) from fun e=>e k3)
  by_cases k4:x.k=y.k
  ·try simp (maxSteps:=3000000) (disch:=first|omega|simp only[lnx];omega) only[↓xpre,xpost,↓reduceIte,reduceEqDiff,reduceAdd,reduceSub,reduceLeDiff,zz0,rd1_of hb1,rd1_of hb2,d1,d2,d3,decide_eq_false (show ¬ (x.k≠y.k) from fun e=>e k4)]
   rw[if_pos ⟨k1,k2,k3,k4⟩] at hQ2
   exact hQ2
  ·try simp (maxSteps:=3000000) (disch:=first|omega|simp only[lnx];omega) only[↓xpre,xpost,↓reduceIte,reduceEqDiff,reduceAdd,reduceSub,reduceLeDiff,zz0,rd1_of hb1,rd1_of hb2,d1,d2,d3,decide_eq_true (show x.k≠y.k from k4)]
   rw[if_neg (fun e=>k4 e.2.2.2)] at hQ2
   exact hQ2
theorem i_EqualInts {v v':Value} {ns ms:List Int} {h:AH} {Q:Value→AH→Prop} (hv:Ints h v ns) (hv':Ints h v' ms) (hl:SmallS ns) (hQ:Q (.bool (decide (ns=ms))) h) :
  WF S 33 [v,v'] h Q:=by
 refine WF_fn (fn:=c33) rfl rfl ?_
 dsimp only[c33,oO,oM,oS,oG,oK,oE,oL,oF,oX,oN]
 unfold SmallS at hl
 by_cases hne:(ns.length:Int)=ms.length
 case neg=>
  try simp (maxSteps:=3000000) (disch:=first|omega|simp only[lnx];omega) only[↓xpre,xpost,↓reduceIte,reduceEqDiff,reduceAdd,reduceSub,reduceLeDiff,zz0,hv.len,hv'.len,decide_eq_true (show (ns.length:Int)≠ms.length from hne)]
  have:ns≠ms:=fun e=>hne (by rw[e])
  simpa [this] using hQ
 try simp (maxSteps:=3000000) (disch:=first|omega|simp only[lnx];omega) only[↓xpre,xpost,↓reduceIte,reduceEqDiff,reduceAdd,reduceSub,reduceLeDiff,zz0,hv.len,hv'.len,decide_eq_false (show ¬ ((ns.length:Int)≠ms.length) from fun e=>e hne)]
 refine WC_loop_inv (fun m f K1=>∃ (i:Nat),m=ns.length-i∧i≤ns.length∧f 0=v∧f 1=v'∧f 12=I64 ns.length∧f 13=I64 i∧(K1=h)∧(∀ j,j<i→ns.getD j 0=ms.getD j 0)) ?_ (ns.length-0) _ _ ⟨0,rfl,by omega,(by first|rfl|simp[upd_apply]),(by first|rfl|simp[upd_apply]),(by first|rfl|simp[upd_apply]),(by first|rfl|simp[upd_apply]),rfl,(by omega)⟩
 rintro m f K1 ⟨i,rfl,hi,f0,f1,f12,f13,hK,hj⟩
 subst hK
 by_cases hlt:(i:Int)<ns.length
 ·have hix:=hv.ix (k:=.i64) (j:=i) (by omega) (by omega)
  have hrd:=hv.rd (j:=i) (by omega) (by omega)
  have hix':=hv'.ix (k:=.i64) (j:=i) (by omega) (by omega)
  have hrd':=hv'.rd (j:=i) (by omega) (by omega)
  simp only[nth,Int.toNat_natCast] at hrd hrd'
  by_cases he:ns.getD i 0=ms.getD i 0
  ·try simp (maxSteps:=3000000) (disch:=first|omega|simp only[lnx];omega) only[↓xpre,xpost,↓reduceIte,reduceEqDiff,reduceAdd,reduceSub,reduceLeDiff,zz0,f0,f1,f12,f13,decide_eq_true hlt,hix,hrd,hix',hrd',decide_eq_false (show ¬ (ns.getD i 0≠ms.getD i 0) from fun e=>e he),wrap64_in]
   refine InvQ_go (ns.length-(i+1)) (by omega) ⟨(i+1),rfl,by omega,(by first|rfl|exact f0|(simp only[upd_apply];rfl)|(show I64 _=_;congr 1;omega)),(by first|rfl|exact f1|(simp only[upd_apply];rfl)|(show I64 _=_;congr 1;omega)),(by first|rfl|exact f12|(simp only[upd_apply];rfl)|(show I64 _=_;congr 1;omega)),(by first|rfl|exact f13|(simp only[upd_apply];rfl)|(show I64 _=_;congr 1;omega)),rfl,(step_all hj he)⟩
  ·try simp (maxSteps:=3000000) (disch:=first|omega|simp only[lnx];omega) only[↓xpre,xpost,↓reduceIte,reduceEqDiff,reduceAdd,reduceSub,reduceLeDiff,zz0,f0,f1,f12,f13,decide_eq_true hlt,hix,hrd,hix',hrd',decide_eq_true (show ns.getD i 0≠ms.getD i 0 from he)]
   have:ns≠ms:=fun e=>he (by rw[e])
   simpa [this] using hQ
 ·have ei:i=ns.length:=by omega
  try simp (maxSteps:=3000000) (disch:=first|omega|simp only[lnx];omega) only[↓xpre,xpost,↓reduceIte,reduceEqDiff,reduceAdd,reduceSub,reduceLeDiff,zz0,f0,f1,f12,f13,decide_eq_false hlt]
  have:ns=ms:=by
   refine getD_ext' (d:=0) (by omega) fun j hj'=>hj j (by omega)
  simpa [this] using hQ
theorem i_HaveEqualSums {v w:Value} {x y:Sch} {h:AH} {Q:Value→AH→Prop} (hv:Prods h v x.ps) (hl:SmallX x.ps) (hw:Prods h w y.ps) (hl':SmallX y.ps)
  (hQ:∀ h',h<+:h'→Q (.tuple #[.bool (heR x y).1,I64 (heR x y).2]) h'):WF S 9 [schV x v,schV y w] h Q:=by
 refine WF_fn (fn:=c9) rfl rfl ?_
 dsimp only[c9,oO,oM,oS,oG,oK,oE,oL,oF,oX,oN]
 try simp (maxSteps:=3000000) (disch:=first|omega|simp only[lnx];omega) only[↓xpre,xpost,↓reduceIte,reduceEqDiff,reduceAdd,reduceSub,reduceLeDiff,zz0,schV,hv.one,hw.one]
 generalize hH1:AH.new h _=H1
 obtain⟨hb1,p1,n1⟩:=new_facts hH1
 generalize hH2:AH.new H1 _=H2
 obtain⟨hb2,p2,n2⟩:=new_facts hH2
 have hb1:=pre_get p2 hb1
 try simp (maxSteps:=3000000) (disch:=first|omega|simp only[lnx];omega) only[↓xpre,xpost,↓reduceIte,reduceEqDiff,reduceAdd,reduceSub,reduceLeDiff,zz0,rdn_of hb1,rdn_of hb2]
 refine i_pairCode (hv.pre (p1.trans p2)) hl (hw.pre (p1.trans p2)) hl' fun H3 p3=>?_
 have hb1:=pre_get p3 hb1
 have hb2:=pre_get p3 hb2
 have ph:=(p1.trans p2).trans p3
 unfold heR at hQ
 by_cases c0:likeC x y=0
 case neg=>
  have hQ2:=hQ _ ph
  rw[if_neg c0] at hQ2
  try simp (maxSteps:=3000000) (disch:=first|omega|simp only[lnx];omega) only[↓xpre,xpost,↓reduceIte,reduceEqDiff,reduceAdd,reduceSub,reduceLeDiff,zz0,decide_eq_true (show likeC x y≠0 from c0)]
  exact hQ2
 rw[if_pos c0] at hQ
 obtain⟨⟨x1,y1⟩,lk⟩:=likeC_0 c0
 try simp (maxSteps:=3000000) (disch:=first|omega|simp only[lnx];omega) only[↓xpre,xpost,↓reduceIte,reduceEqDiff,reduceAdd,reduceSub,reduceLeDiff,zz0,decide_eq_false (show ¬ (likeC x y≠0) from fun e=>e c0),rdn_of hb1]
 refine i_tensorOf (hv.pre ph) (isX_sz x1).1 (isX_sz x1).2 fun v4 H4 p4 o4=>?_
 have hb2:=pre_get p4 hb2
 try simp (maxSteps:=3000000) (disch:=first|omega|simp only[lnx];omega) only[↓xpre,xpost,↓reduceIte,reduceEqDiff,reduceAdd,reduceSub,reduceLeDiff,zz0,tenV,rdn_of hb2]
 refine⟨p4,?_⟩
 refine i_tensorOf (hw.pre (ph.trans p4)) (isX_sz y1).1 (isX_sz y1).2 fun v5 H5 p5 o5=>?_
 try simp (maxSteps:=3000000) (disch:=first|omega|simp only[lnx];omega) only[↓xpre,xpost,↓reduceIte,reduceEqDiff,reduceAdd,reduceSub,reduceLeDiff,zz0,tenV]
 refine i_EqualInts (o4.pre p5).ints o5.ints (tofX_small (isX_sz x1).1) ?_
 try simp (maxSteps:=3000000) (disch:=first|omega|simp only[lnx];omega) only[↓xpre,xpost,↓reduceIte,reduceEqDiff,reduceAdd,reduceSub,reduceLeDiff,zz0]
 exact hQ _ ((ph.trans p4).trans p5)
theorem s_HaveEqualSums {v w:Value} {x y:Sch} {h:AH} {Q:Value→AH→Prop} (hv:Prods h v x.ps) (hl:SmallX x.ps) (hw:Prods h w y.ps) (hl':SmallX y.ps)
  (hQ:∀ h',h<+:h'→Q (.tuple #[.bool (heR x y).1,I64 (heR x y).2]) h'):WF S 19 [schV x v,schV y w] h Q:=by
 refine WF_fn (fn:=c19) rfl rfl ?_
 dsimp only[c19,oO,oM,oS,oG,oK,oE,oL,oF,oX,oN]
 try simp (maxSteps:=3000000) (disch:=first|omega|simp only[lnx];omega) only[↓xpre,xpost,↓reduceIte,reduceEqDiff,reduceAdd,reduceSub,reduceLeDiff,zz0,schV,hv.one,hw.one]
 generalize hH1:AH.new h _=H1
 obtain⟨hb1,p1,n1⟩:=new_facts hH1
 generalize hH2:AH.new H1 _=H2
 obtain⟨hb2,p2,n2⟩:=new_facts hH2
 have hb1:=pre_get p2 hb1
 try simp (maxSteps:=3000000) (disch:=first|omega|simp only[lnx];omega) only[↓xpre,xpost,↓reduceIte,reduceEqDiff,reduceAdd,reduceSub,reduceLeDiff,zz0,rdn_of hb1,rdn_of hb2]
 refine s_l03Like (hv.pre (p1.trans p2)) hl (hw.pre (p1.trans p2)) hl' fun H3 p3=>?_
 have hb1:=pre_get p3 hb1
 have hb2:=pre_get p3 hb2
 have ph:=(p1.trans p2).trans p3
 unfold heR at hQ
 by_cases c0:likeC x y=0
 case neg=>
  have hQ2:=hQ _ ph
  rw[if_neg c0] at hQ2
  try simp (maxSteps:=3000000) (disch:=first|omega|simp only[lnx];omega) only[↓xpre,xpost,↓reduceIte,reduceEqDiff,reduceAdd,reduceSub,reduceLeDiff,zz0,decide_eq_true (show likeC x y≠0 from c0)]
  exact hQ2
 rw[if_pos c0] at hQ
 obtain⟨⟨x1,y1⟩,lk⟩:=likeC_0 c0
 have zx:=(isX_sz x1).1
 have zy:=(isX_sz y1).1
 have lx:=(isX_sz x1).2
 have ly:=(isX_sz y1).2
 try simp (maxSteps:=3000000) (disch:=first|omega|simp only[lnx];omega) only[↓xpre,xpost,↓reduceIte,reduceEqDiff,reduceAdd,reduceSub,reduceLeDiff,zz0,decide_eq_false (show ¬ (likeC x y≠0) from fun e=>e c0),rdn_of hb1]
 refine s_l01Lengths hv.one zx fun H4 p4=>?_
 have hb1:=pre_get p4 hb1
 have hb2:=pre_get p4 hb2
 have ph:=ph.trans p4
 obtain⟨lk1,lk2,lk3,lk4⟩:=lk
 have zi:=zx.nm
 have zj:=zx.mk2
 have zk:=zx.nk
 have G1:∀ a b c:Nat,a<9→b<9→c<9→(lsN x a b c).tmod x.p=lsX x a b c:=fun a b c ha hb hc=>lsN_in hv zx ha hb hc
 have G2:∀ a b c:Nat,a<9→b<9→c<9→(lsN y a b c).tmod y.p=lsX y a b c:=fun a b c ha hb hc=>lsN_in hw zy ha hb hc
 have ex:(tofX x).ns=gen (x.n*x.m*(x.m*x.k)*(x.n*x.k)).toNat (tenG x.p (x.m*x.k) (x.n*x.k) (lsN x)):=rfl
 have ey:(tofX y).ns=gen (x.n*x.m*(x.m*x.k)*(x.n*x.k)).toNat (tenG y.p (x.m*x.k) (x.n*x.k) (lsN y)):=by
  unfold tofX tenT
  rw[←lk2,←lk3,←lk4]
 rw[ex,ey] at hQ
 try simp (maxSteps:=3000000) (disch:=first|omega|simp only[lnx];omega) only[↓xpre,xpost,↓reduceIte,reduceEqDiff,reduceAdd,reduceSub,reduceLeDiff,zz0]
 generalize hI:x.n*x.m=i1 at *
 generalize hJ:x.m*x.k=j1 at *
 generalize hK:x.n*x.k=k1 at *
 obtain⟨I,rfl⟩:∃ I:Nat,i1=I:=⟨i1.toNat,by omega⟩
 obtain⟨J,rfl⟩:∃ J:Nat,j1=J:=⟨j1.toNat,by omega⟩
 obtain⟨K,rfl⟩:∃ K:Nat,k1=K:=⟨k1.toNat,by omega⟩
 have eN:((I:Int)*(J:Int)*(K:Int)).toNat=I*J*K:=by
  rw[show (I:Int)*(J:Int)*(K:Int)=((I*J*K:Nat):Int) by push_cast;rfl,Int.toNat_natCast]
 rw[eN] at hQ
 have ga:∀ a b c:Nat,a<9→b<J→c<K→tenG x.p J K (lsN x) ((a*J+b)*K+c)=lsX x a b c:=fun a b c ha hb hc=>by
  rw[tenG_at (I:=0) hb hc]
  exact G1 a b c ha (by omega) (by omega)
 have gb:∀ a b c:Nat,a<9→b<J→c<K→tenG y.p J K (lsN y) ((a*J+b)*K+c)=lsX y a b c:=fun a b c ha hb hc=>by
  rw[tenG_at (I:=0) hb hc]
  exact G2 a b c ha (by omega) (by omega)
 generalize tenG x.p J K (lsN x)=Gx at *
 generalize tenG y.p J K (lsN y)=Gy at *
 refine WC_loop_inv (fun m f K1=>∃ (a:Nat),m=I-a∧a≤I∧f 2=.pointer (some ⟨h.length,0,none⟩)∧f 3=.pointer (some ⟨H1.length,0,none⟩)∧f 7=I64 I∧f 8=I64 J∧f 9=I64 K∧f 10=I64 a∧(H4<+:K1)∧(∀ n,n<a*J*K→Gx n=Gy n)) ?_ (I-0) _ _ ⟨0,rfl,by omega,(by first|rfl|simp[upd_apply]),(by first|rfl|simp[upd_apply]),(by first|rfl|simp[upd_apply]),(by first|rfl|simp[upd_apply]),(by first|rfl|simp[upd_apply]),(by first|rfl|simp[upd_apply]),List.prefix_refl _,(by omega)⟩
 rintro m f K1 ⟨a,rfl,ha,f2,f3,f7,f8,f9,f10,pp,he⟩
 by_cases hla:(a:Int)<I
 ·try simp (maxSteps:=3000000) (disch:=first|omega|simp only[lnx];omega) only[↓xpre,xpost,↓reduceIte,reduceEqDiff,reduceAdd,reduceSub,reduceLeDiff,zz0,f2,f3,f7,f8,f9,f10,decide_eq_true hla]
  refine WC_loop_inv (fun m f K2=>∃ (b:Nat),m=J-b∧b≤J∧f 2=.pointer (some ⟨h.length,0,none⟩)∧f 3=.pointer (some ⟨H1.length,0,none⟩)∧f 7=I64 I∧f 8=I64 J∧f 9=I64 K∧f 10=I64 a∧f 11=I64 b∧(H4<+:K2)∧(∀ n,n<(a*J+b)*K→Gx n=Gy n)) ?_ (J-0) _ _ ⟨0,rfl,by omega,(by first|rfl|exact f2|(simp[upd_apply];done)),(by first|rfl|exact f3|(simp[upd_apply];done)),(by first|rfl|exact f7|(simp[upd_apply];done)),(by first|rfl|exact f8|(simp[upd_apply];done)),(by first|rfl|exact f9|(simp[upd_apply];done)),(by first|rfl|exact f10|(simp[upd_apply];done)),(by first|rfl|simp[upd_apply]),pp,(by rw[Nat.add_zero];exact he)⟩
  rintro m f K2 ⟨b,rfl,hb,f2,f3,f7,f8,f9,f10,f11,pp,he⟩
  by_cases hlb:(b:Int)<J
  ·try simp (maxSteps:=3000000) (disch:=first|omega|simp only[lnx];omega) only[↓xpre,xpost,↓reduceIte,reduceEqDiff,reduceAdd,reduceSub,reduceLeDiff,zz0,f2,f3,f7,f8,f9,f10,f11,decide_eq_true hlb]
   refine WC_loop_inv (fun m f K3=>∃ (c:Nat),m=K-c∧c≤K∧f 2=.pointer (some ⟨h.length,0,none⟩)∧f 3=.pointer (some ⟨H1.length,0,none⟩)∧f 7=I64 I∧f 8=I64 J∧f 9=I64 K∧f 10=I64 a∧f 11=I64 b∧f 12=I64 c∧(H4<+:K3)∧(∀ n,n<(a*J+b)*K+c→Gx n=Gy n)) ?_ (K-0) _ _ ⟨0,rfl,by omega,(by first|rfl|exact f2|(simp[upd_apply];done)),(by first|rfl|exact f3|(simp[upd_apply];done)),(by first|rfl|exact f7|(simp[upd_apply];done)),(by first|rfl|exact f8|(simp[upd_apply];done)),(by first|rfl|exact f9|(simp[upd_apply];done)),(by first|rfl|exact f10|(simp[upd_apply];done)),(by first|rfl|exact f11|(simp[upd_apply];done)),(by first|rfl|simp[upd_apply]),pp,he⟩
   rintro m f K3 ⟨c,rfl,hc,f2,f3,f7,f8,f9,f10,f11,f12,pp,he⟩
   have hbx:=pre_get pp hb1
   have hby:=pre_get pp hb2
   by_cases hlc:(c:Int)<K
   ·try simp (maxSteps:=3000000) (disch:=first|omega|simp only[lnx];omega) only[↓xpre,xpost,↓reduceIte,reduceEqDiff,reduceAdd,reduceSub,reduceLeDiff,zz0,f2,f3,f7,f8,f9,f10,f11,f12,decide_eq_true hlc,rdn_of hbx]
    refine s_l01Sum (hv.pre (ph.trans pp)) zx lx (by omega) (by omega) (by omega) fun H6 p6=>?_
    have hby:=pre_get p6 hby
    try simp (maxSteps:=3000000) (disch:=first|omega|simp only[lnx];omega) only[↓xpre,xpost,↓reduceIte,reduceEqDiff,reduceAdd,reduceSub,reduceLeDiff,zz0,f2,f3,f7,f8,f9,f10,f11,f12,rdn_of hby]
    refine⟨p6,?_⟩
    refine s_l01Sum (hw.pre ((ph.trans pp).trans p6)) zy ly (by omega) (by omega) (by omega) fun H7 p7=>?_
    have xa:=ga a b c (by omega) (by omega) (by omega)
    have xb:=gb a b c (by omega) (by omega) (by omega)
    by_cases hd:lsX x a b c=lsX y a b c
    ·try simp (maxSteps:=3000000) (disch:=first|omega|simp only[lnx];omega) only[↓xpre,xpost,↓reduceIte,reduceEqDiff,reduceAdd,reduceSub,reduceLeDiff,zz0,f2,f3,f7,f8,f9,f10,f11,f12,decide_eq_false (show ¬ (lsX x a b c≠lsX y a b c) from fun e=>e hd),wrap64_in]
     have he':∀ n,n<(a*J+b)*K+(c+1)→Gx n=Gy n:=fun n hn=>by
      rcases Nat.lt_succ_iff_lt_or_eq.1 (show n<(a*J+b)*K+c+1 by omega) with h1|h1
      ·exact he n h1
      ·rw[h1,xa,xb,hd]
     refine InvQ_go (K-(c+1)) (by omega) ⟨(c+1),rfl,by omega,(by first|rfl|exact f2|(simp only[upd_apply];rfl)|(show I64 _=_;congr 1;omega)),(by first|rfl|exact f3|(simp only[upd_apply];rfl)|(show I64 _=_;congr 1;omega)),(by first|rfl|exact f7|(simp only[upd_apply];rfl)|(show I64 _=_;congr 1;omega)),(by first|rfl|exact f8|(simp only[upd_apply];rfl)|(show I64 _=_;congr 1;omega)),(by first|rfl|exact f9|(simp only[upd_apply];rfl)|(show I64 _=_;congr 1;omega)),(by first|rfl|exact f10|(simp only[upd_apply];rfl)|(show I64 _=_;congr 1;omega)),(by first|rfl|exact f11|(simp only[upd_apply];rfl)|(show I64 _=_;congr 1;omega)),(by first|rfl|exact f12|(simp only[upd_apply];rfl)|(show I64 _=_;congr 1;omega)),(pp.trans (p6.trans p7)),he'⟩
    ·try simp (maxSteps:=3000000) (disch:=first|omega|simp only[lnx];omega) only[↓xpre,xpost,↓reduceIte,reduceEqDiff,reduceAdd,reduceSub,reduceLeDiff,zz0,f2,f3,f7,f8,f9,f10,f11,f12,decide_eq_true (show lsX x a b c≠lsX y a b c from hd)]
     have hQ2:=hQ _ ((ph.trans pp).trans (p6.trans p7))
     have m2:(a*J+b)*K+K≤I*J*K:=mul_row (by have:a*J+J≤I*J:=mul_row (by omega);omega)
     rw[decide_eq_false (fun e=>hd (by
      have:=congrArg (fun l=>l.getD ((a*J+b)*K+c) 0) e
      simp only[gen_get (show (a*J+b)*K+c<I*J*K by omega)] at this
      rw[xa,xb] at this
      exact this))] at hQ2
     exact hQ2
   ·have ec:c=K:=by omega
    subst ec
    try simp (maxSteps:=3000000) (disch:=first|omega|simp only[lnx];omega) only[↓xpre,xpost,↓reduceIte,reduceEqDiff,reduceAdd,reduceSub,reduceLeDiff,zz0,f2,f3,f7,f8,f9,f10,f11,f12,decide_eq_false hlc,wrap64_in]
    refine InvQ_go (J-(b+1)) (by omega) ⟨(b+1),rfl,by omega,(by first|rfl|exact f2|(simp only[upd_apply];rfl)|(show I64 _=_;congr 1;omega)),(by first|rfl|exact f3|(simp only[upd_apply];rfl)|(show I64 _=_;congr 1;omega)),(by first|rfl|exact f7|(simp only[upd_apply];rfl)|(show I64 _=_;congr 1;omega)),(by first|rfl|exact f8|(simp only[upd_apply];rfl)|(show I64 _=_;congr 1;omega)),(by first|rfl|exact f9|(simp only[upd_apply];rfl)|(show I64 _=_;congr 1;omega)),(by first|rfl|exact f10|(simp only[upd_apply];rfl)|(show I64 _=_;congr 1;omega)),(by first|rfl|exact f11|(simp only[upd_apply];rfl)|(show I64 _=_;congr 1;omega)),pp,(by rw[show (a*J+(b+1))*c=(a*J+b)*c+c by rw[←Nat.add_assoc,Nat.succ_mul]];exact he)⟩
  ·have eb:b=J:=by omega
   subst eb
   try simp (maxSteps:=3000000) (disch:=first|omega|simp only[lnx];omega) only[↓xpre,xpost,↓reduceIte,reduceEqDiff,reduceAdd,reduceSub,reduceLeDiff,zz0,f2,f3,f7,f8,f9,f10,f11,decide_eq_false hlb,wrap64_in]
   refine InvQ_go (I-(a+1)) (by omega) ⟨(a+1),rfl,by omega,(by first|rfl|exact f2|(simp only[upd_apply];rfl)|(show I64 _=_;congr 1;omega)),(by first|rfl|exact f3|(simp only[upd_apply];rfl)|(show I64 _=_;congr 1;omega)),(by first|rfl|exact f7|(simp only[upd_apply];rfl)|(show I64 _=_;congr 1;omega)),(by first|rfl|exact f8|(simp only[upd_apply];rfl)|(show I64 _=_;congr 1;omega)),(by first|rfl|exact f9|(simp only[upd_apply];rfl)|(show I64 _=_;congr 1;omega)),(by first|rfl|exact f10|(simp only[upd_apply];rfl)|(show I64 _=_;congr 1;omega)),pp,(by rw[Nat.succ_mul];exact he)⟩
 ·have ea:a=I:=by omega
  subst ea
  try simp (maxSteps:=3000000) (disch:=first|omega|simp only[lnx];omega) only[↓xpre,xpost,↓reduceIte,reduceEqDiff,reduceAdd,reduceSub,reduceLeDiff,zz0,f2,f3,f7,f8,f9,f10,decide_eq_false hla]
  have hQ2:=hQ _ (ph.trans pp)
  rw[decide_eq_true (gen_congr fun i hi=>he i hi)] at hQ2
  exact hQ2
end Go.Proofs.YtigpfopobpoamaaGreat.X

set_option linter.unusedVariables false
set_option linter.unusedSimpArgs false
set_option maxRecDepth 20000
set_option maxHeartbeats 4000000
namespace Go.Proofs.YtigpfopobpoamaaGreat.X
open Go Go.RowKit
theorem RowD.put {lo kb m:Nat} {H:AH} {fu:Bool} {rows:List (List Int)} {B:Nat→Nat} {cs:List Value} {b:Blk} (r:RowD lo H kb fu rows B cs) (hm:m≠kb) (hB:∀ i,i<rows.length→B i<m):RowD lo (H.put m b) kb fu rows B cs:=
 ⟨by rw[get_put_ne hm];exact r.get,r.len,r.low,fun i hi=>by
  obtain⟨h1,h2,⟨f,h3⟩,h4⟩:=r.row i hi
  have:=hB i hi
  exact⟨h1,h2,⟨f,by unfold Lst;rw[get_put_ne (by omega)];exact h3⟩,h4⟩,r.inc⟩
section
variable {bs:List Nat} {n k:Nat} {g g':Nat→Nat→Int}
end
def sT:List (List Int)→Nat→Nat→Nat→Int
 | [],_,_,_=>0
 | q::L,a,b,c=>tm q a b c+sT L a b c
section
variable {L R:List (List Int)} {q r:List Int} {a b c i k f:Nat} {p s:Int}
theorem sT_app:sT (L++R) a b c=sT L a b c+sT R a b c:=by
 induction L with
 | nil=>simp[sT]
 | cons q L ih=>
  rw[List.cons_append,sT,sT,ih]
  omega
theorem sT_set:∀ {L:List (List Int)} {i:Nat},i<L.length→sT (L.set i q) a b c+tm (L.getD i []) a b c=sT L a b c+tm q a b c
 | [],i,h=>by simp at h
 | r::L,0,h=>by
  rw[List.set_cons_zero,List.getD_cons_zero,sT,sT]
  omega
 | r::L,i+1,h=>by
  have:=sT_set (L:=L) (i:=i) (by simpa using h)
  rw[List.set_cons_succ,List.getD_cons_succ,sT,sT]
  omega
theorem lsS_sT:∀ {i:Nat},i≤L.length→lsS L a b c i=sT (L.take i) a b c
 | 0,_=>by simp[lsS,smT,sT]
 | i+1,h=>by
  have ih:=lsS_sT (i:=i) (by omega)
  unfold lsS at ih ⊢
  rw[smT,ih,takeD (by omega),sT_app]
  simp[sT]
theorem lsS_all:lsS L a b c L.length=sT L a b c:=by rw[lsS_sT (Nat.le_refl _),List.take_length]
theorem tm_seg (ha:a<9) (hb:b<9) (hc:c<9):tm q a b c=(seg q 0).getD a 0*(seg q 1).getD b 0*(seg q 2).getD c 0:=by
 unfold tm
 rw[seg_at ha,seg_at hb,seg_at hc,Nat.zero_mul,Nat.zero_add,Nat.one_mul]
theorem isZ_at (hz:isZ q=true):q.getD a 0=0:=by
 have e:q=z9:=by simpa [isZ] using hz
 subst e
 unfold z9
 have:a=0∨a=1∨a=2∨a=3∨a=4∨a=5∨a=6∨a=7∨a=8∨9≤a:=by omega
 rcases this with rfl|rfl|rfl|rfl|rfl|rfl|rfl|rfl|rfl|h
 all_goals first|rfl|(rw[List.getD_eq_getElem?_getD,List.getElem?_eq_none (by simpa using h)];rfl)
theorem tm_zero (ha:a<9) (hb:b<9) (hc:c<9) (hz:hasZ q=true):tm q a b c=0:=by
 rw[tm_seg ha hb hc]
 unfold hasZ at hz
 rw[Bool.or_eq_true,Bool.or_eq_true] at hz
 rcases hz with (h|h)|h
 ·rw[isZ_at h,Int.zero_mul,Int.zero_mul]
 ·rw[isZ_at h,Int.mul_zero,Int.zero_mul]
 ·rw[isZ_at h,Int.mul_zero]
theorem sT_told (ha:a<9) (hb:b<9) (hc:c<9):sT (toldL L) a b c=sT L a b c:=by
 induction L with
 | nil=>rfl
 | cons q L ih=>
  unfold toldL at ih ⊢
  rw[List.filter_cons]
  cases hz:hasZ q with
  | true=>
   rw[if_neg (by simp),ih,sT,tm_zero ha hb hc hz]
   omega
  | false=>
   rw[if_pos (by simp),sT,sT,ih]
theorem seg_wth {j:Nat} (hq:q.length=27) (hr:r.length=9) (hf:f<3) (hj:j<3):seg (wth q f r) j=if j=f then r else seg q j:=by
 have lt:(q.take (f*9)).length=f*9:=by rw[List.length_take,hq];omega
 unfold wth seg
 split
 ·rename_i e
  subst e
  rw[List.append_assoc,List.drop_append_of_le_length (by omega),List.drop_of_length_le (by omega),List.nil_append,List.take_append_of_le_length (by omega),List.take_of_length_le (by omega)]
 ·rename_i e
  by_cases h:j<f
  ·rw[List.append_assoc,List.drop_append_of_le_length (by omega),List.take_append_of_le_length (by rw[List.length_drop];omega),List.drop_take,List.take_take,Nat.min_eq_left (by omega)]
  ·have:(q.take (f*9)++r).length=f*9+9:=by rw[List.length_append,lt,hr]
   rw[List.drop_append,List.drop_of_length_le (by omega),List.nil_append,this,List.drop_drop,show f*9+9+(j*9-(f*9+9))=j*9 by omega]
theorem md_cg {x:Int}:Cg p (md p x) x:=Cg.symm (md_dvd p x)
theorem addF_get {x y:List Int} {j:Nat} (hj:j<9):(addF p x y s 9).getD j 0=md p (x.getD j 0+s*y.getD j 0):=by
 unfold addF
 rw[getD_app_l (by rw[gen_len];exact hj),gen_get hj]
theorem flG_lt:flG' f<3:=Nat.mod_lt _ (by omega)
theorem flH_lt:flH' f<3:=Nat.mod_lt _ (by omega)
theorem getD_setne {l:List (List Int)} {x:List Int} (h:i≠k):(l.set i x).getD k []=l.getD k []:=by
 rw[List.getD_eq_getElem?_getD,List.getElem?_set_ne h,←List.getD_eq_getElem?_getD]
theorem getD_len27 (hw:Wid 27 L) (hi:i<L.length):(L.getD i []).length=27:=by
 refine hw _ ?_
 rw[List.getD_eq_getElem?_getD,List.getElem?_eq_getElem hi]
 exact List.getElem_mem hi
theorem getD_by (hw:Wid 27 L) (hb:Byt 27 L) (hi:i<L.length):By 27 (L.getD i []):=⟨getD_len27 hw hi,fun j hj=>hb i hi j hj⟩
theorem okForm_gt {n:Int} {q:List Int} {j:Nat} (h:okForm p n q=true) (hj:j<9):q.getD j 0<p∧(n≤(j:Int)→q.getD j 0=0):=by
 unfold okForm at h
 rw[List.all_eq_true] at h
 exact of_decide_eq_true (h j (List.mem_range.2 hj))
theorem okForm_add {n:Int} {x y:List Int} (hp:2≤p) (hx:okForm p n x=true) (hy:okForm p n y=true):okForm p n (addF p x y s 9)=true:=by
 refine okForm_t fun j hj=>?_
 have h1:=okForm_gt hx hj
 have h2:=okForm_gt hy hj
 unfold okAt
 rw[addF_get hj]
 refine decide_eq_true ⟨(md_in hp).2,fun hn=>?_⟩
 rw[h1.2 hn,h2.2 hn,Int.mul_zero,Int.add_zero]
 exact md_small (by omega)
theorem okProd_iff {x:Sch}:okProd x q=true↔(∀ j,j<3→okForm x.p (pl x j) (seg q j)=true)∧hasZ q=false:=by
 unfold okProd
 simp only[Bool.and_eq_true,Bool.not_eq_true']
 constructor
 ·rintro⟨⟨⟨h0,h1⟩,h2⟩,h3⟩
  refine⟨fun j hj=>?_,h3⟩
  have:j=0∨j=1∨j=2:=by omega
  rcases this with rfl|rfl|rfl
  ·exact h0
  ·exact h1
  ·exact h2
 ·rintro⟨h,h3⟩
  exact⟨⟨⟨h 0 (by omega),h 1 (by omega)⟩,h 2 (by omega)⟩,h3⟩
def okL (x:Sch) (L:List (List Int)):Prop:=∀ q∈L,∀ j,j<3→okForm x.p (pl x j) (seg q j)=true
abbrev wps (x:Sch) (L:List (List Int)):Sch:=⟨x.p,x.n,x.m,x.k,L⟩
theorem okL_of {x:Sch} (hx:isX x=true):okL x x.ps:=fun q hq=>by
 obtain⟨_,_,_,h⟩:=isX_facts hx
 exact (okProd_iff.1 (List.all_eq_true.1 (by unfold isX at hx;exact (Bool.and_eq_true _ _▸hx).2) q hq)).1
theorem told_id {x:Sch} (hx:isX x=true):toldL x.ps=x.ps:=by
 unfold toldL
 rw[List.filter_eq_self]
 intro q hq
 have h:=List.all_eq_true.1 (by unfold isX at hx;exact (Bool.and_eq_true _ _▸hx).2) q hq
 rw[(okProd_iff.1 h).2]
 rfl
theorem isX_told {x:Sch} (hx:isX x=true) (hl:L.length≤30) (ok:okL x L):isX (wps x (toldL L))=true:=by
 have h1:szX x=true:=by
  unfold isX at hx
  simp only[Bool.and_eq_true] at hx
  exact hx.1.1
 unfold isX
 have tl:=toldL_len (L:=L)
 simp only[Bool.and_eq_true]
 refine⟨⟨h1,decide_eq_true (by show (toldL L).length≤30;omega)⟩,List.all_eq_true.2 fun q hq=>?_⟩
 have hm:=List.mem_filter.1 hq
 exact okProd_iff.2 ⟨ok q hm.1,by simpa using hm.2⟩
theorem flip_okL {x:Sch} (hp:2≤x.p) (hw:Wid 27 L) (ok:okL x L) (hi:i<L.length) (hk:k<L.length) (hf:f<3):okL x (flipL x.p L i k f s):=by
 have gm:∀ {i},i<L.length→L.getD i []∈L:=fun {i} hi=>by
  rw[List.getD_eq_getElem?_getD,List.getElem?_eq_getElem hi]
  exact List.getElem_mem hi
 have lA:∀ j,j<3→(seg (L.getD i []) j).length=9:=fun j hj=>seg_n9 (getD_len27 hw hi) hj
 have lB:∀ j,j<3→(seg (L.getD k []) j).length=9:=fun j hj=>seg_n9 (getD_len27 hw hk) hj
 intro q hq j hj
 unfold flipL at hq
 rcases List.mem_or_eq_of_mem_set hq with hq|rfl
 ·rcases List.mem_or_eq_of_mem_set hq with hq|rfl
  ·exact ok q hq j hj
  ·unfold flOne
   rw[seg_wth (getD_len27 hw hi) (addF_len (lA _ flG_lt) (Nat.le_refl _)) flG_lt hj]
   split
   ·rename_i e
    rw[e]
    exact okForm_add hp (ok _ (gm hi) _ flG_lt) (ok _ (gm hk) _ flG_lt)
   ·exact ok _ (gm hi) j hj
 ·unfold flTwo
  rw[seg_wth (getD_len27 hw hk) (addF_len (lB _ flH_lt) (Nat.le_refl _)) flH_lt hj]
  split
  ·rename_i e
   rw[e]
   exact okForm_add hp (ok _ (gm hk) _ flH_lt) (ok _ (gm hi) _ flH_lt)
  ·exact ok _ (gm hk) j hj
theorem flipL_len:(flipL p L i k f s).length=L.length:=by unfold flipL;rw[List.length_set,List.length_set]
theorem told_wid (hw:Wid 27 L):Wid 27 (toldL L):=fun q hq=>hw q (List.mem_filter.1 hq).1
theorem byt_iff (hw:Wid 27 L):Byt 27 L↔∀ q∈L,By 27 q:=by
 constructor
 ·intro hb q hq
  obtain⟨i,hi,rfl⟩:=List.getElem_of_mem hq
  have:=getD_by hw hb hi
  rwa [List.getD_eq_getElem?_getD,List.getElem?_eq_getElem hi] at this
 ·intro h i hi j hj
  refine (h _ ?_).2 j hj
  rw[List.getD_eq_getElem?_getD,List.getElem?_eq_getElem hi]
  exact List.getElem_mem hi
theorem told_byt (hw:Wid 27 L) (hb:Byt 27 L):Byt 27 (toldL L):=(byt_iff (told_wid hw)).2 fun q hq=>(byt_iff hw).1 hb q (List.mem_filter.1 hq).1
theorem flip_wb (hp:2≤p∧p≤5) (hw:Wid 27 L) (hb:Byt 27 L) (hi:i<L.length) (hk:k<L.length) (hf:f<3):Wid 27 (flipL p L i k f s)∧Byt 27 (flipL p L i k f s):=by
 have byi:=getD_by hw hb hi
 have byk:=getD_by hw hb hk
 have b1:By 27 (flOne p (L.getD i []) (L.getD k []) f s):=wth_by byi (addF_by hp (seg_by byi flG_lt) (Nat.le_refl _)) flG_lt
 have b2:By 27 (flTwo p (L.getD i []) (L.getD k []) f s):=wth_by byk (addF_by hp (seg_by byk flH_lt) (Nat.le_refl _)) flH_lt
 exact⟨wid_set (wid_set hw b1.1) b2.1,byt_setq (byt_setq hb b1) b2⟩
theorem flF_mem {l:List Int}:∀ {r:Nat},l∈flF L i k r→∃ u:Nat,u<r∧l=[(i:Int),k,u]∧seg (L.getD i []) u=seg (L.getD k []) u
 | 0,h=>by simp[flF] at h
 | r+1,h=>by
  unfold flF at h
  rcases List.mem_append.1 h with h|h
  ·obtain⟨u,h1,h2⟩:=flF_mem h
   exact⟨u,by omega,h2⟩
  ·split at h
   ·rename_i e
    exact⟨r,by omega,List.mem_singleton.1 h,e⟩
   ·simp at h
theorem flK_mem {l:List Int}:∀ {K:Nat},l∈flK L i K→∃ k u:Nat,k<K∧i≠k∧u<3∧l=[(i:Int),k,u]∧seg (L.getD i []) u=seg (L.getD k []) u
 | 0,h=>by simp[flK] at h
 | K+1,h=>by
  unfold flK at h
  rcases List.mem_append.1 h with h|h
  ·obtain⟨k,u,h1,h2⟩:=flK_mem h
   exact⟨k,u,by omega,h2⟩
  ·split at h
   ·simp at h
   ·rename_i e
    obtain⟨u,h1,h2,h3⟩:=flF_mem h
    exact⟨K,u,by omega,e,h1,h2,h3⟩
theorem flI_mem {l:List Int}:∀ {I:Nat},l∈flI L I→∃ i k u:Nat,i<I∧k<L.length∧i≠k∧u<3∧l=[(i:Int),k,u]∧seg (L.getD i []) u=seg (L.getD k []) u
 | 0,h=>by simp[flI] at h
 | I+1,h=>by
  unfold flI at h
  rcases List.mem_append.1 h with h|h
  ·obtain⟨i,k,u,h1,h2⟩:=flI_mem h
   exact⟨i,k,u,by omega,h2⟩
  ·obtain⟨k,u,h1,h2⟩:=flK_mem h
   exact⟨I,k,u,by omega,h1,h2⟩
structure GX (x:Sch):Prop where
 ok:isX x=true
 w:Wid 27 x.ps
 b:Byt 27 x.ps
structure EqS (x y:Sch):Prop where
 l:like x y
 s:∀ a b c,a<9→b<9→c<9→Cg x.p (sT x.ps a b c) (sT y.ps a b c)
theorem EqS.rfl' {x:Sch}:EqS x x:=⟨⟨rfl,rfl,rfl,rfl⟩,fun _ _ _ _ _ _=>Cg.rfl'⟩
theorem EqS.trans {x y z:Sch} (h:EqS x y) (g:EqS y z):EqS x z:=⟨⟨h.l.1.trans g.l.1,h.l.2.1.trans g.l.2.1,h.l.2.2.1.trans g.l.2.2.1,h.l.2.2.2.trans g.l.2.2.2⟩,fun a b c ha hb hc=>(h.s a b c ha hb hc).trans (by rw[h.l.1];exact g.s a b c ha hb hc)⟩
theorem flip_GX {x:Sch} (g:GX x) (hi:i<x.ps.length) (hk:k<x.ps.length) (hf:f<3):GX (wps x (toldL (flipL x.p x.ps i k f s))):=by
 obtain⟨z,h30⟩:=isX_sz g.ok
 have zp:=z.p
 obtain⟨w,b⟩:=flip_wb (s:=s) zp g.w g.b hi hk hf
 exact⟨isX_told g.ok (by rw[flipL_len];exact h30) (flip_okL zp.1 g.w (okL_of g.ok) hi hk hf),told_wid w,told_byt w b⟩
theorem lsX_eq {x y:Sch} (gx:GX x) (gy:GX y) (e:EqS x y) (ha:a<9) (hb:b<9) (hc:c<9):lsX x a b c=lsX y a b c:=by
 have nn:∀ {x:Sch},GX x→0≤sT x.ps a b c:=fun {x} g=>by
  rw[←lsS_all]
  exact (smT_in (b:=16581375) fun j hj=>(tm_in (getD_by g.w g.b hj) ha hb hc).2).1
 have h1:=nn gx
 have h2:=nn gy
 have zp:=(isX_sz gx.ok).1.p
 unfold lsX
 rw[lsS_all,lsS_all,←e.l.1]
 exact dvd_eq (((Cg.tmod _ _).trans (e.s a b c ha hb hc)).trans (Cg.tmod _ _).symm) ⟨Int.tmod_nonneg _ h1,Int.tmod_lt_of_pos _ (by omega)⟩ ⟨Int.tmod_nonneg _ h2,Int.tmod_lt_of_pos _ (by omega)⟩
end
end Go.Proofs.YtigpfopobpoamaaGreat.X

set_option linter.unusedVariables false
set_option linter.unusedSimpArgs false
set_option maxRecDepth 20000
set_option maxHeartbeats 4000000
namespace Go.Proofs.YtigpfopobpoamaaGreat.X
open Go Go.RowKit
open Nat (reduceEqDiff reduceAdd reduceSub reduceLeDiff)
theorem md_tmod {p x:Int} (hp:2≤p) (hx:0≤x):md p x=x.tmod p:=by
 unfold md
 have h:=tmod_nn (a:=x) (J:=p) hx (by omega)
 rw[Int.tmod_eq_emod_of_nonneg (a:=x.tmod p+p) (by omega),Int.add_emod_right,Int.emod_eq_of_lt h.1 h.2]
theorem i_sum {p k:Int} {a b:List Int} {h:AH} {Q:Value→AH→Prop} (hp:2≤p∧p≤5) (ha:By 9 a) (hb:By 9 b) (hk:0≤k∧k≤1000) (hQ:∀ h',h<+:h'→Q (aggV .u8 (addF p a b k 9)) h'):WF S 45 [I64 p,aggV .u8 a,aggV .u8 b,I64 k] h Q:=by
 refine WF_fn (fn:=c45) rfl rfl ?_
 dsimp only[c45,oO,oM,oS,oG,oK,oE,oL,oF,oX,oN]
 have a9:=ha.1
 have b9:=hb.1
 ((try simp (maxSteps:=3000000) (dsimp:=false) (disch:=first|omega|simp only[lnx];omega) only[↓ypre,ypost,↓reduceIte,reduceEqDiff,reduceAdd,reduceSub,reduceLeDiff,zz0,ynew,aggV,cellsL_cel,cel_all,zeros9]);try simp only[yback])
 generalize hH1:AH.new h _=H1
 obtain⟨hb1,p1,n1⟩:=new_facts hH1
 generalize hH2:AH.new H1 _=H2
 obtain⟨hb2,p2,n2⟩:=new_facts hH2
 generalize hH3:AH.new H2 _=H3
 obtain⟨hb3,p3,n3⟩:=new_facts hH3
 have e0:addF p a b k 0=a:=by simp[addF,gen]
 refine WC_loop_inv (fun m f K1=>∃ (i:Nat),m=9-i∧i≤9∧f 0=I64 p∧f 3=I64 k∧f 5=.pointer (some ⟨h.length,0,none⟩)∧f 6=.pointer (some ⟨H1.length,0,none⟩)∧f 8=.pointer (some ⟨H2.length,0,none⟩)∧f 10=I64 i∧(h<+:K1)∧(K1.get h.length=some ⟨cel .u8 (addF p a b k i),34,false,true⟩)∧(K1.get H1.length=some ⟨cel .u8 b,34,false,true⟩)∧(K1.get H2.length=some ⟨cel .u8 (List.replicate 9 0),34,false,true⟩)) ?_ (9-0) _ _ ⟨0,rfl,by omega,(by first|rfl|simp[upd_apply]),(by first|rfl|simp[upd_apply]),(by first|rfl|simp[upd_apply]),(by first|rfl|simp[upd_apply]),(by first|rfl|simp[upd_apply]),(by first|rfl|simp[upd_apply]),p1.trans (p2.trans p3),(by rw[e0];exact pre_get (p2.trans p3) hb1),pre_get p3 hb2,hb3⟩
 rintro m f K1 ⟨i,rfl,hi,f0,f3,f5,f6,f8,f10,pp,g1,g2,g3⟩
 have lF:=addF_len (p:=p) (k:=k) (a:=a) (b:=b) (i:=i) a9 (by omega)
 by_cases hlt:(i:Int)<9
 ·have ba:=ha.2 i (by omega)
  have bb:=hb.2 i (by omega)
  have c1:=cel_get (k:=.u8) (q:=addF p a b k i) (j:=i) (by omega)
  rw[addF_at (Nat.le_refl _)] at c1
  have c2:=cel_get (k:=.u8) (q:=b) (j:=i) (by omega)
  have kb:0≤k*b.getD i 0∧k*b.getD i 0≤255000:=mul_in (A:=1000) (B:=255) hk bb
  have mi:=md_in (x:=a.getD i 0+k*b.getD i 0) hp.1
  have st:=cel_set (k:=.u8) (q:=addF p a b k i) (j:=i) (x:=md p (a.getD i 0+k*b.getD i 0)) (by omega)
  rw[addF_set a9 (by omega)] at st
  have ia:∀ m:Nat,ixaV 9 1 (.pointer (some ⟨m,0,none⟩)) (I64 i)=_:=fun m=>ixaV_ptr ⟨by omega,by omega⟩
  have w1:IntKind.i64.wrap (k*b.getD i 0)=k*b.getD i 0:=wrap64_in (by omega) (by omega)
  have w2:IntKind.i64.wrap (a.getD i 0+k*b.getD i 0)=a.getD i 0+k*b.getD i 0:=wrap64_in (by omega) (by omega)
  have em:=(md_tmod (x:=a.getD i 0+k*b.getD i 0) hp.1 (by omega)).symm
  have w3:IntKind.u8.wrap (md p (a.getD i 0+k*b.getD i 0))=md p (a.getD i 0+k*b.getD i 0):=wrap8_in (by omega) (by omega)
  ((try simp (maxSteps:=3000000) (dsimp:=false) (disch:=first|omega|simp only[lnx];omega) only[↓ypre,ypost,↓reduceIte,reduceEqDiff,reduceAdd,reduceSub,reduceLeDiff,zz0,ynew,f0,f3,f5,f6,f8,f10,decide_eq_true hlt,↓WX_ixa,ia,Int.toNat_natCast,Nat.mul_one,rd1_of g1,rd1_of g2,c1,c2,wrap64_in,w1,w2,bin_rem (show p≠0 by omega),em,w3,wr_of g1,st,cel_len,lF]);try simp only[yback])
  refine⟨by omega,?_⟩
  ((try simp (maxSteps:=3000000) (dsimp:=false) (disch:=first|omega|simp only[lnx];omega) only[↓ypre,ypost,↓reduceIte,reduceEqDiff,reduceAdd,reduceSub,reduceLeDiff,zz0,ynew,f0,f3,f5,f6,f8,f10,wrap64_in]);try simp only[yback])
  refine InvQ_go (9-(i+1)) (by omega) ⟨(i+1),rfl,by omega,(by first|rfl|exact f0|(simp only[upd_apply];rfl)|(show I64 _=_;congr 1;omega)),(by first|rfl|exact f3|(simp only[upd_apply];rfl)|(show I64 _=_;congr 1;omega)),(by first|rfl|exact f5|(simp only[upd_apply];rfl)|(show I64 _=_;congr 1;omega)),(by first|rfl|exact f6|(simp only[upd_apply];rfl)|(show I64 _=_;congr 1;omega)),(by first|rfl|exact f8|(simp only[upd_apply];rfl)|(show I64 _=_;congr 1;omega)),(by first|rfl|exact f10|(simp only[upd_apply];rfl)|(show I64 _=_;congr 1;omega)),(pre_put pp (Nat.le_refl _)),(get_put_same (get_lt g1)),(by rw[get_put_ne (by omega)];exact g2),(by rw[get_put_ne (by omega)];exact g3)⟩
 ·have ei:i=9:=by omega
  subst ei
  have t9:(cel .u8 (addF p a b k 9)).take 9=cel .u8 (addF p a b k 9):=List.take_of_length_le (by rw[cel_len,lF];exact Nat.le_refl _)
  have w9:=wr_full (vs:=cel .u8 (addF p a b k 9)) g3 (by rw[cel_len,lF];rfl)
  have l3:=get_lt g3
  ((try simp (maxSteps:=3000000) (dsimp:=false) (disch:=first|omega|simp only[lnx];omega) only[↓ypre,ypost,↓reduceIte,reduceEqDiff,reduceAdd,reduceSub,reduceLeDiff,zz0,ynew,f0,f3,f5,f6,f8,f10,decide_eq_false hlt,rdn_of g1,cel_len,lF,t9,cel_all,w9,rdn_put_same]);try simp only[yback])
  exact hQ _ (pre_put pp (by omega))
theorem i_productOf {q:List Int} {h:AH} {Q:Value→AH→Prop} (hq:q.length=27) (hQ:∀ h',h<+:h'→Q (aggV .u8 q) h'):WF S 47 [aggV .u8 q] h Q:=by
 refine WF_fn (fn:=c47) rfl rfl ?_
 dsimp only[c47,oO,oM,oS,oG,oK,oE,oL,oF,oX,oN]
 have a1:=seg_n9 hq (show 0<3 by omega)
 have a2:=seg_n9 hq (show 1<3 by omega)
 have a3:=seg_n9 hq (show 2<3 by omega)
 have c0:(cel .u8 q).take 9=cel .u8 (seg q 0):=by have:=cel_seg (q:=q) (f:=0);rwa [Nat.zero_mul,List.drop_zero] at this
 have c1:((cel .u8 q).drop 9).take 9=cel .u8 (seg q 1):=cel_seg (f:=1)
 have c2:((cel .u8 q).drop 18).take 9=cel .u8 (seg q 2):=cel_seg (f:=2)
 have s3:seg q 0++seg q 1++seg q 2=q:=by
  unfold seg
  rw[Nat.zero_mul,List.drop_zero,Nat.one_mul,List.append_assoc,show (q.drop (2*9)).take 9=(q.drop 9).drop 9 from by rw[List.drop_drop,List.take_of_length_le (by rw[List.length_drop];omega)],List.take_append_drop,List.take_append_drop]
 obtain⟨sa,sb,sc⟩:=sp27 a1 a2 a3
 rw[s3] at sc
 ((try simp (maxSteps:=3000000) (dsimp:=false) (disch:=first|omega|simp only[lnx];omega) only[↓ypre,ypost,↓reduceIte,reduceEqDiff,reduceAdd,reduceSub,reduceLeDiff,zz0,ynew,aggV,cellsL_cel,cel_all,zeros27]);try simp only[yback])
 generalize hH1:AH.new h _=H1
 obtain⟨hb1,p1,n1⟩:=new_facts hH1
 generalize hH2:AH.new H1 _=H2
 obtain⟨hb2,p2,n2⟩:=new_facts hH2
 have g1:=pre_get p2 hb1
 have i0:ixaV 3 9 (.pointer (some ⟨h.length,0,none⟩)) (I64 0)=some (.pointer (some ⟨h.length,0,none⟩)):=rfl
 have i1:ixaV 3 9 (.pointer (some ⟨h.length,0,none⟩)) (I64 1)=some (.pointer (some ⟨h.length,9,none⟩)):=rfl
 have i2:ixaV 3 9 (.pointer (some ⟨h.length,0,none⟩)) (I64 2)=some (.pointer (some ⟨h.length,18,none⟩)):=rfl
 have t27:(cel .u8 q).take 27=cel .u8 q:=List.take_of_length_le (by rw[cel_len,hq];exact Nat.le_refl _)
 have w27:=wr_full (vs:=cel .u8 q) hb2 (by rw[cel_len,hq];rfl)
 have l2:=get_lt hb2
 ((try simp (maxSteps:=3000000) (dsimp:=false) (disch:=first|omega|simp only[lnx];omega) only[↓ypre,ypost,↓reduceIte,reduceEqDiff,reduceAdd,reduceSub,reduceLeDiff,zz0,ynew,↓WX_ixa,i0,i1,i2,rdn_of g1,cel_len,hq,c0,c1,c2,a1,a2,a3,cel_all,sa,sb,sc,w27,rdn_put_same,t27,List.length_replicate]);try simp only[yback])
 exact hQ _ (pre_put (p1.trans p2) (by omega))
theorem i_with {x:Sch} {v w:Value} {L:List (List Int)} {h:AH} {Q:Value→AH→Prop} (hv:isOne v=true) (hw:isOne w=true) (cw:cellsL w=[w]) (hQ:∀ h',h<+:h'→Q (schV (wps x L) w) h'):WF S 30 [schV x v,w] h Q:=by
 refine WF_fn (fn:=c30) rfl rfl ?_
 dsimp only[c30,oO,oM,oS,oG,oK,oE,oL,oF,oX,oN]
 ((try simp (maxSteps:=3000000) (dsimp:=false) (disch:=first|omega|simp only[lnx];omega) only[↓ypre,ypost,↓reduceIte,reduceEqDiff,reduceAdd,reduceSub,reduceLeDiff,zz0,ynew,schV,hv,cw,hw,splice_eq,len_new]);try simp only[yback])
 generalize hH1:AH.new h _=H1
 obtain⟨hb1,p1,n1⟩:=new_facts hH1
 generalize hH2:AH.new H1 _=H2
 obtain⟨hb2,p2,n2⟩:=new_facts hH2
 rw[n1] at hb2
 have g1:=pre_get p2 hb1
 have l2:=get_lt hb2
 ((try simp (maxSteps:=3000000) (dsimp:=false) (disch:=first|omega|simp only[lnx];omega) only[↓ypre,ypost,↓reduceIte,reduceEqDiff,reduceAdd,reduceSub,reduceLeDiff,zz0,ynew,rdn_of g1,wr_of hb2,splice_eq,rdn_put_same]);try simp only[yback])
 exact hQ _ (pre_put (p1.trans p2) (by omega))
def OwnP (lo:Nat) (h:AH) (w:Value) (L:List (List Int)):Prop:=
 Wid 27 L∧((w=.slice none 0 0∧L=[])∨∃ kb full,w=.slice (some ⟨kb,0,none⟩) L.length 27∧lo≤kb∧h.get kb=some ⟨cel .u8 L.flatten,53,false,full⟩)
theorem OwnP.nk {lo:Nat} {h:AH} {w:Value} {L:List (List Int)} (o:OwnP lo h w L):NK w:=by
 obtain⟨_,⟨rfl,_⟩|⟨kb,full,rfl,_⟩⟩:=o
 ·exact .inl (.inl rfl)
 ·exact .inr ⟨_,_,_,rfl⟩
theorem NK.one {v:Value} (o:NK v):isOne v=true:=by
 obtain (rfl|rfl)|⟨b,n,w,rfl⟩:=o<;>rfl
theorem NK.cells {v:Value} (o:NK v):cellsL v=[v]:=by
 obtain (rfl|rfl)|⟨b,n,w,rfl⟩:=o<;>rfl
theorem OwnP.inE {lo:Nat} {h:AH} {w:Value} {L:List (List Int)} (o:OwnP lo h w L):InE .u8 27 lo h.length h w L:=by
 obtain⟨hw,o|⟨kb,full,h1,h2,h3⟩⟩:=o
 ·exact .inl o
 ·exact .inr ⟨kb,_,full,⟨h2,get_lt h3⟩,h1,h3,hw⟩
theorem OwnP.kN {lo lo':Nat} {h:AH} {w:Value} {L:List (List Int)} (o:OwnP lo h w L) (b:Byt 27 L) (hl:lo'≤lo):KN lo' h fun h'=>Prods h' w L:=fun h' d d'=>⟨o.inE.kN hl h' d d',b⟩
theorem app_00 {e:TypeId} {w bytes:Nat} {h:AH} {k n':Nat} {b:Blk} (hn:h.get n'=some b):appV e w bytes (.slice (some ⟨k,0,none⟩) 0 w) (.slice (some ⟨n',0,none⟩) 0 w) h=some (.slice (some ⟨k,0,none⟩) 0 w,h):=by
 have:h.rdn n' 0 (0*w)=some []:=by
  rw[Nat.zero_mul,rdn_of hn]
  simp
 simp only[appV,xop,ev,if_true,this]
 simp
theorem app_03 {e:TypeId} {w bytes:Nat} {h:AH} {k t:Nat}:appV e w bytes (.slice (some ⟨k,0,none⟩) 0 w) (.slice none 0 t) h=some (.slice (some ⟨k,0,none⟩) 0 w,h):=by
 simp[appV,xop,ev]
theorem i_CloneP {v:Value} {L:List (List Int)} {h:AH} {Q:Value→AH→Prop} (hv:Els .u8 27 h v L) (nk:NK v) (hl:L.length≤1000) (hQ:∀ w h',h<+:h'→OwnP h.length h' w L→Q w h'):WF S 46 [v] h Q:=by
 refine WF_fn (fn:=c46) rfl rfl ?_
 dsimp only[c46,oO,oM,oS,oG,oK,oE,oL,oF,oX,oN]
 rcases nk with (rfl|rfl)|⟨b0,n0,w0,rfl⟩
 ·have e:L=[]:=by
   rcases hv with⟨e,_⟩|⟨b,off,blk,e,_⟩
   ·exact e
   ·cases e
  subst e
  ((try simp (maxSteps:=3000000) (dsimp:=false) (disch:=first|omega|simp only[lnx];omega) only[↓ypre,ypost,↓reduceIte,reduceEqDiff,reduceAdd,reduceSub,reduceLeDiff,zz0,ynew,↓WX_isnil,isnilV_nil]);try simp only[yback])
  exact hQ _ _ (List.prefix_refl _) ⟨fun q hq=>by simp at hq,.inl ⟨rfl,rfl⟩⟩
 ·have e:L=[]:=by
   rcases hv with⟨e,_⟩|⟨b,off,blk,e,_⟩
   ·exact e
   ·cases e
  subst e
  ((try simp (maxSteps:=3000000) (dsimp:=false) (disch:=first|omega|simp only[lnx];omega) only[↓ypre,ypost,↓reduceIte,reduceEqDiff,reduceAdd,reduceSub,reduceLeDiff,zz0,ynew,↓WX_isnil,isnilV_emp,fillL,zrep]);try simp only[yback])
  generalize hH1:AH.new h _=H1
  obtain⟨hb1,p1,n1⟩:=new_facts hH1
  ((try simp (maxSteps:=3000000) (dsimp:=false) (disch:=first|omega|simp only[lnx];omega) only[↓ypre,ypost,↓reduceIte,reduceEqDiff,reduceAdd,reduceSub,reduceLeDiff,zz0,ynew,app_03]);try simp only[yback])
  exact hQ _ _ p1 ⟨fun q hq=>by simp at hq,.inr ⟨h.length,true,rfl,Nat.le_refl _,hb1⟩⟩
 ·((try simp (maxSteps:=3000000) (dsimp:=false) (disch:=first|omega|simp only[lnx];omega) only[↓ypre,ypost,↓reduceIte,reduceEqDiff,reduceAdd,reduceSub,reduceLeDiff,zz0,ynew,↓WX_isnil,isnilV_some,fillL,zrep]);try simp only[yback])
  by_cases h0:L.length=0
  ·have e0:L=[]:=List.length_eq_zero_iff.1 h0
   subst e0
   rcases hv with⟨_,t,_,e⟩|⟨b,off,blk,e,hg,_⟩
   ·cases e
   ·simp only[Value.slice.injEq,Option.some.injEq,Addr.mk.injEq] at e
    obtain⟨⟨rfl,rfl,-⟩,rfl,rfl⟩:=e
    generalize hH1:AH.new h _=H1
    obtain⟨hb1,p1,n1⟩:=new_facts hH1
    ((try simp (maxSteps:=3000000) (dsimp:=false) (disch:=first|omega|simp only[lnx];omega) only[↓ypre,ypost,↓reduceIte,reduceEqDiff,reduceAdd,reduceSub,reduceLeDiff,zz0,ynew,List.length_nil,app_00 (pre_get p1 hg)]);try simp only[yback])
    exact hQ _ _ p1 ⟨fun q hq=>by simp at hq,.inr ⟨h.length,true,rfl,Nat.le_refl _,hb1⟩⟩
  ·have w27:Wid 27 L:=hv.widL
   refine copy_zero hv (by omega) (by omega) fun H3 l3 p3 gB=>?_
   ((try simp (maxSteps:=3000000) (dsimp:=false) (disch:=first|omega|simp only[lnx];omega) only[↓ypre,ypost,↓reduceIte,reduceEqDiff,reduceAdd,reduceSub,reduceLeDiff,zz0,ynew]);try simp only[yback])
   exact hQ _ _ p3 ⟨w27,.inr ⟨_,false,rfl,by omega,gB⟩⟩
theorem i_IndexP {v:Value} {L:List (List Int)} {h:AH} {Q:Value→AH→Prop} (hv:Prods h v L) (hl:L.length≤1000) (hQ:∀ h',h<+:h'→Q (I64 (firstAt (fun n=>hasZ (L.getD n [])) L.length 0)) h') :
  WF S 101 [v,.func (.func 74) #[] #[]] h Q:=by
 refine WF_fn (fn:=c101) rfl rfl ?_
 dsimp only[c101,oO,oM,oS,oG,oK,oE,oL,oF,oX,oN]
 obtain⟨q,hq⟩:∃ q:Nat→Bool,q=fun n=>hasZ (L.getD n []):=⟨_,rfl⟩
 rw[←hq] at hQ
 ((try simp (maxSteps:=3000000) (dsimp:=false) (disch:=first|omega|simp only[lnx];omega) only[↓ypre,ypost,↓reduceIte,reduceEqDiff,reduceAdd,reduceSub,reduceLeDiff,zz0,ynew,hv.1.len]);try simp only[yback])
 refine WC_loop_inv (fun m f K1=>∃ (i:Nat),m=L.length-i∧i≤L.length∧f 0=v∧f 1=.func (.func 74) #[] #[]∧f 7=I64 L.length∧f 8=I64 i∧(h<+:K1)∧(firstAt q (L.length-i) i=firstAt q L.length 0)) ?_ (L.length-0) _ _ ⟨0,rfl,by omega,(by first|rfl|simp[upd_apply]),(by first|rfl|simp[upd_apply]),(by first|rfl|simp[upd_apply]),(by first|rfl|simp[upd_apply]),List.prefix_refl _,rfl⟩
 rintro m f K1 ⟨i,rfl,hi,f0,f1,f7,f8,pp,hj⟩
 by_cases hlt:(i:Int)<L.length
 ·have hi:i<L.length:=by omega
  obtain⟨nn,off,ix,rd⟩:=((hv.pre pp).1).at hi
  have by27:=hv.by hi
  have rd27:=rd.1 0 27 (by omega)
  rw[Nat.add_zero,List.drop_zero,List.take_of_length_le (by rw[by27.1];exact Nat.le_refl _)] at rd27
  have hstep:firstAt q (L.length-i) i=if q i=true then (i:Int) else firstAt q (L.length-(i+1)) (i+1):=by
   rw[show L.length-i=(L.length-(i+1))+1 by omega]
   rfl
  have hqi:q i=hasZ (L.getD i []):=by rw[hq]
  ((try simp (maxSteps:=3000000) (dsimp:=false) (disch:=first|omega|simp only[lnx];omega) only[↓ypre,ypost,↓reduceIte,reduceEqDiff,reduceAdd,reduceSub,reduceLeDiff,zz0,ynew,f0,f1,f7,f8,decide_eq_true hlt,ix,rd27,WK_func,args_nil]);try simp only[yback])
  refine i_hasZero by27 fun K2 p2=>?_
  rw[←hqi]
  cases h1:q i with
  | true=>
   ((try simp (maxSteps:=3000000) (dsimp:=false) (disch:=first|omega|simp only[lnx];omega) only[↓ypre,ypost,↓reduceIte,reduceEqDiff,reduceAdd,reduceSub,reduceLeDiff,zz0,ynew,f0,f1,f7,f8]);try simp only[yback])
   have:=hQ _ (pp.trans p2)
   rw[←hj,hstep,if_pos h1] at this
   exact this
  | false=>
   ((try simp (maxSteps:=3000000) (dsimp:=false) (disch:=first|omega|simp only[lnx];omega) only[↓ypre,ypost,↓reduceIte,reduceEqDiff,reduceAdd,reduceSub,reduceLeDiff,zz0,ynew,f0,f1,f7,f8,wrap64_in]);try simp only[yback])
   refine InvQ_go (L.length-(i+1)) (by omega) ⟨(i+1),rfl,by omega,(by first|rfl|exact f0|(simp only[upd_apply];rfl)|(show I64 _=_;congr 1;omega)),(by first|rfl|exact f1|(simp only[upd_apply];rfl)|(show I64 _=_;congr 1;omega)),(by first|rfl|exact f7|(simp only[upd_apply];rfl)|(show I64 _=_;congr 1;omega)),(by first|rfl|exact f8|(simp only[upd_apply];rfl)|(show I64 _=_;congr 1;omega)),(pp.trans p2),?_⟩
   rw[←hj,hstep,if_neg (by rw[h1];simp)]
 ·have ei:i=L.length:=by omega
  subst ei
  ((try simp (maxSteps:=3000000) (dsimp:=false) (disch:=first|omega|simp only[lnx];omega) only[↓ypre,ypost,↓reduceIte,reduceEqDiff,reduceAdd,reduceSub,reduceLeDiff,zz0,ynew,f0,f1,f7,f8,decide_eq_false hlt]);try simp only[yback])
  have:=hQ _ pp
  rw[←hj,Nat.sub_self] at this
  exact this
theorem clr_some {n off len sz:Nat} {z:List Value} {h:AH} {b:Blk} (hg:h.get n=some b) (hr:b.ro=false) (hl:0<len) (hb:off+(zrep len z).length≤b.c.length) :
  clrV sz z (.slice (some ⟨n,off,none⟩) len sz) h=some (undef,h.put n { b with c:=splice b.c off (zrep len z) }):=by
 simp only[clrV,xop,ev]
 rw[if_pos ⟨trivial,hl⟩,wr_of hg,if_pos ⟨hr,hb⟩]
theorem zrep_flat {z:List Int}:∀ {m:Nat},zrep m (cel .u8 z)=cel .u8 (List.replicate m z).flatten
 | 0=>rfl
 | m+1=>by
  rw[List.replicate_succ,List.flatten_cons,←cel_app,←zrep_flat]
  rfl
theorem getD_byL {L:List (List Int)} {i:Nat} (hw:Wid 27 L) (hb:Byt 27 L) (hi:i<L.length):By 27 (L.getD i []):=⟨hw _ (by rw[List.getD_eq_getElem?_getD,List.getElem?_eq_getElem hi];exact List.getElem_mem hi),fun j hj=>hb i hi j hj⟩
theorem firstAt_lt {q:Nat→Bool} {r:Nat}:∀ {m i:Nat},firstAt q m i=r→∀ j,i≤j→j<r→q j=false
 | 0,i,h,j,_,_=>by simp[firstAt] at h
 | m+1,i,h,j,h1,h2=>by
  unfold firstAt at h
  by_cases e:q i=true
  ·rw[if_pos e] at h
   omega
  ·rw[if_neg e] at h
   by_cases e2:j=i
   ·rw[e2]
    simpa using e
   ·exact firstAt_lt h j (by omega) h2
theorem flat_tk {w:Nat}:∀ {L:List (List Int)} {i:Nat},Wid w L→i≤L.length→L.flatten.take (i*w)=(L.take i).flatten
 | [],i,_,h=>by simp
 | r::L,0,_,_=>by simp
 | r::L,i+1,hw,h=>by
  have hr:=hw r (by simp)
  rw[List.take_succ_cons,List.flatten_cons,List.flatten_cons,Nat.succ_mul,List.take_append,List.take_of_length_le (by omega),show i*w+w-r.length=i*w by omega,flat_tk (fun q hq=>hw q (by simp[hq])) (by simpa using h)]
theorem told_all {L:List (List Int)} (h:∀ q∈L,hasZ q=false):toldL L=L:=by
 unfold toldL
 rw[List.filter_eq_self]
 intro q hq
 rw[h q hq]
 rfl
theorem zeros27':([.int .u8 0,.int .u8 0,.int .u8 0,.int .u8 0,.int .u8 0,.int .u8 0,.int .u8 0,.int .u8 0,.int .u8 0,.int .u8 0,.int .u8 0,.int .u8 0,.int .u8 0,.int .u8 0,.int .u8 0,.int .u8 0,.int .u8 0,.int .u8 0,.int .u8 0,.int .u8 0,.int .u8 0,.int .u8 0,.int .u8 0,.int .u8 0,.int .u8 0,.int .u8 0,.int .u8 0]:List Value)=cel .u8 (List.replicate 27 0):=rfl
theorem i_DeleteP {n:Nat} {L:List (List Int)} {full:Bool} {h:AH} {Q:Value→AH→Prop} (hg:h.get n=some ⟨cel .u8 L.flatten,53,false,full⟩) (hw:Wid 27 L) (hb:Byt 27 L) (hl:L.length≤1000)
  (hQ:∀ R h',Kp n h h'→Wid 27 R→h'.get n=some ⟨cel .u8 (toldL L++R).flatten,53,false,full⟩→Q (.slice (some ⟨n,0,none⟩) (toldL L).length 27) h') :
  WF S 83 [.slice (some ⟨n,0,none⟩) L.length 27,.func (.func 74) #[] #[]] h Q:=by
 refine WF_fn (fn:=c83) rfl rfl ?_
 dsimp only[c83,oO,oM,oS,oG,oK,oE,oL,oF,oX,oN]
 have pr:Prods h (.slice (some ⟨n,0,none⟩) L.length 27) L:=⟨(blk_kN (lo:=0) hg hw (Nat.zero_le _)).now,hb⟩
 ((try simp (maxSteps:=3000000) (dsimp:=false) (disch:=first|omega|simp only[lnx];omega) only[↓ypre,ypost,↓reduceIte,reduceEqDiff,reduceAdd,reduceSub,reduceLeDiff,zz0,ynew]);try simp only[yback])
 refine i_IndexP pr hl fun H1 p1=>?_
 rcases firstAt_spec (q:=fun n=>hasZ (L.getD n [])) (m:=L.length) (i:=0) with⟨e1,e2⟩|⟨r,e1,e2,e3,e4⟩
 ·rw[e1]
  ((try simp (maxSteps:=3000000) (dsimp:=false) (disch:=first|omega|simp only[lnx];omega) only[↓ypre,ypost,↓reduceIte,reduceEqDiff,reduceAdd,reduceSub,reduceLeDiff,zz0,ynew,show decide ((-1:Int) = -1)=true from rfl]);try simp only[yback])
  have et:toldL L=L:=told_all fun q hq=>by
   obtain⟨j,hj,rfl⟩:=List.getElem_of_mem hq
   have:=e2 j (Nat.zero_le _) (by omega)
   rwa [List.getD_eq_getElem?_getD,List.getElem?_eq_getElem hj,Option.getD_some] at this
  have:=hQ [] H1 (Kp.of p1) (fun q hq=>by simp at hq) (by rw[et,List.append_nil];exact pre_get p1 hg)
  rw[et] at this
  exact this
 ·have e5:=firstAt_lt e1
  rw[e1]
  have t0:L.take r=toldL (L.take (r+1)):=by
   rw[take_next (d:=[]) (show r<L.length by omega),toldL_snoc,if_pos e4,told_all]
   intro q hq
   obtain⟨j,hj,rfl⟩:=List.getElem_of_mem hq
   rw[List.length_take] at hj
   have:=e5 j (Nat.zero_le _) (by omega)
   rw[List.getD_eq_getElem?_getD,List.getElem?_eq_getElem (by omega),Option.getD_some] at this
   rwa [List.getElem_take]
  ((try simp (maxSteps:=3000000) (dsimp:=false) (disch:=first|omega|simp only[lnx];omega) only[↓ypre,ypost,↓reduceIte,reduceEqDiff,reduceAdd,reduceSub,reduceLeDiff,zz0,ynew,decide_eq_false (show ¬ (r:Int) = -1 by omega),wrap64_in]);try simp only[yback])
  have q1:(r:Int)+1=((r+1:Nat):Int):=by push_cast;rfl
  rw[q1]
  refine WC_loop_inv (fun m f K1=>∃ (j:Nat) (i:Nat) (C:List (List Int)),m=L.length-j∧j≤L.length∧f 0=.slice (some ⟨n,0,none⟩) L.length 27∧f 1=.func (.func 74) #[] #[]∧f 5=I64 i∧f 6=I64 j∧(Kp n h K1)∧(K1.get n=some ⟨cel .u8 C.flatten,53,false,full⟩)∧(Wid 27 C)∧(C.length=L.length)∧(i<j)∧(C.take i=toldL (L.take j))∧(C.drop j=L.drop j)) ?_ (L.length-(r+1)) _ _ ⟨(r+1),r,L,rfl,by omega,(by first|rfl|simp[upd_apply]),(by first|rfl|simp[upd_apply]),(by first|rfl|simp[upd_apply]),(by first|rfl|simp[upd_apply]),Kp.of p1,pre_get p1 hg,hw,rfl,(by omega),t0,rfl⟩
  rintro m f K1 ⟨j,i,C,rfl,hj,f0,f1,f5,f6,kk,g,wC,lC,ij,tk,dr⟩
  by_cases hlt:(j:Int)<L.length
  ·have hj:j<L.length:=by omega
   have el:Els .u8 27 K1 (.slice (some ⟨n,0,none⟩) C.length 27) C:=(blk_kN (lo:=0) g wC (Nat.zero_le _)).now
   rw[lC] at el
   have ej:C.getD j []=L.getD j []:=by
    have:=congrArg (fun l=>l.getD 0 []) dr
    simpa [List.getD_eq_getElem?_getD] using this
   obtain⟨nn,off,ix,rd⟩:=el.at (i:=j) (by omega)
   have by27:By 27 (L.getD j []):=getD_byL hw hb hj
   rw[ej] at rd
   have tn:L.take (j+1)=L.take j++[L.getD j []]:=take_next (d:=[]) hj
   have dn:C.drop (j+1)=L.drop (j+1):=by
    have:=congrArg (fun l=>l.drop 1) dr
    simpa [List.drop_drop,Nat.add_comm] using this
   generalize L.getD j []=q at *
   have q27:=by27.1
   have r27:K1.rdn nn off 27=some (cel .u8 q):=by
    have:=rd.1 0 27 (by omega)
    rwa [Nat.add_zero,List.drop_zero,List.take_of_length_le (by omega)] at this
   have t27:(cel .u8 q).take 27=cel .u8 q:=List.take_of_length_le (by rw[cel_len,q27];exact Nat.le_refl _)
   ((try simp (maxSteps:=3000000) (dsimp:=false) (disch:=first|omega|simp only[lnx];omega) only[↓ypre,ypost,↓reduceIte,reduceEqDiff,reduceAdd,reduceSub,reduceLeDiff,zz0,ynew,f0,f1,f5,f6,decide_eq_true hlt,ix,r27,cel_all,cel_len,q27,sp27z q27,zrep27,splice_27 q27]);try simp only[yback])
   generalize hK2:AH.new K1 _=K2
   obtain⟨hb7,p7,n7⟩:=new_facts hK2
   ((try simp (maxSteps:=3000000) (dsimp:=false) (disch:=first|omega|simp only[lnx];omega) only[↓ypre,ypost,↓reduceIte,reduceEqDiff,reduceAdd,reduceSub,reduceLeDiff,zz0,ynew,f0,f1,f5,f6,rdn_of hb7,cel_len,q27,t27,WK_func,args_nil]);try simp only[yback])
   refine i_hasZero by27 fun K3 p3=>?_
   have P3:=p7.trans p3
   have g3:=pre_get P3 g
   have k3:=kk.trans (Kp.of P3)
   cases hz:hasZ q with
   | true=>
    ((try simp (maxSteps:=3000000) (dsimp:=false) (disch:=first|omega|simp only[lnx];omega) only[↓ypre,ypost,↓reduceIte,reduceEqDiff,reduceAdd,reduceSub,reduceLeDiff,zz0,ynew,f0,f1,f5,f6,wrap64_in]);try simp only[yback])
    refine InvQ_go (L.length-(j+1)) (by omega) ⟨(j+1),i,C,rfl,by omega,(by first|rfl|exact f0|(simp only[upd_apply];rfl)|(show I64 _=_;congr 1;omega)),(by first|rfl|exact f1|(simp only[upd_apply];rfl)|(show I64 _=_;congr 1;omega)),(by first|rfl|exact f5|(simp only[upd_apply];rfl)|(show I64 _=_;congr 1;omega)),(by first|rfl|exact f6|(simp only[upd_apply];rfl)|(show I64 _=_;congr 1;omega)),k3,g3,wC,lC,(by omega),(by rw[tn,toldL_snoc,if_pos hz];exact tk),dn⟩
   | false=>
    have b7:=pre_get p3 hb7
    have ie:ixsV 27 (.slice (some ⟨n,0,none⟩) L.length 27) (I64 i)=some (.pointer (some ⟨n,i*27,none⟩)):=by
     rw[ixsV_some,if_pos (by omega),Int.toNat_natCast,Nat.zero_add]
    have fl:=flat_len wC
    have sf:=splice_flat (k:=.u8) q27 wC (j:=i) (by omega)
    have q2:(i:Int)+1=((i+1:Nat):Int):=by push_cast;rfl
    have wI:IntKind.i64.wrap ((i:Int)+1)=((i+1:Nat):Int):=by rw[wrap64_in (by omega) (by omega),q2]
    ((try simp (maxSteps:=3000000) (dsimp:=false) (disch:=first|omega|simp only[lnx];omega) only[↓ypre,ypost,↓reduceIte,reduceEqDiff,reduceAdd,reduceSub,reduceLeDiff,zz0,ynew,f0,f1,f5,f6,rdn_of b7,cel_len,q27,t27,ie,wr_of g3,sf,fl,cel_all]);try simp only[yback])
    refine⟨by omega,?_⟩
    ((try simp (maxSteps:=3000000) (dsimp:=false) (disch:=first|omega|simp only[lnx];omega) only[↓ypre,ypost,↓reduceIte,reduceEqDiff,reduceAdd,reduceSub,reduceLeDiff,zz0,ynew,f0,f1,f5,f6,wI,wrap64_in]);try simp only[yback])
    refine InvQ_go (L.length-(j+1)) (by omega) ⟨(j+1),(i+1),(C.set i q),rfl,by omega,(by first|rfl|exact f0|(simp only[upd_apply];rfl)|(show I64 _=_;congr 1;omega)),(by first|rfl|exact f1|(simp only[upd_apply];rfl)|(show I64 _=_;congr 1;omega)),(by first|rfl|exact f5|(simp only[upd_apply];rfl)|(show I64 _=_;congr 1;omega)),(by first|rfl|exact f6|(simp only[upd_apply];rfl)|(show I64 _=_;congr 1;omega)),k3.put,(get_put_same (get_lt g3)),(wid_set wC q27),(by rw[List.length_set];exact lC),(by omega),(by rw[tn,toldL_snoc,if_neg (by rw[hz];decide),←tk,List.take_succ_eq_append_getElem (by rw[List.length_set];omega),List.take_set_of_le (Nat.le_refl _),List.getElem_set_self]),(by rw[List.drop_set_of_lt (by omega)];exact dn)⟩
  ·have ej:j=L.length:=by omega
   subst ej
   rw[List.take_length] at tk
   have s1:slcV 27 (.slice (some ⟨n,0,none⟩) L.length 27) (some (I64 i)) none=some (.slice (some ⟨n,i*27,none⟩) (L.length-i) 27):=by
    simp only[slcV,boundV]
    rw[if_pos ⟨trivial,by omega,by omega,by omega⟩,Int.toNat_natCast,Nat.zero_add,show ((L.length:Int)-(i:Int)).toNat=L.length-i by omega]
   have s2:slcV 27 (.slice (some ⟨n,0,none⟩) L.length 27) none (some (I64 i))=some (.slice (some ⟨n,0,none⟩) i 27):=by
    simp only[slcV,boundV]
    by_cases hi:0<i
    ·rw[if_pos ⟨trivial,by omega,by omega,by omega⟩]
     simp
    ·rw[if_neg (fun h=>by have:=h.2.2.1;omega),if_pos ⟨trivial,trivial,trivial,by omega⟩]
     have:i=0:=by omega
     rw[this]
   have fl:=flat_len wC
   rw[lC] at fl
   have zl:(zrep (L.length-i) (cel .u8 (List.replicate 27 0))).length=(L.length-i)*27:=by
    rw[zrep_flat,cel_len,flat_len (w:=27) (fun q hq=>by rw[List.eq_of_mem_replicate hq,List.length_replicate]),List.length_replicate]
   have mm:i*27+(L.length-i)*27=L.length*27:=by rw[←Nat.add_mul];congr 1;omega
   have sc:splice (cel .u8 C.flatten) (i*27) (zrep (L.length-i) (cel .u8 (List.replicate 27 0)))=cel .u8 (toldL L++List.replicate (L.length-i) (List.replicate 27 0)).flatten:=by
    unfold splice
    rw[List.drop_of_length_le (by rw[cel_len,zl,fl];omega),List.append_nil,cel_take,flat_tk wC (by omega),tk,zrep_flat,cel_app,List.flatten_append]
   have e1:=clr_some (sz:=27) (z:=cel .u8 (List.replicate 27 0)) (off:=i*27) (len:=L.length-i) g rfl (by omega) (by rw[zl];show _≤(cel .u8 C.flatten).length;rw[cel_len,fl];omega)
   rw[sc] at e1
   have li:(toldL L).length=i:=by rw[←tk,List.length_take];omega
   ((try simp (maxSteps:=3000000) (dsimp:=false) (disch:=first|omega|simp only[lnx];omega) only[↓ypre,ypost,↓reduceIte,reduceEqDiff,reduceAdd,reduceSub,reduceLeDiff,zz0,ynew,f0,f1,f5,f6,decide_eq_false hlt,omapF_none,omapF_some,s1,zeros27',e1,s2]);try simp only[yback])
   have:=hQ (List.replicate (L.length-i) (List.replicate 27 0)) _ (kk.put) (fun q hq=>by rw[List.eq_of_mem_replicate hq,List.length_replicate]) (get_put_same (get_lt g))
   rw[li] at this
   exact this
theorem i_keptP {n:Nat} {L:List (List Int)} {full:Bool} {h:AH} {Q:Value→AH→Prop} (hg:h.get n=some ⟨cel .u8 L.flatten,53,false,full⟩) (hw:Wid 27 L) (hb:Byt 27 L) (hl:L.length≤1000)
  (hQ:∀ R h',Kp n h h'→Wid 27 R→h'.get n=some ⟨cel .u8 (toldL L++R).flatten,53,false,full⟩→Q (.slice (some ⟨n,0,none⟩) (toldL L).length 27) h') :
  WF S 53 [.slice (some ⟨n,0,none⟩) L.length 27] h Q:=by
 refine WF_fn (fn:=c53) rfl rfl ?_
 dsimp only[c53,oO,oM,oS,oG,oK,oE,oL,oF,oX,oN]
 ((try simp (maxSteps:=3000000) (dsimp:=false) (disch:=first|omega|simp only[lnx];omega) only[↓ypre,ypost,↓reduceIte,reduceEqDiff,reduceAdd,reduceSub,reduceLeDiff,zz0,ynew]);try simp only[yback])
 refine i_DeleteP hg hw hb hl fun R h' k w g=>?_
 ((try simp (maxSteps:=3000000) (dsimp:=false) (disch:=first|omega|simp only[lnx];omega) only[↓ypre,ypost,↓reduceIte,reduceEqDiff,reduceAdd,reduceSub,reduceLeDiff,zz0,ynew]);try simp only[yback])
 exact hQ R h' k w g
end Go.Proofs.YtigpfopobpoamaaGreat.X

set_option linter.unusedVariables false
set_option linter.unusedSimpArgs false
set_option maxRecDepth 20000
set_option maxHeartbeats 4000000
namespace Go.Proofs.YtigpfopobpoamaaGreat.X
open Go Go.RowKit
theorem ixa_f {n g:Nat} (hg:g<3):ixaV 3 9 (.pointer (some ⟨n,0,none⟩)) (I64 g)=some (.pointer (some ⟨n,g*9,none⟩)):=by
 rw[ixaV_ptr ⟨by omega,by omega⟩,Int.toNat_natCast,Nat.zero_add]
theorem addF_cong {p s t:Int} {a b:List Int} (hp:2≤p) (h:Cg p s t):addF p a b s 9=addF p a b t 9:=by
 unfold addF
 congr 1
 exact gen_congr fun j _=>dvd_eq ((md_cg.trans (Cg.rfl'.add (h.mul .rfl'))).trans md_cg.symm) (md_in hp) (md_in hp)
theorem rd_seg {h:AH} {n f:Nat} {q:List Int} {e:TypeId} {ro full:Bool} (g:h.get n=some ⟨cel .u8 q,e,ro,full⟩) (hq:q.length=27) (hf:f<3):h.rdn n (f*9) 9=some (cel .u8 (seg q f)):=by
 rw[rdn_of g]
 simp only[cel_len,hq]
 rw[if_pos (by omega),cel_seg]
theorem wr_seg {h:AH} {n f:Nat} {q r:List Int} {e:TypeId} {full:Bool} (g:h.get n=some ⟨cel .u8 q,e,false,full⟩) (hq:q.length=27) (hr:r.length=9) (hf:f<3):h.wr n (f*9) (cel .u8 r)=some (h.put n ⟨cel .u8 (wth q f r),e,false,full⟩):=by
 rw[wr_of g]
 simp only[cel_len,hq,hr]
 rw[if_pos ⟨trivial,by omega⟩,splice_wth hr]
end Go.Proofs.YtigpfopobpoamaaGreat.X

set_option linter.unusedVariables false
set_option linter.unusedSimpArgs false
set_option maxRecDepth 20000
set_option maxHeartbeats 4000000
namespace Go.Proofs.YtigpfopobpoamaaGreat.X
open Go Go.RowKit
open Nat (reduceEqDiff reduceAdd reduceSub reduceLeDiff)
theorem i_isIndex {x:Sch} {v w:Value} {ns:List Int} {h:AH} {Q:Value→AH→Prop} (hv:Prods h v x.ps) (hl:SmallX x.ps) (hw:Ints h w ns) (hn:ns.length≤10) (hQ:∀ h',h<+:h'→Q (.bool (ns.all (numOk x.ps.length))) h'):WF S 41 [schV x v,w] h Q:=by
 refine WF_fn (fn:=c41) rfl rfl ?_
 dsimp only[c41,oO,oM,oS,oG,oK,oE,oL,oF,oX,oN]
 have v1:isOne v=true:=hv.one
 unfold SmallX at hl
 have wl:=hw.len
 ((try simp (maxSteps:=3000000) (dsimp:=false) (disch:=first|omega|simp only[lnx];omega) only[↓ypre,ypost,↓reduceIte,reduceEqDiff,reduceAdd,reduceSub,reduceLeDiff,zz0,ynew,schV,v1,wl]);try simp only[yback])
 generalize hH1:AH.new h _=H1
 obtain⟨hb1,p1,n1⟩:=new_facts hH1
 have vl:=hv.1.len
 refine WC_loop_inv (fun m f K1=>∃ (i:Nat),m=ns.length-i∧i≤ns.length∧f 2=.pointer (some ⟨h.length,0,none⟩)∧f 7=w∧f 8=I64 ns.length∧f 9=I64 i∧K1=H1∧((∀ j,j<i→numOk x.ps.length (ns.getD j 0)=true))) ?_ (ns.length-0) _ _ ⟨0,rfl,by omega,(by first|rfl|simp[upd_apply]),(by first|rfl|simp[upd_apply]),(by first|rfl|simp[upd_apply]),(by first|rfl|simp[upd_apply]),rfl,(fun _ h=>absurd h (Nat.not_lt_zero _))⟩
 rintro m f K1 ⟨i,rfl,hi,f2,f7,f8,f9,rfl,al⟩
 by_cases hlt:(i:Int)<ns.length
 ·have hi:i<ns.length:=by omega
  obtain⟨nn,off,ix,rd⟩:=(hw.pre p1).cell hi
  have ix:=ix .i64
  have no:numOk x.ps.length (ns.getD i 0)=false→ns.all (numOk x.ps.length)=false:=fun c=>by
   rw[List.all_eq_false]
   refine⟨ns[i],List.getElem_mem hi,?_⟩
   rw[List.getD_eq_getElem?_getD,List.getElem?_eq_getElem hi,Option.getD_some] at c
   rw[c]
   decide
  by_cases c1:ns.getD i 0<0
  ·((try simp (maxSteps:=3000000) (dsimp:=false) (disch:=first|omega|simp only[lnx];omega) only[↓ypre,ypost,↓reduceIte,reduceEqDiff,reduceAdd,reduceSub,reduceLeDiff,zz0,ynew,f2,f7,f8,f9,decide_eq_true hlt,ix,rd,decide_eq_true c1,yWG_un]);try simp only[yback])
   rw[no (by unfold numOk;exact decide_eq_false (by omega))] at hQ
   exact hQ _ p1
  ·by_cases c2:ns.getD i 0≥(x.ps.length:Int)
   ·((try simp (maxSteps:=3000000) (dsimp:=false) (disch:=first|omega|simp only[lnx];omega) only[↓ypre,ypost,↓reduceIte,reduceEqDiff,reduceAdd,reduceSub,reduceLeDiff,zz0,ynew,f2,f7,f8,f9,decide_eq_true hlt,ix,rd,decide_eq_false c1,rd1_of hb1,vl,decide_eq_true c2]);try simp only[yback])
    rw[no (by unfold numOk;exact decide_eq_false (by omega))] at hQ
    exact hQ _ p1
   ·((try simp (maxSteps:=3000000) (dsimp:=false) (disch:=first|omega|simp only[lnx];omega) only[↓ypre,ypost,↓reduceIte,reduceEqDiff,reduceAdd,reduceSub,reduceLeDiff,zz0,ynew,f2,f7,f8,f9,decide_eq_true hlt,ix,rd,decide_eq_false c1,rd1_of hb1,vl,decide_eq_false c2,wrap64_in]);try simp only[yback])
    refine InvQ_go (ns.length-(i+1)) (by omega) ⟨(i+1),rfl,by omega,(by first|rfl|exact f2|(simp only[upd_apply];rfl)|(show I64 _=_;congr 1;omega)),(by first|rfl|exact f7|(simp only[upd_apply];rfl)|(show I64 _=_;congr 1;omega)),(by first|rfl|exact f8|(simp only[upd_apply];rfl)|(show I64 _=_;congr 1;omega)),(by first|rfl|exact f9|(simp only[upd_apply];rfl)|(show I64 _=_;congr 1;omega)),rfl,(fun j hj=>by rcases Nat.lt_succ_iff_lt_or_eq.1 hj with h1|rfl;exact al j h1;unfold numOk;exact decide_eq_true (by omega))⟩
 ·((try simp (maxSteps:=3000000) (dsimp:=false) (disch:=first|omega|simp only[lnx];omega) only[↓ypre,ypost,↓reduceIte,reduceEqDiff,reduceAdd,reduceSub,reduceLeDiff,zz0,ynew,f2,f7,f8,f9,decide_eq_false hlt]);try simp only[yback])
  have e:ns.all (numOk x.ps.length)=true:=by
   rw[List.all_eq_true]
   intro a ha
   obtain⟨j,hj,rfl⟩:=List.getElem_of_mem ha
   have:=al j (by omega)
   rwa [List.getD_eq_getElem?_getD,List.getElem?_eq_getElem hj,Option.getD_some] at this
  rw[e] at hQ
  exact hQ _ p1
theorem eqaV_ceT {n:Nat} {k:IntKind} {q r:List Int} (hq:q.length=n) (hr:r.length=n) (h0:0<n):eqaV true n (.agg (cel k q).toArray) (.agg (cel k r).toArray)=some (.bool !(q==r)):=by
 have e1:=intsOf_cel (k:=k) (q:=q) (by intro e;rw[e] at hq;simp at hq;omega)
 have e2:=intsOf_cel (k:=k) (q:=r) (by intro e;rw[e] at hr;simp at hr;omega)
 simp only[eqaV,e1,e2]
 rw[if_pos ⟨trivial,hq,hr⟩]
 cases (q==r)<;>rfl
end Go.Proofs.YtigpfopobpoamaaGreat.X

set_option linter.unusedVariables false
set_option linter.unusedSimpArgs false
set_option maxRecDepth 20000
set_option maxHeartbeats 4000000
namespace Go.Proofs.YtigpfopobpoamaaGreat.X
open Go Go.RowKit
def KX (lo bx:Nat) (h:AH) (p:AH→Prop):Prop:=∀ h':AH,h.length≤h'.length→(∀ m,lo≤m→m<h.length→m≠bx→h'.get m=h.get m)→p h'
section
variable {lo lo' bx n:Nat} {h h':AH} {p:AH→Prop} {b:Blk}
theorem KX.now (k:KX lo bx h p):p h:=k h (Nat.le_refl _) fun _ _ _ _=>rfl
theorem KX.pre (k:KX lo bx h p) (d:h<+:h'):KX lo bx h' p:=fun h2 l2 g2=>k h2 (Nat.le_trans (pre_len d) l2) fun m h1 h3 h4=>(g2 m h1 (Nat.lt_of_lt_of_le h3 (pre_len d)) h4).trans (prefix_get d h3)
theorem KX.put (k:KX lo bx h p) (hm:n<lo∨n=bx):KX lo bx (h.put n b) p:=fun h2 l2 g2=>k h2 (by rw[len_put] at l2;exact l2) fun j h1 h3 h4=>(g2 j h1 (by rw[len_put];exact h3) h4).trans (get_put_ne (by omega))
theorem KX.kN (k:KX lo bx h p):KN lo h p:=fun h2 l2 g2=>k h2 l2 fun m h1 h3 _=>g2 m h1 h3
theorem KX.new (k:KN lo h p) (e:h.length=bx):KX lo bx (h.new b) p:=fun h2 l2 g2=>by
 rw[len_new] at l2
 refine k h2 (by omega) fun m h1 h3=>?_
 exact (g2 m h1 (by rw[len_new];omega) (by omega)).trans (prefix_get (pre_new (List.prefix_refl _)) h3)
theorem KX.of (k:KN lo' h p) (h1:bx<lo') (h2:lo≤lo'):KX lo bx h p:=fun h3 l2 g2=>k h3 l2 fun m h4 h5=>g2 m (by omega) h5 (by omega)
end
theorem GX.of' {x:Sch} {h:AH} {v:Value} (hv:Prods h v x.ps) (hx:isX x=true):GX x:=⟨hx,hv.1.widL,hv.2⟩
end Go.Proofs.YtigpfopobpoamaaGreat.X
