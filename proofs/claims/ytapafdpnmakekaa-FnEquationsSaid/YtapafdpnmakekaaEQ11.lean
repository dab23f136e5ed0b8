/- Texts of one claim, put together by merge.py: XDJ, XV5, XN4, XDD, XDE, XR3, XF36, XM1, XR4, XDH, XDK, XDL, XDM, XW1, XM2, XM3, XP9, XM6, XDN, XDO, XDR. -/
import Derived.Test.YtapafdpnmakekaaEQ10
import Derived.Test.YtapafdpnmakekaaEQ8
import Derived.Test.YtapafdpnmakekaaEQ9
import Derived.Test.YtapafdpnmakekaaEQ7
set_option linter.unusedVariables false
set_option linter.unusedSimpArgs false
set_option maxRecDepth 20000
set_option maxHeartbeats 4000000
namespace Go.Proofs.Ytapafdpnmakekaa.X
open Go Go.RowKit
open Nat (reduceEqDiff reduceAdd reduceSub reduceLeDiff)
theorem RowD.moved {lo kb:Nat} {H H':AH} {fu:Bool} {rows:List (List Int)} {B:Nat→Nat} {cs:List Value} (r:RowD lo H kb fu rows B cs) (k:∀ m,lo≤m→m<H.length→H'.get m=H.get m):RowD lo H' kb fu rows B cs:=
 ⟨by rw[k kb r.low (get_lt r.get)];exact r.get,r.len,r.low,fun i hi=>by
  obtain⟨h1,h2,⟨f,h3⟩,h4⟩:=r.row i hi
  exact⟨h1,h2,⟨f,by unfold Lst;rw[k (B i) h1 (get_lt h3)];exact h3⟩,h4⟩,r.inc⟩
theorem RowD.kN {lo kb:Nat} {H:AH} {fu:Bool} {rows:List (List Int)} {B:Nat→Nat} {cs:List Value} (r:RowD lo H kb fu rows B cs):KN lo H fun h'=>Rows h' (sl kb rows.length) rows:=
 fun h' l g=>(r.moved g).rows
theorem RowD.vals {lo kb:Nat} {H:AH} {fu:Bool} {rows:List (List Int)} {B:Nat→Nat} {cs:List Value} (r:RowD lo H kb fu rows B cs):Vals H (sl kb rows.length) cs:=
 .inr ⟨kb,0,_,by rw[r.len];rfl,r.get,by simp,fun i hi=>by show cs[0+i]?=_;rw[Nat.zero_add];exact getq hi⟩
theorem RowD.slc {lo kb:Nat} {H:AH} {fu:Bool} {rows:List (List Int)} {B:Nat→Nat} {cs:List Value} (r:RowD lo H kb fu rows B cs) (h0:0<rows.length) :
  ∃ v',X.slcV 1 (sl kb rows.length) (some (I64 1)) none=some v'∧KN lo H fun h'=>Rows h' v' (rows.drop 1):=by
 have hl:=r.len
 obtain⟨v',e,-⟩:=r.vals.slcV_lo (k1:=.i64) (l:=1) (by omega)
 refine⟨v',e,fun h' l g=>?_⟩
 have r':=r.moved g
 obtain⟨v'',e',hv⟩:=r'.vals.slcV_lo (k1:=.i64) (l:=1) (by omega)
 have:v'=v'':=Option.some.inj (e.symm.trans e')
 subst this
 refine⟨cs.drop 1,hv,by simp[hl],fun i hi=>?_⟩
 simp only[List.length_drop] at hi
 obtain⟨h1,h2,⟨f,h3⟩,h4⟩:=r'.row (1+i) (by omega)
 have e1:(cs.drop 1).getD i undef=cs.getD (1+i) undef:=by rw[List.getD_eq_getElem?_getD,List.getElem?_drop,←List.getD_eq_getElem?_getD]
 have e2:(rows.drop 1).getD i []=rows.getD (1+i) []:=by rw[List.getD_eq_getElem?_getD,List.getElem?_drop,←List.getD_eq_getElem?_getD]
 rw[e1,e2,h2]
 exact h3.ints
theorem RowD.set0 {lo kb:Nat} {H:AH} {fu f:Bool} {rows:List (List Int)} {B:Nat→Nat} {cs:List Value} {l:List Int} (r:RowD lo H kb fu rows B cs) (h0:0<rows.length) (hl:l.length=(rows.getD 0 []).length) :
  RowD lo (H.put (B 0) ⟨l.map (Value.int .i64),2,false,f⟩) kb fu (rows.set 0 l) B cs:=by
 obtain⟨a1,a2,⟨g,a3⟩,a4⟩:=r.row 0 h0
 refine⟨by rw[get_put_ne a4];exact r.get,by rw[List.length_set];exact r.len,r.low,fun i hi=>?_,fun i j hij hj=>r.inc i j hij (by rw[List.length_set] at hj;exact hj)⟩
 rw[List.length_set] at hi
 obtain⟨h1,h2,⟨f',h3⟩,h4⟩:=r.row i hi
 by_cases h:i=0
 ·subst h
  have e2:(rows.set 0 l).getD 0 []=l:=by
   rw[List.getD_eq_getElem?_getD,List.getElem?_set_self (by omega)]
   rfl
  rw[e2,hl]
  exact⟨h1,h2,⟨f,get_put_same (get_lt a3)⟩,h4⟩
 ·have e2:(rows.set 0 l).getD i []=rows.getD i []:=by
   rw[List.getD_eq_getElem?_getD,List.getElem?_set_ne (by omega),←List.getD_eq_getElem?_getD]
  have:=r.inc 0 i (by omega) hi
  rw[e2]
  exact⟨h1,h2,⟨f',by unfold Lst;rw[get_put_ne (by omega)];exact h3⟩,h4⟩
theorem lenV_sl {n I:Nat}:lenV (sl n I)=some (.int .i64 I):=rfl
structure MatD (lo:Nat) (h:AH) (v:Value) (rows:List (List Int)):Prop where
 kn:KN lo h fun h'=>Rows h' v rows
 len:rows.length≤10
 row:∀ i,i<rows.length→(rows.getD i []).length≤100
theorem s_l01Rows {h0 h:AH} {n:Nat} {p n0 m0:Int} {Q:Value→AH→Prop} (s:Src h0 h n) (hn:-1000≤n0∧n0≤1000)
  (hQ:∀ (rows:List (List Int)) (v:Value) (h':AH),Kp n h h'→Src h0 h' n→MatD h.length h' v rows→Q v h'):WF S 213 [srcP n,I64 p,I64 n0,I64 m0] h Q:=by
 refine WF_fn (fn:=c213) rfl rfl ?_
 dsimp only[c213,oO,oM,oS,oG,oK,oE,oL,oF,oX,oN]
 have lt:=s.lt
 have l0:=pre_len s.p
 ((try simp (maxSteps:=3000000) (dsimp:=false) (disch:=first|omega|simp only[lnx];omega) only[↓ypre,ypost,↓reduceIte,reduceEqDiff,reduceAdd,reduceSub,reduceLeDiff,zz0,ynew,fillL,zrep]);try simp only[yback])
 generalize hH1:AH.new h _=H1
 obtain⟨hb1,p1,n1⟩:=new_facts hH1
 have s1:=s.kp p1
 refine WC_loop_inv (fun m f K1=>∃ (i:Nat) (rows:List (List Int)) (kb:Nat) (fu:Bool) (B:(Nat→Nat)) (cs:List Value),m=4-i∧i≤4∧f 0=srcP n∧f 1=I64 p∧f 2=I64 (n0-i)∧f 3=I64 m0∧f 9=sl kb rows.length∧(Kp n h K1)∧(Src h0 K1 n)∧(rows.length=i)∧(h.length≤kb)∧(RowD h.length K1 kb fu rows B cs)∧(∀ j,j<rows.length→B j<K1.length)∧(∀ j,j<rows.length→(rows.getD j []).length≤4)) ?_ (4-0) _ _ ⟨0,[],h.length,true,(fun _=>0),[],rfl,by omega,(by first|rfl|simp[upd_apply]),(by first|rfl|simp[upd_apply]),(by first|rfl|simp[upd_apply]),(by first|rfl|simp[upd_apply]),(by first|rfl|simp[upd_apply]),Kp.of p1,s1,rfl,Nat.le_refl _,⟨hb1,rfl,Nat.le_refl _,fun i hi=>by simp at hi,fun i j _ hj=>by simp at hj⟩,fun j hj=>by simp at hj,fun j hj=>by simp at hj⟩
 rintro m f K1 ⟨i,rows,kb,fu,B,cs,rfl,hi,f0,f1,f2,f3,f9,kk,ss,li,hq,r,hB,hw⟩
 by_cases hlt:n0-i>0∧i<4
 ·obtain⟨hlt1,hlt2⟩:=hlt
  ((try simp (maxSteps:=3000000) (dsimp:=false) (disch:=first|omega|simp only[lnx];omega) only[↓ypre,ypost,↓reduceIte,reduceEqDiff,reduceAdd,reduceSub,reduceLeDiff,zz0,ynew,f0,f1,f2,f3,f9,decide_eq_true hlt1,lenV_sl,decide_eq_true (show (rows.length:Int)<4 by omega),fillL,zrep]);try simp only[yback])
  generalize hH2:AH.new K1 _=H2
  obtain⟨hb2,p2,n2⟩:=new_facts hH2
  refine WC_loop_inv (fun m f K2=>∃ (k:Nat) (l:List Int) (k2:Nat) (f2:Bool),m=4-k∧k≤4∧f 0=srcP n∧f 1=I64 p∧f 2=I64 (n0-i)∧f 3=I64 m0∧f 9=sl kb rows.length∧f 10=sl k2 l.length∧f 11=I64 k∧(Kp n K1 K2)∧(Src h0 K2 n)∧(l.length=k)∧(K1.length≤k2)∧(Lst K2 k2 l f2)) ?_ (4-0) _ _ ⟨0,[],K1.length,true,rfl,by omega,(by first|rfl|exact f0|(simp[upd_apply];done)),(by first|rfl|exact f1|(simp[upd_apply];done)),(by first|rfl|exact f2|(simp[upd_apply];done)),(by first|rfl|exact f3|(simp[upd_apply];done)),(by first|rfl|exact f9|(simp[upd_apply];done)),(by first|rfl|simp[upd_apply]),(by first|rfl|simp[upd_apply]),Kp.of p2,ss.kp p2,rfl,Nat.le_refl _,hb2⟩
  rintro m f K2 ⟨k,l,k2,f2,rfl,hk,f0,f1,f2,f3,f9,f10,f11,kk2,s2,lk,hk2,q⟩
  by_cases hk:(k:Int)<m0∧(k:Int)<4
  ·obtain⟨hk1,hk4⟩:=hk
   ((try simp (maxSteps:=3000000) (dsimp:=false) (disch:=first|omega|simp only[lnx];omega) only[↓ypre,ypost,↓reduceIte,reduceEqDiff,reduceAdd,reduceSub,reduceLeDiff,zz0,ynew,f0,f1,f2,f3,f9,f10,f11,decide_eq_true hk1,decide_eq_true hk4]);try simp only[yback])
   refine s_l01Next s2 fun x H5 k5 l5 s5 _ _=>?_
   have q:=k5.get (by have:=s.lt;have:=kk.len;omega) q
   have lq:=get_lt q
   have n5:=s5.lt
   ((try simp (maxSteps:=3000000) (dsimp:=false) (disch:=first|omega|simp only[lnx];omega) only[↓ypre,ypost,↓reduceIte,reduceEqDiff,reduceAdd,reduceSub,reduceLeDiff,zz0,ynew,f0,f1,f2,f3,f9,f10,f11,fillL,zrep]);try simp only[yback])
   refine lst_app q (by omega) fun H6 l6 k6 q6=>?_
   ((try simp (maxSteps:=3000000) (dsimp:=false) (disch:=first|omega|simp only[lnx];omega) only[↓ypre,ypost,↓reduceIte,reduceEqDiff,reduceAdd,reduceSub,reduceLeDiff,zz0,ynew,f0,f1,f2,f3,f9,f10,f11,wrap64_in]);try simp only[yback])
   refine InvQ_go (4-(k+1)) (by omega) ⟨(k+1),(l++[x]),(H5.length+1),false,rfl,by omega,(by first|rfl|exact f0|(simp only[upd_apply];rfl)|(show I64 _=_;congr 1;omega)),(by first|rfl|exact f1|(simp only[upd_apply];rfl)|(show I64 _=_;congr 1;omega)),(by first|rfl|exact f2|(simp only[upd_apply];rfl)|(show I64 _=_;congr 1;omega)),(by first|rfl|exact f3|(simp only[upd_apply];rfl)|(show I64 _=_;congr 1;omega)),(by first|rfl|exact f9|(simp only[upd_apply];rfl)|(show I64 _=_;congr 1;omega)),(by first|rfl|exact f10|(simp only[upd_apply];rfl)|(show I64 _=_;congr 1;omega)),(by first|rfl|exact f11|(simp only[upd_apply];rfl)|(show I64 _=_;congr 1;omega)),((kk2.trans k5).over k6 (by omega)),(s5.over k6 (by have:=kk.len;omega) (by have:=pre_len s.p;have:=kk.len;omega)),(by rw[List.length_append,lk];rfl),(by have:=kk2.len;omega),q6⟩
  by_cases hk1:(k:Int)<m0
  ·have hk4:¬ (k:Int)<4:=fun y=>hk ⟨hk1,y⟩
   have r2:=r.kp kk2 (by omega)
   have lq:=get_lt q
   have kkl:=kk.len
   have kk2l:=kk2.len
   have lkb:=get_lt r.get
   ((try simp (maxSteps:=3000000) (dsimp:=false) (disch:=first|omega|simp only[lnx];omega) only[↓ypre,ypost,↓reduceIte,reduceEqDiff,reduceAdd,reduceSub,reduceLeDiff,zz0,ynew,f0,f1,f2,f3,f9,f10,f11,decide_eq_true hk1,decide_eq_false hk4,fillL,zrep,cellsL_sl,isOne_sl]);try simp only[yback])
   refine rowd_app r2 (by omega) (by omega) (by omega) (fun j hj=>by have:=hB j hj;omega) q fun H9 l9 k9 r9=>?_
   ((try simp (maxSteps:=3000000) (dsimp:=false) (disch:=first|omega|simp only[lnx];omega) only[↓ypre,ypost,↓reduceIte,reduceEqDiff,reduceAdd,reduceSub,reduceLeDiff,zz0,ynew,f0,f1,f2,f3,f9,f10,f11,wrap64_in]);try simp only[yback])
   have hB2:∀ j,j<(rows++[l]).length→(if j<rows.length then B j else k2)<H9.length:=fun j hj=>by
    split
    ·rename_i hjr
     have:=hB j hjr
     omega
    ·omega
   have hw2:∀ j,j<(rows++[l]).length→((rows++[l]).getD j []).length≤4:=fun j hj=>by
    rw[getD_snocD]
    split
    ·rename_i hjr
     exact hw j hjr
    ·rw[if_pos (by simp at hj;omega)]
     omega
   refine InvQ_go (4-(i+1)) (by omega) ⟨(i+1),(rows++[l]),(K2.length+1),false,_,_,rfl,by omega,(by first|rfl|exact f0|(simp only[upd_apply];rfl)|(show I64 _=_;congr 1;omega)),(by first|rfl|exact f1|(simp only[upd_apply];rfl)|(show I64 _=_;congr 1;omega)),(by first|rfl|exact f2|(simp only[upd_apply];rfl)|(show I64 _=_;congr 1;omega)),(by first|rfl|exact f3|(simp only[upd_apply];rfl)|(show I64 _=_;congr 1;omega)),(by first|rfl|exact f9|(simp only[upd_apply];rfl)|(show I64 _=_;congr 1;omega)),((kk.trans kk2).over k9 (by omega)),(s2.over k9 (by omega) (by omega)),(by rw[List.length_append,li];rfl),(by omega),r9,hB2,hw2⟩
  ·have hk4:=hk1
   have r2:=r.kp kk2 (by omega)
   have lq:=get_lt q
   have kkl:=kk.len
   have kk2l:=kk2.len
   have lkb:=get_lt r.get
   ((try simp (maxSteps:=3000000) (dsimp:=false) (disch:=first|omega|simp only[lnx];omega) only[↓ypre,ypost,↓reduceIte,reduceEqDiff,reduceAdd,reduceSub,reduceLeDiff,zz0,ynew,f0,f1,f2,f3,f9,f10,f11,decide_eq_false hk1,fillL,zrep,cellsL_sl,isOne_sl]);try simp only[yback])
   refine rowd_app r2 (by omega) (by omega) (by omega) (fun j hj=>by have:=hB j hj;omega) q fun H9 l9 k9 r9=>?_
   ((try simp (maxSteps:=3000000) (dsimp:=false) (disch:=first|omega|simp only[lnx];omega) only[↓ypre,ypost,↓reduceIte,reduceEqDiff,reduceAdd,reduceSub,reduceLeDiff,zz0,ynew,f0,f1,f2,f3,f9,f10,f11,wrap64_in]);try simp only[yback])
   have hB2:∀ j,j<(rows++[l]).length→(if j<rows.length then B j else k2)<H9.length:=fun j hj=>by
    split
    ·rename_i hjr
     have:=hB j hjr
     omega
    ·omega
   have hw2:∀ j,j<(rows++[l]).length→((rows++[l]).getD j []).length≤4:=fun j hj=>by
    rw[getD_snocD]
    split
    ·rename_i hjr
     exact hw j hjr
    ·rw[if_pos (by simp at hj;omega)]
     omega
   refine InvQ_go (4-(i+1)) (by omega) ⟨(i+1),(rows++[l]),(K2.length+1),false,_,_,rfl,by omega,(by first|rfl|exact f0|(simp only[upd_apply];rfl)|(show I64 _=_;congr 1;omega)),(by first|rfl|exact f1|(simp only[upd_apply];rfl)|(show I64 _=_;congr 1;omega)),(by first|rfl|exact f2|(simp only[upd_apply];rfl)|(show I64 _=_;congr 1;omega)),(by first|rfl|exact f3|(simp only[upd_apply];rfl)|(show I64 _=_;congr 1;omega)),(by first|rfl|exact f9|(simp only[upd_apply];rfl)|(show I64 _=_;congr 1;omega)),((kk.trans kk2).over k9 (by omega)),(s2.over k9 (by omega) (by omega)),(by rw[List.length_append,li];rfl),(by omega),r9,hB2,hw2⟩
 ·have base:Kp n h K1∧Src h0 K1 n:=⟨kk,ss⟩
  have hkb:=get_lt r.get
  have h4:rows.length≤4:=by omega
  by_cases hn0:n0-i>0
  ·have hi4:¬ i<4:=fun y=>hlt ⟨hn0,y⟩
   have hz0:(rows.length:Int)>0:=by omega
   ((try simp (maxSteps:=3000000) (dsimp:=false) (disch:=first|omega|simp only[lnx];omega) only[↓ypre,ypost,↓reduceIte,reduceEqDiff,reduceAdd,reduceSub,reduceLeDiff,zz0,ynew,f0,f1,f2,f3,f9,decide_eq_true hn0,lenV_sl,decide_eq_false (show ¬ (rows.length:Int)<4 by omega),decide_eq_true hz0]);try simp only[yback])
   refine s_l01Next ss fun x H5 k5 l5 s5 _ _=>?_
   have r5:=r.kp k5 lt
   have kk5:=kk.trans k5
   have md:MatD h.length H5 (sl kb rows.length) rows:=⟨r5.kN,by omega,fun i hi=>by have:=hw i hi;omega⟩
   by_cases x0:¬ x=0
   ·((try simp (maxSteps:=3000000) (dsimp:=false) (disch:=first|omega|simp only[lnx];omega) only[↓ypre,ypost,↓reduceIte,reduceEqDiff,reduceAdd,reduceSub,reduceLeDiff,zz0,ynew,f0,f1,f2,f3,f9,decide_eq_false x0]);try simp only[yback])
    exact hQ rows _ H5 kk5 s5 md
   have x0:=Decidable.not_not.1 x0
   ((try simp (maxSteps:=3000000) (dsimp:=false) (disch:=first|omega|simp only[lnx];omega) only[↓ypre,ypost,↓reduceIte,reduceEqDiff,reduceAdd,reduceSub,reduceLeDiff,zz0,ynew,f0,f1,f2,f3,f9,decide_eq_true x0]);try simp only[yback])
   refine s_l01Next s5 fun y H6 k6 l6 s6 _ _=>?_
   have r6:=r5.kp k6 lt
   have kk6:=kk5.trans k6
   by_cases y0:y=0
   ·obtain⟨v',hsl,kn⟩:=r6.slc (by omega)
    ((try simp (maxSteps:=3000000) (dsimp:=false) (disch:=first|omega|simp only[lnx];omega) only[↓ypre,ypost,↓reduceIte,reduceEqDiff,reduceAdd,reduceSub,reduceLeDiff,zz0,ynew,f0,f1,f2,f3,f9,decide_eq_true y0,omapF_some,omapF_none,ev,hsl]);try simp only[yback])
    refine hQ (rows.drop 1) v' H6 kk6 s6 ⟨kn,by simp;omega,fun i hi=>?_⟩
    simp only[List.length_drop] at hi
    have e2:(rows.drop 1).getD i []=rows.getD (1+i) []:=by rw[List.getD_eq_getElem?_getD,List.getElem?_drop,←List.getD_eq_getElem?_getD]
    rw[e2]
    have:=hw (1+i) (by omega)
    omega
   obtain⟨h1,h2,⟨g,h3⟩,h4'⟩:=r6.row 0 (by omega)
   have ix0:ixsV 1 (sl kb rows.length) (I64 0)=some (.pointer (some ⟨kb,0,none⟩)):=Lst.ix (n:=kb) (j:=0) (len:=rows.length) ⟨by omega,by omega⟩
   have rd0:H6.rd1 kb 0=some (sl (B 0) (rows.getD 0 []).length):=by
    rw[←h2,rd1_of r6.get]
    have:0<cs.length:=by rw[r6.len];omega
    simp[List.getD_eq_getElem?_getD,List.getElem?_eq_getElem this]
   have w0:=hw 0 (by omega)
   by_cases z0:((rows.getD 0 []).length:Int)>0
   case neg=>
    ((try simp (maxSteps:=3000000) (dsimp:=false) (disch:=first|omega|simp only[lnx];omega) only[↓ypre,ypost,↓reduceIte,reduceEqDiff,reduceAdd,reduceSub,reduceLeDiff,zz0,ynew,f0,f1,f2,f3,f9,decide_eq_false y0,ix0,rd0,lenV_sl,decide_eq_false z0]);try simp only[yback])
    exact hQ rows _ H6 kk6 s6 ⟨r6.kN,by omega,fun i hi=>by have:=hw i hi;omega⟩
   ((try simp (maxSteps:=3000000) (dsimp:=false) (disch:=first|omega|simp only[lnx];omega) only[↓ypre,ypost,↓reduceIte,reduceEqDiff,reduceAdd,reduceSub,reduceLeDiff,zz0,ynew,f0,f1,f2,f3,f9,decide_eq_false y0,ix0,rd0,lenV_sl,decide_eq_true z0,fillL,zrep]);try simp only[yback])
   generalize hH7:AH.new H6 _=H7
   obtain⟨hb7,p7,n7⟩:=new_facts hH7
   have n6:=s6.lt
   have kv:=kp_new (n:=n) (ns:=[p,-1]) hH7 (by omega)
   refine s_l01Pick (s6.kp p7) kv (by simp) (by simp) fun j H8 k8 l8 s8 hj=>?_
   generalize ([p,-1]:List Int).getD j 0=y2
   have r8:=(r6.kp (Kp.of p7) lt).kp k8 lt
   obtain⟨h1,h2,⟨g,h3⟩,h4'⟩:=r8.row 0 (by omega)
   have ixb:ixsV 1 (sl (B 0) (rows.getD 0 []).length) (I64 0)=some (.pointer (some ⟨B 0,0,none⟩)):=Lst.ix (n:=B 0) (j:=0) ⟨by omega,by omega⟩
   obtain⟨H9,w9,e9,q9⟩:=h3.wr (j:=0) (x:=y2) (by omega)
   ((try simp (maxSteps:=3000000) (dsimp:=false) (disch:=first|omega|simp only[lnx];omega) only[↓ypre,ypost,↓reduceIte,reduceEqDiff,reduceAdd,reduceSub,reduceLeDiff,zz0,ynew,f0,f1,f2,f3,f9,ixb,w9]);try simp only[yback])
   have rZ:=r8.set0 (f:=g) (l:=(rows.getD 0 []).set 0 y2) (by omega) (by rw[List.length_set])
   rw[←e9] at rZ
   have kZ:Kp n h H9:=e9▸((kk6.trans (Kp.of p7)).trans k8).putb (by omega)
   have sZ:Src h0 H9 n:=e9▸s8.putb (by omega) (by omega)
   have eL:(rows.set 0 ((rows.getD 0 []).set 0 y2)).length=rows.length:=List.length_set
   rw[←eL]
   refine hQ _ _ H9 kZ sZ ⟨rZ.kN,by omega,fun i hi=>?_⟩
   rw[eL] at hi
   by_cases hi0:i=0
   ·subst hi0
    rw[List.getD_eq_getElem?_getD (l:=rows.set 0 _),List.getElem?_set_self (by omega)]
    simp only[Option.getD_some,List.length_set]
    omega
   ·rw[List.getD_eq_getElem?_getD (l:=rows.set 0 _),List.getElem?_set_ne (by omega),←List.getD_eq_getElem?_getD]
    have:=hw i hi
    omega
  ·by_cases hz0:(rows.length:Int)>0
   case neg=>
    ((try simp (maxSteps:=3000000) (dsimp:=false) (disch:=first|omega|simp only[lnx];omega) only[↓ypre,ypost,↓reduceIte,reduceEqDiff,reduceAdd,reduceSub,reduceLeDiff,zz0,ynew,f0,f1,f2,f3,f9,decide_eq_false hn0,lenV_sl,decide_eq_false hz0]);try simp only[yback])
    exact hQ rows _ K1 kk ss ⟨r.kN,by omega,fun i hi=>by have:=hw i hi;omega⟩
   ((try simp (maxSteps:=3000000) (dsimp:=false) (disch:=first|omega|simp only[lnx];omega) only[↓ypre,ypost,↓reduceIte,reduceEqDiff,reduceAdd,reduceSub,reduceLeDiff,zz0,ynew,f0,f1,f2,f3,f9,decide_eq_false hn0,lenV_sl,decide_eq_true hz0]);try simp only[yback])
   refine s_l01Next ss fun x H5 k5 l5 s5 _ _=>?_
   have r5:=r.kp k5 lt
   have kk5:=kk.trans k5
   have md:MatD h.length H5 (sl kb rows.length) rows:=⟨r5.kN,by omega,fun i hi=>by have:=hw i hi;omega⟩
   by_cases x0:¬ x=0
   ·((try simp (maxSteps:=3000000) (dsimp:=false) (disch:=first|omega|simp only[lnx];omega) only[↓ypre,ypost,↓reduceIte,reduceEqDiff,reduceAdd,reduceSub,reduceLeDiff,zz0,ynew,f0,f1,f2,f3,f9,decide_eq_false x0]);try simp only[yback])
    exact hQ rows _ H5 kk5 s5 md
   have x0:=Decidable.not_not.1 x0
   ((try simp (maxSteps:=3000000) (dsimp:=false) (disch:=first|omega|simp only[lnx];omega) only[↓ypre,ypost,↓reduceIte,reduceEqDiff,reduceAdd,reduceSub,reduceLeDiff,zz0,ynew,f0,f1,f2,f3,f9,decide_eq_true x0]);try simp only[yback])
   refine s_l01Next s5 fun y H6 k6 l6 s6 _ _=>?_
   have r6:=r5.kp k6 lt
   have kk6:=kk5.trans k6
   by_cases y0:y=0
   ·obtain⟨v',hsl,kn⟩:=r6.slc (by omega)
    ((try simp (maxSteps:=3000000) (dsimp:=false) (disch:=first|omega|simp only[lnx];omega) only[↓ypre,ypost,↓reduceIte,reduceEqDiff,reduceAdd,reduceSub,reduceLeDiff,zz0,ynew,f0,f1,f2,f3,f9,decide_eq_true y0,omapF_some,omapF_none,ev,hsl]);try simp only[yback])
    refine hQ (rows.drop 1) v' H6 kk6 s6 ⟨kn,by simp;omega,fun i hi=>?_⟩
    simp only[List.length_drop] at hi
    have e2:(rows.drop 1).getD i []=rows.getD (1+i) []:=by rw[List.getD_eq_getElem?_getD,List.getElem?_drop,←List.getD_eq_getElem?_getD]
    rw[e2]
    have:=hw (1+i) (by omega)
    omega
   obtain⟨h1,h2,⟨g,h3⟩,h4'⟩:=r6.row 0 (by omega)
   have ix0:ixsV 1 (sl kb rows.length) (I64 0)=some (.pointer (some ⟨kb,0,none⟩)):=Lst.ix (n:=kb) (j:=0) (len:=rows.length) ⟨by omega,by omega⟩
   have rd0:H6.rd1 kb 0=some (sl (B 0) (rows.getD 0 []).length):=by
    rw[←h2,rd1_of r6.get]
    have:0<cs.length:=by rw[r6.len];omega
    simp[List.getD_eq_getElem?_getD,List.getElem?_eq_getElem this]
   have w0:=hw 0 (by omega)
   by_cases z0:((rows.getD 0 []).length:Int)>0
   case neg=>
    ((try simp (maxSteps:=3000000) (dsimp:=false) (disch:=first|omega|simp only[lnx];omega) only[↓ypre,ypost,↓reduceIte,reduceEqDiff,reduceAdd,reduceSub,reduceLeDiff,zz0,ynew,f0,f1,f2,f3,f9,decide_eq_false y0,ix0,rd0,lenV_sl,decide_eq_false z0]);try simp only[yback])
    exact hQ rows _ H6 kk6 s6 ⟨r6.kN,by omega,fun i hi=>by have:=hw i hi;omega⟩
   ((try simp (maxSteps:=3000000) (dsimp:=false) (disch:=first|omega|simp only[lnx];omega) only[↓ypre,ypost,↓reduceIte,reduceEqDiff,reduceAdd,reduceSub,reduceLeDiff,zz0,ynew,f0,f1,f2,f3,f9,decide_eq_false y0,ix0,rd0,lenV_sl,decide_eq_true z0,fillL,zrep]);try simp only[yback])
   generalize hH7:AH.new H6 _=H7
   obtain⟨hb7,p7,n7⟩:=new_facts hH7
   have n6:=s6.lt
   have kv:=kp_new (n:=n) (ns:=[p,-1]) hH7 (by omega)
   refine s_l01Pick (s6.kp p7) kv (by simp) (by simp) fun j H8 k8 l8 s8 hj=>?_
   generalize ([p,-1]:List Int).getD j 0=y2
   have r8:=(r6.kp (Kp.of p7) lt).kp k8 lt
   obtain⟨h1,h2,⟨g,h3⟩,h4'⟩:=r8.row 0 (by omega)
   have ixb:ixsV 1 (sl (B 0) (rows.getD 0 []).length) (I64 0)=some (.pointer (some ⟨B 0,0,none⟩)):=Lst.ix (n:=B 0) (j:=0) ⟨by omega,by omega⟩
   obtain⟨H9,w9,e9,q9⟩:=h3.wr (j:=0) (x:=y2) (by omega)
   ((try simp (maxSteps:=3000000) (dsimp:=false) (disch:=first|omega|simp only[lnx];omega) only[↓ypre,ypost,↓reduceIte,reduceEqDiff,reduceAdd,reduceSub,reduceLeDiff,zz0,ynew,f0,f1,f2,f3,f9,ixb,w9]);try simp only[yback])
   have rZ:=r8.set0 (f:=g) (l:=(rows.getD 0 []).set 0 y2) (by omega) (by rw[List.length_set])
   rw[←e9] at rZ
   have kZ:Kp n h H9:=e9▸((kk6.trans (Kp.of p7)).trans k8).putb (by omega)
   have sZ:Src h0 H9 n:=e9▸s8.putb (by omega) (by omega)
   have eL:(rows.set 0 ((rows.getD 0 []).set 0 y2)).length=rows.length:=List.length_set
   rw[←eL]
   refine hQ _ _ H9 kZ sZ ⟨rZ.kN,by omega,fun i hi=>?_⟩
   rw[eL] at hi
   by_cases hi0:i=0
   ·subst hi0
    rw[List.getD_eq_getElem?_getD (l:=rows.set 0 _),List.getElem?_set_self (by omega)]
    simp only[Option.getD_some,List.length_set]
    omega
   ·rw[List.getD_eq_getElem?_getD (l:=rows.set 0 _),List.getElem?_set_ne (by omega),←List.getD_eq_getElem?_getD]
    have:=hw i hi
    omega
theorem MatD.kp {lo n:Nat} {h h':AH} {v:Value} {rows:List (List Int)} (d:MatD lo h v rows) (k:Kp n h h') (hn:n<lo):MatD lo h' v rows:=⟨KN.kp d.kn k hn,d.len,d.row⟩
theorem OQ_C2 {f:Fr} {h:AH} {a b c n e:Nat} {cl:List Value} {ro fl:Bool} {x y:Value} {Q:Value→AH→Prop} (fa:f a=.pointer (some ⟨n,0,none⟩)) (fb:f b=x) (fc:f c=y)
  (ha:h.get n=some ⟨cl,e,ro,fl⟩) (hl:cl.length=5) (hQ:Q (.tuple #[.agg cl.toArray,x,y]) h):OQ (Option.map (fun x=>(x,h)) (xres f h [.celln a 5,.tmp b,.tmp c])) Q:=by
 rw[xres_3 (xresn fa ha hl) (show xres1 f h (.tmp b)=some x by rw[xres1_tmp,fb]) (show xres1 f h (.tmp c)=some y by rw[xres1_tmp,fc]),Option.map_some,OQ_some]
 exact hQ
theorem s_DrawMakeProduct {h:AH} {cv:Value} {code:List (List Int)} {Q:Value→AH→Prop} (c:Cod h cv code)
  (hQ:∀ (x:Sch) (v:Value) (L R:List (List Int)) (a b:Value) (h':AH),h<+:h'→SchD h.length h' v x→SchB x→MatD h.length h' a L→MatD h.length h' b R→Q (.tuple #[schV x v,a,b]) h'):WF S 67 [cv] h Q:=by
 refine WF_fn (fn:=c67) rfl rfl ?_
 dsimp only[c67,oO,oM,oS,oG,oK,oE,oL,oF,oX,oN]
 ((try simp (maxSteps:=3000000) (dsimp:=false) (disch:=first|omega|simp only[lnx];omega) only[↓ypre,ypost,↓reduceIte,reduceEqDiff,reduceAdd,reduceSub,reduceLeDiff,zz0,ynew]);try simp only[yback])
 generalize hH1:AH.new h _=H1
 obtain⟨hb1,p1,n1⟩:=new_facts hH1
 refine s_l01From (c.els.pre p1) c.byt c.len fun H2 p2 l2 s2=>?_
 have n2:=s2.lt
 ((try simp (maxSteps:=3000000) (dsimp:=false) (disch:=first|omega|simp only[lnx];omega) only[↓ypre,ypost,↓reduceIte,reduceEqDiff,reduceAdd,reduceSub,reduceLeDiff,zz0,ynew]);try simp only[yback])
 refine s_l01Spoil s2 fun x v H3 k3 s3 sd xb=>?_
 have g1:=k3.get (by omega) (pre_get p2 hb1)
 have k3l:=k3.len
 obtain⟨b1,b2,b3,b4,b5⟩:=xb
 have o1:isOne v=true:=sd.now.one
 refine WO_cut (fun f:Fr=>f 2=.pointer (some ⟨h.length,0,none⟩)∧f 5=srcP H1.length∧f 11=schV x v∧True) ⟨(by first|rfl|simp[upd_apply]),(by first|rfl|simp[upd_apply]),(by first|rfl|simp[upd_apply]),trivial⟩ ?_
 rintro f ⟨f2,f5,f11,-⟩
 ((try simp (maxSteps:=3000000) (dsimp:=false) (disch:=first|omega|simp only[lnx];omega) only[↓ypre,ypost,↓reduceIte,reduceEqDiff,reduceAdd,reduceSub,reduceLeDiff,zz0,ynew,f2,f5,f11,schV,o1]);try simp only[yback])
 generalize hH4:AH.new H3 _=H4
 obtain⟨hb4,p4,n4⟩:=new_facts hH4
 have g1:=pre_get p4 g1
 have sd:SchD H2.length H4 v x:=KN.pre sd p4
 have s4:=s3.kp p4
 ((try simp (maxSteps:=3000000) (dsimp:=false) (disch:=first|omega|simp only[lnx];omega) only[↓ypre,ypost,↓reduceIte,reduceEqDiff,reduceAdd,reduceSub,reduceLeDiff,zz0,ynew,f2,f5,f11,rdn_of hb4,rd1_of hb4,WX_mm,mmT,mmF]);try simp only[yback])
 refine⟨by omega,?_⟩
 refine s_l01Rows s4 b2 fun L a H5 k5 s5 dL=>?_
 refine⟨⟨_,rfl,k5⟩,?_⟩
 have g1:=k5.get (by omega) g1
 have g4:=k5.get (by omega) hb4
 have sd:SchD H2.length H5 v x:=KN.kp sd k5 (by omega)
 have k5l:=k5.len
 refine WO_cut (fun f:Fr=>f 2=.pointer (some ⟨h.length,0,none⟩)∧f 5=srcP H1.length∧f 6=.pointer (some ⟨H3.length,0,none⟩)∧f 7=I64 (min (max x.p 1) 5)∧f 16=schV x v∧f 17=srcP H1.length∧f 23=a∧True) ⟨(by first|rfl|exact f2|simp[upd_apply,f2]),(by first|rfl|exact f5|simp[upd_apply,f5]),(by first|rfl|simp[upd_apply]),(by first|rfl|simp[upd_apply]),(by first|rfl|simp[upd_apply]),(by first|rfl|simp[upd_apply]),(by first|rfl|simp[upd_apply]),trivial⟩ ?_
 rintro f ⟨f2,f5,f6,f7,f16,f17,f23,-⟩
 ((try simp (maxSteps:=3000000) (dsimp:=false) (disch:=first|omega|simp only[lnx];omega) only[↓ypre,ypost,↓reduceIte,reduceEqDiff,reduceAdd,reduceSub,reduceLeDiff,zz0,ynew,f2,f5,f6,f7,f16,f17,f23,rd1_of g4]);try simp only[yback])
 refine⟨by omega,by omega,by omega,?_⟩
 refine s_l01Rows s5 b3 fun R b H6 k6 s6 dR=>?_
 refine⟨⟨_,rfl,k6⟩,?_⟩
 have g1:=k6.get (by omega) g1
 have sd:SchD H2.length H6 v x:=KN.kp sd k6 (by omega)
 have dL:=dL.kp k6 (by omega)
 have k6l:=k6.len
 have o1:isOne v=true:=sd.now.one
 refine WO_cut (fun f:Fr=>f 2=.pointer (some ⟨h.length,0,none⟩)∧f 16=schV x v∧f 23=a∧f 30=b∧True) ⟨(by first|rfl|exact f2|simp[upd_apply,f2]),(by first|rfl|exact f16|simp[upd_apply,f16]),(by first|rfl|exact f23|simp[upd_apply,f23]),(by first|rfl|simp[upd_apply]),trivial⟩ ?_
 rintro f ⟨f2,f16,f23,f30,-⟩
 ((try simp (maxSteps:=3000000) (dsimp:=false) (disch:=first|omega|simp only[lnx];omega) only[↓ypre,ypost,↓reduceIte,reduceEqDiff,reduceAdd,reduceSub,reduceLeDiff,zz0,ynew,f2,f16,f23,f30,schV,o1,wr_of g1,splice_eq]);try simp only[yback])
 generalize hHF:AH.put H6 _ _=HF
 have F1:HF.get h.length=some ⟨[I64 x.p,I64 x.n,I64 x.m,I64 x.k,v],26,false,true⟩:=hHF▸get_put_same (by omega)
 refine OQ_C2 (x:=a) (y:=b) (a:=2) (b:=3) (c:=4) (n:=h.length) ?_ ?_ ?_ F1 rfl (hQ x v L R a b HF (hHF▸pre_put (p1.trans s6.p) (Nat.le_refl _)) ?_ ⟨b1,b2,b3,b4,b5⟩ ?_ ?_)
 ·exact f2
 ·rfl
 ·rfl
 ·exact hHF▸(KN.mono (KN.put sd (by omega)) (by omega))
 ·exact⟨hHF▸(KN.mono (KN.put dL.kn (by omega)) (by omega)),dL.len,dL.row⟩
 ·exact⟨hHF▸(KN.mono (KN.put dR.kn (by omega)) (by omega)),dR.len,dR.row⟩
def zt (bs:List Nat) (n k:Nat) (g:Nat→Nat→Int):List (Nat×List Int):=(List.range n).map fun a=>(bs.getD a 0,gen k (g a))
section
variable {bs:List Nat} {n k:Nat} {g g':Nat→Nat→Int}
theorem zt_len:(zt bs n k g).length=n:=by simp[zt]
theorem zt_at {i:Nat} (hi:i<(zt bs n k g).length):(zt bs n k g)[i]=(bs.getD i 0,gen k (g i)):=by simp[zt]
theorem zt_congr (h:∀ a,a<n→∀ b,b<k→g a b=g' a b):zt bs n k g=zt bs n k g':=by
 refine List.map_congr_left fun a ha=>?_
 rw[gen_congr (h a (List.mem_range.1 ha))]
theorem zt_app (hb:bs.length=n) (b:Nat):zt bs n k g++[(b,gen k (g n))]=zt (bs++[b]) (n+1) k g:=by
 unfold zt
 rw[List.range_succ,List.map_append]
 congr 1
 ·refine List.map_congr_left fun a ha=>?_
  have:=List.mem_range.1 ha
  rw[getD_app_l (by omega)]
 ·simp[getD_app_r (show bs.length≤n by omega),hb]
theorem zt_set {i:Nat} (hi:i<n) (f:Nat→Int):(zt bs n k g).set i (bs.getD i 0,gen k f)=zt bs n k (fun a=>if a=i then f else g a):=by
 refine List.ext_getElem? fun j=>?_
 rw[List.getElem?_set]
 by_cases hj:j<n
 ·by_cases e:i=j
  ·subst e
   rw[if_pos rfl,if_pos (by rw[zt_len];exact hi)]
   simp[zt,hi]
  ·rw[if_neg e]
   simp[zt,hj,show ¬ j=i from fun q=>e q.symm]
 ·by_cases e:i=j
  ·omega
  ·rw[if_neg e,List.getElem?_eq_none (by rw[zt_len];omega),List.getElem?_eq_none (by rw[zt_len];omega)]
theorem zt_snd:(zt bs n k g).map Prod.snd=(List.range n).map fun a=>gen k (g a):=by simp[zt]
theorem zt_mem (hb:n≤bs.length) {a:Nat} (ha:a<n):(bs.getD a 0,gen k (g a))∈zt bs n k g:=List.mem_map.2 ⟨a,List.mem_range.2 ha,rfl⟩
end
theorem parts_gen {n k:Nat} {F:Nat→Int}:parts (gen (n*k) F) k n=(List.range n).map fun a=>gen k fun b=>F (a*k+b):=by
 unfold parts
 refine List.map_congr_left fun a ha=>?_
 have hm:=mul_row (w:=k) (List.mem_range.1 ha)
 refine gen_ext (by rw[List.length_take,List.length_drop,gen_len];omega) fun b hb=>?_
 rw[List.getD_eq_getElem?_getD,List.getElem?_take,if_pos hb,List.getElem?_drop,←List.getD_eq_getElem?_getD,gen_get (by omega)]
theorem tmod_mul {o c v p:Int} (ho:0≤o) (hc:0≤c) (hv:0≤v) (hp:1≤p):(o+c*v.tmod p).tmod p=(o+c*v).tmod p:=by
 have h1:=(tmod_nn hv hp).1
 have a3:v.tmod p=v%p:=Int.tmod_eq_emod_of_nonneg hv
 have e:o+c*v=o+c*(v%p)+p*(c*(v / p)):=by
  have:=Int.emod_add_mul_ediv v p
  have h2:c*v=c*(v%p+p*(v / p)):=by rw[this]
  rw[h2,Int.mul_add,Int.mul_left_comm]
  omega
 have a1:(o+c*v.tmod p).tmod p=(o+c*v.tmod p)%p:=Int.tmod_eq_emod_of_nonneg (by have:=Int.mul_nonneg hc h1;omega)
 have a2:(o+c*v).tmod p=(o+c*v)%p:=Int.tmod_eq_emod_of_nonneg (by have:=Int.mul_nonneg hc hv;omega)
 rw[a1,a2,a3,e,Int.add_mul_emod_self_left]
theorem TabS.rdz {h0 h:AH} {nb n k:Nat} {fl:Bool} {bs:List Nat} {g:Nat→Nat→Int} (s:TabS h0 h nb fl (zt bs n k g)) {a c:Nat} (ha:a<n) (hc:c<k) (x:Int) :
  h.rd1 (bs.getD a 0) c=some (I64 (g a c))∧∃ h',h.wr (bs.getD a 0) c [I64 x]=some h'∧h'.length=h.length∧(∀ m bl,m≠bs.getD a 0→h.get m=some bl→h'.get m=some bl) ∧
   TabS h0 h' nb fl (zt bs n k fun a' b'=>if a'=a∧b'=c then x else g a' b'):=by
 have hl:a<(zt bs n k g).length:=by rw[zt_len];exact ha
 obtain⟨e,fu,he,st⟩:=s.cell (x:=x) (j:=c) hl (zt_at hl) (by rw[gen_len];exact hc)
 refine⟨by rw[rd1_of he];show ((gen k (g a)).map (Value.int .i64))[c]?=_;rw[map_get (by rw[gen_len];exact hc),gen_get hc],h.put (bs.getD a 0) ⟨((gen k (g a)).set c x).map (Value.int .i64),e,false,fu⟩,?_,?_,?_,?_⟩
 ·rw[wr_of he,if_pos ⟨rfl,by simp[gen_len];omega⟩]
  show some (h.put _ ⟨splice ((gen k (g a)).map (Value.int .i64)) c [I64 x],e,false,fu⟩)=_
  rw[map_set (by rw[gen_len];exact hc)]
 ·rw[len_put]
 ·intro m bl hm g1
  rw[get_put_ne (fun e=>hm e.symm)]
  exact g1
 ·have e1:(gen k (g a)).set c x=gen k fun b'=>if b'=c then x else g a b':=by
   refine gen_ext (by rw[List.length_set,gen_len]) fun j hj=>?_
   rw[List.getD_eq_getElem?_getD,List.getElem?_set]
   by_cases e:c=j
   ·subst e
    rw[if_pos rfl,if_pos (by rw[gen_len];exact hc),if_pos rfl]
    rfl
   ·rw[if_neg e,←List.getD_eq_getElem?_getD,gen_get hj,if_neg (fun q=>e q.symm)]
  rw[e1] at st ⊢
  rw[zt_set ha] at st
  rw[zt_congr (g':=fun a'=>if a'=a then fun b'=>if b'=c then x else g a b' else g a') (fun a' _ b' _=>?_)]
  ·exact st
  ·by_cases q:a'=a
   ·rw[if_pos q,q]
    by_cases q2:b'=c
    ·rw[if_pos ⟨rfl,q2⟩,if_pos q2]
    ·rw[if_neg (fun w=>q2 w.2),if_neg q2]
   ·rw[if_neg (fun w=>q w.1),if_neg q]
theorem s_l01Make {v u z:Value} {x:Sch} {L R:List (List Int)} {n m k:Nat} {h:AH} {Q:Value→AH→Prop} (hv:Prods h v x.ps) (mf:MF x L R n m k) (hl:x.ps.length≤30) (hp:2≤x.p∧x.p≤5) (hu:Rows h u L) (hz:Rows h z R)
  (hQ:∀ v' h',h<+:h'→OwnRows h h' v' (mpF x L R)→Q v' h'):WF S 215 [schV x v,u,z] h Q:=by
 refine WF_fn (fn:=c215) rfl rfl ?_
 dsimp only[c215,oO,oM,oS,oG,oK,oE,oL,oF,oX,oN]
 obtain⟨en,em,ek,b,nk,wL,wR,lL,lR,fL,fR,aL,aR,hm,hr⟩:=mf
 ((try simp (maxSteps:=3000000) (dsimp:=false) (disch:=first|omega|simp only[lnx];omega) only[↓ypre,ypost,↓reduceIte,reduceEqDiff,reduceAdd,reduceSub,reduceLeDiff,zz0,ynew,schV,hv.one]);try simp only[yback])
 generalize hH1:AH.new h _=H1
 obtain⟨hb1,p1,n1⟩:=new_facts hH1
 generalize hH2:AH.new H1 _=H2
 obtain⟨hb2,p2,n2⟩:=new_facts hH2
 have st0:TabS H1 H2 H1.length true (zt [] 0 k fun _ _=>0):=⟨p2,Nat.le_refl _,hb2,by simp[zt],by simp[zt]⟩
 rw[ek] at hb1
 refine WC_loop_inv (fun m f K1=>∃ (i:Nat) (nb:Nat) (fl:Bool) (bs:List Nat),m=n-i∧i≤n∧f 1=u∧f 2=z∧f 3=.pointer (some ⟨h.length,0,none⟩)∧f 7=sl nb i∧f 8=I64 i∧(bs.length=i)∧(TabS H1 K1 nb fl (zt bs i k fun _ _=>0))) ?_ (n-0) _ _ ⟨0,H1.length,true,[],rfl,by omega,(by first|rfl|simp[upd_apply]),(by first|rfl|simp[upd_apply]),(by first|rfl|simp[upd_apply]),(by first|rfl|simp[upd_apply]),(by first|rfl|simp[upd_apply]),rfl,st0⟩
 rintro m f K1 ⟨i,nb,fl,bs,rfl,hi,f1,f2,f3,f7,f8,hb,st⟩
 have lt:=st.lt
 have kh:=pre_len st.hp
 have bK:=pre_get st.hp hb1
 by_cases hlt:(i:Int)<n
 ·have hi':i<n:=by omega
  ((try simp (maxSteps:=3000000) (dsimp:=false) (disch:=first|omega|simp only[lnx];omega) only[↓ypre,ypost,↓reduceIte,reduceEqDiff,reduceAdd,reduceSub,reduceLeDiff,zz0,ynew,f1,f2,f3,f7,f8,rd1_of bK,en,decide_eq_true hlt,mks_gen (N:=k) (h:=K1) (by omega)]);try simp only[yback])
  generalize hH3:AH.new K1 _=H3
  obtain⟨hb3,p3,n3⟩:=new_facts hH3
  have o3:OwnB H3 K1.length ((gen k fun _=>0).map (Value.int .i64)) true:=⟨_,hb3⟩
  ((try simp (maxSteps:=3000000) (dsimp:=false) (disch:=first|omega|simp only[lnx];omega) only[↓ypre,ypost,↓reduceIte,reduceEqDiff,reduceAdd,reduceSub,reduceLeDiff,zz0,ynew,f1,f2,f3,f7,f8,sl_cells,sl_one]);try simp only[yback])
  have e1:sl nb i=sl nb (zt bs i k fun _ _=>0).length:=by rw[zt_len]
  have e2:sl K1.length k=sl K1.length (gen k fun _=>0).length:=by rw[gen_len]
  rw[e1,e2]
  refine (st.pre p3).app2 ⟨by omega,by omega,fun q hq=>by have:=lt.2 q hq;omega⟩ o3 (by rw[zt_len];omega) fun nb' H' st' l' e' own' pre'=>?_
  have e3:zt bs i k (fun _ _=>0)++[(K1.length,gen k fun _=>0)]=zt (bs++[K1.length]) (i+1) k fun _ _=>0:=zt_app hb _
  rw[e3] at st' ⊢
  rw[zt_len,zt_len]
  ((try simp (maxSteps:=3000000) (dsimp:=false) (disch:=first|omega|simp only[lnx];omega) only[↓ypre,ypost,↓reduceIte,reduceEqDiff,reduceAdd,reduceSub,reduceLeDiff,zz0,ynew,f1,f2,f3,f7,f8,wrap64_in]);try simp only[yback])
  refine InvQ_go (n-(i+1)) (by omega) ⟨(i+1),nb',false,(bs++[K1.length]),rfl,by omega,(by first|rfl|exact f1|(simp only[upd_apply];rfl)|(show I64 _=_;congr 1;omega)),(by first|rfl|exact f2|(simp only[upd_apply];rfl)|(show I64 _=_;congr 1;omega)),(by first|rfl|exact f3|(simp only[upd_apply];rfl)|(show I64 _=_;congr 1;omega)),(by first|rfl|exact f7|(simp only[upd_apply];rfl)|(show I64 _=_;congr 1;omega)),(by first|rfl|exact f8|(simp only[upd_apply];rfl)|(show I64 _=_;congr 1;omega)),(by simp[hb]),st'⟩
 have ei:i=n:=by omega
 subst ei
 ((try simp (maxSteps:=3000000) (dsimp:=false) (disch:=first|omega|simp only[lnx];omega) only[↓ypre,ypost,↓reduceIte,reduceEqDiff,reduceAdd,reduceSub,reduceLeDiff,zz0,ynew,f1,f2,f3,f7,f8,rd1_of bK,en,decide_eq_false hlt]);try simp only[yback])
 have z27:=zeros27
 have st1:TabS H1 K1 nb fl (zt bs i k fun a b=>stM x.p L.flatten R.flatten x.ps 0 (a*k+b)):=st
 have hnb:=lt.1
 have hbs:∀ a,a<i→bs.getD a 0<K1.length∧H1.length≤bs.getD a 0:=fun a ha=>⟨lt.2 _ (zt_mem (by omega) ha),(st.rows _ (zt_mem (by omega) ha)).1.1⟩
 refine WC_loop_inv (fun m f K2=>∃ (t:Nat),m=x.ps.length-t∧t≤x.ps.length∧f 1=u∧f 2=z∧f 3=.pointer (some ⟨h.length,0,none⟩)∧f 7=sl nb i∧f 9=I64 t∧(K1.length≤K2.length)∧(TabS H1 K2 nb fl (zt bs i k fun a b=>stM x.p L.flatten R.flatten x.ps t (a*k+b)))) ?_ (x.ps.length-0) _ _ ⟨0,rfl,by omega,(by first|rfl|exact f1|(simp[upd_apply];done)),(by first|rfl|exact f2|(simp[upd_apply];done)),(by first|rfl|exact f3|(simp[upd_apply];done)),(by first|rfl|exact f7|(simp[upd_apply];done)),(by first|rfl|simp[upd_apply]),Nat.le_refl _,st1⟩
 rintro m f K2 ⟨t,rfl,ht,f1,f2,f3,f7,f9,kl,s2⟩
 have pp:=p1.trans s2.hp
 have bK2:=pre_get s2.hp hb1
 have hvK:=hv.pre pp
 by_cases hlt2:(t:Int)<x.ps.length
 ·have hj':t<x.ps.length:=by omega
  obtain⟨n5',off5,hix,hrn,hr1⟩:=hvK.1.at hj'
  have r27:=hrn 0 27 (by omega)
  have wi:=hvK.1.wid hj'
  have hby:=hvK.by hj'
  have tk:(x.ps.getD t []).take 27=x.ps.getD t []:=List.take_of_length_le (by omega)
  rw[List.drop_zero,tk,Nat.add_zero] at r27
  have sin:=stM_in hp hv.2 hvK.1.widL fL fR aL aR (t:=t) ht
  have stn:∀ j,stM x.p L.flatten R.flatten x.ps (t+1) j=(stM x.p L.flatten R.flatten x.ps t j+(x.ps.getD t []).getD (18+j) 0*valI x.p L.flatten R.flatten (x.ps.getD t [])).tmod x.p:=fun _=>rfl
  generalize hq:x.ps.getD t []=q at *
  have w1:∀ (h1:AH) (e:TypeId),(h1.new ⟨[.int .u8 0,.int .u8 0,.int .u8 0,.int .u8 0,.int .u8 0,.int .u8 0,.int .u8 0,.int .u8 0,.int .u8 0,.int .u8 0,.int .u8 0,.int .u8 0,.int .u8 0,.int .u8 0,.int .u8 0,.int .u8 0,.int .u8 0,.int .u8 0,.int .u8 0,.int .u8 0,.int .u8 0,.int .u8 0,.int .u8 0,.int .u8 0,.int .u8 0,.int .u8 0,.int .u8 0],e,false,true⟩).wr h1.length 0 (cel .u8 q)=some (h1.new ⟨cel .u8 q,e,false,true⟩):=fun h1 e=>wr_all (by rw[cel_len,wi];rfl)
  ((try simp (maxSteps:=3000000) (dsimp:=false) (disch:=first|omega|simp only[lnx];omega) only[↓ypre,ypost,↓reduceIte,reduceEqDiff,reduceAdd,reduceSub,reduceLeDiff,zz0,ynew,f1,f2,f3,f7,f9,rd1_of bK2,hvK.1.len,decide_eq_true hlt2,hix,r27,cel_all,cellsL_cel,cel_len,wi,↓w1,cel_take,tk,wrap64_in]);try simp only[yback])
  have s0:Value.agg (cel .u8 (q.take 9)).toArray=aggV .u8 (seg q 0):=by simp[aggV,seg]
  have s1:Value.agg (cel .u8 ((q.drop 9).take 9)).toArray=aggV .u8 (seg q 1):=by simp[aggV,seg]
  rw[s0]
  generalize hH3:AH.new K2 _=H3
  obtain⟨hb3,p3,n3⟩:=new_facts hH3
  refine s_l01At (hby.seg (by omega)) (hu.pre (pp.trans p3)) hm (by rw[flat_len wL] at fL;exact fL) hp (by omega) fun H4 p4=>?_
  have hb4:=pre_get p4 hb3
  refine⟨p4,?_⟩
  have bK4:=pre_get (p3.trans p4) bK2
  ((try simp (maxSteps:=3000000) (dsimp:=false) (disch:=first|omega|simp only[lnx];omega) only[↓ypre,ypost,↓reduceIte,reduceEqDiff,reduceAdd,reduceSub,reduceLeDiff,zz0,ynew,f1,f2,f3,f7,f9,rdn_of hb4,cel_len,wi,cel_drop,cel_take,rd1_of bK4,bin_rem (show x.p≠0 by omega)]);try simp only[yback])
  rw[s1]
  refine s_l01At (hby.seg (by omega)) (hz.pre (pp.trans (p3.trans p4))) hr (by rw[flat_len wR] at fR;exact fR) hp (by omega) fun H5 p5=>?_
  refine⟨p5,?_⟩
  have p35:=p3.trans (p4.trans p5)
  have hb5:=pre_get p5 hb4
  have bK5:=pre_get p5 bK4
  have vin:=valI_in hp hby fL fR aL aR
  have evq:(dot (seg q 0) L.flatten L.flatten.length).tmod x.p*(dot (seg q 1) R.flatten R.flatten.length).tmod x.p=valI x.p L.flatten R.flatten q:=rfl
  have k5:=pre_len p35
  ((try simp (maxSteps:=3000000) (dsimp:=false) (disch:=first|omega|simp only[lnx];omega) only[↓ypre,ypost,↓reduceIte,reduceEqDiff,reduceAdd,reduceSub,reduceLeDiff,zz0,ynew,f1,f2,f3,f7,f9,rd1_of bK5,bin_rem (show x.p≠0 by omega),evq,wrap64_in]);try simp only[yback])
  have s5:TabS H1 H5 nb fl (zt bs i k fun a' b'=>if a'<0 then stM x.p L.flatten R.flatten x.ps (t+1) (a'*k+b') else stM x.p L.flatten R.flatten x.ps t (a'*k+b')):=s2.pre p35
  refine WC_loop_inv (fun m f K3=>∃ (a:Nat),m=i-a∧a≤i∧f 1=u∧f 2=z∧f 3=.pointer (some ⟨h.length,0,none⟩)∧f 7=sl nb i∧f 9=I64 t∧f 10=.pointer (some ⟨K2.length,0,none⟩)∧f 11=I64 ((valI x.p L.flatten R.flatten q).tmod x.p)∧f 12=I64 a∧(K2.length≤K3.length)∧(∃ e,K3.get K2.length=some ⟨cel .u8 q,e,false,true⟩)∧(TabS H1 K3 nb fl (zt bs i k fun a' b'=>if a'<a then stM x.p L.flatten R.flatten x.ps (t+1) (a'*k+b') else stM x.p L.flatten R.flatten x.ps t (a'*k+b')))) ?_ (i-0) _ _ ⟨0,rfl,by omega,(by first|rfl|exact f1|(simp[upd_apply];done)),(by first|rfl|exact f2|(simp[upd_apply];done)),(by first|rfl|exact f3|(simp[upd_apply];done)),(by first|rfl|exact f7|(simp[upd_apply];done)),(by first|rfl|exact f9|(simp[upd_apply];done)),(by first|rfl|simp[upd_apply]),(by first|rfl|simp[upd_apply]),(by first|rfl|simp[upd_apply]),k5,⟨_,hb5⟩,s5⟩
  rintro m f K3 ⟨a,rfl,ha,f1,f2,f3,f7,f9,f10,f11,f12,kl3,b3,s3⟩
  have bK3:=pre_get s3.hp hb1
  by_cases hla:(a:Int)<i
  ·have ha':a<i:=by omega
   have hma:=mul_row (w:=k) ha'
   have gt:=s3.get (i:=a) (by rw[zt_len];exact ha')
   rw[zt_at] at gt
   simp only[gen_len] at gt
   have ixa0:ixsV 1 (sl nb i) (I64 a)=some (.pointer (some ⟨nb,a,none⟩)):=by rw[Lst.ix (by omega),Int.toNat_natCast]
   ((try simp (maxSteps:=3000000) (dsimp:=false) (disch:=first|omega|simp only[lnx];omega) only[↓ypre,ypost,↓reduceIte,reduceEqDiff,reduceAdd,reduceSub,reduceLeDiff,zz0,ynew,f1,f2,f3,f7,f9,f10,f11,f12,rd1_of bK3,en,decide_eq_true hla,ixa0,gt]);try simp only[yback])
   have s6:TabS H1 K3 nb fl (zt bs i k fun a' b'=>if a'<a∨(a'=a∧b'<0) then stM x.p L.flatten R.flatten x.ps (t+1) (a'*k+b') else stM x.p L.flatten R.flatten x.ps t (a'*k+b')):=by
    rw[zt_congr (g':=fun a' b'=>if a'<a then stM x.p L.flatten R.flatten x.ps (t+1) (a'*k+b') else stM x.p L.flatten R.flatten x.ps t (a'*k+b')) (fun a' _ b' _=>by simp)]
    exact s3
   refine WC_loop_inv (fun m f K4=>∃ (c:Nat),m=k-c∧c≤k∧f 1=u∧f 2=z∧f 3=.pointer (some ⟨h.length,0,none⟩)∧f 7=sl nb i∧f 9=I64 t∧f 10=.pointer (some ⟨K2.length,0,none⟩)∧f 11=I64 ((valI x.p L.flatten R.flatten q).tmod x.p)∧f 12=I64 a∧f 13=sl (bs.getD a 0) k∧f 14=I64 c∧(K3.length≤K4.length)∧(∃ e,K4.get K2.length=some ⟨cel .u8 q,e,false,true⟩)∧(TabS H1 K4 nb fl (zt bs i k fun a' b'=>if a'<a∨(a'=a∧b'<c) then stM x.p L.flatten R.flatten x.ps (t+1) (a'*k+b') else stM x.p L.flatten R.flatten x.ps t (a'*k+b')))) ?_ (k-0) _ _ ⟨0,rfl,by omega,(by first|rfl|exact f1|(simp[upd_apply];done)),(by first|rfl|exact f2|(simp[upd_apply];done)),(by first|rfl|exact f3|(simp[upd_apply];done)),(by first|rfl|exact f7|(simp[upd_apply];done)),(by first|rfl|exact f9|(simp[upd_apply];done)),(by first|rfl|exact f10|(simp[upd_apply];done)),(by first|rfl|exact f11|(simp[upd_apply];done)),(by first|rfl|exact f12|(simp[upd_apply];done)),(by first|rfl|simp[upd_apply]),(by first|rfl|simp[upd_apply]),Nat.le_refl _,b3,s6⟩
   rintro m f K4 ⟨c,rfl,hc,f1,f2,f3,f7,f9,f10,f11,f12,f13,f14,kl4,b4,s4⟩
   have bK4':=pre_get s4.hp hb1
   obtain⟨e4,b4⟩:=b4
   by_cases hlc:(c:Int)<k
   ·have hc':c<k:=by omega
    have ixd:ixsV 1 (sl (bs.getD a 0) k) (I64 c)=some (.pointer (some ⟨bs.getD a 0,c,none⟩)):=by rw[Lst.ix (by omega),Int.toNat_natCast]
    obtain⟨rd,H6,w6,l6,k6,t6⟩:=s4.rdz ha' hc' ((stM x.p L.flatten R.flatten x.ps t (a*k+c)+q.getD (18+(a*k+c)) 0*(valI x.p L.flatten R.flatten q).tmod x.p).tmod x.p)
    simp only[Nat.lt_irrefl,and_false,or_false,if_false] at rd
    have g1:=cel_get (k:=.u8) (q:=q) (j:=18+(a*k+c)) (by omega)
    have ixa:=ixa_u (n:=K2.length) (off:=18) (len:=9) (kk:=.i64) (j:=a*k+c) (by omega)
    have c1:=hby.2 (18+(a*k+c)) (by omega)
    have c2:=sin (a*k+c) (by omega)
    have vt:=tmod_nn (J:=x.p) vin.1 (by omega)
    have c3:=Int.mul_nonneg c1.1 vt.1
    have c4:q.getD (18+(a*k+c)) 0*(valI x.p L.flatten R.flatten q).tmod x.p≤255*5:=Int.le_trans (Int.mul_le_mul_of_nonneg_right c1.2 vt.1) (Int.mul_le_mul_of_nonneg_left (by omega) (by decide))
    have emul:(a:Int)*(k:Int)+(c:Int)=((a*k+c:Nat):Int):=by rw[Int.natCast_add,Int.natCast_mul]
    have emul0:(a:Int)*(k:Int)=((a*k:Nat):Int):=by rw[Int.natCast_mul]
    have emul2:((a*k:Nat):Int)+(c:Int)=((a*k+c:Nat):Int):=by rw[Int.natCast_add]
    ((try simp (maxSteps:=3000000) (dsimp:=false) (disch:=first|omega|simp only[lnx];omega) only[↓ypre,ypost,↓reduceIte,reduceEqDiff,reduceAdd,reduceSub,reduceLeDiff,zz0,ynew,f1,f2,f3,f7,f9,f10,f11,f12,f13,f14,rd1_of bK4',ek,decide_eq_true hlc,ixd,rd,emul0,emul2,ixa,rd1_of b4,g1,wrap64_in,bin_rem (show x.p≠0 by omega),w6]);try simp only[yback])
    have b6:∃ e,H6.get K2.length=some ⟨cel .u8 q,e,false,true⟩:=⟨e4,k6 _ _ (by have:=hbs a ha';omega) b4⟩
    have t6':TabS H1 H6 nb fl (zt bs i k fun a' b'=>if a'<a∨(a'=a∧b'<c+1) then stM x.p L.flatten R.flatten x.ps (t+1) (a'*k+b') else stM x.p L.flatten R.flatten x.ps t (a'*k+b')):=by
     rw[zt_congr (fun a' _ b' _=>?_)] at t6
     ·exact t6
     ·by_cases q1:a'=a∧b'=c
      ·obtain⟨rfl,rfl⟩:=q1
       rw[if_pos ⟨rfl,rfl⟩,if_pos (.inr ⟨rfl,by omega⟩),stn,tmod_mul c2.1 c1.1 vin.1 (by omega)]
      ·rw[if_neg q1]
       by_cases q2:a'<a∨(a'=a∧b'<c)
       ·rw[if_pos q2,if_pos (by omega)]
       ·rw[if_neg q2,if_neg (by omega)]
    refine InvQ_go (k-(c+1)) (by omega) ⟨(c+1),rfl,by omega,(by first|rfl|exact f1|(simp only[upd_apply];rfl)|(show I64 _=_;congr 1;omega)),(by first|rfl|exact f2|(simp only[upd_apply];rfl)|(show I64 _=_;congr 1;omega)),(by first|rfl|exact f3|(simp only[upd_apply];rfl)|(show I64 _=_;congr 1;omega)),(by first|rfl|exact f7|(simp only[upd_apply];rfl)|(show I64 _=_;congr 1;omega)),(by first|rfl|exact f9|(simp only[upd_apply];rfl)|(show I64 _=_;congr 1;omega)),(by first|rfl|exact f10|(simp only[upd_apply];rfl)|(show I64 _=_;congr 1;omega)),(by first|rfl|exact f11|(simp only[upd_apply];rfl)|(show I64 _=_;congr 1;omega)),(by first|rfl|exact f12|(simp only[upd_apply];rfl)|(show I64 _=_;congr 1;omega)),(by first|rfl|exact f13|(simp only[upd_apply];rfl)|(show I64 _=_;congr 1;omega)),(by first|rfl|exact f14|(simp only[upd_apply];rfl)|(show I64 _=_;congr 1;omega)),(by omega),b6,t6'⟩
   have ec:c=k:=by omega
   subst ec
   ((try simp (maxSteps:=3000000) (dsimp:=false) (disch:=first|omega|simp only[lnx];omega) only[↓ypre,ypost,↓reduceIte,reduceEqDiff,reduceAdd,reduceSub,reduceLeDiff,zz0,ynew,f1,f2,f3,f7,f9,f10,f11,f12,f13,f14,rd1_of bK4',ek,decide_eq_false hlc,wrap64_in]);try simp only[yback])
   have s7:TabS H1 K4 nb fl (zt bs i c fun a' b'=>if a'<a+1 then stM x.p L.flatten R.flatten x.ps (t+1) (a'*c+b') else stM x.p L.flatten R.flatten x.ps t (a'*c+b')):=by
    rw[zt_congr (fun a' _ b' hb'=>?_)] at s4
    ·exact s4
    ·by_cases q2:a'<a∨(a'=a∧b'<c)
     ·rw[if_pos q2,if_pos (by omega)]
     ·rw[if_neg q2,if_neg (by omega)]
   refine InvQ_go (i-(a+1)) (by omega) ⟨(a+1),rfl,by omega,(by first|rfl|exact f1|(simp only[upd_apply];rfl)|(show I64 _=_;congr 1;omega)),(by first|rfl|exact f2|(simp only[upd_apply];rfl)|(show I64 _=_;congr 1;omega)),(by first|rfl|exact f3|(simp only[upd_apply];rfl)|(show I64 _=_;congr 1;omega)),(by first|rfl|exact f7|(simp only[upd_apply];rfl)|(show I64 _=_;congr 1;omega)),(by first|rfl|exact f9|(simp only[upd_apply];rfl)|(show I64 _=_;congr 1;omega)),(by first|rfl|exact f10|(simp only[upd_apply];rfl)|(show I64 _=_;congr 1;omega)),(by first|rfl|exact f11|(simp only[upd_apply];rfl)|(show I64 _=_;congr 1;omega)),(by first|rfl|exact f12|(simp only[upd_apply];rfl)|(show I64 _=_;congr 1;omega)),(by omega),⟨_,b4⟩,s7⟩
  have ea:a=i:=by omega
  subst ea
  ((try simp (maxSteps:=3000000) (dsimp:=false) (disch:=first|omega|simp only[lnx];omega) only[↓ypre,ypost,↓reduceIte,reduceEqDiff,reduceAdd,reduceSub,reduceLeDiff,zz0,ynew,f1,f2,f3,f7,f9,f10,f11,f12,rd1_of bK3,en,decide_eq_false hla,wrap64_in]);try simp only[yback])
  rw[zt_congr (g':=fun a' b'=>stM x.p L.flatten R.flatten x.ps (t+1) (a'*k+b')) (fun a' ha' b' _=>by rw[if_pos ha'])] at s3
  refine InvQ_go (x.ps.length-(t+1)) (by omega) ⟨(t+1),rfl,by omega,(by first|rfl|exact f1|(simp only[upd_apply];rfl)|(show I64 _=_;congr 1;omega)),(by first|rfl|exact f2|(simp only[upd_apply];rfl)|(show I64 _=_;congr 1;omega)),(by first|rfl|exact f3|(simp only[upd_apply];rfl)|(show I64 _=_;congr 1;omega)),(by first|rfl|exact f7|(simp only[upd_apply];rfl)|(show I64 _=_;congr 1;omega)),(by first|rfl|exact f9|(simp only[upd_apply];rfl)|(show I64 _=_;congr 1;omega)),(by omega),s3⟩
 have et:t=x.ps.length:=by omega
 subst et
 ((try simp (maxSteps:=3000000) (dsimp:=false) (disch:=first|omega|simp only[lnx];omega) only[↓ypre,ypost,↓reduceIte,reduceEqDiff,reduceAdd,reduceSub,reduceLeDiff,zz0,ynew,f1,f2,f3,f7,f9,rd1_of bK2,hvK.1.len,decide_eq_false hlt2]);try simp only[yback])
 have o:=s2.own
 rw[zt_snd,zt_len,←parts_gen] at o
 have eF:parts (gen (i*k) (stM x.p L.flatten R.flatten x.ps x.ps.length)) k i=mpF x L R:=by
  unfold mpF
  rw[en,ek,←Int.natCast_mul,Int.toNat_natCast,Int.toNat_natCast,Int.toNat_natCast]
 rw[eF] at o
 exact hQ _ _ pp (o.lo (pre_len p1))
theorem s_MakeProduct {v u z:Value} {x:Sch} {L R:List (List Int)} {h:AH} {Q:Value→AH→Prop} (hv:Prods h v x.ps) (hl:SmallX x.ps) (hu:Rows h u L) (hL:SmallM L) (hz:Rows h z R) (hR:SmallM R)
  (hQ:∀ v' h',h<+:h'→OwnRows h h' v' (mpR x L R).1→Q (.tuple #[v',I64 (mpR x L R).2]) h'):WF S 68 [schV x v,u,z] h Q:=by
 refine WF_fn (fn:=c68) rfl rfl ?_
 dsimp only[c68,oO,oM,oS,oG,oK,oE,oL,oF,oX,oN]
 ((try simp (maxSteps:=3000000) (dsimp:=false) (disch:=first|omega|simp only[lnx];omega) only[↓ypre,ypost,↓reduceIte,reduceEqDiff,reduceAdd,reduceSub,reduceLeDiff,zz0,ynew,schV,hv.one]);try simp only[yback])
 generalize hH1:AH.new h _=H1
 obtain⟨hb1,p1,n1⟩:=new_facts hH1
 ((try simp (maxSteps:=3000000) (dsimp:=false) (disch:=first|omega|simp only[lnx];omega) only[↓ypre,ypost,↓reduceIte,reduceEqDiff,reduceAdd,reduceSub,reduceLeDiff,zz0,ynew,rdn_of hb1]);try simp only[yback])
 refine s_l01Is (x:=x) (hv.pre p1) hl fun H2 p2=>?_
 have p12:=p1.trans p2
 have hb2:=pre_get p2 hb1
 unfold mpR at hQ
 have no:∀ c,mcX x L R=c→c≠0→Q (.tuple #[.slice none 0 0,I64 c]) H2:=fun c e hc=>by
  rw[if_neg (by omega),e] at hQ
  exact hQ _ _ p12 (.inl ⟨rfl,rfl⟩)
 cases h1:isX x with
 | false=>
  ((try simp (maxSteps:=3000000) (dsimp:=false) (disch:=first|omega|simp only[lnx];omega) only[↓ypre,ypost,↓reduceIte,reduceEqDiff,reduceAdd,reduceSub,reduceLeDiff,zz0,ynew]);try simp only[yback])
  exact no 1 (by unfold mcX;rw[h1];rfl) (by decide)
 | true=>
  obtain⟨zz,hp,hl30,ho⟩:=isX_facts h1
  have hp5:=isP_in hp
  ((try simp (maxSteps:=3000000) (dsimp:=false) (disch:=first|omega|simp only[lnx];omega) only[↓ypre,ypost,↓reduceIte,reduceEqDiff,reduceAdd,reduceSub,reduceLeDiff,zz0,ynew,rd1_of hb2]);try simp only[yback])
  refine s_l01Matrix (hu.pre p12) hL hp5 ?_
  cases h2:(isMat x.p x.m L&&decide ((L.length:Int)=x.n)) with
  | false=>
   ((try simp (maxSteps:=3000000) (dsimp:=false) (disch:=first|omega|simp only[lnx];omega) only[↓ypre,ypost,↓reduceIte,reduceEqDiff,reduceAdd,reduceSub,reduceLeDiff,zz0,ynew]);try simp only[yback])
   exact no 2 (by unfold mcX mOK;rw[h1,h2];rfl) (by decide)
  | true=>
   ((try simp (maxSteps:=3000000) (dsimp:=false) (disch:=first|omega|simp only[lnx];omega) only[↓ypre,ypost,↓reduceIte,reduceEqDiff,reduceAdd,reduceSub,reduceLeDiff,zz0,ynew,rd1_of hb2]);try simp only[yback])
   refine s_l01Matrix (hz.pre p12) hR hp5 ?_
   cases h3:(isMat x.p x.k R&&decide ((R.length:Int)=x.m)) with
   | false=>
    ((try simp (maxSteps:=3000000) (dsimp:=false) (disch:=first|omega|simp only[lnx];omega) only[↓ypre,ypost,↓reduceIte,reduceEqDiff,reduceAdd,reduceSub,reduceLeDiff,zz0,ynew]);try simp only[yback])
    exact no 2 (by unfold mcX mOK;rw[h1,h2,h3];rfl) (by decide)
   | true=>
    have hc:mcX x L R=0:=by unfold mcX mOK;rw[h1,h2,h3];rfl
    rw[if_pos hc] at hQ
    obtain⟨n,m,k,mf⟩:=mf_of hc
    ((try simp (maxSteps:=3000000) (dsimp:=false) (disch:=first|omega|simp only[lnx];omega) only[↓ypre,ypost,↓reduceIte,reduceEqDiff,reduceAdd,reduceSub,reduceLeDiff,zz0,ynew,rdn_of hb2]);try simp only[yback])
    refine s_l01Make (hv.pre p12) mf hl30 hp5 (hu.pre p12) (hz.pre p12) fun v6 H6 p6 o6=>?_
    ((try simp (maxSteps:=3000000) (dsimp:=false) (disch:=first|omega|simp only[lnx];omega) only[↓ypre,ypost,↓reduceIte,reduceEqDiff,reduceAdd,reduceSub,reduceLeDiff,zz0,ynew]);try simp only[yback])
    exact hQ _ _ (p12.trans p6) (o6.lo (pre_len p12))
theorem mpR_small (x:Sch) (L R:List (List Int)):SmallM (mpR x L R).1:=by
 unfold mpR
 by_cases hc:mcX x L R=0
 ·rw[if_pos hc]
  obtain⟨n,m,k,mf⟩:=mf_of hc
  have b:=mf.b
  have eF:mpF x L R=parts (gen (n*k) (stM x.p L.flatten R.flatten x.ps x.ps.length)) k n:=by
   unfold mpF
   rw[mf.en,mf.ek,←Int.natCast_mul,Int.toNat_natCast,Int.toNat_natCast,Int.toNat_natCast]
  have hlen:(mpF x L R).length=n:=by rw[eF,parts_len]
  have hrow:∀ i,i<n→((mpF x L R).getD i []).length=k:=fun i hi=>by
   rw[eF,parts_get hi,List.length_take,List.length_drop,gen_len]
   have:=mul_row (w:=k) hi
   omega
  show SmallM (mpF x L R)
  exact smallM_of2 (A:=3) (B:=3) (by omega) (fun i hi=>by rw[hrow i (by omega)];omega) (by omega)
 ·rw[if_neg hc]
  exact⟨by simp,by simp,by simp[tot]⟩
theorem smT_sm {g:Nat→Int}:∀ {n:Nat},smT g n=sm n g
 | 0=>rfl
 | n+1=>by rw[smT,sm,smT_sm]
theorem sm_nn {g:Nat→Int}:∀ {n:Nat},(∀ i,i<n→0≤g i)→0≤sm n g
 | 0,_=>Int.le_refl _
 | n+1,h=>by
  have a:=sm_nn (n:=n) fun i hi=>h i (by omega)
  have b:=h n (by omega)
  simp only[sm]
  omega
theorem wrX_sum {x:Sch} {n m k:Nat} (z:SZ x) (en:x.n=n) (em:x.m=m) (ek:x.k=k) (hw:wrX x=[]) {a b c:Nat} (ha:a<n*m) (hb:b<m*k) (hc:c<n*k) :
  Cg x.p (Sx x.ps x.ps.length a b c) (wn m k a b c):=by
 obtain⟨I,J,K,eI,eJ,eK,bI,bJ,bK,eW⟩:=sz_nat z
 rw[en,em] at eI
 rw[em,ek] at eJ
 rw[en,ek] at eK
 have eI:I=n*m:=by rw[←Int.natCast_mul] at eI;exact (Int.ofNat.inj eI).symm
 have eJ:J=m*k:=by rw[←Int.natCast_mul] at eJ;exact (Int.ofNat.inj eJ).symm
 have eK:K=n*k:=by rw[←Int.natCast_mul] at eK;exact (Int.ofNat.inj eK).symm
 rw[eW] at hw
 have lt:a*(J*K)+b*K+c<I*(J*K):=by
  have h2:b*K+c<J*K:=by
   have:=Nat.mul_le_mul_right K (show b+1≤J by omega)
   rw[Nat.add_mul,Nat.one_mul] at this
   omega
  have h3:=Nat.mul_le_mul_right (J*K) (show a+1≤I by omega)
  rw[Nat.add_mul,Nat.one_mul] at h3
  omega
 have bad:=wrS_nil hw _ lt
 obtain⟨d1,d2,d3⟩:=eDec (e:=a*(J*K)+b*K+c) rfl (show b<J by omega) (show c<K by omega)
 unfold badE at bad
 rw[d1,d2,d3] at bad
 have e:lsX x a b c=wnX x a b c:=by simpa using bad
 have ew:wnX x a b c=wn m k a b c:=by unfold wnX;rw[em,ek];rfl
 rw[←ew,←e]
 unfold lsX lsS
 rw[smT_sm]
 exact (cg_md _ _).symm
theorem mp_pp {h:AH} {v:Value} {x:Sch} {L R:List (List Int)} (hv:Prods h v x.ps) (hx:isX x=true) (hc:mcX x L R=0) (hw:wrX x=[]):ppR x.p L R=(mpF x L R,0):=by
 obtain⟨z,hP,hl30,-⟩:=isX_facts hx
 have hp:=isP_in hP
 obtain⟨n,m,k,mf⟩:=mf_of hc
 obtain⟨en,em,ek,b,nk,wL,wR,lL,lR,fL,fR,aL,aR,hm,hr⟩:=id mf
 have hk0:(R.getD 0 []).length=k:=wR _ (by
  rw[List.getD_eq_getElem?_getD,List.getElem?_eq_getElem (show 0<R.length by omega)]
  exact List.getElem_mem _)
 have zn:=z.n
 have zm:=z.m
 have zk:=z.k
 have pm:PM x.p L R (R.getD 0 []).length:=by
  rw[hk0]
  exact⟨hP,by omega,by omega,by omega,by rw[lR];exact hm,hr,hk0⟩
 have ok:=ppOK_iff.2 pm
 rw[hk0] at pm
 unfold ppR
 rw[if_pos ok,hk0]
 congr 1
 rw[mp_plain hp hv.1.widL hv.2 mf (fun a b c ha hb hc=>wrX_sum z en em ek hw ha hb hc),parts_gen]
 unfold ppF
 rw[lL]
 refine List.map_congr_left fun i hi=>?_
 have hi:=List.mem_range.1 hi
 refine gen_congr fun l hl=>?_
 have a:=pv_in pm (i:=i) (l:=l) (by omega) hl (j:=R.length) (Nat.le_refl _)
 unfold ppG
 rw[(dm hl).1,(dm hl).2]
 have nn:0≤sm m fun j=>L.flatten.getD (i*m+j) 0*R.flatten.getD (j*k+l) 0:=sm_nn fun j hj=>by
  rw[flat_at wL (by omega) hj,flat_at wR (by omega) hl]
  have:=pv_step pm (i:=i) (l:=l) (j:=j) (by omega) hl (by omega)
  exact this.2.2.1.1
 refine cg_eq a (tmod_nn nn (by omega)) (pv_sm.trans (Cg.trans (Cg.of ?_) (cg_md _ _).symm))
 rw[lR]
 refine sm_ext fun j hj=>?_
 rw[flat_at wL (by omega) hj,flat_at wR (by omega) hl]
theorem OQ_C4 {f:Fr} {h:AH} {a b c d n:Nat} {e:TypeId} {cl:List Value} {ro fl:Bool} {x y z:Value} {Q:Value→AH→Prop} (fa:f a=.pointer (some ⟨n,0,none⟩)) (fb:f b=x) (fc:f c=y) (fd:f d=z)
  (ha:h.get n=some ⟨cl,e,ro,fl⟩) (hl:cl.length=5) (hQ:Q (.tuple #[.agg cl.toArray,x,y,z]) h):OQ (Option.map (fun x=>(x,h)) (xres f h [.celln a 5,.tmp b,.tmp c,.tmp d])) Q:=by
 have e:xres f h [.celln a 5,.tmp b,.tmp c,.tmp d]=some (.tuple #[.agg cl.toArray,x,y,z]):=by
  unfold xres xresl xresl xresl xresl xresl
  rw[show xres1 f h (.celln a 5)=some (.agg cl.toArray) from xresn fa ha hl,xres1_tmp,xres1_tmp,xres1_tmp,fb,fc,fd]
 rw[e,Option.map_some,OQ_some]
 exact hQ
theorem s_l01Equation {h:AH} {cv:Value} {code:List (List Int)} {Q:Value→AH→Prop} (c:Cod h cv code)
  (hQ:∀ (x:Sch) (v:Value) (a b d:Int) (h':AH),h<+:h'→SchD h.length h' v x→SchB x→Q (.tuple #[schV x v,I64 a,I64 b,I64 d]) h'):WF S 220 [cv] h Q:=by
 refine WF_fn (fn:=c220) rfl rfl ?_
 dsimp only[c220,oO,oM,oS,oG,oK,oE,oL,oF,oX,oN]
 ((try simp (maxSteps:=3000000) (dsimp:=false) (disch:=first|omega|simp only[lnx];omega) only[↓ypre,ypost,↓reduceIte,reduceEqDiff,reduceAdd,reduceSub,reduceLeDiff,zz0,ynew]);try simp only[yback])
 generalize hH1:AH.new h _=H1
 obtain⟨hb1,p1,n1⟩:=new_facts hH1
 refine s_l01From (c.els.pre p1) c.byt c.len fun H2 p2 l2 s2=>?_
 have n2:=s2.lt
 ((try simp (maxSteps:=3000000) (dsimp:=false) (disch:=first|omega|simp only[lnx];omega) only[↓ypre,ypost,↓reduceIte,reduceEqDiff,reduceAdd,reduceSub,reduceLeDiff,zz0,ynew]);try simp only[yback])
 refine s_l01Spoil s2 fun x v H3 k3 s3 sd xb=>?_
 have g1:=k3.get (by omega) (pre_get p2 hb1)
 have k3l:=k3.len
 have o1:isOne v=true:=sd.now.one
 refine WO_cut (fun f:Fr=>f 2=.pointer (some ⟨h.length,0,none⟩)∧f 3=I64 0∧f 4=I64 0∧f 5=I64 0∧f 6=srcP H1.length∧f 14=schV x v∧True) ⟨(by first|rfl|simp[upd_apply]),(by first|rfl|simp[upd_apply]),(by first|rfl|simp[upd_apply]),(by first|rfl|simp[upd_apply]),(by first|rfl|simp[upd_apply]),(by first|rfl|simp[upd_apply]),trivial⟩ ?_
 rintro f ⟨f2,f3,f4,f5,f6,f14,-⟩
 ((try simp (maxSteps:=3000000) (dsimp:=false) (disch:=first|omega|simp only[lnx];omega) only[↓ypre,ypost,↓reduceIte,reduceEqDiff,reduceAdd,reduceSub,reduceLeDiff,zz0,ynew,f2,f3,f4,f5,f6,f14,schV,o1]);try simp only[yback])
 generalize hH4:AH.new H3 _=H4
 obtain⟨hb4,p4,n4⟩:=new_facts hH4
 have g1:=pre_get p4 g1
 have sd:SchD H2.length H4 v x:=KN.pre sd p4
 have s4:=s3.kp p4
 ((try simp (maxSteps:=3000000) (dsimp:=false) (disch:=first|omega|simp only[lnx];omega) only[↓ypre,ypost,↓reduceIte,reduceEqDiff,reduceAdd,reduceSub,reduceLeDiff,zz0,ynew,f2,f3,f4,f5,f6,f14,rdn_of hb4]);try simp only[yback])
 refine s_l01Is (x:=x) sd.now xb.l fun H5 p5=>?_
 have g1:=pre_get p5 g1
 have g4:=pre_get p5 hb4
 have sd:SchD H2.length H5 v x:=KN.pre sd p5
 have s5:=s4.kp p5
 have l5:=p5.length_le
 have fin:∀ (a b d:Int) (H' HZ:AH),H'.put h.length ⟨[I64 x.p,I64 x.n,I64 x.m,I64 x.k,v],26,false,true⟩=HZ→h<+:H'→SchD H2.length H' v x→Q (.tuple #[schV x v,I64 a,I64 b,I64 d]) HZ:=by
  intro a b d H' HZ hZ p' sd'
  subst hZ
  exact hQ x v a b d _ (pre_put p' (Nat.le_refl _)) (KN.mono (KN.put sd' (by omega)) (by omega)) xb
 refine WO_cut (fun f:Fr=>f 2=.pointer (some ⟨h.length,0,none⟩)∧f 6=srcP H1.length∧f 7=.pointer (some ⟨H3.length,0,none⟩)∧f 16=.bool (isX x)∧True) ⟨(by first|rfl|exact f2|simp[upd_apply,f2]),(by first|rfl|exact f6|simp[upd_apply,f6]),(by first|rfl|simp[upd_apply]),(by first|rfl|simp[upd_apply]),trivial⟩ ?_
 rintro f ⟨f2,f6,f7,f16,-⟩
 by_cases hx:isX x=true
 case neg=>
  rw[Bool.not_eq_true] at hx
  rw[hx] at f16
  ((try simp (maxSteps:=3000000) (dsimp:=false) (disch:=first|omega|simp only[lnx];omega) only[↓ypre,ypost,↓reduceIte,reduceEqDiff,reduceAdd,reduceSub,reduceLeDiff,zz0,ynew,f2,f6,f7,f16,rdn_of g4,schV,o1,wr_of g1,splice_eq]);try simp only[yback])
  generalize hHZ:AH.put H5 _ _=HZ
  have F1:HZ.get h.length=some ⟨[I64 x.p,I64 x.n,I64 x.m,I64 x.k,v],26,false,true⟩:=hHZ▸get_put_same (by omega)
  refine OQ_C4 (x:=I64 0) (y:=I64 0) (z:=I64 0) (a:=2) (b:=3) (c:=4) (d:=5) (n:=h.length) ?_ ?_ ?_ ?_ F1 rfl (fin 0 0 0 H5 HZ hHZ (p1.trans s5.p) sd)
  ·exact f2
  ·rfl
  ·rfl
  ·rfl
 rw[hx] at f16
 obtain⟨z,hP,hl30,-⟩:=isX_facts hx
 have zn:=z.nm
 have zm:=z.mk2
 have zk:=z.nk
 ((try simp (maxSteps:=3000000) (dsimp:=false) (disch:=first|omega|simp only[lnx];omega) only[↓ypre,ypost,↓reduceIte,reduceEqDiff,reduceAdd,reduceSub,reduceLeDiff,zz0,ynew,f2,f6,f7,f16,rdn_of g4]);try simp only[yback])
 refine s_l01Lengths (x:=x) o1 z fun H6 p6=>?_
 have g1:=pre_get p6 g1
 have g4:=pre_get p6 g4
 have sd:SchD H2.length H6 v x:=KN.pre sd p6
 have s6:=s5.kp p6
 have l6:=p6.length_le
 refine WO_cut (fun f:Fr=>f 2=.pointer (some ⟨h.length,0,none⟩)∧f 6=srcP H1.length∧f 7=.pointer (some ⟨H3.length,0,none⟩)∧f 21=.tuple #[I64 (x.n*x.m),I64 (x.m*x.k),I64 (x.n*x.k)]∧True) ⟨(by first|rfl|exact f2|simp[upd_apply,f2]),(by first|rfl|exact f6|simp[upd_apply,f6]),(by first|rfl|exact f7|simp[upd_apply,f7]),(by first|rfl|simp[upd_apply]),trivial⟩ ?_
 rintro f ⟨f2,f6,f7,f21,-⟩
 ((try simp (maxSteps:=3000000) (dsimp:=false) (disch:=first|omega|simp only[lnx];omega) only[↓ypre,ypost,↓reduceIte,reduceEqDiff,reduceAdd,reduceSub,reduceLeDiff,zz0,ynew,f2,f6,f7,f21,rdn_of g4,wrap64_in]);try simp only[yback])
 refine⟨by omega,?_⟩
 refine s_l01Near s6 (by omega) fun r1 H7 k7 s7 _=>?_
 refine⟨⟨_,rfl,k7⟩,?_⟩
 have k7l:=k7.len
 have g1:=k7.get (by omega) g1
 have g4:=k7.get (by omega) g4
 have sd:SchD H2.length H7 v x:=KN.kp sd k7 (by omega)
 refine WO_cut (fun f:Fr=>f 2=.pointer (some ⟨h.length,0,none⟩)∧f 6=srcP H1.length∧f 7=.pointer (some ⟨H3.length,0,none⟩)∧f 9=I64 (x.m*x.k)∧f 10=I64 (x.n*x.k)∧f 25=schV x v∧f 29=I64 r1∧True) ⟨(by first|rfl|exact f2|simp[upd_apply,f2]),(by first|rfl|exact f6|simp[upd_apply,f6]),(by first|rfl|exact f7|simp[upd_apply,f7]),(by first|rfl|simp[upd_apply]),(by first|rfl|simp[upd_apply]),(by first|rfl|simp[upd_apply]),(by first|rfl|simp[upd_apply]),trivial⟩ ?_
 rintro f ⟨f2,f6,f7,f9,f10,f25,f29,-⟩
 ((try simp (maxSteps:=3000000) (dsimp:=false) (disch:=first|omega|simp only[lnx];omega) only[↓ypre,ypost,↓reduceIte,reduceEqDiff,reduceAdd,reduceSub,reduceLeDiff,zz0,ynew,f2,f6,f7,f9,f10,f25,f29,wrap64_in]);try simp only[yback])
 refine⟨by omega,?_⟩
 refine s_l01Near s7 (by omega) fun r2 H8 k8 s8 _=>?_
 refine⟨⟨_,rfl,k8⟩,?_⟩
 have k8l:=k8.len
 have g1:=k8.get (by omega) g1
 have sd:SchD H2.length H8 v x:=KN.kp sd k8 (by omega)
 refine WO_cut (fun f:Fr=>f 2=.pointer (some ⟨h.length,0,none⟩)∧f 6=srcP H1.length∧f 7=.pointer (some ⟨H3.length,0,none⟩)∧f 10=I64 (x.n*x.k)∧f 25=schV x v∧f 29=I64 r1∧f 33=I64 r2∧True) ⟨(by first|rfl|exact f2|simp[upd_apply,f2]),(by first|rfl|exact f6|simp[upd_apply,f6]),(by first|rfl|exact f7|simp[upd_apply,f7]),(by first|rfl|exact f10|simp[upd_apply,f10]),(by first|rfl|exact f25|simp[upd_apply,f25]),(by first|rfl|exact f29|simp[upd_apply,f29]),(by first|rfl|simp[upd_apply]),trivial⟩ ?_
 rintro f ⟨f2,f6,f7,f10,f25,f29,f33,-⟩
 ((try simp (maxSteps:=3000000) (dsimp:=false) (disch:=first|omega|simp only[lnx];omega) only[↓ypre,ypost,↓reduceIte,reduceEqDiff,reduceAdd,reduceSub,reduceLeDiff,zz0,ynew,f2,f6,f7,f10,f25,f29,f33,wrap64_in]);try simp only[yback])
 refine⟨by omega,?_⟩
 refine s_l01Near s8 (by omega) fun r3 H9 k9 s9 _=>?_
 refine⟨⟨_,rfl,k9⟩,?_⟩
 have k9l:=k9.len
 have g1:=k9.get (by omega) g1
 have sd:SchD H2.length H9 v x:=KN.kp sd k9 (by omega)
 refine WO_cut (fun f:Fr=>f 2=.pointer (some ⟨h.length,0,none⟩)∧f 25=schV x v∧f 29=I64 r1∧f 33=I64 r2∧f 37=I64 r3∧True) ⟨(by first|rfl|exact f2|simp[upd_apply,f2]),(by first|rfl|exact f25|simp[upd_apply,f25]),(by first|rfl|exact f29|simp[upd_apply,f29]),(by first|rfl|exact f33|simp[upd_apply,f33]),(by first|rfl|simp[upd_apply]),trivial⟩ ?_
 rintro f ⟨f2,f25,f29,f33,f37,-⟩
 ((try simp (maxSteps:=3000000) (dsimp:=false) (disch:=first|omega|simp only[lnx];omega) only[↓ypre,ypost,↓reduceIte,reduceEqDiff,reduceAdd,reduceSub,reduceLeDiff,zz0,ynew,f2,f25,f29,f33,f37,schV,o1,wr_of g1,splice_eq]);try simp only[yback])
 generalize hHZ:AH.put H9 _ _=HZ
 have F1:HZ.get h.length=some ⟨[I64 x.p,I64 x.n,I64 x.m,I64 x.k,v],26,false,true⟩:=hHZ▸get_put_same (by omega)
 refine OQ_C4 (x:=I64 r1) (y:=I64 r2) (z:=I64 r3) (a:=2) (b:=3) (c:=4) (d:=5) (n:=h.length) ?_ ?_ ?_ ?_ F1 rfl (fin r1 r2 r3 H9 HZ hHZ (p1.trans s9.p) sd)
 ·exact f2
 ·rfl
 ·rfl
 ·rfl
theorem s_DrawLeftSide {h:AH} {cv:Value} {code:List (List Int)} {Q:Value→AH→Prop} (c:Cod h cv code)
  (hQ:∀ (x:Sch) (v:Value) (a b d:Int) (h':AH),h<+:h'→Prods h' v x.ps→SchB x→Q (.tuple #[schV x v,I64 a,I64 b,I64 d]) h'):WF S 76 [cv] h Q:=by
 refine WF_fn (fn:=c76) rfl rfl ?_
 dsimp only[c76,oO,oM,oS,oG,oK,oE,oL,oF,oX,oN]
 ((try simp (maxSteps:=3000000) (dsimp:=false) (disch:=first|omega|simp only[lnx];omega) only[↓ypre,ypost,↓reduceIte,reduceEqDiff,reduceAdd,reduceSub,reduceLeDiff,zz0,ynew]);try simp only[yback])
 generalize hH1:AH.new h _=H1
 obtain⟨hb1,p1,n1⟩:=new_facts hH1
 refine s_l01Equation (c.pre p1) fun x v a b d H2 p2 sd xb=>?_
 have g1:=pre_get p2 hb1
 have o1:isOne v=true:=sd.now.one
 refine WO_cut (fun f:Fr=>f 2=.pointer (some ⟨h.length,0,none⟩)∧f 12=.tuple #[schV x v,I64 a,I64 b,I64 d]∧True) ⟨(by first|rfl|simp[upd_apply]),(by first|rfl|simp[upd_apply]),trivial⟩ ?_
 rintro f ⟨f2,f12,-⟩
 ((try simp (maxSteps:=3000000) (dsimp:=false) (disch:=first|omega|simp only[lnx];omega) only[↓ypre,ypost,↓reduceIte,reduceEqDiff,reduceAdd,reduceSub,reduceLeDiff,zz0,ynew,f2,f12,schV,o1]);try simp only[yback])
 generalize hH3:AH.new H2 _=H3
 obtain⟨g3,p3,n3⟩:=new_facts hH3
 have g1:=pre_get p3 g1
 have l1:=get_lt g1
 ((try simp (maxSteps:=3000000) (dsimp:=false) (disch:=first|omega|simp only[lnx];omega) only[↓ypre,ypost,↓reduceIte,reduceEqDiff,reduceAdd,reduceSub,reduceLeDiff,zz0,ynew,f2,f12,rdn_of g3,o1,wr_of g1,splice_eq]);try simp only[yback])
 generalize hHZ:AH.put H3 _ _=HZ
 have F1:HZ.get h.length=some ⟨[I64 x.p,I64 x.n,I64 x.m,I64 x.k,v],26,false,true⟩:=hHZ▸get_put_same (by omega)
 have pp:h<+:H3:=p1.trans (p2.trans p3)
 have sd:SchD H1.length H3 v x:=KN.pre sd p3
 refine OQ_C4 (x:=I64 a) (y:=I64 b) (z:=I64 d) (a:=2) (b:=3) (c:=4) (d:=5) (n:=h.length) ?_ ?_ ?_ ?_ F1 rfl (hQ x v a b d HZ (hHZ▸pre_put pp (Nat.le_refl _)) (hHZ▸(KN.put sd (by omega)).now) xb)
 ·exact f2
 ·rfl
 ·rfl
 ·rfl
theorem s_DrawRightSide {h:AH} {cv:Value} {code:List (List Int)} {Q:Value→AH→Prop} (c:Cod h cv code)
  (hQ:∀ (x:Sch) (v:Value) (a b d:Int) (h':AH),h<+:h'→Prods h' v x.ps→SchB x→Q (.tuple #[schV x v,I64 a,I64 b,I64 d]) h'):WF S 78 [cv] h Q:=by
 refine WF_fn (fn:=c78) rfl rfl ?_
 dsimp only[c78,oO,oM,oS,oG,oK,oE,oL,oF,oX,oN]
 ((try simp (maxSteps:=3000000) (dsimp:=false) (disch:=first|omega|simp only[lnx];omega) only[↓ypre,ypost,↓reduceIte,reduceEqDiff,reduceAdd,reduceSub,reduceLeDiff,zz0,ynew]);try simp only[yback])
 generalize hH1:AH.new h _=H1
 obtain⟨hb1,p1,n1⟩:=new_facts hH1
 refine s_l01Equation (c.pre p1) fun x v a b d H2 p2 sd xb=>?_
 have g1:=pre_get p2 hb1
 have o1:isOne v=true:=sd.now.one
 refine WO_cut (fun f:Fr=>f 2=.pointer (some ⟨h.length,0,none⟩)∧f 12=.tuple #[schV x v,I64 a,I64 b,I64 d]∧True) ⟨(by first|rfl|simp[upd_apply]),(by first|rfl|simp[upd_apply]),trivial⟩ ?_
 rintro f ⟨f2,f12,-⟩
 ((try simp (maxSteps:=3000000) (dsimp:=false) (disch:=first|omega|simp only[lnx];omega) only[↓ypre,ypost,↓reduceIte,reduceEqDiff,reduceAdd,reduceSub,reduceLeDiff,zz0,ynew,f2,f12,schV,o1]);try simp only[yback])
 generalize hH3:AH.new H2 _=H3
 obtain⟨g3,p3,n3⟩:=new_facts hH3
 have g1:=pre_get p3 g1
 have l1:=get_lt g1
 ((try simp (maxSteps:=3000000) (dsimp:=false) (disch:=first|omega|simp only[lnx];omega) only[↓ypre,ypost,↓reduceIte,reduceEqDiff,reduceAdd,reduceSub,reduceLeDiff,zz0,ynew,f2,f12,rdn_of g3,o1,wr_of g1,splice_eq]);try simp only[yback])
 generalize hHZ:AH.put H3 _ _=HZ
 have F1:HZ.get h.length=some ⟨[I64 x.p,I64 x.n,I64 x.m,I64 x.k,v],26,false,true⟩:=hHZ▸get_put_same (by omega)
 have pp:h<+:H3:=p1.trans (p2.trans p3)
 have sd:SchD H1.length H3 v x:=KN.pre sd p3
 refine OQ_C4 (x:=I64 a) (y:=I64 b) (z:=I64 d) (a:=2) (b:=3) (c:=4) (d:=5) (n:=h.length) ?_ ?_ ?_ ?_ F1 rfl (hQ x v a b d HZ (hHZ▸pre_put pp (Nat.le_refl _)) (hHZ▸(KN.put sd (by omega)).now) xb)
 ·exact f2
 ·rfl
 ·rfl
 ·rfl
theorem s_DrawFirstWrong {h:AH} {cv:Value} {code:List (List Int)} {Q:Value→AH→Prop} (c:Cod h cv code)
  (hQ:∀ (x:Sch) (v:Value) (h':AH),h<+:h'→Prods h' v x.ps→SchB x→Q (schV x v) h'):WF S 69 [cv] h Q:=by
 refine WF_fn (fn:=c69) rfl rfl ?_
 dsimp only[c69,oO,oM,oS,oG,oK,oE,oL,oF,oX,oN]
 ((try simp (maxSteps:=3000000) (dsimp:=false) (disch:=first|omega|simp only[lnx];omega) only[↓ypre,ypost,↓reduceIte,reduceEqDiff,reduceAdd,reduceSub,reduceLeDiff,zz0,ynew]);try simp only[yback])
 generalize hH1:AH.new h _=H1
 obtain⟨hb1,p1,n1⟩:=new_facts hH1
 refine s_l01From (c.els.pre p1) c.byt c.len fun H2 p2 l2 s2=>?_
 ((try simp (maxSteps:=3000000) (dsimp:=false) (disch:=first|omega|simp only[lnx];omega) only[↓ypre,ypost,↓reduceIte,reduceEqDiff,reduceAdd,reduceSub,reduceLeDiff,zz0,ynew]);try simp only[yback])
 refine s_l01Spoil s2 fun x v H3 k3 s3 sd xb=>?_
 have g1:=k3.get (by omega) (pre_get p2 hb1)
 have lg:=get_lt g1
 have o1:isOne v=true:=sd.now.one
 ((try simp (maxSteps:=3000000) (dsimp:=false) (disch:=first|omega|simp only[lnx];omega) only[↓ypre,ypost,↓reduceIte,reduceEqDiff,reduceAdd,reduceSub,reduceLeDiff,zz0,ynew,schV,o1,wr_of g1,splice_eq,rdn_put_same]);try simp only[yback])
 exact hQ x v _ (pre_put (p1.trans s3.p) (Nat.le_refl _)) (KN.put sd (by omega)).now xb
theorem s_DrawCountWrong {h:AH} {cv:Value} {code:List (List Int)} {Q:Value→AH→Prop} (c:Cod h cv code)
  (hQ:∀ (x:Sch) (v:Value) (h':AH),h<+:h'→Prods h' v x.ps→SchB x→Q (schV x v) h'):WF S 82 [cv] h Q:=by
 refine WF_fn (fn:=c82) rfl rfl ?_
 dsimp only[c82,oO,oM,oS,oG,oK,oE,oL,oF,oX,oN]
 ((try simp (maxSteps:=3000000) (dsimp:=false) (disch:=first|omega|simp only[lnx];omega) only[↓ypre,ypost,↓reduceIte,reduceEqDiff,reduceAdd,reduceSub,reduceLeDiff,zz0,ynew]);try simp only[yback])
 generalize hH1:AH.new h _=H1
 obtain⟨hb1,p1,n1⟩:=new_facts hH1
 refine s_l01From (c.els.pre p1) c.byt c.len fun H2 p2 l2 s2=>?_
 ((try simp (maxSteps:=3000000) (dsimp:=false) (disch:=first|omega|simp only[lnx];omega) only[↓ypre,ypost,↓reduceIte,reduceEqDiff,reduceAdd,reduceSub,reduceLeDiff,zz0,ynew]);try simp only[yback])
 refine s_l01Spoil s2 fun x v H3 k3 s3 sd xb=>?_
 have g1:=k3.get (by omega) (pre_get p2 hb1)
 have lg:=get_lt g1
 have o1:isOne v=true:=sd.now.one
 ((try simp (maxSteps:=3000000) (dsimp:=false) (disch:=first|omega|simp only[lnx];omega) only[↓ypre,ypost,↓reduceIte,reduceEqDiff,reduceAdd,reduceSub,reduceLeDiff,zz0,ynew,schV,o1,wr_of g1,splice_eq,rdn_put_same]);try simp only[yback])
 exact hQ x v _ (pre_put (p1.trans s3.p) (Nat.le_refl _)) (KN.put sd (by omega)).now xb
theorem s_DrawIsCorrect {h:AH} {cv:Value} {code:List (List Int)} {Q:Value→AH→Prop} (c:Cod h cv code)
  (hQ:∀ (x:Sch) (v:Value) (h':AH),h<+:h'→Prods h' v x.ps→SchB x→Q (schV x v) h'):WF S 84 [cv] h Q:=by
 refine WF_fn (fn:=c84) rfl rfl ?_
 dsimp only[c84,oO,oM,oS,oG,oK,oE,oL,oF,oX,oN]
 ((try simp (maxSteps:=3000000) (dsimp:=false) (disch:=first|omega|simp only[lnx];omega) only[↓ypre,ypost,↓reduceIte,reduceEqDiff,reduceAdd,reduceSub,reduceLeDiff,zz0,ynew]);try simp only[yback])
 generalize hH1:AH.new h _=H1
 obtain⟨hb1,p1,n1⟩:=new_facts hH1
 refine s_l01From (c.els.pre p1) c.byt c.len fun H2 p2 l2 s2=>?_
 ((try simp (maxSteps:=3000000) (dsimp:=false) (disch:=first|omega|simp only[lnx];omega) only[↓ypre,ypost,↓reduceIte,reduceEqDiff,reduceAdd,reduceSub,reduceLeDiff,zz0,ynew]);try simp only[yback])
 refine s_l01Spoil s2 fun x v H3 k3 s3 sd xb=>?_
 have g1:=k3.get (by omega) (pre_get p2 hb1)
 have lg:=get_lt g1
 have o1:isOne v=true:=sd.now.one
 ((try simp (maxSteps:=3000000) (dsimp:=false) (disch:=first|omega|simp only[lnx];omega) only[↓ypre,ypost,↓reduceIte,reduceEqDiff,reduceAdd,reduceSub,reduceLeDiff,zz0,ynew,schV,o1,wr_of g1,splice_eq,rdn_put_same]);try simp only[yback])
 exact hQ x v _ (pre_put (p1.trans s3.p) (Nat.le_refl _)) (KN.put sd (by omega)).now xb
theorem xres_t3' {f:Fr} {h:AH} {a b c:Nat}:xres f h [.tmp a,.tmp b,.tmp c]=some (.tuple #[f a,f b,f c]):=xres_3 rfl rfl rfl
theorem s_DrawPlainProduct {h:AH} {cv:Value} {code:List (List Int)} {Q:Value→AH→Prop} (c:Cod h cv code)
  (hQ:∀ (p:Int) (A C:List (List Int)) (a d:Value) (h':AH),h<+:h'→Rows h' a A→SmallM A→Rows h' d C→SmallM C→Q (.tuple #[I64 p,a,d]) h'):WF S 80 [cv] h Q:=by
 refine WF_fn (fn:=c80) rfl rfl ?_
 dsimp only[c80,oO,oM,oS,oG,oK,oE,oL,oF,oX,oN]
 ((try simp (maxSteps:=3000000) (dsimp:=false) (disch:=first|omega|simp only[lnx];omega) only[↓ypre,ypost,↓reduceIte,reduceEqDiff,reduceAdd,reduceSub,reduceLeDiff,zz0,ynew]);try simp only[yback])
 refine s_l01From c.els c.byt c.len fun H2 p2 l2 s2=>?_
 have n2:=s2.lt
 refine WO_cut (fun f:Fr=>f 11=srcP h.length∧True) ⟨(by first|rfl|simp[upd_apply]),trivial⟩ ?_
 rintro f ⟨f11,-⟩
 ((try simp (maxSteps:=3000000) (dsimp:=false) (disch:=first|omega|simp only[lnx];omega) only[↓ypre,ypost,↓reduceIte,reduceEqDiff,reduceAdd,reduceSub,reduceLeDiff,zz0,ynew,f11,fillL,zrep]);try simp only[yback])
 generalize hH3:AH.new H2 _=H3
 obtain⟨g3,p3,n3⟩:=new_facts hH3
 refine s_l01Pick (s2.kp p3) (kp_new (n:=h.length) (ns:=[2,3,5,2,4]) hH3 (by omega)) (by simp) (by simp) fun j1 H4 k4 l4 s4 hj1=>?_
 have by1:=pick_in (l:=[2,3,5,2,4]) (a:=2) (b:=5) (by simp) hj1
 generalize ([2,3,5,2,4]:List Int).getD j1 0=p at by1
 refine WO_cut (fun f:Fr=>f 5=srcP h.length∧f 14=I64 p∧True) ⟨(by first|rfl|simp[upd_apply]),(by first|rfl|simp[upd_apply]),trivial⟩ ?_
 rintro f ⟨f5,f14,-⟩
 ((try simp (maxSteps:=3000000) (dsimp:=false) (disch:=first|omega|simp only[lnx];omega) only[↓ypre,ypost,↓reduceIte,reduceEqDiff,reduceAdd,reduceSub,reduceLeDiff,zz0,ynew,f5,f14,fillL,zrep]);try simp only[yback])
 generalize hH5:AH.new H4 _=H5
 obtain⟨g5,p5,n5⟩:=new_facts hH5
 have n4:=s4.lt
 refine s_l01Pick (s4.kp p5) (kp_new (n:=h.length) (ns:=[1,2,3]) hH5 (by omega)) (by simp) (by simp) fun j2 H6 k6 l6 s6 hj2=>?_
 have by2:=pick_in (l:=[1,2,3]) (a:=1) (b:=3) (by simp) hj2
 generalize ([1,2,3]:List Int).getD j2 0=n at by2
 refine WO_cut (fun f:Fr=>f 5=srcP h.length∧f 14=I64 p∧f 17=I64 n∧True) ⟨(by first|rfl|exact f5|simp[upd_apply,f5]),(by first|rfl|exact f14|simp[upd_apply,f14]),(by first|rfl|simp[upd_apply]),trivial⟩ ?_
 rintro f ⟨f5,f14,f17,-⟩
 ((try simp (maxSteps:=3000000) (dsimp:=false) (disch:=first|omega|simp only[lnx];omega) only[↓ypre,ypost,↓reduceIte,reduceEqDiff,reduceAdd,reduceSub,reduceLeDiff,zz0,ynew,f5,f14,f17,fillL,zrep]);try simp only[yback])
 generalize hH7:AH.new H6 _=H7
 obtain⟨g7,p7,n7⟩:=new_facts hH7
 have n6:=s6.lt
 refine s_l01Pick (s6.kp p7) (kp_new (n:=h.length) (ns:=[1,2,3]) hH7 (by omega)) (by simp) (by simp) fun j3 H8 k8 l8 s8 hj3=>?_
 have by3:=pick_in (l:=[1,2,3]) (a:=1) (b:=3) (by simp) hj3
 generalize ([1,2,3]:List Int).getD j3 0=m at by3
 refine WO_cut (fun f:Fr=>f 5=srcP h.length∧f 14=I64 p∧f 17=I64 n∧f 20=I64 m∧True) ⟨(by first|rfl|exact f5|simp[upd_apply,f5]),(by first|rfl|exact f14|simp[upd_apply,f14]),(by first|rfl|exact f17|simp[upd_apply,f17]),(by first|rfl|simp[upd_apply]),trivial⟩ ?_
 rintro f ⟨f5,f14,f17,f20,-⟩
 ((try simp (maxSteps:=3000000) (dsimp:=false) (disch:=first|omega|simp only[lnx];omega) only[↓ypre,ypost,↓reduceIte,reduceEqDiff,reduceAdd,reduceSub,reduceLeDiff,zz0,ynew,f5,f14,f17,f20,fillL,zrep]);try simp only[yback])
 generalize hH9:AH.new H8 _=H9
 obtain⟨g9,p9,n9⟩:=new_facts hH9
 have n8:=s8.lt
 refine s_l01Pick (s8.kp p9) (kp_new (n:=h.length) (ns:=[1,2,3]) hH9 (by omega)) (by simp) (by simp) fun j4 HA kA lA sA hj4=>?_
 have by4:=pick_in (l:=[1,2,3]) (a:=1) (b:=3) (by simp) hj4
 generalize ([1,2,3]:List Int).getD j4 0=k at by4
 refine WO_cut (fun f:Fr=>f 5=srcP h.length∧f 14=I64 p∧f 17=I64 n∧f 20=I64 m∧f 23=I64 k∧True) ⟨(by first|rfl|exact f5|simp[upd_apply,f5]),(by first|rfl|exact f14|simp[upd_apply,f14]),(by first|rfl|exact f17|simp[upd_apply,f17]),(by first|rfl|exact f20|simp[upd_apply,f20]),(by first|rfl|simp[upd_apply]),trivial⟩ ?_
 rintro f ⟨f5,f14,f17,f20,f23,-⟩
 ((try simp (maxSteps:=3000000) (dsimp:=false) (disch:=first|omega|simp only[lnx];omega) only[↓ypre,ypost,↓reduceIte,reduceEqDiff,reduceAdd,reduceSub,reduceLeDiff,zz0,ynew,f5,f14,f17,f20,f23]);try simp only[yback])
 refine s_l01Rows sA (by omega) fun A a HB kB sB dA=>?_
 refine WO_cut (fun f:Fr=>f 5=srcP h.length∧f 6=I64 p∧f 8=I64 m∧f 9=I64 k∧f 24=I64 p∧f 29=a∧True) ⟨(by first|rfl|exact f5|simp[upd_apply,f5]),(by first|rfl|simp[upd_apply]),(by first|rfl|simp[upd_apply]),(by first|rfl|simp[upd_apply]),(by first|rfl|simp[upd_apply]),(by first|rfl|simp[upd_apply]),trivial⟩ ?_
 rintro f ⟨f5,f6,f8,f9,f24,f29,-⟩
 ((try simp (maxSteps:=3000000) (dsimp:=false) (disch:=first|omega|simp only[lnx];omega) only[↓ypre,ypost,↓reduceIte,reduceEqDiff,reduceAdd,reduceSub,reduceLeDiff,zz0,ynew,f5,f6,f8,f9,f24,f29]);try simp only[yback])
 have nA:=sA.lt
 refine s_l01Rows sB (by omega) fun C d HC kC sC dC=>?_
 have dA:=dA.kp kC (by omega)
 refine WO_cut (fun f:Fr=>f 24=I64 p∧f 29=a∧f 34=d∧True) ⟨(by first|rfl|exact f24|simp[upd_apply,f24]),(by first|rfl|exact f29|simp[upd_apply,f29]),(by first|rfl|simp[upd_apply]),trivial⟩ ?_
 rintro f ⟨f24,f29,f34,-⟩
 ((try simp (maxSteps:=3000000) (dsimp:=false) (disch:=first|omega|simp only[lnx];omega) only[↓ypre,ypost,↓reduceIte,reduceEqDiff,reduceAdd,reduceSub,reduceLeDiff,zz0,ynew,f24,f29,f34,xres_t3']);try simp only[yback])
 exact hQ p A C a d HC sC.p dA.kn.now (smallM_of2 (A:=10) (B:=100) dA.len dA.row (by omega)) dC.kn.now (smallM_of2 (A:=10) (B:=100) dC.len dC.row (by omega))
theorem l_likeInts {v w:Value} {ns ms:List Int} {h:AH} {Q:Value→AH→Prop} (hv:Ints h v ns) (hv':Ints h w ms) (hl:(ns.length:Int)≤1048576)
  (hQ:Q (.bool (decide (ns=ms))) h):WF S 20 [v,w] h Q:=by
 refine WF_fn (fn:=c20) rfl rfl ?_
 dsimp only[c20,oO,oM,oS,oG,oK,oE,oL,oF,oX,oN]
 by_cases hne:(ns.length:Int)≠ms.length
 ·((try simp (maxSteps:=3000000) (dsimp:=false) (disch:=first|omega|simp only[lnx];omega) only[↓ypre,ypost,↓reduceIte,reduceEqDiff,reduceAdd,reduceSub,reduceLeDiff,zz0,ynew,hv.len,hv'.len,decide_eq_true hne]);try simp only[yback])
  have:ns≠ms:=fun e=>hne (by rw[e])
  simpa [this] using hQ
 ·((try simp (maxSteps:=3000000) (dsimp:=false) (disch:=first|omega|simp only[lnx];omega) only[↓ypre,ypost,↓reduceIte,reduceEqDiff,reduceAdd,reduceSub,reduceLeDiff,zz0,ynew,hv.len,hv'.len,decide_eq_false hne]);try simp only[yback])
  have hlen:ns.length=ms.length:=by omega
  refine WC_loop_inv (fun m f K1=>∃ (i:Nat),m=ns.length-i∧i≤ns.length∧f 0=v∧f 1=w∧f 5=I64 i∧(K1=h)∧(∀ j,j<i→ns.getD j 0=ms.getD j 0)) ?_ (ns.length-0) _ _ ⟨0,rfl,by omega,(by first|rfl|simp[upd_apply]),(by first|rfl|simp[upd_apply]),(by first|rfl|simp[upd_apply]),rfl,(by omega)⟩
  rintro m f K1 ⟨i,rfl,hi,f0,f1,f5,hK,hj⟩
  subst hK
  by_cases hlt:(i:Int)<ns.length
  ·obtain⟨n1,off1,hix1,hrd1⟩:=hv.cell (j:=i) (by omega)
   obtain⟨n2,off2,hix2,hrd2⟩:=hv'.cell (j:=i) (by omega)
   by_cases he:ns.getD i 0≠ms.getD i 0
   ·((try simp (maxSteps:=3000000) (dsimp:=false) (disch:=first|omega|simp only[lnx];omega) only[↓ypre,ypost,↓reduceIte,reduceEqDiff,reduceAdd,reduceSub,reduceLeDiff,zz0,ynew,f0,f1,f5,hv.len,decide_eq_true hlt,hix1,hrd1,hix2,hrd2,decide_eq_true he]);try simp only[yback])
    have:ns≠ms:=fun e=>he (by rw[e])
    simpa [this] using hQ
   ·((try simp (maxSteps:=3000000) (dsimp:=false) (disch:=first|omega|simp only[lnx];omega) only[↓ypre,ypost,↓reduceIte,reduceEqDiff,reduceAdd,reduceSub,reduceLeDiff,zz0,ynew,f0,f1,f5,hv.len,decide_eq_true hlt,hix1,hrd1,hix2,hrd2,decide_eq_false he,wrap64_in]);try simp only[yback])
    have hj':∀ j,j<i+1→ns.getD j 0=ms.getD j 0:=fun j q=>by
     rcases Nat.lt_succ_iff_lt_or_eq.1 q with q|rfl
     ·exact hj j q
     ·exact Decidable.not_not.1 he
    refine InvQ_go (ns.length-(i+1)) (by omega) ⟨(i+1),rfl,by omega,(by first|rfl|exact f0|(simp only[upd_apply];rfl)|(show I64 _=_;congr 1;omega)),(by first|rfl|exact f1|(simp only[upd_apply];rfl)|(show I64 _=_;congr 1;omega)),(by first|rfl|exact f5|(simp only[upd_apply];rfl)|(show I64 _=_;congr 1;omega)),rfl,hj'⟩
  ·((try simp (maxSteps:=3000000) (dsimp:=false) (disch:=first|omega|simp only[lnx];omega) only[↓ypre,ypost,↓reduceIte,reduceEqDiff,reduceAdd,reduceSub,reduceLeDiff,zz0,ynew,f0,f1,f5,hv.len,decide_eq_false hlt]);try simp only[yback])
   have:ns=ms:=by
    refine List.ext_getElem? fun j=>?_
    by_cases h1:j<ns.length
    ·have:=hj j (by omega)
     rw[List.getElem?_eq_getElem h1,List.getElem?_eq_getElem (by omega)]
     simpa [List.getD_eq_getElem?_getD,List.getElem?_eq_getElem h1,List.getElem?_eq_getElem (show j<ms.length by omega)] using this
    ·rw[List.getElem?_eq_none (by omega),List.getElem?_eq_none (by omega)]
   simpa [this] using hQ
theorem l_big {h:AH} {cv:Value} {code:List (List Int)} {Q:Value→AH→Prop} (c:Els .u8 1 h cv code)
  (hQ:Q (.bool (decide ((code.length:Int)>4096))) h):WF S 13 [cv] h Q:=by
 refine WF_fn (fn:=c13) rfl rfl ?_
 dsimp only[c13,oO,oM,oS,oG,oK,oE,oL,oF,oX,oN]
 ((try simp (maxSteps:=3000000) (dsimp:=false) (disch:=first|omega|simp only[lnx];omega) only[↓ypre,ypost,↓reduceIte,reduceEqDiff,reduceAdd,reduceSub,reduceLeDiff,zz0,ynew,c.len]);try simp only[yback])
 exact hQ
end Go.Proofs.Ytapafdpnmakekaa.X

set_option linter.unusedVariables false
set_option linter.unusedSimpArgs false
set_option maxRecDepth 20000
set_option maxHeartbeats 4000000
namespace Go.Proofs.Ytapafdpnmakekaa.X
open Go Go.RowKit
theorem TenB.l {t:Ten} (b:TenB t):(t.ns.length:Int)≤1048576:=by
 have:=b.ns
 omega
theorem WO_mono' {S:XS} {A REST:IR} {f:Fr} {h:AH} {R:XE→Fr→AH→Prop} (I:Fr→AH→Prop) (w:WC S A f h (JnQ I)) (hr:∀ f h,I f h→WC S REST f h R):WC S A f h (SeqQ S REST R):=
 WC.mono w fun e f2 h2 q2=>by
  cases e with
  | normal=>exact hr f2 h2 q2
  | exit id=>exact q2.elim
  | ret=>exact q2.elim
def Kcv (h:AH) (cv:Value) (f:Fr) (h':AH):Prop:=f 0=cv∧h<+:h'
def coOK (t:Ten) (s:Int) (ns:List Int):Prop:=(0≤s∧s≤2)∧allIn t.p ns=true∧(ns.length:Int)=sideN t s.toNat
instance {t:Ten} {s:Int} {ns:List Int}:Decidable (coOK t s ns):=by unfold coOK;infer_instance
end Go.Proofs.Ytapafdpnmakekaa.X

set_option linter.unusedVariables false
set_option linter.unusedSimpArgs false
set_option maxRecDepth 20000
set_option maxHeartbeats 4000000
namespace Go.Proofs.Ytapafdpnmakekaa.X
open Go Go.RowKit
open Nat (reduceEqDiff reduceAdd reduceSub reduceLeDiff)
theorem l_rows5 {v w:Value} {rows:List (List Int)} {h:AH} {Q:Value→AH→Prop} (hv:Rows h v rows) (hw:Rows h w rows) (hl:SmallM rows)
  (hQ:Q (.bool true) h):WF S 48 [v,w] h Q:=by
 refine WF_fn (fn:=c48) rfl rfl ?_
 dsimp only[c48,oO,oM,oS,oG,oK,oE,oL,oF,oX,oN]
 obtain⟨cs,hc,hcl,-⟩:=id hv
 obtain⟨ds,hd,hdl,-⟩:=id hw
 have c1:=hc.len
 have c2:=hd.len
 rw[hcl] at c1
 rw[hdl] at c2
 have h1:=hl.1
 ((try simp (maxSteps:=3000000) (dsimp:=false) (disch:=first|omega|simp only[lnx];omega) only[↓ypre,ypost,↓reduceIte,reduceEqDiff,reduceAdd,reduceSub,reduceLeDiff,zz0,ynew,c1,c2,decide_eq_false (show ¬ (rows.length:Int)≠rows.length from fun h=>h rfl)]);try simp only[yback])
 refine WC_loop_inv (fun m f K1=>∃ (i:Nat),m=rows.length-i∧i≤rows.length∧f 0=v∧f 1=w∧f 5=I64 i∧(K1=h)) ?_ (rows.length-0) _ _ ⟨0,rfl,by omega,(by first|rfl|simp[upd_apply]),(by first|rfl|simp[upd_apply]),(by first|rfl|simp[upd_apply]),rfl⟩
 rintro m f K1 ⟨i,rfl,hi,f0,f1,f5,hK⟩
 subst hK
 by_cases hlt:(i:Int)<rows.length
 ·obtain⟨n1,o1,x1,hix1,hrd1,i1⟩:=hv.row (i:=i) (by omega)
  obtain⟨n2,o2,x2,hix2,hrd2,i2⟩:=hw.row (i:=i) (by omega)
  ((try simp (maxSteps:=3000000) (dsimp:=false) (disch:=first|omega|simp only[lnx];omega) only[↓ypre,ypost,↓reduceIte,reduceEqDiff,reduceAdd,reduceSub,reduceLeDiff,zz0,ynew,f0,f1,f5,c1,decide_eq_true hlt,hix1,hrd1,hix2,hrd2]);try simp only[yback])
  refine l_likeInts i1 i2 (hl.2.1 i (by omega)) ?_
  ((try simp (maxSteps:=3000000) (dsimp:=false) (disch:=first|omega|simp only[lnx];omega) only[↓ypre,ypost,↓reduceIte,reduceEqDiff,reduceAdd,reduceSub,reduceLeDiff,zz0,ynew,f0,f1,f5,decide_true,wrap64_in]);try simp only[yback])
  refine InvQ_go (rows.length-(i+1)) (by omega) ⟨(i+1),rfl,by omega,(by first|rfl|exact f0|(simp only[upd_apply];rfl)|(show I64 _=_;congr 1;omega)),(by first|rfl|exact f1|(simp only[upd_apply];rfl)|(show I64 _=_;congr 1;omega)),(by first|rfl|exact f5|(simp only[upd_apply];rfl)|(show I64 _=_;congr 1;omega)),rfl⟩
 ·((try simp (maxSteps:=3000000) (dsimp:=false) (disch:=first|omega|simp only[lnx];omega) only[↓ypre,ypost,↓reduceIte,reduceEqDiff,reduceAdd,reduceSub,reduceLeDiff,zz0,ynew,f0,f1,f5,c1,decide_eq_false hlt]);try simp only[yback])
  exact hQ
theorem WO_join2 {S:XS} {ops:List XI} {a b REST:IR} {f:Fr} {h:AH} {R:XE→Fr→AH→Prop} (I:Fr→AH→Prop) (w:WO S ops f h (RegQ (SeqQ S a (SeqQ S b (JnQ I))))) (hr:∀ f h,I f h→WC S REST f h R) :
  WO S ops f h (RegQ (SeqQ S a (SeqQ S (.seq b REST) R))):=by
 refine w.mono fun f1 h1 q=>?_
 refine WC.mono q fun e f2 h2 q2=>?_
 cases e with
 | normal=>
  show WC S (.seq b REST) f2 h2 R
  rw[WC_seq]
  exact WO_mono' I q2 hr
 | exit id=>exact q2.elim
 | ret=>exact q2.elim
end Go.Proofs.Ytapafdpnmakekaa.X

set_option linter.unusedVariables false
set_option linter.unusedSimpArgs false
set_option maxRecDepth 20000
set_option maxHeartbeats 4000000
namespace Go.Proofs.Ytapafdpnmakekaa.X
open Go Go.RowKit
def ProgD (lo:Nat) (h:AH) (v w:Value) (x:Prg):Prop:=KN lo h fun h'=>PrgR h' v w x
theorem WayX.kN {e:TypeId} {k:IntKind} {w lo:Nat} {h:AH} {v:Value} {L:List (List Int)} {ex:List Nat} (o:WayX e k w h lo ex v L):KN lo h fun h'=>Els k w h' v L:=o.inE.kN (Nat.le_refl _)
theorem Way2.kN {lo:Nat} {h:AH} {v w:Value} {x:Prg} (o:Way2 h lo v w x):ProgD lo h v w x:=fun h' l g=>⟨o.st.kN h' l g,o.out.kN h' l g⟩
theorem ProgD.kp {lo n:Nat} {h h':AH} {v w:Value} {x:Prg} (o:ProgD lo h v w x) (k:Kp n h h') (hn:n<lo):ProgD lo h' v w x:=KN.kp o k hn
theorem ProgD.mono {lo lo':Nat} {h:AH} {v w:Value} {x:Prg} (o:ProgD lo h v w x) (hl:lo'≤lo):ProgD lo' h v w x:=KN.mono o hl
theorem ProgD.none {lo:Nat} {h:AH} {p n:Int}:ProgD lo h (.slice none 0 0) (.slice none 0 0) ⟨p,n,[],[]⟩:=fun h' _ _=>⟨.inl ⟨rfl,0,by omega,rfl⟩,.inl ⟨rfl,0,by omega,rfl⟩⟩
theorem WayX.app_kp {e:TypeId} {k:IntKind} {w lo:Nat} {sv:Value} {L:List (List Int)} {H:AH} {q:List Int} {e':TypeId} {ro full:Bool} {bytes:Nat} (o:WayX e k w H lo [] sv L) (hq:q.length=w) (hl:((L.length:Int)+1)*bytes≤140737488355328) (hn:(L.length:Int)<1048576) (hlo:lo≤H.length)
  {Q:Value→AH→Prop} (hQ:∀ (sv':Value) (H':AH) (kb:Nat),H'.length=H.length+2→lo≤kb→(kb=H.length∨blkOf sv=some kb)→Kp kb H H'→WayX e k w H' H.length [] sv' (L++[q])→Q sv' H') :
  OQ (appV e w bytes sv (.slice (some ⟨H.length,0,none⟩) 1 w) (H.new ⟨cel k q,e',ro,full⟩)) Q:=by
 have hr:(H.new ⟨cel k q,e',ro,full⟩).rdn H.length 0 w=some (cel k q):=by
  rw[rdn_of get_new_same]
  simp only
  rw[if_pos (by rw[cel_len,hq];omega),List.drop_zero,List.take_of_length_le (by rw[cel_len,hq];omega)]
 obtain⟨hw,⟨rfl,rfl⟩|⟨kb,fu,rfl,h2,h3,h4⟩⟩:=o
 ·rw[app_nilW (.inl rfl) hr (by simp only[List.length_nil] at hl;omega),OQ_some]
  refine hQ _ _ H.length (by rw[len_new,len_new]) hlo (.inl rfl) (Kp.of (pre_new (pre_new (List.prefix_refl _)))) ⟨?_,.inr ⟨_,false,rfl,by rw[len_new];omega,by simp,?_⟩⟩
  ·intro r hr
   rw[List.nil_append,List.mem_singleton] at hr
   rw[hr,hq]
  ·rw[get_new_same]
   simp
 ·have hk:(H.new ⟨cel k q,e',ro,full⟩).get kb=some ⟨cel k L.flatten,e,false,fu⟩:=get_new_any h4
  have hkb:=get_lt h4
  rw[app_ownW hk (by rw[cel_len,flat_len hw]) hr ⟨hl,by omega⟩,OQ_some]
  refine hQ _ _ kb (by rw[len_new,len_kill,len_new]) h2 (.inr rfl) ⟨by rw[len_new,len_kill,len_new];omega,fun j hj hne=>?_⟩ ⟨?_,.inr ⟨(H.new ⟨cel k q,e',ro,full⟩).length,false,by simp,by rw[len_new];omega,by simp,?_⟩⟩
  ·rw[show ∀ b,(((H.new ⟨cel k q,e',ro,full⟩).kill kb).new b).get j=((H.new ⟨cel k q,e',ro,full⟩).kill kb).get j from fun b=>prefix_get (pre_new (List.prefix_refl _)) (by rw[len_kill,len_new];omega),get_kill_ne (Ne.symm hne)]
   exact prefix_get (pre_new (List.prefix_refl _)) hj
  ·intro r hr
   rcases List.mem_append.1 hr with hr|hr
   ·exact hw r hr
   ·rw[List.mem_singleton.1 hr,hq]
  ·rw[get_new_eq (by rw[len_kill])]
   simp[cel_app]
def StV (p n:Int) (st:List (List Int)):Prop:=∀ i,i<st.length→okStep p (n+(i:Nat)) (st.getD i [])=true
def OuV (p m:Int) (out:List (List Int)):Prop:=∀ i,i<out.length→∃ a b,out.getD i []=[a,b]∧0≤a∧a<m∧0≤b∧b<p∧¬ (b=0∧a≠0)
theorem OuV.mono {p m m':Int} {out:List (List Int)} (o:OuV p m out) (h:m≤m'):OuV p m' out:=fun i hi=>by
 obtain⟨a,b,e,h1,h2,h3⟩:=o i hi
 exact⟨a,b,e,h1,by omega,h3⟩
theorem StV.app {p n:Int} {st:List (List Int)} {q:List Int} (o:StV p n st) (hq:okStep p (n+(st.length:Nat)) q=true):StV p n (st++[q]):=fun i hi=>by
 rw[List.length_append,List.length_singleton] at hi
 by_cases e:i=st.length
 ·subst e
  rw[getD_app_r (Nat.le_refl _),Nat.sub_self]
  exact hq
 ·rw[getD_app_l (by omega)]
  exact o i (by omega)
theorem OuV.app {p m a b:Int} {out:List (List Int)} (o:OuV p m out) (h:0≤a∧a<m∧0≤b∧b<p∧¬ (b=0∧a≠0)):OuV p m (out++[[a,b]]):=fun i hi=>by
 rw[List.length_append,List.length_singleton] at hi
 by_cases e:i=out.length
 ·subst e
  rw[getD_app_r (Nat.le_refl _),Nat.sub_self]
  exact⟨a,b,rfl,h⟩
 ·rw[getD_app_l (by omega)]
  exact o i (by omega)
section
variable (x:Prg)
def nSt (i:Nat) (r:Nat):Nat:=nq (x.st.getD i []) r
def nOut (i:Nat):Nat:=nq (x.out.getD i []) 0
def uO:Nat→List Bool
 | 0=>List.replicate (x.n.toNat+x.st.length) false
 | i+1=>if (x.out.getD i []).getD 1 0=0 then uO i else (uO i).set (nOut x i) true
def uS:Nat→List Bool
 | 0=>uO x x.out.length
 | m+1=>if (uS m).getD (x.n.toNat+(x.st.length-1-m)) false=true then ((uS m).set (nSt x (x.st.length-1-m) 0) true).set (nSt x (x.st.length-1-m) 1) true else uS m
def kp (j:Nat):Bool:=decide (j<x.n.toNat)||(uS x x.st.length).getD j false
def rk:Nat→Int
 | 0=>0
 | j+1=>rk j+(if kp x j=true then 1 else 0)
end
variable {x:Prg}
section
variable {x:Prg}
end
theorem WayX.blk_e {e:TypeId} {k:IntKind} {w lo kb:Nat} {h:AH} {ex:List Nat} {sv:Value} {L:List (List Int)} (o:WayX e k w h lo ex sv L) (hb:blkOf sv=some kb):∃ b,h.get kb=some b∧b.e=e:=by
 obtain⟨hw,⟨rfl,_⟩|⟨kb',full,rfl,h2,h3,h4⟩⟩:=o
 ·cases hb
 ·cases hb
  exact⟨_,h4,rfl⟩
theorem WayX.ne {e:TypeId} {k:IntKind} {w lo kb m:Nat} {h:AH} {ex:List Nat} {sv:Value} {L:List (List Int)} {b:Blk} (o:WayX e k w h lo ex sv L) (hk:kb=h.length∨blkOf sv=some kb) (g:h.get m=some b) (hb:b.e≠e):m≠kb:=by
 rintro rfl
 rcases hk with rfl|hk
 ·exact absurd (get_lt g) (Nat.lt_irrefl _)
 ·obtain⟨b',g',e'⟩:=o.blk_e hk
  rw[g] at g'
  cases g'
  exact hb e'
theorem WayX.copy {e:TypeId} {k:IntKind} {w lo bytes:Nat} {sv:Value} {L:List (List Int)} {H:AH} (o:WayX e k w H lo [] sv L) (hw0:0<w) (hl:(L.length:Int)*bytes≤140737488355328) (hn:(L.length:Int)<1048576)
  {Q:Value→AH→Prop} (hQ:∀ (sv':Value) (H':AH),H<+:H'→WayX e k w H' H.length [] sv' L→Q sv' H') :
  OQ (appV e w bytes (.slice (some ⟨H.length,0,none⟩) 0 w) sv (H.new ⟨[],e,false,true⟩)) Q:=by
 have p1:H<+:H.new ⟨[],e,false,true⟩:=pre_new (List.prefix_refl _)
 have hk:(H.new ⟨[],e,false,true⟩).get H.length=some ⟨[],e,false,true⟩:=get_new_same
 by_cases h0:L=[]
 ·subst h0
  have e1:appV e w bytes (.slice (some ⟨H.length,0,none⟩) 0 w) sv (H.new ⟨[],e,false,true⟩)=some (.slice (some ⟨H.length,0,none⟩) 0 w,H.new ⟨[],e,false,true⟩):=by
   obtain⟨hw,⟨rfl,_⟩|⟨kb,fu,rfl,h2,h3,h4⟩⟩:=o
   ·simp[appV,xop,ev]
   ·have:=pre_get p1 h4
    simp[appV,xop,ev,AH.rdn,this]
  rw[e1,OQ_some]
  exact hQ _ _ p1 ⟨fun q hq=>by simp at hq,.inr ⟨H.length,true,rfl,Nat.le_refl _,by simp,hk⟩⟩
 ·have hl0:0<L.length:=List.length_pos_iff.2 h0
  obtain⟨hw,⟨rfl,h⟩|⟨kb,fu,rfl,h2,h3,h4⟩⟩:=o
  ·exact absurd h h0
  ·have g:=pre_get p1 h4
   have fl:=flat_len hw
   have hr:(H.new ⟨[],e,false,true⟩).rdn kb 0 (L.length*w)=some (cel k L.flatten):=by
    rw[rdn_of g]
    simp only
    rw[if_pos (by rw[cel_len,fl];omega),List.drop_zero,List.take_of_length_le (by rw[cel_len,fl];exact Nat.le_refl _)]
   rw[app_zeroW hk hr hl0 (by omega),OQ_some]
   refine hQ _ _ (pre_new (pre_kill p1 (Nat.le_refl _))) ⟨hw,.inr ⟨H.length+1,false,?_,by omega,by simp,?_⟩⟩
   ·rw[len_new]
   ·rw[get_new_eq (by rw[len_kill,len_new])]
structure PrgB (x:Prg):Prop where
 p:0≤x.p∧x.p≤1000
 n:-1000≤x.n∧x.n≤1000
 st:x.st.length≤10000
 out:x.out.length≤10000
theorem PrgB.small {x:Prg} (b:PrgB x):SmallP x:=⟨by have:=b.st;show (x.st.length:Int)≤1048576;omega,by have:=b.out;show (x.out.length:Int)≤1048576;omega⟩
theorem ProgD.one {lo:Nat} {h:AH} {v w:Value} {x:Prg} (o:ProgD lo h v w x):isOne v=true∧isOne w=true:=⟨o.now.1.one,o.now.2.one⟩
theorem l_like {v w:Value} {ns:List Int} {h:AH} {Q:Value→AH→Prop} (hv:Ints h v ns) (hw:Ints h w ns) (hl:(ns.length:Int)≤1048576)
  (hQ:Q (.bool true) h):WF S 20 [v,w] h Q:=l_likeInts hv hw hl (by rw[decide_eq_true rfl];exact hQ)
end Go.Proofs.Ytapafdpnmakekaa.X

set_option linter.unusedVariables false
set_option linter.unusedSimpArgs false
set_option maxRecDepth 20000
set_option maxHeartbeats 4000000
namespace Go.Proofs.Ytapafdpnmakekaa.X
open Go Go.RowKit
open Nat (reduceEqDiff reduceAdd reduceSub reduceLeDiff)
theorem mpR_0 {x:Sch} {A C:List (List Int)} (h:(mpR x A C).2=0):mcX x A C=0∧(mpR x A C).1=mpF x A C:=by
 unfold mpR at h ⊢
 by_cases hc:mcX x A C=0
 ·rw[if_pos hc]
  exact⟨hc,rfl⟩
 ·rw[if_neg hc] at h
  exact absurd h hc
theorem pp_0 {x:Sch} {A C:List (List Int)} (hx:isX x=true) (hc:mcX x A C=0):(ppR x.p A C).2=0:=by
 obtain⟨z,hP,hl30,-⟩:=isX_facts hx
 obtain⟨n,m,k,mf⟩:=mf_of hc
 obtain⟨en,em,ek,b,nk,wL,wR,lL,lR,fL,fR,aL,aR,hm,hr⟩:=id mf
 have hk0:(C.getD 0 []).length=k:=wR _ (by
  rw[List.getD_eq_getElem?_getD,List.getElem?_eq_getElem (show 0<C.length by omega)]
  exact List.getElem_mem _)
 have zn:=z.n
 have zm:=z.m
 have zk:=z.k
 have pm:PM x.p A C (C.getD 0 []).length:=by
  rw[hk0]
  exact⟨hP,by omega,by omega,by omega,by rw[lR];exact hm,hr,hk0⟩
 unfold ppR
 rw[if_pos (ppOK_iff.2 pm)]
theorem fwR_0 {y:Sch} (hx:isX y=true) (h:(fwR y).2=0):wrX y≠[]∧∃ a b c:Nat,(fwR y).1=[(a:Int),(b:Int),(c:Int)]∧plC y a b c=0∧lsX y a b c≠wnX y a b c:=by
 have hne:wrX y≠[]:=fun e=>by
  unfold fwR at h
  rw[if_pos hx,if_pos e] at h
  simp at h
 refine⟨hne,?_⟩
 have e1:(fwR y).1=(wrX y).headD []:=by
  unfold fwR
  rw[if_pos hx,if_neg hne]
 obtain⟨z,hP,hl30,-⟩:=isX_facts hx
 obtain⟨I,J,K,eI,eJ,eK,bI,bJ,bK,eW⟩:=sz_nat z
 have hm:(wrX y).headD []∈wrX y:=by
  cases hw:wrX y with
  | nil=>exact absurd hw hne
  | cons a l=>exact List.mem_cons_self
 rw[eW] at hm
 obtain⟨e,he,hb,hq⟩:=wrS_mem hm
 rw[←eW] at hq
 refine⟨e / K / J,e / K%J,e%K,by rw[e1];exact hq,?_,by unfold badE at hb;simpa using hb⟩
 have h1:e%K<K:=Nat.mod_lt _ (by omega)
 have h2:e / K%J<J:=Nat.mod_lt _ (by omega)
 have h3:e / K / J<I:=by
  rw[Nat.div_div_eq_div_mul,Nat.mul_comm K J]
  exact Nat.div_lt_of_lt_mul (by rw[Nat.mul_comm];exact he)
 generalize e / K / J=A at *
 generalize e / K%J=B at *
 generalize e%K=D at *
 unfold plC
 rw[if_pos hx,if_pos (by rw[eI,eJ,eK];omega)]
theorem fwR_n {y:Sch} (hx:isX y=true) (h:¬ (fwR y).2=0):wrX y=[]:=by
 unfold fwR at h
 rw[if_pos hx] at h
 by_cases e:wrX y=[]
 ·exact e
 ·rw[if_neg e] at h
  exact absurd rfl h
theorem fwR_len (y:Sch):(((fwR y).1.length:Nat):Int)≤1048576:=by
 unfold fwR
 split
 ·rename_i hx
  split
  ·simp
  ·rename_i hne
   obtain⟨-,a,b,c,e,-⟩:=fwR_0 hx (by unfold fwR;rw[if_pos hx,if_neg hne])
   unfold fwR at e
   rw[if_pos hx,if_neg hne] at e
   rw[e]
   simp
 ·simp
theorem s_IsScheme {v:Value} {x:Sch} {h:AH} {Q:Value→AH→Prop} (hv:Prods h v x.ps) (hl:SmallX x.ps) (hQ:∀ h',h<+:h'→Q (.bool (isX x)) h'):WF S 72 [schV x v] h Q:=by
 refine WF_fn (fn:=c72) rfl rfl ?_
 dsimp only[c72,oO,oM,oS,oG,oK,oE,oL,oF,oX,oN]
 have o1:=hv.one
 ((try simp (maxSteps:=3000000) (dsimp:=false) (disch:=first|omega|simp only[lnx];omega) only[↓ypre,ypost,↓reduceIte,reduceEqDiff,reduceAdd,reduceSub,reduceLeDiff,zz0,ynew,schV,o1]);try simp only[yback])
 generalize hH1:AH.new h _=H1
 obtain⟨hb1,p1,n1⟩:=new_facts hH1
 ((try simp (maxSteps:=3000000) (dsimp:=false) (disch:=first|omega|simp only[lnx];omega) only[↓ypre,ypost,↓reduceIte,reduceEqDiff,reduceAdd,reduceSub,reduceLeDiff,zz0,ynew,rdn_of hb1]);try simp only[yback])
 refine s_l01Is (x:=x) (hv.pre p1) hl fun H2 p2=>?_
 ((try simp (maxSteps:=3000000) (dsimp:=false) (disch:=first|omega|simp only[lnx];omega) only[↓ypre,ypost,↓reduceIte,reduceEqDiff,reduceAdd,reduceSub,reduceLeDiff,zz0,ynew]);try simp only[yback])
 exact hQ _ (p1.trans p2)
theorem law_Equations {h:AH} {cv:Value} {code:List (List Int)} (c:Els .u8 1 h cv code) (b:Byt 1 code):WF S 7 [cv] h (fun v _=>v=.bool true):=by
 refine WF_fn (fn:=c7) rfl rfl ?_
 dsimp only[c7,oO,oM,oS,oG,oK,oE,oL,oF,oX,oN]
 ((try simp (maxSteps:=3000000) (dsimp:=false) (disch:=first|omega|simp only[lnx];omega) only[↓ypre,ypost,↓reduceIte,reduceEqDiff,reduceAdd,reduceSub,reduceLeDiff,zz0,ynew]);try simp only[yback])
 refine l_big c ?_
 by_cases hbig:(code.length:Int)>4096
 ·((try simp (maxSteps:=3000000) (dsimp:=false) (disch:=first|omega|simp only[lnx];omega) only[↓ypre,ypost,↓reduceIte,reduceEqDiff,reduceAdd,reduceSub,reduceLeDiff,zz0,ynew,decide_eq_true hbig]);try simp only[yback])
 ((try simp (maxSteps:=3000000) (dsimp:=false) (disch:=first|omega|simp only[lnx];omega) only[↓ypre,ypost,↓reduceIte,reduceEqDiff,reduceAdd,reduceSub,reduceLeDiff,zz0,ynew,decide_eq_false hbig]);try simp only[yback])
 have c:Cod h cv code:=⟨c,b,by omega⟩
 refine s_DrawMakeProduct c fun x v A C a d H1 p1 sd xb dA dC=>?_
 have hv:=sd.now
 have ov:isOne v=true:=hv.one
 have sA:=smallM_of2 (A:=10) (B:=100) dA.len dA.row (by omega)
 have sC:=smallM_of2 (A:=10) (B:=100) dC.len dC.row (by omega)
 have dA:=dA.kn.now
 have dC:=dC.kn.now
 refine WO_cut (fun f:Fr=>f 0=cv∧f 64=.tuple #[schV x v,a,d]∧True) ⟨(by first|rfl|simp[upd_apply]),(by first|rfl|simp[upd_apply]),trivial⟩ ?_
 rintro f ⟨f0,f64,-⟩
 ((try simp (maxSteps:=3000000) (dsimp:=false) (disch:=first|omega|simp only[lnx];omega) only[↓ypre,ypost,↓reduceIte,reduceEqDiff,reduceAdd,reduceSub,reduceLeDiff,zz0,ynew,f0,f64,schV,ov]);try simp only[yback])
 generalize hH2:AH.new H1 _=H2
 obtain⟨g2,p2,n2⟩:=new_facts hH2
 ((try simp (maxSteps:=3000000) (dsimp:=false) (disch:=first|omega|simp only[lnx];omega) only[↓ypre,ypost,↓reduceIte,reduceEqDiff,reduceAdd,reduceSub,reduceLeDiff,zz0,ynew,f0,f64,rdn_of g2]);try simp only[yback])
 refine i_MakeProduct (x:=x) (hv.pre p2) xb.l (dA.pre p2) sA (dC.pre p2) sC fun v1 H3 p3 o1=>?_
 have hsR:SmallM (mpR x A C).1:=mpR_small x A C
 generalize hR:mpR x A C=R at o1 hsR
 have o1:=o1.rows
 refine WO_cut (fun f:Fr=>f 0=cv∧f 3=.pointer (some ⟨H1.length,0,none⟩)∧f 4=a∧f 5=d∧f 72=.tuple #[v1,I64 R.2]∧True) ⟨(by first|rfl|exact f0|simp[upd_apply,f0]),(by first|rfl|simp[upd_apply]),(by first|rfl|simp[upd_apply]),(by first|rfl|simp[upd_apply]),(by first|rfl|simp[upd_apply]),trivial⟩ ?_
 rintro f ⟨f0,f3,f4,f5,f72,-⟩
 have g2:=pre_get p3 g2
 ((try simp (maxSteps:=3000000) (dsimp:=false) (disch:=first|omega|simp only[lnx];omega) only[↓ypre,ypost,↓reduceIte,reduceEqDiff,reduceAdd,reduceSub,reduceLeDiff,zz0,ynew,f0,f3,f4,f5,f72,rdn_of g2]);try simp only[yback])
 refine s_MakeProduct (x:=x) (hv.pre (p2.trans p3)) xb.l (dA.pre (p2.trans p3)) sA (dC.pre (p2.trans p3)) sC fun v2 H4 p4 o2=>?_
 rw[hR] at o2 ⊢
 have o2:=o2.rows
 refine WO_cut (fun f:Fr=>f 0=cv∧f 3=.pointer (some ⟨H1.length,0,none⟩)∧f 4=a∧f 5=d∧f 6=v1∧f 7=I64 R.2∧f 79=.tuple #[v2,I64 R.2]∧True) ⟨(by first|rfl|exact f0|simp[upd_apply,f0]),(by first|rfl|exact f3|simp[upd_apply,f3]),(by first|rfl|exact f4|simp[upd_apply,f4]),(by first|rfl|exact f5|simp[upd_apply,f5]),(by first|rfl|simp[upd_apply]),(by first|rfl|simp[upd_apply]),(by first|rfl|simp[upd_apply]),trivial⟩ ?_
 rintro f ⟨f0,f3,f4,f5,f6,f7,f79,-⟩
 ((try simp (maxSteps:=3000000) (dsimp:=false) (disch:=first|omega|simp only[lnx];omega) only[↓ypre,ypost,↓reduceIte,reduceEqDiff,reduceAdd,reduceSub,reduceLeDiff,zz0,ynew,f0,f3,f4,f5,f6,f7,f79,decide_eq_false (show ¬ (R.2)≠(R.2) from fun h=>h rfl)]);try simp only[yback])
 refine l_rows5 (o1.pre p4) o2 hsR ?_
 refine WO_cut (fun f:Fr=>f 0=cv∧f 3=.pointer (some ⟨H1.length,0,none⟩)∧f 4=a∧f 5=d∧f 6=v1∧f 7=I64 R.2∧f 85=.bool false∧f 88=.bool true∧True) ⟨(by first|rfl|exact f0|simp[upd_apply,f0]),(by first|rfl|exact f3|simp[upd_apply,f3]),(by first|rfl|exact f4|simp[upd_apply,f4]),(by first|rfl|exact f5|simp[upd_apply,f5]),(by first|rfl|exact f6|simp[upd_apply,f6]),(by first|rfl|exact f7|simp[upd_apply,f7]),(by first|rfl|simp[upd_apply]),(by first|rfl|simp[upd_apply]),trivial⟩ ?_
 rintro f ⟨f0,f3,f4,f5,f6,f7,f85,f88,-⟩
 refine WO_join2 (Kcv h cv) ?_ ?_
 ·skip
  by_cases z:R.2=0
  case neg=>
   ((try simp (maxSteps:=3000000) (dsimp:=false) (disch:=first|omega|simp only[lnx];omega) only[↓ypre,ypost,↓reduceIte,reduceEqDiff,reduceAdd,reduceSub,reduceLeDiff,zz0,ynew,f0,f3,f4,f5,f6,f7,f85,f88,decide_eq_false z]);try simp only[yback])
   rw[JnQ_n]
   exact⟨f0,((p1.trans p2).trans (p3.trans p4))⟩
  obtain⟨hc,hm⟩:=mpR_0 (show (mpR x A C).2=0 by rw[hR];exact z)
  rw[hR] at hm
  have hx:=(mcX_0 hc).1
  have eC:crR x=(decide (wrX x=[]),0):=if_pos hx
  have eP:=pp_0 hx hc
  have sP:=ppR_small x.p A C
  have g2:=pre_get p4 g2
  ((try simp (maxSteps:=3000000) (dsimp:=false) (disch:=first|omega|simp only[lnx];omega) only[↓ypre,ypost,↓reduceIte,reduceEqDiff,reduceAdd,reduceSub,reduceLeDiff,zz0,ynew,f0,f3,f4,f5,f6,f7,f85,f88,decide_eq_true z,rdn_of g2]);try simp only[yback])
  refine i_IsCorrect (x:=x) (hv.pre (p2.trans (p3.trans p4))) xb.l fun H5 p5=>?_
  rw[eC]
  refine WO_cut (fun f:Fr=>f 0=cv∧f 3=.pointer (some ⟨H1.length,0,none⟩)∧f 4=a∧f 5=d∧f 6=v1∧f 95=.tuple #[.bool (decide (wrX x=[])),I64 0]∧True) ⟨(by first|rfl|exact f0|simp[upd_apply,f0]),(by first|rfl|exact f3|simp[upd_apply,f3]),(by first|rfl|exact f4|simp[upd_apply,f4]),(by first|rfl|exact f5|simp[upd_apply,f5]),(by first|rfl|exact f6|simp[upd_apply,f6]),(by first|rfl|simp[upd_apply]),trivial⟩ ?_
  rintro f ⟨f0,f3,f4,f5,f6,f95,-⟩
  have g2:=pre_get p5 g2
  ((try simp (maxSteps:=3000000) (dsimp:=false) (disch:=first|omega|simp only[lnx];omega) only[↓ypre,ypost,↓reduceIte,reduceEqDiff,reduceAdd,reduceSub,reduceLeDiff,zz0,ynew,f0,f3,f4,f5,f6,f95,rd1_of g2]);try simp only[yback])
  refine i_PlainProduct (p:=x.p) (L:=A) (R:=C) (dA.pre ((p2.trans p3).trans (p4.trans p5))) sA (dC.pre ((p2.trans p3).trans (p4.trans p5))) sC fun v3 H6 p6 o3=>?_
  rw[eP]
  refine WO_cut (fun f:Fr=>f 0=cv∧f 6=v1∧f 10=.bool (decide (wrX x=[]))∧f 11=I64 0∧f 103=.tuple #[v3,I64 0]∧True) ⟨(by first|rfl|exact f0|simp[upd_apply,f0]),(by first|rfl|exact f6|simp[upd_apply,f6]),(by first|rfl|simp[upd_apply]),(by first|rfl|simp[upd_apply]),(by first|rfl|simp[upd_apply]),trivial⟩ ?_
  rintro f ⟨f0,f6,f10,f11,f103,-⟩
  by_cases hw:wrX x=[]
  case neg=>
   ((try simp (maxSteps:=3000000) (dsimp:=false) (disch:=first|omega|simp only[lnx];omega) only[↓ypre,ypost,↓reduceIte,reduceEqDiff,reduceAdd,reduceSub,reduceLeDiff,zz0,ynew,f0,f6,f10,f11,f103,decide_eq_false (show ¬ (0:Int)≠(0:Int) from fun h=>h rfl),decide_eq_false hw]);try simp only[yback])
   rw[JnQ_n]
   exact⟨f0,((p1.trans (p2.trans p3)).trans (p4.trans (p5.trans p6)))⟩
  have eq:ppR x.p A C=(R.1,0):=by rw[mp_pp (hv.pre ((p2.trans p3).trans (p4.trans (p5.trans p6)))) hx hc hw,hm]
  rw[eq] at o3
  ((try simp (maxSteps:=3000000) (dsimp:=false) (disch:=first|omega|simp only[lnx];omega) only[↓ypre,ypost,↓reduceIte,reduceEqDiff,reduceAdd,reduceSub,reduceLeDiff,zz0,ynew,f0,f6,f10,f11,f103,decide_eq_false (show ¬ (0:Int)≠(0:Int) from fun h=>h rfl),decide_eq_true hw]);try simp only[yback])
  refine l_rows5 o3 (o1.pre (p4.trans (p5.trans p6))) hsR ?_
  refine WO_cut (fun f:Fr=>f 0=cv∧f 112=.bool false∧f 114=.bool true∧f 117=.bool true∧True) ⟨(by first|rfl|exact f0|simp[upd_apply,f0]),(by first|rfl|simp[upd_apply]),(by first|rfl|simp[upd_apply]),(by first|rfl|simp[upd_apply]),trivial⟩ ?_
  rintro f ⟨f0,f112,f114,f117,-⟩
  ((try simp (maxSteps:=3000000) (dsimp:=false) (disch:=first|omega|simp only[lnx];omega) only[↓ypre,ypost,↓reduceIte,reduceEqDiff,reduceAdd,reduceSub,reduceLeDiff,zz0,ynew,f0,f112,f114,f117]);try simp only[yback])
  rw[JnQ_n]
  exact⟨f0,((p1.trans (p2.trans p3)).trans (p4.trans (p5.trans p6)))⟩
 rintro f HX7 ⟨f0,pX7⟩
 ((try simp (maxSteps:=3000000) (dsimp:=false) (disch:=first|omega|simp only[lnx];omega) only[↓ypre,ypost,↓reduceIte,reduceEqDiff,reduceAdd,reduceSub,reduceLeDiff,zz0,ynew,f0]);try simp only[yback])
 refine s_DrawFirstWrong (c.pre pX7) fun y v H8 p8 hv yb=>?_
 have ov:isOne v=true:=hv.one
 refine WO_cut (fun f:Fr=>f 0=cv∧f 122=schV y v∧True) ⟨(by first|rfl|exact f0|simp[upd_apply,f0]),(by first|rfl|simp[upd_apply]),trivial⟩ ?_
 rintro f ⟨f0,f122,-⟩
 ((try simp (maxSteps:=3000000) (dsimp:=false) (disch:=first|omega|simp only[lnx];omega) only[↓ypre,ypost,↓reduceIte,reduceEqDiff,reduceAdd,reduceSub,reduceLeDiff,zz0,ynew,f0,f122,schV,ov]);try simp only[yback])
 generalize hH9:AH.new H8 _=H9
 obtain⟨g9,p9,n9⟩:=new_facts hH9
 ((try simp (maxSteps:=3000000) (dsimp:=false) (disch:=first|omega|simp only[lnx];omega) only[↓ypre,ypost,↓reduceIte,reduceEqDiff,reduceAdd,reduceSub,reduceLeDiff,zz0,ynew,f0,f122,rdn_of g9]);try simp only[yback])
 refine i_FirstWrong (x:=y) (hv.pre p9) yb.l fun v1 H10 p10 o1=>?_
 have hsR:=fwR_len y
 generalize hR:fwR y=R at o1 hsR
 refine WO_cut (fun f:Fr=>f 0=cv∧f 14=.pointer (some ⟨H8.length,0,none⟩)∧f 125=.tuple #[v1,I64 R.2]∧True) ⟨(by first|rfl|exact f0|simp[upd_apply,f0]),(by first|rfl|simp[upd_apply]),(by first|rfl|simp[upd_apply]),trivial⟩ ?_
 rintro f ⟨f0,f14,f125,-⟩
 have g9:=pre_get p10 g9
 ((try simp (maxSteps:=3000000) (dsimp:=false) (disch:=first|omega|simp only[lnx];omega) only[↓ypre,ypost,↓reduceIte,reduceEqDiff,reduceAdd,reduceSub,reduceLeDiff,zz0,ynew,f0,f14,f125,rdn_of g9]);try simp only[yback])
 refine s_FirstWrong (x:=y) (hv.pre (p9.trans p10)) yb.l fun v2 H11 p11 o2=>?_
 rw[hR] at o2 ⊢
 refine WO_cut (fun f:Fr=>f 0=cv∧f 14=.pointer (some ⟨H8.length,0,none⟩)∧f 15=v1∧f 16=I64 R.2∧f 130=.tuple #[v2,I64 R.2]∧True) ⟨(by first|rfl|exact f0|simp[upd_apply,f0]),(by first|rfl|exact f14|simp[upd_apply,f14]),(by first|rfl|simp[upd_apply]),(by first|rfl|simp[upd_apply]),(by first|rfl|simp[upd_apply]),trivial⟩ ?_
 rintro f ⟨f0,f14,f15,f16,f130,-⟩
 ((try simp (maxSteps:=3000000) (dsimp:=false) (disch:=first|omega|simp only[lnx];omega) only[↓ypre,ypost,↓reduceIte,reduceEqDiff,reduceAdd,reduceSub,reduceLeDiff,zz0,ynew,f0,f14,f15,f16,f130,decide_eq_false (show ¬ (R.2)≠(R.2) from fun h=>h rfl)]);try simp only[yback])
 refine l_like (o1.pre p11) o2 hsR ?_
 refine WO_cut (fun f:Fr=>f 0=cv∧f 14=.pointer (some ⟨H8.length,0,none⟩)∧f 15=v1∧f 16=I64 R.2∧f 136=.bool false∧f 139=.bool true∧True) ⟨(by first|rfl|exact f0|simp[upd_apply,f0]),(by first|rfl|exact f14|simp[upd_apply,f14]),(by first|rfl|exact f15|simp[upd_apply,f15]),(by first|rfl|exact f16|simp[upd_apply,f16]),(by first|rfl|simp[upd_apply]),(by first|rfl|simp[upd_apply]),trivial⟩ ?_
 rintro f ⟨f0,f14,f15,f16,f136,f139,-⟩
 refine WO_join2 (Kcv h cv) ?_ ?_
 ·skip
  have g9:=pre_get p11 g9
  ((try simp (maxSteps:=3000000) (dsimp:=false) (disch:=first|omega|simp only[lnx];omega) only[↓ypre,ypost,↓reduceIte,reduceEqDiff,reduceAdd,reduceSub,reduceLeDiff,zz0,ynew,f0,f14,f15,f16,f136,f139,rdn_of g9]);try simp only[yback])
  refine s_IsScheme (x:=y) (hv.pre (p9.trans (p10.trans p11))) yb.l fun H12 p12=>?_
  refine WO_cut (fun f:Fr=>f 0=cv∧f 14=.pointer (some ⟨H8.length,0,none⟩)∧f 15=v1∧f 16=I64 R.2∧f 143=.bool (isX y)∧True) ⟨(by first|rfl|exact f0|simp[upd_apply,f0]),(by first|rfl|exact f14|simp[upd_apply,f14]),(by first|rfl|exact f15|simp[upd_apply,f15]),(by first|rfl|exact f16|simp[upd_apply,f16]),(by first|rfl|simp[upd_apply]),trivial⟩ ?_
  rintro f ⟨f0,f14,f15,f16,f143,-⟩
  by_cases hx:isX y=true
  case neg=>
   ((try simp (maxSteps:=3000000) (dsimp:=false) (disch:=first|omega|simp only[lnx];omega) only[↓ypre,ypost,↓reduceIte,reduceEqDiff,reduceAdd,reduceSub,reduceLeDiff,zz0,ynew,f0,f14,f15,f16,f143,hx]);try simp only[yback])
   rw[JnQ_n]
   exact⟨f0,((pX7.trans (p8.trans p9)).trans (p10.trans (p11.trans p12)))⟩
  by_cases z:R.2=0
  case neg=>
   have hw:=fwR_n hx (show ¬ (fwR y).2=0 by rw[hR];exact z)
   have eC:crR y=(true,0):=by unfold crR;rw[if_pos hx,decide_eq_true hw]
   have eN:cwR y=(0,0):=by unfold cwR;rw[if_pos hx,hw];rfl
   have g9:=pre_get p12 g9
   ((try simp (maxSteps:=3000000) (dsimp:=false) (disch:=first|omega|simp only[lnx];omega) only[↓ypre,ypost,↓reduceIte,reduceEqDiff,reduceAdd,reduceSub,reduceLeDiff,zz0,ynew,f0,f14,f15,f16,f143,hx,rdn_of g9]);try simp only[yback])
   refine i_CountWrong (x:=y) (hv.pre ((p9.trans p10).trans (p11.trans p12))) yb.l fun H13 p13=>?_
   rw[eN]
   refine WO_cut (fun f:Fr=>f 0=cv∧f 14=.pointer (some ⟨H8.length,0,none⟩)∧f 15=v1∧f 16=I64 R.2∧f 146=.tuple #[I64 0,I64 0]∧True) ⟨(by first|rfl|exact f0|simp[upd_apply,f0]),(by first|rfl|exact f14|simp[upd_apply,f14]),(by first|rfl|exact f15|simp[upd_apply,f15]),(by first|rfl|exact f16|simp[upd_apply,f16]),(by first|rfl|simp[upd_apply]),trivial⟩ ?_
   rintro f ⟨f0,f14,f15,f16,f146,-⟩
   have g9:=pre_get p13 g9
   ((try simp (maxSteps:=3000000) (dsimp:=false) (disch:=first|omega|simp only[lnx];omega) only[↓ypre,ypost,↓reduceIte,reduceEqDiff,reduceAdd,reduceSub,reduceLeDiff,zz0,ynew,f0,f14,f15,f16,f146,rdn_of g9]);try simp only[yback])
   refine i_IsCorrect (x:=y) (hv.pre ((p9.trans p10).trans (p11.trans (p12.trans p13)))) yb.l fun H14 p14=>?_
   rw[eC]
   refine WO_cut (fun f:Fr=>f 0=cv∧f 14=.pointer (some ⟨H8.length,0,none⟩)∧f 15=v1∧f 16=I64 R.2∧f 19=I64 0∧f 20=I64 0∧f 151=.tuple #[.bool true,I64 0]∧True) ⟨(by first|rfl|exact f0|simp[upd_apply,f0]),(by first|rfl|exact f14|simp[upd_apply,f14]),(by first|rfl|exact f15|simp[upd_apply,f15]),(by first|rfl|exact f16|simp[upd_apply,f16]),(by first|rfl|simp[upd_apply]),(by first|rfl|simp[upd_apply]),(by first|rfl|simp[upd_apply]),trivial⟩ ?_
   rintro f ⟨f0,f14,f15,f16,f19,f20,f151,-⟩
   ((try simp (maxSteps:=3000000) (dsimp:=false) (disch:=first|omega|simp only[lnx];omega) only[↓ypre,ypost,↓reduceIte,reduceEqDiff,reduceAdd,reduceSub,reduceLeDiff,zz0,ynew,f0,f14,f15,f16,f19,f20,f151,decide_eq_false (show ¬ (0:Int)≠(0:Int) from fun h=>h rfl),decide_eq_true (show (0:Int)=(0:Int) from rfl),show ((true==true) != true)=false from rfl,decide_eq_false z,show ((true==false) != false)=false from rfl]);try simp only[yback])
   rw[JnQ_n]
   exact⟨f0,(((pX7.trans p8).trans (p9.trans p10)).trans ((p11.trans p12).trans (p13.trans p14)))⟩
  obtain⟨hw,a,b,d,eF,hpl,hne⟩:=fwR_0 hx (show (fwR y).2=0 by rw[hR];exact z)
  rw[hR] at eF
  have eC:crR y=(false,0):=by unfold crR;rw[if_pos hx,decide_eq_false hw]
  have eN:cwR y=(((wrX y).length:Int),0):=if_pos hx
  have eL:decide (((wrX y).length:Int)=0)=false:=by rw[wr_dec,decide_eq_false hw]
  have eLf:lfR y a b d=(lsX y a b d,0):=by unfold lfR;rw[if_pos hpl];rfl
  have eRt:rtR y a b d=(wnX y a b d,0):=by unfold rtR;rw[if_pos hpl];rfl
  have i1:=(o1.pre (p11.trans p12))
  rw[eF] at i1
  have g9:=pre_get p12 g9
  ((try simp (maxSteps:=3000000) (dsimp:=false) (disch:=first|omega|simp only[lnx];omega) only[↓ypre,ypost,↓reduceIte,reduceEqDiff,reduceAdd,reduceSub,reduceLeDiff,zz0,ynew,f0,f14,f15,f16,f143,hx,rdn_of g9]);try simp only[yback])
  refine i_CountWrong (x:=y) (hv.pre ((p9.trans p10).trans (p11.trans p12))) yb.l fun H15 p15=>?_
  rw[eN]
  refine WO_cut (fun f:Fr=>f 0=cv∧f 14=.pointer (some ⟨H8.length,0,none⟩)∧f 15=v1∧f 16=I64 R.2∧f 146=.tuple #[I64 ((wrX y).length:Int),I64 0]∧True) ⟨(by first|rfl|exact f0|simp[upd_apply,f0]),(by first|rfl|exact f14|simp[upd_apply,f14]),(by first|rfl|exact f15|simp[upd_apply,f15]),(by first|rfl|exact f16|simp[upd_apply,f16]),(by first|rfl|exact f146|simp[upd_apply,f146]),trivial⟩ ?_
  rintro f ⟨f0,f14,f15,f16,f146,-⟩
  have g9:=pre_get p15 g9
  ((try simp (maxSteps:=3000000) (dsimp:=false) (disch:=first|omega|simp only[lnx];omega) only[↓ypre,ypost,↓reduceIte,reduceEqDiff,reduceAdd,reduceSub,reduceLeDiff,zz0,ynew,f0,f14,f15,f16,f146,rdn_of g9]);try simp only[yback])
  refine i_IsCorrect (x:=y) (hv.pre ((p9.trans p10).trans (p11.trans (p12.trans p15)))) yb.l fun H16 p16=>?_
  rw[eC]
  refine WO_cut (fun f:Fr=>f 0=cv∧f 14=.pointer (some ⟨H8.length,0,none⟩)∧f 15=v1∧f 16=I64 R.2∧f 19=I64 ((wrX y).length:Int)∧f 20=I64 0∧f 151=.tuple #[.bool false,I64 0]∧True) ⟨(by first|rfl|exact f0|simp[upd_apply,f0]),(by first|rfl|exact f14|simp[upd_apply,f14]),(by first|rfl|exact f15|simp[upd_apply,f15]),(by first|rfl|exact f16|simp[upd_apply,f16]),(by first|rfl|exact f19|simp[upd_apply,f19]),(by first|rfl|exact f20|simp[upd_apply,f20]),(by first|rfl|exact f151|simp[upd_apply,f151]),trivial⟩ ?_
  rintro f ⟨f0,f14,f15,f16,f19,f20,f151,-⟩
  obtain⟨m0,q0,ix0,rd0⟩:=(i1.pre (p15.trans p16)).cell (j:=0) (by simp)
  obtain⟨m1,q1,ix1,rd1⟩:=(i1.pre (p15.trans p16)).cell (j:=1) (by simp)
  obtain⟨m2,q2,ix2,rd2⟩:=(i1.pre (p15.trans p16)).cell (j:=2) (by simp)
  have ix0:ixsV 1 v1 (I64 0)=some (.pointer (some ⟨m0,q0,none⟩)):=ix0 .i64
  have ix1:ixsV 1 v1 (I64 1)=some (.pointer (some ⟨m1,q1,none⟩)):=ix1 .i64
  have ix2:ixsV 1 v1 (I64 2)=some (.pointer (some ⟨m2,q2,none⟩)):=ix2 .i64
  have rd0:AH.rd1 H16 m0 q0=some (I64 a):=rd0
  have rd1:AH.rd1 H16 m1 q1=some (I64 b):=rd1
  have rd2:AH.rd1 H16 m2 q2=some (I64 d):=rd2
  have g9:=pre_get p16 g9
  ((try simp (maxSteps:=3000000) (dsimp:=false) (disch:=first|omega|simp only[lnx];omega) only[↓ypre,ypost,↓reduceIte,reduceEqDiff,reduceAdd,reduceSub,reduceLeDiff,zz0,ynew,f0,f14,f15,f16,f19,f20,f151,decide_eq_false (show ¬ (0:Int)≠(0:Int) from fun h=>h rfl),eL,show ((false==false) != true)=false from rfl,decide_eq_true z,show ((false==true) != false)=false from rfl,rdn_of g9,ix0,rd0,ix1,rd1,ix2,rd2]);try simp only[yback])
  refine i_LeftSide (x:=y) (a:=a) (b:=b) (c:=d) (hv.pre ((p9.trans (p10.trans p11)).trans (p12.trans (p15.trans p16)))) yb.l fun H17 p17=>?_
  rw[eLf]
  refine WO_cut (fun f:Fr=>f 0=cv∧f 14=.pointer (some ⟨H8.length,0,none⟩)∧f 15=v1∧f 185=.tuple #[I64 (lsX y a b d),I64 0]∧True) ⟨(by first|rfl|exact f0|simp[upd_apply,f0]),(by first|rfl|exact f14|simp[upd_apply,f14]),(by first|rfl|exact f15|simp[upd_apply,f15]),(by first|rfl|simp[upd_apply]),trivial⟩ ?_
  rintro f ⟨f0,f14,f15,f185,-⟩
  obtain⟨m0,q0,ix0,rd0⟩:=(i1.pre (p15.trans (p16.trans p17))).cell (j:=0) (by simp)
  obtain⟨m1,q1,ix1,rd1⟩:=(i1.pre (p15.trans (p16.trans p17))).cell (j:=1) (by simp)
  obtain⟨m2,q2,ix2,rd2⟩:=(i1.pre (p15.trans (p16.trans p17))).cell (j:=2) (by simp)
  have ix0:ixsV 1 v1 (I64 0)=some (.pointer (some ⟨m0,q0,none⟩)):=ix0 .i64
  have ix1:ixsV 1 v1 (I64 1)=some (.pointer (some ⟨m1,q1,none⟩)):=ix1 .i64
  have ix2:ixsV 1 v1 (I64 2)=some (.pointer (some ⟨m2,q2,none⟩)):=ix2 .i64
  have rd0:AH.rd1 H17 m0 q0=some (I64 a):=rd0
  have rd1:AH.rd1 H17 m1 q1=some (I64 b):=rd1
  have rd2:AH.rd1 H17 m2 q2=some (I64 d):=rd2
  have g9:=pre_get p17 g9
  ((try simp (maxSteps:=3000000) (dsimp:=false) (disch:=first|omega|simp only[lnx];omega) only[↓ypre,ypost,↓reduceIte,reduceEqDiff,reduceAdd,reduceSub,reduceLeDiff,zz0,ynew,f0,f14,f15,f185,rdn_of g9,ix0,rd0,ix1,rd1,ix2,rd2]);try simp only[yback])
  refine i_RightSide (x:=y) (a:=a) (b:=b) (c:=d) (hv.pre ((p9.trans (p10.trans p11)).trans ((p12.trans p15).trans (p16.trans p17)))) yb.l fun H18 p18=>?_
  rw[eRt]
  refine WO_cut (fun f:Fr=>f 0=cv∧f 23=I64 (lsX y a b d)∧f 24=I64 0∧f 199=.tuple #[I64 (wnX y a b d),I64 0]∧True) ⟨(by first|rfl|exact f0|simp[upd_apply,f0]),(by first|rfl|simp[upd_apply]),(by first|rfl|simp[upd_apply]),(by first|rfl|simp[upd_apply]),trivial⟩ ?_
  rintro f ⟨f0,f23,f24,f199,-⟩
  ((try simp (maxSteps:=3000000) (dsimp:=false) (disch:=first|omega|simp only[lnx];omega) only[↓ypre,ypost,↓reduceIte,reduceEqDiff,reduceAdd,reduceSub,reduceLeDiff,zz0,ynew,f0,f23,f24,f199,decide_eq_false (show ¬ (0:Int)≠(0:Int) from fun h=>h rfl),decide_eq_false hne]);try simp only[yback])
  rw[JnQ_n]
  exact⟨f0,(((pX7.trans p8).trans (p9.trans (p10.trans p11))).trans ((p12.trans p15).trans (p16.trans (p17.trans p18))))⟩
 rintro f HX19 ⟨f0,pX19⟩
 ((try simp (maxSteps:=3000000) (dsimp:=false) (disch:=first|omega|simp only[lnx];omega) only[↓ypre,ypost,↓reduceIte,reduceEqDiff,reduceAdd,reduceSub,reduceLeDiff,zz0,ynew,f0]);try simp only[yback])
 refine s_DrawLeftSide (c.pre pX19) fun u v a b d H20 p20 hv ub=>?_
 have ov:isOne v=true:=hv.one
 refine WO_cut (fun f:Fr=>f 0=cv∧f 215=.tuple #[schV u v,I64 a,I64 b,I64 d]∧True) ⟨(by first|rfl|exact f0|simp[upd_apply,f0]),(by first|rfl|simp[upd_apply]),trivial⟩ ?_
 rintro f ⟨f0,f215,-⟩
 ((try simp (maxSteps:=3000000) (dsimp:=false) (disch:=first|omega|simp only[lnx];omega) only[↓ypre,ypost,↓reduceIte,reduceEqDiff,reduceAdd,reduceSub,reduceLeDiff,zz0,ynew,f0,f215,schV,ov]);try simp only[yback])
 generalize hH21:AH.new H20 _=H21
 obtain⟨g21,p21,n21⟩:=new_facts hH21
 ((try simp (maxSteps:=3000000) (dsimp:=false) (disch:=first|omega|simp only[lnx];omega) only[↓ypre,ypost,↓reduceIte,reduceEqDiff,reduceAdd,reduceSub,reduceLeDiff,zz0,ynew,f0,f215,rdn_of g21]);try simp only[yback])
 refine i_LeftSide (x:=u) (a:=a) (b:=b) (c:=d) (hv.pre p21) ub.l fun H22 p22=>?_
 generalize hF:lfR u a b d=F
 refine WO_cut (fun f:Fr=>f 0=cv∧f 27=.pointer (some ⟨H20.length,0,none⟩)∧f 28=I64 a∧f 29=I64 b∧f 30=I64 d∧f 225=.tuple #[I64 F.1,I64 F.2]∧True) ⟨(by first|rfl|exact f0|simp[upd_apply,f0]),(by first|rfl|simp[upd_apply]),(by first|rfl|simp[upd_apply]),(by first|rfl|simp[upd_apply]),(by first|rfl|simp[upd_apply]),(by first|rfl|simp[upd_apply]),trivial⟩ ?_
 rintro f ⟨f0,f27,f28,f29,f30,f225,-⟩
 have g21:=pre_get p22 g21
 ((try simp (maxSteps:=3000000) (dsimp:=false) (disch:=first|omega|simp only[lnx];omega) only[↓ypre,ypost,↓reduceIte,reduceEqDiff,reduceAdd,reduceSub,reduceLeDiff,zz0,ynew,f0,f27,f28,f29,f30,f225,rdn_of g21]);try simp only[yback])
 refine s_LeftSide (x:=u) (a:=a) (b:=b) (c:=d) (hv.pre (p21.trans p22)) ub.l fun H23 p23=>?_
 rw[hF]
 refine WO_cut (fun f:Fr=>f 0=cv∧f 31=I64 F.1∧f 32=I64 F.2∧f 233=.tuple #[I64 F.1,I64 F.2]∧True) ⟨(by first|rfl|exact f0|simp[upd_apply,f0]),(by first|rfl|simp[upd_apply]),(by first|rfl|simp[upd_apply]),(by first|rfl|simp[upd_apply]),trivial⟩ ?_
 rintro f ⟨f0,f31,f32,f233,-⟩
 ((try simp (maxSteps:=3000000) (dsimp:=false) (disch:=first|omega|simp only[lnx];omega) only[↓ypre,ypost,↓reduceIte,reduceEqDiff,reduceAdd,reduceSub,reduceLeDiff,zz0,ynew,f0,f31,f32,f233]);try simp only[yback])
 refine s_DrawRightSide (c.pre ((pX19.trans p20).trans (p21.trans (p22.trans p23)))) fun u2 v2 a2 b2 d2 H24 p24 hv2 ub2=>?_
 have ov2:isOne v2=true:=hv2.one
 refine WO_cut (fun f:Fr=>f 0=cv∧f 31=I64 F.1∧f 32=I64 F.2∧f 33=I64 F.1∧f 34=I64 F.2∧f 238=.tuple #[schV u2 v2,I64 a2,I64 b2,I64 d2]∧True) ⟨(by first|rfl|exact f0|simp[upd_apply,f0]),(by first|rfl|exact f31|simp[upd_apply,f31]),(by first|rfl|exact f32|simp[upd_apply,f32]),(by first|rfl|simp[upd_apply]),(by first|rfl|simp[upd_apply]),(by first|rfl|simp[upd_apply]),trivial⟩ ?_
 rintro f ⟨f0,f31,f32,f33,f34,f238,-⟩
 ((try simp (maxSteps:=3000000) (dsimp:=false) (disch:=first|omega|simp only[lnx];omega) only[↓ypre,ypost,↓reduceIte,reduceEqDiff,reduceAdd,reduceSub,reduceLeDiff,zz0,ynew,f0,f31,f32,f33,f34,f238,schV,ov2]);try simp only[yback])
 generalize hH25:AH.new H24 _=H25
 obtain⟨g25,p25,n25⟩:=new_facts hH25
 ((try simp (maxSteps:=3000000) (dsimp:=false) (disch:=first|omega|simp only[lnx];omega) only[↓ypre,ypost,↓reduceIte,reduceEqDiff,reduceAdd,reduceSub,reduceLeDiff,zz0,ynew,f0,f31,f32,f33,f34,f238,rdn_of g25]);try simp only[yback])
 refine i_RightSide (x:=u2) (a:=a2) (b:=b2) (c:=d2) (hv2.pre p25) ub2.l fun H26 p26=>?_
 generalize hG:rtR u2 a2 b2 d2=G
 refine WO_cut (fun f:Fr=>f 0=cv∧f 31=I64 F.1∧f 32=I64 F.2∧f 33=I64 F.1∧f 34=I64 F.2∧f 35=.pointer (some ⟨H24.length,0,none⟩)∧f 36=I64 a2∧f 37=I64 b2∧f 38=I64 d2∧f 248=.tuple #[I64 G.1,I64 G.2]∧True) ⟨(by first|rfl|exact f0|simp[upd_apply,f0]),(by first|rfl|exact f31|simp[upd_apply,f31]),(by first|rfl|exact f32|simp[upd_apply,f32]),(by first|rfl|exact f33|simp[upd_apply,f33]),(by first|rfl|exact f34|simp[upd_apply,f34]),(by first|rfl|simp[upd_apply]),(by first|rfl|simp[upd_apply]),(by first|rfl|simp[upd_apply]),(by first|rfl|simp[upd_apply]),(by first|rfl|simp[upd_apply]),trivial⟩ ?_
 rintro f ⟨f0,f31,f32,f33,f34,f35,f36,f37,f38,f248,-⟩
 have g25:=pre_get p26 g25
 ((try simp (maxSteps:=3000000) (dsimp:=false) (disch:=first|omega|simp only[lnx];omega) only[↓ypre,ypost,↓reduceIte,reduceEqDiff,reduceAdd,reduceSub,reduceLeDiff,zz0,ynew,f0,f31,f32,f33,f34,f35,f36,f37,f38,f248,rdn_of g25]);try simp only[yback])
 refine s_RightSide (x:=u2) (a:=a2) (b:=b2) (c:=d2) (hv2.pre (p25.trans p26)) ub2.l fun H27 p27=>?_
 rw[hG]
 refine WO_cut (fun f:Fr=>f 0=cv∧f 31=I64 F.1∧f 32=I64 F.2∧f 33=I64 F.1∧f 34=I64 F.2∧f 39=I64 G.1∧f 40=I64 G.2∧f 256=.tuple #[I64 G.1,I64 G.2]∧True) ⟨(by first|rfl|exact f0|simp[upd_apply,f0]),(by first|rfl|exact f31|simp[upd_apply,f31]),(by first|rfl|exact f32|simp[upd_apply,f32]),(by first|rfl|exact f33|simp[upd_apply,f33]),(by first|rfl|exact f34|simp[upd_apply,f34]),(by first|rfl|simp[upd_apply]),(by first|rfl|simp[upd_apply]),(by first|rfl|simp[upd_apply]),trivial⟩ ?_
 rintro f ⟨f0,f31,f32,f33,f34,f39,f40,f256,-⟩
 ((try simp (maxSteps:=3000000) (dsimp:=false) (disch:=first|omega|simp only[lnx];omega) only[↓ypre,ypost,↓reduceIte,reduceEqDiff,reduceAdd,reduceSub,reduceLeDiff,zz0,ynew,f0,f31,f32,f33,f34,f39,f40,f256]);try simp only[yback])
 refine s_DrawPlainProduct (c.pre (((pX19.trans p20).trans (p21.trans p22)).trans ((p23.trans p24).trans (p25.trans (p26.trans p27))))) fun p A C w1 w2 H28 p28 dA sA dC sC=>?_
 refine WO_cut (fun f:Fr=>f 0=cv∧f 31=I64 F.1∧f 32=I64 F.2∧f 33=I64 F.1∧f 34=I64 F.2∧f 39=I64 G.1∧f 40=I64 G.2∧f 41=I64 G.1∧f 42=I64 G.2∧f 261=.tuple #[I64 p,w1,w2]∧True) ⟨(by first|rfl|exact f0|simp[upd_apply,f0]),(by first|rfl|exact f31|simp[upd_apply,f31]),(by first|rfl|exact f32|simp[upd_apply,f32]),(by first|rfl|exact f33|simp[upd_apply,f33]),(by first|rfl|exact f34|simp[upd_apply,f34]),(by first|rfl|exact f39|simp[upd_apply,f39]),(by first|rfl|exact f40|simp[upd_apply,f40]),(by first|rfl|simp[upd_apply]),(by first|rfl|simp[upd_apply]),(by first|rfl|simp[upd_apply]),trivial⟩ ?_
 rintro f ⟨f0,f31,f32,f33,f34,f39,f40,f41,f42,f261,-⟩
 ((try simp (maxSteps:=3000000) (dsimp:=false) (disch:=first|omega|simp only[lnx];omega) only[↓ypre,ypost,↓reduceIte,reduceEqDiff,reduceAdd,reduceSub,reduceLeDiff,zz0,ynew,f0,f31,f32,f33,f34,f39,f40,f41,f42,f261]);try simp only[yback])
 refine i_PlainProduct (p:=p) (L:=A) (R:=C) dA sA dC sC fun v3 H29 p29 o3=>?_
 have hsW:=ppR_small p A C
 generalize hW:ppR p A C=W at o3 hsW
 refine WO_cut (fun f:Fr=>f 0=cv∧f 31=I64 F.1∧f 32=I64 F.2∧f 33=I64 F.1∧f 34=I64 F.2∧f 39=I64 G.1∧f 40=I64 G.2∧f 41=I64 G.1∧f 42=I64 G.2∧f 43=I64 p∧f 44=w1∧f 45=w2∧f 269=.tuple #[v3,I64 W.2]∧True) ⟨(by first|rfl|exact f0|simp[upd_apply,f0]),(by first|rfl|exact f31|simp[upd_apply,f31]),(by first|rfl|exact f32|simp[upd_apply,f32]),(by first|rfl|exact f33|simp[upd_apply,f33]),(by first|rfl|exact f34|simp[upd_apply,f34]),(by first|rfl|exact f39|simp[upd_apply,f39]),(by first|rfl|exact f40|simp[upd_apply,f40]),(by first|rfl|exact f41|simp[upd_apply,f41]),(by first|rfl|exact f42|simp[upd_apply,f42]),(by first|rfl|simp[upd_apply]),(by first|rfl|simp[upd_apply]),(by first|rfl|simp[upd_apply]),(by first|rfl|simp[upd_apply]),trivial⟩ ?_
 rintro f ⟨f0,f31,f32,f33,f34,f39,f40,f41,f42,f43,f44,f45,f269,-⟩
 ((try simp (maxSteps:=3000000) (dsimp:=false) (disch:=first|omega|simp only[lnx];omega) only[↓ypre,ypost,↓reduceIte,reduceEqDiff,reduceAdd,reduceSub,reduceLeDiff,zz0,ynew,f0,f31,f32,f33,f34,f39,f40,f41,f42,f43,f44,f45,f269]);try simp only[yback])
 refine s_PlainProduct (p:=p) (L:=A) (R:=C) (dA.pre p29) sA (dC.pre p29) sC fun v4 H30 p30 o4=>?_
 rw[hW] at o4 ⊢
 refine WO_cut (fun f:Fr=>f 0=cv∧f 31=I64 F.1∧f 32=I64 F.2∧f 33=I64 F.1∧f 34=I64 F.2∧f 39=I64 G.1∧f 40=I64 G.2∧f 41=I64 G.1∧f 42=I64 G.2∧f 46=v3∧f 47=I64 W.2∧f 276=.tuple #[v4,I64 W.2]∧True) ⟨(by first|rfl|exact f0|simp[upd_apply,f0]),(by first|rfl|exact f31|simp[upd_apply,f31]),(by first|rfl|exact f32|simp[upd_apply,f32]),(by first|rfl|exact f33|simp[upd_apply,f33]),(by first|rfl|exact f34|simp[upd_apply,f34]),(by first|rfl|exact f39|simp[upd_apply,f39]),(by first|rfl|exact f40|simp[upd_apply,f40]),(by first|rfl|exact f41|simp[upd_apply,f41]),(by first|rfl|exact f42|simp[upd_apply,f42]),(by first|rfl|simp[upd_apply]),(by first|rfl|simp[upd_apply]),(by first|rfl|simp[upd_apply]),trivial⟩ ?_
 rintro f ⟨f0,f31,f32,f33,f34,f39,f40,f41,f42,f46,f47,f276,-⟩
 ((try simp (maxSteps:=3000000) (dsimp:=false) (disch:=first|omega|simp only[lnx];omega) only[↓ypre,ypost,↓reduceIte,reduceEqDiff,reduceAdd,reduceSub,reduceLeDiff,zz0,ynew,f0,f31,f32,f33,f34,f39,f40,f41,f42,f46,f47,f276]);try simp only[yback])
 refine s_DrawCountWrong (c.pre (((pX19.trans (p20.trans p21)).trans (p22.trans (p23.trans p24))).trans ((p25.trans (p26.trans p27)).trans (p28.trans (p29.trans p30))))) fun y5 v5 H31 p31 hv5 yb5=>?_
 have ov5:isOne v5=true:=hv5.one
 refine WO_cut (fun f:Fr=>f 0=cv∧f 31=I64 F.1∧f 32=I64 F.2∧f 33=I64 F.1∧f 34=I64 F.2∧f 39=I64 G.1∧f 40=I64 G.2∧f 41=I64 G.1∧f 42=I64 G.2∧f 46=v3∧f 47=I64 W.2∧f 48=v4∧f 49=I64 W.2∧f 280=schV y5 v5∧True) ⟨(by first|rfl|exact f0|simp[upd_apply,f0]),(by first|rfl|exact f31|simp[upd_apply,f31]),(by first|rfl|exact f32|simp[upd_apply,f32]),(by first|rfl|exact f33|simp[upd_apply,f33]),(by first|rfl|exact f34|simp[upd_apply,f34]),(by first|rfl|exact f39|simp[upd_apply,f39]),(by first|rfl|exact f40|simp[upd_apply,f40]),(by first|rfl|exact f41|simp[upd_apply,f41]),(by first|rfl|exact f42|simp[upd_apply,f42]),(by first|rfl|exact f46|simp[upd_apply,f46]),(by first|rfl|exact f47|simp[upd_apply,f47]),(by first|rfl|simp[upd_apply]),(by first|rfl|simp[upd_apply]),(by first|rfl|simp[upd_apply]),trivial⟩ ?_
 rintro f ⟨f0,f31,f32,f33,f34,f39,f40,f41,f42,f46,f47,f48,f49,f280,-⟩
 ((try simp (maxSteps:=3000000) (dsimp:=false) (disch:=first|omega|simp only[lnx];omega) only[↓ypre,ypost,↓reduceIte,reduceEqDiff,reduceAdd,reduceSub,reduceLeDiff,zz0,ynew,f0,f31,f32,f33,f34,f39,f40,f41,f42,f46,f47,f48,f49,f280,schV,ov5]);try simp only[yback])
 generalize hH32:AH.new H31 _=H32
 obtain⟨g32,p32,n32⟩:=new_facts hH32
 ((try simp (maxSteps:=3000000) (dsimp:=false) (disch:=first|omega|simp only[lnx];omega) only[↓ypre,ypost,↓reduceIte,reduceEqDiff,reduceAdd,reduceSub,reduceLeDiff,zz0,ynew,f0,f31,f32,f33,f34,f39,f40,f41,f42,f46,f47,f48,f49,f280,rdn_of g32]);try simp only[yback])
 refine i_CountWrong (x:=y5) (hv5.pre p32) yb5.l fun H33 p33=>?_
 generalize hD:cwR y5=D
 refine WO_cut (fun f:Fr=>f 0=cv∧f 31=I64 F.1∧f 32=I64 F.2∧f 33=I64 F.1∧f 34=I64 F.2∧f 39=I64 G.1∧f 40=I64 G.2∧f 41=I64 G.1∧f 42=I64 G.2∧f 46=v3∧f 47=I64 W.2∧f 48=v4∧f 49=I64 W.2∧f 50=.pointer (some ⟨H31.length,0,none⟩)∧f 283=.tuple #[I64 D.1,I64 D.2]∧True) ⟨(by first|rfl|exact f0|simp[upd_apply,f0]),(by first|rfl|exact f31|simp[upd_apply,f31]),(by first|rfl|exact f32|simp[upd_apply,f32]),(by first|rfl|exact f33|simp[upd_apply,f33]),(by first|rfl|exact f34|simp[upd_apply,f34]),(by first|rfl|exact f39|simp[upd_apply,f39]),(by first|rfl|exact f40|simp[upd_apply,f40]),(by first|rfl|exact f41|simp[upd_apply,f41]),(by first|rfl|exact f42|simp[upd_apply,f42]),(by first|rfl|exact f46|simp[upd_apply,f46]),(by first|rfl|exact f47|simp[upd_apply,f47]),(by first|rfl|exact f48|simp[upd_apply,f48]),(by first|rfl|exact f49|simp[upd_apply,f49]),(by first|rfl|simp[upd_apply]),(by first|rfl|simp[upd_apply]),trivial⟩ ?_
 rintro f ⟨f0,f31,f32,f33,f34,f39,f40,f41,f42,f46,f47,f48,f49,f50,f283,-⟩
 have g32:=pre_get p33 g32
 ((try simp (maxSteps:=3000000) (dsimp:=false) (disch:=first|omega|simp only[lnx];omega) only[↓ypre,ypost,↓reduceIte,reduceEqDiff,reduceAdd,reduceSub,reduceLeDiff,zz0,ynew,f0,f31,f32,f33,f34,f39,f40,f41,f42,f46,f47,f48,f49,f50,f283,rdn_of g32]);try simp only[yback])
 refine s_CountWrong (x:=y5) (hv5.pre (p32.trans p33)) yb5.l fun H34 p34=>?_
 rw[hD]
 refine WO_cut (fun f:Fr=>f 0=cv∧f 31=I64 F.1∧f 32=I64 F.2∧f 33=I64 F.1∧f 34=I64 F.2∧f 39=I64 G.1∧f 40=I64 G.2∧f 41=I64 G.1∧f 42=I64 G.2∧f 46=v3∧f 47=I64 W.2∧f 48=v4∧f 49=I64 W.2∧f 51=I64 D.1∧f 52=I64 D.2∧f 288=.tuple #[I64 D.1,I64 D.2]∧True) ⟨(by first|rfl|exact f0|simp[upd_apply,f0]),(by first|rfl|exact f31|simp[upd_apply,f31]),(by first|rfl|exact f32|simp[upd_apply,f32]),(by first|rfl|exact f33|simp[upd_apply,f33]),(by first|rfl|exact f34|simp[upd_apply,f34]),(by first|rfl|exact f39|simp[upd_apply,f39]),(by first|rfl|exact f40|simp[upd_apply,f40]),(by first|rfl|exact f41|simp[upd_apply,f41]),(by first|rfl|exact f42|simp[upd_apply,f42]),(by first|rfl|exact f46|simp[upd_apply,f46]),(by first|rfl|exact f47|simp[upd_apply,f47]),(by first|rfl|exact f48|simp[upd_apply,f48]),(by first|rfl|exact f49|simp[upd_apply,f49]),(by first|rfl|simp[upd_apply]),(by first|rfl|simp[upd_apply]),(by first|rfl|simp[upd_apply]),trivial⟩ ?_
 rintro f ⟨f0,f31,f32,f33,f34,f39,f40,f41,f42,f46,f47,f48,f49,f51,f52,f288,-⟩
 ((try simp (maxSteps:=3000000) (dsimp:=false) (disch:=first|omega|simp only[lnx];omega) only[↓ypre,ypost,↓reduceIte,reduceEqDiff,reduceAdd,reduceSub,reduceLeDiff,zz0,ynew,f0,f31,f32,f33,f34,f39,f40,f41,f42,f46,f47,f48,f49,f51,f52,f288]);try simp only[yback])
 refine s_DrawIsCorrect (c.pre ((((pX19.trans p20).trans (p21.trans p22)).trans ((p23.trans p24).trans (p25.trans p26))).trans (((p27.trans p28).trans (p29.trans p30)).trans ((p31.trans p32).trans (p33.trans p34))))) fun y6 v6 H35 p35 hv6 yb6=>?_
 have ov6:isOne v6=true:=hv6.one
 refine WO_cut (fun f:Fr=>f 31=I64 F.1∧f 32=I64 F.2∧f 33=I64 F.1∧f 34=I64 F.2∧f 39=I64 G.1∧f 40=I64 G.2∧f 41=I64 G.1∧f 42=I64 G.2∧f 46=v3∧f 47=I64 W.2∧f 48=v4∧f 49=I64 W.2∧f 51=I64 D.1∧f 52=I64 D.2∧f 53=I64 D.1∧f 54=I64 D.2∧f 292=schV y6 v6∧True) ⟨(by first|rfl|exact f31|simp[upd_apply,f31]),(by first|rfl|exact f32|simp[upd_apply,f32]),(by first|rfl|exact f33|simp[upd_apply,f33]),(by first|rfl|exact f34|simp[upd_apply,f34]),(by first|rfl|exact f39|simp[upd_apply,f39]),(by first|rfl|exact f40|simp[upd_apply,f40]),(by first|rfl|exact f41|simp[upd_apply,f41]),(by first|rfl|exact f42|simp[upd_apply,f42]),(by first|rfl|exact f46|simp[upd_apply,f46]),(by first|rfl|exact f47|simp[upd_apply,f47]),(by first|rfl|exact f48|simp[upd_apply,f48]),(by first|rfl|exact f49|simp[upd_apply,f49]),(by first|rfl|exact f51|simp[upd_apply,f51]),(by first|rfl|exact f52|simp[upd_apply,f52]),(by first|rfl|simp[upd_apply]),(by first|rfl|simp[upd_apply]),(by first|rfl|simp[upd_apply]),trivial⟩ ?_
 rintro f ⟨f31,f32,f33,f34,f39,f40,f41,f42,f46,f47,f48,f49,f51,f52,f53,f54,f292,-⟩
 ((try simp (maxSteps:=3000000) (dsimp:=false) (disch:=first|omega|simp only[lnx];omega) only[↓ypre,ypost,↓reduceIte,reduceEqDiff,reduceAdd,reduceSub,reduceLeDiff,zz0,ynew,f31,f32,f33,f34,f39,f40,f41,f42,f46,f47,f48,f49,f51,f52,f53,f54,f292,schV,ov6]);try simp only[yback])
 generalize hH36:AH.new H35 _=H36
 obtain⟨g36,p36,n36⟩:=new_facts hH36
 ((try simp (maxSteps:=3000000) (dsimp:=false) (disch:=first|omega|simp only[lnx];omega) only[↓ypre,ypost,↓reduceIte,reduceEqDiff,reduceAdd,reduceSub,reduceLeDiff,zz0,ynew,f31,f32,f33,f34,f39,f40,f41,f42,f46,f47,f48,f49,f51,f52,f53,f54,f292,rdn_of g36]);try simp only[yback])
 refine i_IsCorrect (x:=y6) (hv6.pre p36) yb6.l fun H37 p37=>?_
 generalize hE:crR y6=E
 refine WO_cut (fun f:Fr=>f 31=I64 F.1∧f 32=I64 F.2∧f 33=I64 F.1∧f 34=I64 F.2∧f 39=I64 G.1∧f 40=I64 G.2∧f 41=I64 G.1∧f 42=I64 G.2∧f 46=v3∧f 47=I64 W.2∧f 48=v4∧f 49=I64 W.2∧f 51=I64 D.1∧f 52=I64 D.2∧f 53=I64 D.1∧f 54=I64 D.2∧f 55=.pointer (some ⟨H35.length,0,none⟩)∧f 295=.tuple #[.bool E.1,I64 E.2]∧True) ⟨(by first|rfl|exact f31|simp[upd_apply,f31]),(by first|rfl|exact f32|simp[upd_apply,f32]),(by first|rfl|exact f33|simp[upd_apply,f33]),(by first|rfl|exact f34|simp[upd_apply,f34]),(by first|rfl|exact f39|simp[upd_apply,f39]),(by first|rfl|exact f40|simp[upd_apply,f40]),(by first|rfl|exact f41|simp[upd_apply,f41]),(by first|rfl|exact f42|simp[upd_apply,f42]),(by first|rfl|exact f46|simp[upd_apply,f46]),(by first|rfl|exact f47|simp[upd_apply,f47]),(by first|rfl|exact f48|simp[upd_apply,f48]),(by first|rfl|exact f49|simp[upd_apply,f49]),(by first|rfl|exact f51|simp[upd_apply,f51]),(by first|rfl|exact f52|simp[upd_apply,f52]),(by first|rfl|exact f53|simp[upd_apply,f53]),(by first|rfl|exact f54|simp[upd_apply,f54]),(by first|rfl|simp[upd_apply]),(by first|rfl|simp[upd_apply]),trivial⟩ ?_
 rintro f ⟨f31,f32,f33,f34,f39,f40,f41,f42,f46,f47,f48,f49,f51,f52,f53,f54,f55,f295,-⟩
 have g36:=pre_get p37 g36
 ((try simp (maxSteps:=3000000) (dsimp:=false) (disch:=first|omega|simp only[lnx];omega) only[↓ypre,ypost,↓reduceIte,reduceEqDiff,reduceAdd,reduceSub,reduceLeDiff,zz0,ynew,f31,f32,f33,f34,f39,f40,f41,f42,f46,f47,f48,f49,f51,f52,f53,f54,f55,f295,rdn_of g36]);try simp only[yback])
 refine s_IsCorrect (x:=y6) (hv6.pre (p36.trans p37)) yb6.l fun H38 p38=>?_
 rw[hE]
 refine WO_cut (fun f:Fr=>f 31=I64 F.1∧f 32=I64 F.2∧f 33=I64 F.1∧f 34=I64 F.2∧f 39=I64 G.1∧f 40=I64 G.2∧f 41=I64 G.1∧f 42=I64 G.2∧f 46=v3∧f 47=I64 W.2∧f 48=v4∧f 49=I64 W.2∧f 51=I64 D.1∧f 52=I64 D.2∧f 53=I64 D.1∧f 54=I64 D.2∧f 56=.bool E.1∧f 57=I64 E.2∧f 300=.tuple #[.bool E.1,I64 E.2]∧True) ⟨(by first|rfl|exact f31|simp[upd_apply,f31]),(by first|rfl|exact f32|simp[upd_apply,f32]),(by first|rfl|exact f33|simp[upd_apply,f33]),(by first|rfl|exact f34|simp[upd_apply,f34]),(by first|rfl|exact f39|simp[upd_apply,f39]),(by first|rfl|exact f40|simp[upd_apply,f40]),(by first|rfl|exact f41|simp[upd_apply,f41]),(by first|rfl|exact f42|simp[upd_apply,f42]),(by first|rfl|exact f46|simp[upd_apply,f46]),(by first|rfl|exact f47|simp[upd_apply,f47]),(by first|rfl|exact f48|simp[upd_apply,f48]),(by first|rfl|exact f49|simp[upd_apply,f49]),(by first|rfl|exact f51|simp[upd_apply,f51]),(by first|rfl|exact f52|simp[upd_apply,f52]),(by first|rfl|exact f53|simp[upd_apply,f53]),(by first|rfl|exact f54|simp[upd_apply,f54]),(by first|rfl|simp[upd_apply]),(by first|rfl|simp[upd_apply]),(by first|rfl|simp[upd_apply]),trivial⟩ ?_
 rintro f ⟨f31,f32,f33,f34,f39,f40,f41,f42,f46,f47,f48,f49,f51,f52,f53,f54,f56,f57,f300,-⟩
 ((try simp (maxSteps:=3000000) (dsimp:=false) (disch:=first|omega|simp only[lnx];omega) only[↓ypre,ypost,↓reduceIte,reduceEqDiff,reduceAdd,reduceSub,reduceLeDiff,zz0,ynew,f31,f32,f33,f34,f39,f40,f41,f42,f46,f47,f48,f49,f51,f52,f53,f54,f56,f57,f300,decide_eq_true (show (F.2)=(F.2) from rfl),decide_eq_true (show (F.1)=(F.1) from rfl),decide_eq_true (show (G.2)=(G.2) from rfl),decide_eq_true (show (G.1)=(G.1) from rfl),decide_eq_true (show (W.2)=(W.2) from rfl)]);try simp only[yback])
 refine l_rows5 (o3.pre (((p30.trans p31).trans (p32.trans p33)).trans ((p34.trans p35).trans (p36.trans (p37.trans p38))))) (o4.pre (((p31.trans p32).trans (p33.trans p34)).trans ((p35.trans p36).trans (p37.trans p38)))) hsW ?_
 refine WO_cut (fun f:Fr=>f 51=I64 D.1∧f 52=I64 D.2∧f 53=I64 D.1∧f 54=I64 D.2∧f 56=.bool E.1∧f 57=I64 E.2∧f 58=.bool E.1∧f 59=I64 E.2∧f 326=.bool true∧f 329=.bool true∧True) ⟨(by first|rfl|exact f51|simp[upd_apply,f51]),(by first|rfl|exact f52|simp[upd_apply,f52]),(by first|rfl|exact f53|simp[upd_apply,f53]),(by first|rfl|exact f54|simp[upd_apply,f54]),(by first|rfl|exact f56|simp[upd_apply,f56]),(by first|rfl|exact f57|simp[upd_apply,f57]),(by first|rfl|simp[upd_apply]),(by first|rfl|simp[upd_apply]),(by first|rfl|simp[upd_apply]),(by first|rfl|simp[upd_apply]),trivial⟩ ?_
 rintro f ⟨f51,f52,f53,f54,f56,f57,f58,f59,f326,f329,-⟩
 ((try simp (maxSteps:=3000000) (dsimp:=false) (disch:=first|omega|simp only[lnx];omega) only[↓ypre,ypost,↓reduceIte,reduceEqDiff,reduceAdd,reduceSub,reduceLeDiff,zz0,ynew,f51,f52,f53,f54,f56,f57,f58,f59,f326,f329,decide_eq_true (show (D.2)=(D.2) from rfl),decide_eq_true (show (D.1)=(D.1) from rfl),decide_eq_true (show (E.2)=(E.2) from rfl),show ((E.1==E.1) != false)=true by simp]);try simp only[yback])
end Go.Proofs.Ytapafdpnmakekaa.X
