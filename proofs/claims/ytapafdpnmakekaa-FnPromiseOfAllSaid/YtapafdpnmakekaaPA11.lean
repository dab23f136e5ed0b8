/- Texts of one claim, put together by merge.py: XW1, XV1, XM2, XM3, XM5, XP9, XM6, XDN, XDD, XDO, XZ7, XV2, XZ8, XB1, XB2, XB3, XB4, XV3, XV4, XQ4, XN1, XN2. -/
import Derived.Test.YtapafdpnmakekaaPA10
import Derived.Test.YtapafdpnmakekaaPA9
import Derived.Test.YtapafdpnmakekaaPA8
set_option linter.unusedVariables false
set_option linter.unusedSimpArgs false
set_option maxRecDepth 20000
set_option maxHeartbeats 4000000
namespace Go.Proofs.Ytapafdpnmakekaa.X
open Go Go.RowKit
def StV (p n:Int) (st:List (List Int)):Prop:=∀ i,i<st.length→okStep p (n+(i:Nat)) (st.getD i [])=true
def OuV (p m:Int) (out:List (List Int)):Prop:=∀ i,i<out.length→∃ a b,out.getD i []=[a,b]∧0≤a∧a<m∧0≤b∧b<p∧¬ (b=0∧a≠0)
theorem OuV.mono {p m m':Int} {out:List (List Int)} (o:OuV p m out) (h:m≤m'):OuV p m' out:=fun i hi=>by
 obtain⟨a,b,e,h1,h2,h3⟩:=o i hi
 exact⟨a,b,e,h1,by omega,h3⟩
theorem StV.app {p n:Int} {st:List (List Int)} {q:List Int} (o:StV p n st) (hq:okStep p (n+(st.length:Nat)) q=true):StV p n (st++[q]):=fun i hi=>by
 rw[List.length_append,List.length_singleton] at hi
 by_cases e:i=st.length
 ·subst e
  rw[getD_app_r (Nat.le_refl _),Nat.sub_self]
  exact hq
 ·rw[getD_app_l (by omega)]
  exact o i (by omega)
theorem OuV.app {p m a b:Int} {out:List (List Int)} (o:OuV p m out) (h:0≤a∧a<m∧0≤b∧b<p∧¬ (b=0∧a≠0)):OuV p m (out++[[a,b]]):=fun i hi=>by
 rw[List.length_append,List.length_singleton] at hi
 by_cases e:i=out.length
 ·subst e
  rw[getD_app_r (Nat.le_refl _),Nat.sub_self]
  exact⟨a,b,rfl,h⟩
 ·rw[getD_app_l (by omega)]
  exact o i (by omega)
structure RSV (p n:Int) (st0:List (List Int)) (row:List Int) (k:Nat) (s:RS):Prop where
 sv:StV p n s.st
 ge:st0.length≤s.st.length
 le:s.st.length≤st0.length+cntB (fun i=>decide (row.getD i 0≠0)) k
 fac:0≤s.fac∧s.fac<p
 vf:s.val<0↔s.fac=0
 v1:-1≤s.val∧s.val<n+s.st.length
 v2:s.val<k∨(row.length:Int)≤s.val
theorem rowSt_valid {p n:Int} {st0:List (List Int)} {row:List Int} (hp:isP p=true) (hr:allIn p row=true) (hn:1≤n) (hW:(row.length:Int)≤n+st0.length) (hs:StV p n st0):∀ {k:Nat},k≤row.length→RSV p n st0 row k (rowSt p n st0 row k)
 | 0,_=>by
  have:=isP_in hp
  unfold rowSt
  refine⟨hs,Nat.le_refl _,by simp[cntB],by simp only;omega,by simp,by simp only;omega,by simp⟩
 | k+1,hk=>by
  have ih:=rowSt_valid hp hr hn hW hs (k:=k) (by omega)
  have hrk:=allIn_iff.1 hr k (by omega)
  unfold rowSt
  simp only
  generalize rowSt p n st0 row k=s at *
  obtain⟨sv,ge,le,fac,vf,v1,v2⟩:=ih
  have ec:cntB (fun i=>decide (row.getD i 0≠0)) (k+1)=cntB (fun i=>decide (row.getD i 0≠0)) k+(if decide (row.getD k 0≠0)=true then 1 else 0):=rfl
  by_cases h0:row.getD k 0=0
  ·rw[if_pos h0]
   exact⟨sv,ge,by rw[ec];omega,fac,vf,v1,by omega⟩
  rw[if_neg h0]
  rw[if_pos (decide_eq_true h0)] at ec
  by_cases h1:s.val<0
  ·rw[if_pos h1]
   refine⟨sv,ge,by rw[ec];show s.st.length≤_;omega,by simp only;omega,by simp only;omega,by simp only;omega,by simp only;omega⟩
  ·rw[if_neg h1]
   have hf:s.fac≠0:=fun e=>h1 (vf.2 e)
   obtain⟨w1,w2,_⟩:=invP_is hp (n:=s.fac) (by omega)
   have nz:=mul_nz hp (a:=row.getD k 0) (r:=invP p s.fac) (by omega) ⟨w1,w2⟩
   have hok:okStep p (n+(s.st.length:Nat)) [s.val,(k:Int),(row.getD k 0*invP p s.fac).tmod p]=true:=by
    rw[okStep_3,decide_eq_true_eq]
    omega
   refine⟨sv.app hok,by simp;omega,by rw[ec];simp only[List.length_append,List.length_singleton];omega,fac,by simp only[List.length_append,List.length_singleton];omega,by simp only[List.length_append,List.length_singleton];omega,?_⟩
   right
   simp only
   omega
structure FV (p n:Int) (x:Prg):Prop where
 ep:x.p=p
 en:x.n=n
 sv:StV p n x.st
 ov:OuV p (n+x.st.length) x.out
theorem finP_valid {p n:Int} {x:Prg} {rows:List (List Int)} (hp:isP p=true) (hr:∀ i,i<rows.length→allIn p (rows.getD i [])=true∧((rows.getD i []).length:Int)≤n+x.st.length) (hn:1≤n) (hx:FV p n x):∀ {i:Nat},i≤rows.length →
  FV p n (finP x rows i)∧x.st.length≤(finP x rows i).st.length∧(finP x rows i).st.length≤x.st.length+sumN (fun k=>nzR (rows.getD k [])) i
 | 0,_=>⟨hx,Nat.le_refl _,by simp[finP,sumN]⟩
 | i+1,hi=>by
  obtain⟨⟨e1,e2,sv,ov⟩,g1,g2⟩:=finP_valid hp hr hn hx (i:=i) (by omega)
  obtain⟨r1,r2⟩:=hr i (by omega)
  have v:=rowSt_valid (st0:=(finP x rows i).st) (row:=rows.getD i []) hp r1 hn (by omega) sv (k:=(rows.getD i []).length) (Nat.le_refl _)
  have es:finP x rows (i+1)=rowP (finP x rows i) (rows.getD i []):=rfl
  rw[es]
  unfold rowP
  rw[e1,e2]
  simp only
  generalize rowSt p n (finP x rows i).st (rows.getD i []) (rows.getD i []).length=s at *
  obtain⟨v1,v2,v3,v4,v5,v6,v7⟩:=v
  refine⟨⟨rfl,rfl,v1,?_⟩,by show x.st.length≤s.st.length;omega,?_⟩
  ·refine (ov.mono (by show n+_≤n+(s.st.length:Int);omega)).app ?_
   have hmax:max s.val 0=if s.val<0 then 0 else s.val:=by
    split<;>omega
   rw[hmax]
   by_cases h:s.val<0
   ·rw[if_pos h]
    show 0≤(0:Int)∧(0:Int)<n+(s.st.length:Int)∧_
    omega
   ·rw[if_neg h]
    show 0≤s.val∧s.val<n+(s.st.length:Int)∧_
    omega
  ·have e3:sumN (fun k=>nzR (rows.getD k [])) (i+1)=sumN (fun k=>nzR (rows.getD k [])) i+nzR (rows.getD i []):=rfl
   have e4:nzR (rows.getD i [])=cntB (fun j=>decide ((rows.getD i []).getD j 0≠0)) (rows.getD i []).length:=rfl
   rw[e3,e4]
   show s.st.length≤_
   omega
theorem FV.isPrg {p n:Int} {x:Prg} (o:FV p n x) (hp:isP p=true) (hn:1≤n∧n≤30) (hs:x.st.length≤900) (ho:1≤x.out.length∧x.out.length≤30):isPrg x=true:=by
 obtain⟨rfl,rfl,sv,ov⟩:=o
 refine isPrg_all ?_ sv fun i hi=>?_
 ·unfold headP
  rw[hp,Bool.true_and]
  exact decide_eq_true ⟨hn.1,hn.2,hs,ho.1,ho.2⟩
 ·obtain⟨a,b,e,h⟩:=ov i hi
  rw[e,okOut_2,decide_eq_true_eq]
  exact h
theorem finP_isPrg {p n:Int} {rows:List (List Int)} (h:lsOK p n rows=true):isPrg (finP ⟨p,n,[],[]⟩ rows rows.length)=true:=by
 obtain⟨hp,hn,hl,hm⟩:=lsOK_iff.1 h
 have nz:=(ShI.start h).nz
 simp only[List.length_nil,Nat.zero_add] at nz
 obtain⟨v,g1,g2⟩:=finP_valid (x:=⟨p,n,[],[]⟩) (rows:=rows) hp (fun i hi=>⟨(isMat_iff.1 hm i hi).2,by have:=(isMat_iff.1 hm i hi).1;simp only[List.length_nil];omega⟩) hn.1 ⟨rfl,rfl,fun i hi=>by simp at hi,fun i hi=>by simp at hi⟩ (i:=rows.length) (Nat.le_refl _)
 have hout:=(finP_facts (x:=⟨p,n,[],[]⟩) (rows:=rows) (N:=30) hp (fun i hi=>⟨(isMat_iff.1 hm i hi).2,by have:=(isMat_iff.1 hm i hi).1;omega⟩) hn (i:=rows.length) (Nat.le_refl _)).2.2.2
 simp only[List.length_nil,Nat.zero_add] at hout g2
 have e:sumN (fun k=>nzR (rows.getD k [])) rows.length=nzT rows:=rfl
 exact v.isPrg hp hn (by omega) (by omega)
theorem shF_valid {p:Int} {N:Nat} {rows:List (List Int)} (hp:isP p=true) (hT:1≤rows.length):∀ (f:Nat) (s:SS),ShI p N rows s→StV p (N:Int) s.st→StV p (N:Int) (shF p f s).st
 | 0,s,_,hs=>hs
 | f+1,s,i,hs=>by
  unfold shF
  by_cases h:2≤(bst p s.T).m
  ·rw[if_pos h]
   have b:=bst_ok hp i.gt (by rw[i.len];exact hT) h
   refine shF_valid hp hT f _ (i.go hp hT h).1 (hs.app ?_)
   rw[okStep_3,decide_eq_true_eq]
   omega
  ·rw[if_neg h]
   exact hs
theorem shP_isPrg {p n:Int} {rows:List (List Int)} (h:lsOK p n rows=true):isPrg (shP p n rows)=true:=by
 obtain⟨hp,hn,hl,hm⟩:=lsOK_iff.1 h
 have si:=shS_facts h
 have hN:((n.toNat:Nat):Int)=n:=by omega
 have sv:StV p ((n.toNat:Nat):Int) (shS p rows).st:=shF_valid hp (by omega) (nzT rows) ⟨rows,[]⟩ (ShI.start h) (fun i hi=>by simp at hi)
 rw[hN] at sv
 have nz:=si.nz
 have len:=si.len
 have rr:∀ i,i<(shS p rows).T.length→allIn p ((shS p rows).T.getD i [])=true∧(((shS p rows).T.getD i []).length:Int)≤n+(shS p rows).st.length:=fun i hi=>by
  obtain⟨g1,g2⟩:=si.gt i hi
  exact⟨allIn_iff.2 fun j hj=>g2 j (by omega),by omega⟩
 obtain⟨v,g1,g2⟩:=finP_valid (x:=⟨p,n,(shS p rows).st,[]⟩) (rows:=(shS p rows).T) hp rr hn.1 ⟨rfl,rfl,sv,fun i hi=>by simp at hi⟩ (i:=(shS p rows).T.length) (Nat.le_refl _)
 have hout:=(finP_facts (x:=⟨p,n,(shS p rows).st,[]⟩) (rows:=(shS p rows).T) (N:=10000) hp (fun i hi=>⟨(rr i hi).1,by have:=(rr i hi).2;omega⟩) hn (i:=(shS p rows).T.length) (Nat.le_refl _)).2.2.2
 simp only[List.length_nil,Nat.zero_add] at hout g2
 have e:sumN (fun k=>nzR ((shS p rows).T.getD k [])) (shS p rows).T.length=nzT (shS p rows).T:=rfl
 exact v.isPrg hp hn (by omega) (by omega)
theorem pgX_isPrg {h:AH} {v:Value} {x:Sch} {b:Bool} (hv:Prods h v x.ps) (hx:isX x=true) (h0:1≤x.ps.length) {i:Nat} (hi:i<3):isPrg (pgX x b i)=true:=by
 have ok:=fmX_ok hv hx h0 hi
 unfold pgX pgO
 cases b with
 | true=>exact shP_isPrg ok
 | false=>exact finP_isPrg ok
end Go.Proofs.Ytapafdpnmakekaa.X

set_option linter.unusedVariables false
set_option linter.unusedSimpArgs false
set_option maxRecDepth 20000
set_option maxHeartbeats 4000000
namespace Go.Proofs.Ytapafdpnmakekaa.X
open Go Go.RowKit
open Nat (reduceEqDiff reduceAdd reduceSub reduceLeDiff)
theorem s_l01Matrix {v:Value} {rows:List (List Int)} {p n cols:Int} {h:AH} {Q:Value→AH→Prop} (hv:Rows h v rows) (hm:BigM rows) (hp:2≤p∧p≤5)
  (hQ:Q (.bool (isMat p cols rows&&decide ((rows.length:Int)=n))) h):WF S 214 [I64 p,v,I64 n,I64 cols] h Q:=by
 refine WF_fn (fn:=c214) rfl rfl ?_
 dsimp only[c214,oO,oM,oS,oG,oK,oE,oL,oF,oX,oN]
 obtain⟨hm1,hm2⟩:=hm
 ((try simp (maxSteps:=3000000) (dsimp:=false) (disch:=first|omega|simp only[lnx];omega) only[↓ypre,ypost,↓reduceIte,reduceEqDiff,reduceAdd,reduceSub,reduceLeDiff,zz0,ynew,hv.len]);try simp only[yback])
 by_cases h1:(rows.length:Int)=n
 case neg=>
  ((try simp (maxSteps:=3000000) (dsimp:=false) (disch:=first|omega|simp only[lnx];omega) only[↓ypre,ypost,↓reduceIte,reduceEqDiff,reduceAdd,reduceSub,reduceLeDiff,zz0,ynew,decide_eq_true (show (rows.length:Int)≠n from h1)]);try simp only[yback])
  rw[decide_eq_false h1,Bool.and_false] at hQ
  exact hQ
 rw[decide_eq_true h1,Bool.and_true] at hQ
 ((try simp (maxSteps:=3000000) (dsimp:=false) (disch:=first|omega|simp only[lnx];omega) only[↓ypre,ypost,↓reduceIte,reduceEqDiff,reduceAdd,reduceSub,reduceLeDiff,zz0,ynew,decide_eq_false (show ¬ (rows.length:Int)≠n from fun y=>y h1)]);try simp only[yback])
 refine WC_loop_inv (fun m f K1=>∃ (i:Nat),m=rows.length-i∧i≤rows.length∧f 0=I64 p∧f 1=v∧f 3=I64 cols∧f 9=I64 i∧(K1=h)∧(∀ j,j<i→((rows.getD j []).length:Int)=cols∧allIn p (rows.getD j [])=true)) ?_ (rows.length-0) _ _ ⟨0,rfl,by omega,(by first|rfl|simp[upd_apply]),(by first|rfl|simp[upd_apply]),(by first|rfl|simp[upd_apply]),(by first|rfl|simp[upd_apply]),rfl,(by omega)⟩
 rintro m f K1 ⟨i,rfl,hi,f0,f1,f3,f9,hK,hj⟩
 subst hK
 by_cases hlt:(i:Int)<rows.length
 ·have hi':i<rows.length:=by omega
  obtain⟨n0,off0,x0,hix0,hrd0,i0⟩:=hv.row hi'
  have bl:=hm2 i hi'
  by_cases h2:((rows.getD i []).length:Int)=cols
  case neg=>
   have d2:=decide_eq_true (show ((rows.getD i []).length:Int)≠cols from h2)
   ((try simp (maxSteps:=3000000) (dsimp:=false) (disch:=first|omega|simp only[lnx];omega) only[↓ypre,ypost,↓reduceIte,reduceEqDiff,reduceAdd,reduceSub,reduceLeDiff,zz0,ynew,f0,f1,f3,f9,hv.len,decide_eq_true hlt,hix0,hrd0,i0.len,d2]);try simp only[yback])
   rw[isMat_no hi' (fun h=>h2 h.1)] at hQ
   exact hQ
  have d2:=decide_eq_false (show ¬ ((rows.getD i []).length:Int)≠cols from fun y=>y h2)
  ((try simp (maxSteps:=3000000) (dsimp:=false) (disch:=first|omega|simp only[lnx];omega) only[↓ypre,ypost,↓reduceIte,reduceEqDiff,reduceAdd,reduceSub,reduceLeDiff,zz0,ynew,f0,f1,f3,f9,hv.len,decide_eq_true hlt,hix0,hrd0,i0.len,d2]);try simp only[yback])
  refine WC_loop_inv (fun m f K2=>∃ (k:Nat),m=((rows.getD i []).length)-k∧k≤((rows.getD i []).length)∧f 0=I64 p∧f 1=v∧f 3=I64 cols∧f 9=I64 i∧f 10=I64 k∧(K2=K1)∧(∀ j,j<k→0≤(rows.getD i []).getD j 0∧(rows.getD i []).getD j 0<p)) ?_ (((rows.getD i []).length)-0) _ _ ⟨0,rfl,by omega,(by first|rfl|exact f0|(simp[upd_apply];done)),(by first|rfl|exact f1|(simp[upd_apply];done)),(by first|rfl|exact f3|(simp[upd_apply];done)),(by first|rfl|exact f9|(simp[upd_apply];done)),(by first|rfl|simp[upd_apply]),rfl,(by omega)⟩
  rintro m f K2 ⟨k,rfl,hk,f0,f1,f3,f9,f10,hK2,ha⟩
  subst hK2
  by_cases hlk:(k:Int)<(rows.getD i []).length
  ·obtain⟨n1,off1,hix1,hrd1⟩:=i0.cell (j:=k) (by omega)
   ((try simp (maxSteps:=3000000) (dsimp:=false) (disch:=first|omega|simp only[lnx];omega) only[↓ypre,ypost,↓reduceIte,reduceEqDiff,reduceAdd,reduceSub,reduceLeDiff,zz0,ynew,f0,f1,f3,f9,f10,hix0,hrd0,i0.len,decide_eq_true hlk,hix1,hrd1,wrap64_in]);try simp only[yback])
   refine s_l01In ?_
   by_cases h5:0≤(rows.getD i []).getD k 0∧(rows.getD i []).getD k 0≤p-1
   ·((try simp (maxSteps:=3000000) (dsimp:=false) (disch:=first|omega|simp only[lnx];omega) only[↓ypre,ypost,↓reduceIte,reduceEqDiff,reduceAdd,reduceSub,reduceLeDiff,zz0,ynew,f0,f1,f3,f9,f10,decide_eq_true h5,wrap64_in]);try simp only[yback])
    have ha':∀ j,j<k+1→0≤(rows.getD i []).getD j 0∧(rows.getD i []).getD j 0<p:=fun j hj'=>by
     rcases Nat.lt_succ_iff_lt_or_eq.1 hj' with q|rfl
     ·exact ha j q
     ·omega
    refine InvQ_go (((rows.getD i []).length)-(k+1)) (by omega) ⟨(k+1),rfl,by omega,(by first|rfl|exact f0|(simp only[upd_apply];rfl)|(show I64 _=_;congr 1;omega)),(by first|rfl|exact f1|(simp only[upd_apply];rfl)|(show I64 _=_;congr 1;omega)),(by first|rfl|exact f3|(simp only[upd_apply];rfl)|(show I64 _=_;congr 1;omega)),(by first|rfl|exact f9|(simp only[upd_apply];rfl)|(show I64 _=_;congr 1;omega)),(by first|rfl|exact f10|(simp only[upd_apply];rfl)|(show I64 _=_;congr 1;omega)),rfl,ha'⟩
   ·((try simp (maxSteps:=3000000) (dsimp:=false) (disch:=first|omega|simp only[lnx];omega) only[↓ypre,ypost,↓reduceIte,reduceEqDiff,reduceAdd,reduceSub,reduceLeDiff,zz0,ynew,f0,f1,f3,f9,f10,decide_eq_false h5]);try simp only[yback])
    rw[isMat_no hi' (fun h=>h5 (by have:=allIn_iff.1 h.2 k (by omega);omega))] at hQ
    exact hQ
  have ek:k=(rows.getD i []).length:=by omega
  subst ek
  ((try simp (maxSteps:=3000000) (dsimp:=false) (disch:=first|omega|simp only[lnx];omega) only[↓ypre,ypost,↓reduceIte,reduceEqDiff,reduceAdd,reduceSub,reduceLeDiff,zz0,ynew,f0,f1,f3,f9,f10,hix0,hrd0,i0.len,decide_eq_false hlk,wrap64_in]);try simp only[yback])
  have hj2:∀ j,j<i+1→((rows.getD j []).length:Int)=cols∧allIn p (rows.getD j [])=true:=fun j hj'=>by
   rcases Nat.lt_succ_iff_lt_or_eq.1 hj' with q|rfl
   ·exact hj j q
   ·exact⟨h2,allIn_iff.2 ha⟩
  refine InvQ_go (rows.length-(i+1)) (by omega) ⟨(i+1),rfl,by omega,(by first|rfl|exact f0|(simp only[upd_apply];rfl)|(show I64 _=_;congr 1;omega)),(by first|rfl|exact f1|(simp only[upd_apply];rfl)|(show I64 _=_;congr 1;omega)),(by first|rfl|exact f3|(simp only[upd_apply];rfl)|(show I64 _=_;congr 1;omega)),(by first|rfl|exact f9|(simp only[upd_apply];rfl)|(show I64 _=_;congr 1;omega)),rfl,hj2⟩
 have ei:i=rows.length:=by omega
 subst ei
 ((try simp (maxSteps:=3000000) (dsimp:=false) (disch:=first|omega|simp only[lnx];omega) only[↓ypre,ypost,↓reduceIte,reduceEqDiff,reduceAdd,reduceSub,reduceLeDiff,zz0,ynew,f0,f1,f3,f9,hv.len,decide_eq_false hlt]);try simp only[yback])
 rw[isMat_iff.2 hj] at hQ
 exact hQ
def dot (q ns:List Int):Nat→Int
 | 0=>0
 | j+1=>dot q ns j+q.getD j 0*ns.getD j 0
@[simp] theorem dot_0 {q ns:List Int}:dot q ns 0=0:=rfl
theorem dot_in {q ns:List Int} {p:Int} (hq:By 9 q) (hn:allIn p ns=true) (hp:2≤p∧p≤5):∀ {j:Nat},j≤ns.length→j≤9→0≤dot q ns j∧dot q ns j≤j*1275
 | 0,_,_=>by simp[dot]
 | j+1,h1,h2=>by
  have ih:=dot_in hq hn hp (j:=j) (by omega) (by omega)
  have b1:=hq.2 j (by omega)
  have b2:=allIn_iff.1 hn j (by omega)
  have m1:=Int.mul_nonneg b1.1 b2.1
  have m2:q.getD j 0*ns.getD j 0≤255*5:=Int.le_trans (Int.mul_le_mul_of_nonneg_right (show q.getD j 0≤255 by omega) b2.1) (Int.mul_le_mul_of_nonneg_left (by omega) (by decide))
  simp only[dot]
  omega
theorem i_atF {p:Int} {q ns:List Int} {v:Value} {h:AH} {Q:Value→AH→Prop} (hq:By 9 q) (hv:Ints h v ns) (hl:ns.length≤9) (hn:allIn p ns=true) (hp:2≤p∧p≤5)
  (hQ:∀ h',h<+:h'→Q (I64 ((dot q ns ns.length).tmod p)) h'):WF S 286 [I64 p,aggV .u8 q,v] h Q:=by
 refine WF_fn (fn:=c286) rfl rfl ?_
 dsimp only[c286,oO,oM,oS,oG,oK,oE,oL,oF,oX,oN]
 ((try simp (maxSteps:=3000000) (dsimp:=false) (disch:=first|omega|simp only[lnx];omega) only[↓ypre,ypost,↓reduceIte,reduceEqDiff,reduceAdd,reduceSub,reduceLeDiff,zz0,ynew,aggV,cel_all,cellsL_cel]);try simp only[yback])
 generalize hH1:AH.new h _=H1
 obtain⟨hb1,p1,n1⟩:=new_facts hH1
 have hq1:=hq.1
 have hv1:=hv.pre p1
 ((try simp (maxSteps:=3000000) (dsimp:=false) (disch:=first|omega|simp only[lnx];omega) only[↓ypre,ypost,↓reduceIte,reduceEqDiff,reduceAdd,reduceSub,reduceLeDiff,zz0,ynew,hv.len]);try simp only[yback])
 refine WC_loop_inv (fun m f K1=>∃ (i:Nat),m=ns.length-i∧i≤ns.length∧f 0=I64 p∧f 4=.pointer (some ⟨h.length,0,none⟩)∧f 7=I64 (dot q ns i)∧f 10=v∧f 11=I64 ns.length∧f 12=I64 i∧K1=H1) ?_ (ns.length-0) _ _ ⟨0,rfl,by omega,(by first|rfl|simp[upd_apply]),(by first|rfl|simp[upd_apply]),(by first|rfl|simp[upd_apply]),(by first|rfl|simp[upd_apply]),(by first|rfl|simp[upd_apply]),(by first|rfl|simp[upd_apply]),rfl⟩
 rintro m f K1 ⟨i,rfl,hi,f0,f4,f7,f10,f11,f12,rfl⟩
 by_cases hlt:(i:Int)<ns.length
 ·have hi':i<ns.length:=by omega
  obtain⟨n1',off1,hix1,hrd1⟩:=hv1.cell hi'
  have g1:=cel_get (k:=.u8) (q:=q) (j:=i) (by omega)
  have ixa:=ixa_u (n:=h.length) (off:=0) (len:=9) (kk:=.i64) (j:=i) (by omega)
  rw[Nat.zero_add] at ixa
  have b0:=dot_in hq hn hp (j:=i) (by omega) (by omega)
  have b1:=dot_in hq hn hp (j:=i+1) (by omega) (by omega)
  have b2:=hq.2 i (by omega)
  have b3:=allIn_iff.1 hn i hi'
  simp only[dot] at b1
  have b4:0≤q.getD i 0*ns.getD i 0:=Int.mul_nonneg b2.1 b3.1
  ((try simp (maxSteps:=3000000) (dsimp:=false) (disch:=first|omega|simp only[lnx];omega) only[↓ypre,ypost,↓reduceIte,reduceEqDiff,reduceAdd,reduceSub,reduceLeDiff,zz0,ynew,f0,f4,f7,f10,f11,f12,decide_eq_true hlt,hix1,hrd1,ixa,rd1_of hb1,g1,wrap64_in]);try simp only[yback])
  refine InvQ_go (ns.length-(i+1)) (by omega) ⟨(i+1),rfl,by omega,(by first|rfl|exact f0|(simp only[upd_apply];rfl)|(show I64 _=_;congr 1;omega)),(by first|rfl|exact f4|(simp only[upd_apply];rfl)|(show I64 _=_;congr 1;omega)),(by first|rfl|exact f7|(simp only[upd_apply];rfl)|(show I64 _=_;congr 1;omega)),(by first|rfl|exact f10|(simp only[upd_apply];rfl)|(show I64 _=_;congr 1;omega)),(by first|rfl|exact f11|(simp only[upd_apply];rfl)|(show I64 _=_;congr 1;omega)),(by first|rfl|exact f12|(simp only[upd_apply];rfl)|(show I64 _=_;congr 1;omega)),rfl⟩
 have ei:i=ns.length:=by omega
 subst ei
 ((try simp (maxSteps:=3000000) (dsimp:=false) (disch:=first|omega|simp only[lnx];omega) only[↓ypre,ypost,↓reduceIte,reduceEqDiff,reduceAdd,reduceSub,reduceLeDiff,zz0,ynew,f0,f4,f7,f10,f11,f12,decide_eq_false hlt]);try simp only[yback])
 ((try simp (maxSteps:=3000000) (dsimp:=false) (disch:=first|omega|simp only[lnx];omega) only[↓ypre,ypost,↓reduceIte,reduceEqDiff,reduceAdd,reduceSub,reduceLeDiff,zz0,ynew,f0,f4,f7,f10,f11,f12,bin_rem (show p≠0 by omega)]);try simp only[yback])
 exact hQ _ p1
theorem flat_at {w i k:Nat} {L:List (List Int)} (hw:Wid w L) (hi:i<L.length) (hk:k<w):L.flatten.getD (i*w+k) 0=(L.getD i []).getD k 0:=by
 have hf:=flat_get hw hi
 have h1:=congrArg (fun l=>l[k]?) hf
 simp only[List.getElem?_take,hk,if_true,List.getElem?_drop] at h1
 rw[List.getD_eq_getElem?_getD,h1]
 rfl
theorem allIn_flat {w:Nat} {p:Int} {L:List (List Int)} (hm:isMat p w L=true):allIn p L.flatten=true:=by
 simp only[allIn,List.all_eq_true,List.mem_flatten]
 rintro x ⟨r,hr,hx⟩
 simp only[isMat,List.all_eq_true,Bool.and_eq_true] at hm
 have:=(hm r hr).2
 simp only[allIn,List.all_eq_true] at this
 exact this x hx
theorem isMat_wid {w:Nat} {p:Int} {L:List (List Int)} (hm:isMat p w L=true):Wid w L:=wid_of fun i hi=>by
 have:=(isMat_iff.1 hm i hi).1
 omega
theorem s_l01At {p:Int} {q:List Int} {rows:List (List Int)} {w:Nat} {v:Value} {h:AH} {Q:Value→AH→Prop} (hq:By 9 q) (hv:Rows h v rows) (hm:isMat p w rows=true) (hl:rows.length*w≤9) (hp:2≤p∧p≤5) (hw:1≤w)
  (hQ:∀ h',h<+:h'→Q (I64 (dot q rows.flatten rows.flatten.length)) h'):WF S 299 [aggV .u8 q,v] h Q:=by
 refine WF_fn (fn:=c299) rfl rfl ?_
 dsimp only[c299,oO,oM,oS,oG,oK,oE,oL,oF,oX,oN]
 ((try simp (maxSteps:=3000000) (dsimp:=false) (disch:=first|omega|simp only[lnx];omega) only[↓ypre,ypost,↓reduceIte,reduceEqDiff,reduceAdd,reduceSub,reduceLeDiff,zz0,ynew,aggV,cel_all,cellsL_cel]);try simp only[yback])
 generalize hH1:AH.new h _=H1
 obtain⟨hb1,p1,n1⟩:=new_facts hH1
 have hq1:=hq.1
 have hv1:=hv.pre p1
 have wd:=isMat_wid hm
 have fl:=flat_len wd
 have hn:=allIn_flat hm
 have hrl:rows.length≤9:=Nat.le_trans (Nat.le_mul_of_pos_right _ hw) hl
 ((try simp (maxSteps:=3000000) (dsimp:=false) (disch:=first|omega|simp only[lnx];omega) only[↓ypre,ypost,↓reduceIte,reduceEqDiff,reduceAdd,reduceSub,reduceLeDiff,zz0,ynew]);try simp only[yback])
 refine WC_loop_inv (fun m f K1=>∃ (i:Nat),m=rows.length-i∧i≤rows.length∧f 1=v∧f 2=.pointer (some ⟨h.length,0,none⟩)∧f 5=I64 (dot q rows.flatten (i*w))∧f 6=I64 ((i*w:Nat):Int)∧f 7=I64 i∧(K1=H1)) ?_ (rows.length-0) _ _ ⟨0,rfl,by omega,(by first|rfl|simp[upd_apply]),(by first|rfl|simp[upd_apply]),(by first|rfl|simp[upd_apply]),(by first|rfl|simp[upd_apply]),(by first|rfl|simp[upd_apply]),rfl⟩
 rintro m f K1 ⟨i,rfl,hi,f1,f2,f5,f6,f7,hK⟩
 subst hK
 by_cases hlt:(i:Int)<rows.length
 ·have hi':i<rows.length:=by omega
  obtain⟨n0,off0,x0,hix0,hrd0,i0⟩:=hv1.row hi'
  have hwi:(rows.getD i []).length=w:=by
   have:=(isMat_iff.1 hm i hi').1
   omega
  have hmw:=mul_row (w:=w) hi'
  ((try simp (maxSteps:=3000000) (dsimp:=false) (disch:=first|omega|simp only[lnx];omega) only[↓ypre,ypost,↓reduceIte,reduceEqDiff,reduceAdd,reduceSub,reduceLeDiff,zz0,ynew,f1,f2,f5,f6,f7,hv1.len,decide_eq_true hlt]);try simp only[yback])
  refine WC_loop_inv (fun m f K2=>∃ (k:Nat),m=w-k∧k≤w∧f 1=v∧f 2=.pointer (some ⟨h.length,0,none⟩)∧f 5=I64 (dot q rows.flatten (i*w+k))∧f 6=I64 ((i*w+k:Nat):Int)∧f 7=I64 i∧f 8=I64 k∧(K2=K1)) ?_ (w-0) _ _ ⟨0,rfl,by omega,(by first|rfl|exact f1|(simp[upd_apply];done)),(by first|rfl|exact f2|(simp[upd_apply];done)),(by first|rfl|exact f5|(simp[upd_apply];done)),(by first|rfl|exact f6|(simp[upd_apply];done)),(by first|rfl|exact f7|(simp[upd_apply];done)),(by first|rfl|simp[upd_apply]),rfl⟩
  rintro m f K2 ⟨k,rfl,hk,f1,f2,f5,f6,f7,f8,hK2⟩
  subst hK2
  by_cases hlk:(k:Int)<w
  ·have hk':k<w:=by omega
   obtain⟨n1,off1,hix1,hrd1⟩:=i0.cell (j:=k) (by omega)
   have fa:=flat_at wd hi' hk'
   have g1:=cel_get (k:=.u8) (q:=q) (j:=i*w+k) (by omega)
   have ixa:=ixa_u (n:=h.length) (off:=0) (len:=9) (kk:=.i64) (j:=i*w+k) (by omega)
   rw[Nat.zero_add] at ixa
   have b0:=dot_in hq hn hp (j:=i*w+k) (by omega) (by omega)
   have b1:=dot_in hq hn hp (j:=i*w+k+1) (by omega) (by omega)
   have b2:=hq.2 (i*w+k) (by omega)
   have b3:=allIn_iff.1 hn (i*w+k) (by omega)
   simp only[dot] at b1
   rw[fa] at b1 b3
   have b4:0≤q.getD (i*w+k) 0*(rows.getD i []).getD k 0:=Int.mul_nonneg b2.1 b3.1
   have ed:dot q rows.flatten (i*w+k)+q.getD (i*w+k) 0*(rows.getD i []).getD k 0=dot q rows.flatten (i*w+k+1):=by
    simp only[dot]
    rw[fa]
   have hlk2:decide ((k:Int)<((rows.getD i []).length:Int))=true:=decide_eq_true (by omega)
   ((try simp (maxSteps:=3000000) (dsimp:=false) (disch:=first|omega|simp only[lnx];omega) only[↓ypre,ypost,↓reduceIte,reduceEqDiff,reduceAdd,reduceSub,reduceLeDiff,zz0,ynew,f1,f2,f5,f6,f7,f8,hix0,hrd0,i0.len,hlk2,hix1,hrd1,ixa,rd1_of hb1,g1,wrap64_in]);try simp only[yback])
   rw[ed]
   refine InvQ_go (w-(k+1)) (by omega) ⟨(k+1),rfl,by omega,(by first|rfl|exact f1|(simp only[upd_apply];rfl)|(show I64 _=_;congr 1;omega)),(by first|rfl|exact f2|(simp only[upd_apply];rfl)|(show I64 _=_;congr 1;omega)),(by first|rfl|exact f5|(simp only[upd_apply];rfl)|(show I64 _=_;congr 1;omega)),(by first|rfl|exact f6|(simp only[upd_apply];rfl)|(show I64 _=_;congr 1;omega)),(by first|rfl|exact f7|(simp only[upd_apply];rfl)|(show I64 _=_;congr 1;omega)),(by first|rfl|exact f8|(simp only[upd_apply];rfl)|(show I64 _=_;congr 1;omega)),rfl⟩
  have ek:k=w:=by omega
  subst ek
  have hlk2:decide ((k:Int)<((rows.getD i []).length:Int))=false:=decide_eq_false (by omega)
  ((try simp (maxSteps:=3000000) (dsimp:=false) (disch:=first|omega|simp only[lnx];omega) only[↓ypre,ypost,↓reduceIte,reduceEqDiff,reduceAdd,reduceSub,reduceLeDiff,zz0,ynew,f1,f2,f5,f6,f7,f8,hix0,hrd0,i0.len,hlk2,wrap64_in]);try simp only[yback])
  have es:i*k+k=(i+1)*k:=by rw[Nat.succ_mul]
  refine InvQ_go (rows.length-(i+1)) (by omega) ⟨(i+1),rfl,by omega,(by first|rfl|exact f1|(simp only[upd_apply];rfl)|(show I64 _=_;congr 1;omega)),(by first|rfl|exact f2|(simp only[upd_apply];rfl)|(show I64 _=_;congr 1;omega)),(by rw[←es];exact f5),(by rw[←es];exact f6),(by first|rfl|exact f7|(simp only[upd_apply];rfl)|(show I64 _=_;congr 1;omega)),rfl⟩
 have ei:i=rows.length:=by omega
 subst ei
 ((try simp (maxSteps:=3000000) (dsimp:=false) (disch:=first|omega|simp only[lnx];omega) only[↓ypre,ypost,↓reduceIte,reduceEqDiff,reduceAdd,reduceSub,reduceLeDiff,zz0,ynew,f1,f2,f5,f6,f7,hv1.len,decide_eq_false hlt]);try simp only[yback])
 rw[fl] at hQ
 exact hQ _ p1
end Go.Proofs.Ytapafdpnmakekaa.X

set_option linter.unusedVariables false
set_option linter.unusedSimpArgs false
set_option maxRecDepth 20000
set_option maxHeartbeats 4000000
namespace Go.Proofs.Ytapafdpnmakekaa.X
open Go Go.RowKit
def Vf (p:Int) (st:List (List Int)) (ns:List Int):List Int:=valS p st ns st.length
theorem Vf_len {p:Int} {st:List (List Int)} {ns:List Int}:(Vf p st ns).length=ns.length+st.length:=valS_len
theorem valS_app {p:Int} {st t:List (List Int)} {ns:List Int}:∀ {i:Nat},i≤st.length→valS p (st++t) ns i=valS p st ns i
 | 0,_=>rfl
 | i+1,h=>by
  simp only[valS]
  rw[valS_app (i:=i) (by omega),getD_app_l (by omega)]
theorem Vf_snoc {p:Int} {st:List (List Int)} {ns:List Int} {a b:Nat} {d:Int}:Vf p (st++[[(a:Int),(b:Int),d]]) ns=Vf p st ns++[((Vf p st ns).getD a 0+d*(Vf p st ns).getD b 0).tmod p]:=by
 unfold Vf
 rw[List.length_append,List.length_singleton]
 simp only[valS]
 rw[valS_app (Nat.le_refl _),getD_app_r (Nat.le_refl _),Nat.sub_self]
 rfl
theorem dot_congr {q ns ms:List Int}:∀ {k:Nat},(∀ i,i<k→ns.getD i 0=ms.getD i 0)→dot q ns k=dot q ms k
 | 0,_=>rfl
 | k+1,h=>by
  simp only[dot]
  rw[dot_congr (k:=k) fun i hi=>h i (by omega),h k (by omega)]
theorem rowSt_val {p n:Int} {st0:List (List Int)} {row ns:List Int} (hp:isP p=true) (hr:allIn p row=true) (hn:1≤n) (hnl:(ns.length:Int)=n) (hW:(row.length:Int)≤n+st0.length) (hs:StV p n st0):∀ {k:Nat},k≤row.length →
  (∀ i,i<(Vf p st0 ns).length→(Vf p (rowSt p n st0 row k).st ns).getD i 0=(Vf p st0 ns).getD i 0)∧p∣(rowSt p n st0 row k).fac*(Vf p (rowSt p n st0 row k).st ns).getD (rowSt p n st0 row k).val.toNat 0-dot row (Vf p st0 ns) k
 | 0,_=>by
  refine⟨fun i _=>rfl,?_⟩
  simp[rowSt]
 | k+1,hk=>by
  have ih:=rowSt_val (ns:=ns) hp hr hn hnl hW hs (k:=k) (by omega)
  have v:=rowSt_valid hp hr hn hW hs (k:=k) (by omega)
  have hrk:=allIn_iff.1 hr k (by omega)
  have ed:dot row (Vf p st0 ns) (k+1)=dot row (Vf p st0 ns) k+row.getD k 0*(Vf p st0 ns).getD k 0:=rfl
  have l0:=Vf_len (p:=p) (st:=st0) (ns:=ns)
  rw[ed]
  unfold rowSt
  simp only
  generalize rowSt p n st0 row k=s at *
  obtain⟨i1,i2⟩:=ih
  obtain⟨sv,ge,le,fac,vf,v1,v2⟩:=v
  have l1:=Vf_len (p:=p) (st:=s.st) (ns:=ns)
  by_cases h0:row.getD k 0=0
  ·rw[if_pos h0]
   refine⟨i1,?_⟩
   rw[h0,Int.zero_mul,Int.add_zero]
   exact i2
  rw[if_neg h0]
  by_cases h1:s.val<0
  ·rw[if_pos h1]
   refine⟨i1,?_⟩
   rw[vf.1 h1,Int.zero_mul] at i2
   simp only[Int.toNat_natCast]
   rw[i1 k (by omega)]
   obtain⟨q,hq⟩:=i2
   exact⟨q,by omega⟩
  rw[if_neg h1]
  have hf:s.fac≠0:=fun e=>h1 (vf.2 e)
  obtain⟨w1,w2,w3,_⟩:=invP_is hp (n:=s.fac) (by omega)
  obtain⟨A,hA⟩:∃ A:Nat,s.val=A:=⟨s.val.toNat,by omega⟩
  rw[hA,Int.toNat_natCast] at i2
  have eV:Vf p (s.st++[[s.val,(k:Int),(row.getD k 0*invP p s.fac).tmod p]]) ns=Vf p s.st ns++[((Vf p s.st ns).getD A 0+(row.getD k 0*invP p s.fac).tmod p*(Vf p s.st ns).getD k 0).tmod p]:=by
   rw[hA]
   exact Vf_snoc
  simp only
  rw[eV]
  refine⟨fun i hi=>by rw[getD_app_l (by omega)];exact i1 i hi,?_⟩
  have ei:(n+((s.st.length:Int)+1)-1).toNat=(Vf p s.st ns).length:=by omega
  rw[ei,getD_app_r (Nat.le_refl _),Nat.sub_self,i1 k (by omega)]
  show p∣s.fac*((Vf p s.st ns).getD A 0+(row.getD k 0*invP p s.fac).tmod p*(Vf p st0 ns).getD k 0).tmod p-_
  obtain⟨q1,e1⟩:=i2
  obtain⟨q2,e2⟩:=tmod_dvd ((Vf p s.st ns).getD A 0+(row.getD k 0*invP p s.fac).tmod p*(Vf p st0 ns).getD k 0) p
  obtain⟨q3,e3⟩:=tmod_dvd (row.getD k 0*invP p s.fac) p
  obtain⟨q4,e4⟩:=inv_dvd (show IsInv p s.fac (invP p s.fac) from invP_is hp (by omega))
  generalize ((Vf p s.st ns).getD A 0+(row.getD k 0*invP p s.fac).tmod p*(Vf p st0 ns).getD k 0).tmod p=x at *
  generalize (row.getD k 0*invP p s.fac).tmod p=f at *
  generalize (Vf p s.st ns).getD A 0=a at *
  generalize (Vf p st0 ns).getD k 0=b at *
  generalize row.getD k 0=r at *
  generalize invP p s.fac=w at *
  exact⟨q1-s.fac*q2-s.fac*b*q3+r*b*q4,by grind⟩
theorem getD_in {p:Int} {ns:List Int} (hp:1≤p) (h:allIn p ns=true) (j:Nat):0≤ns.getD j 0∧ns.getD j 0<p:=by
 by_cases hj:j<ns.length
 ·exact allIn_iff.1 h j hj
 ·rw[List.getD_eq_getElem?_getD,List.getElem?_eq_none (by omega)]
  simp
  omega
theorem valS_nn {p n:Int} {st:List (List Int)} {ns:List Int} (hp:1≤p) (hs:StV p n st) (hn:allIn p ns=true):∀ {i:Nat},i≤st.length→allIn p (valS p st ns i)=true
 | 0,_=>hn
 | i+1,hi=>by
  have ih:=valS_nn hp hs hn (i:=i) (by omega)
  have h1:=hs i (by omega)
  unfold okStep at h1
  rw[decide_eq_true_eq] at h1
  simp only[valS]
  refine allIn_app ih (tmod_nn ?_ (by omega))
  have a:=getD_in hp ih (nq (st.getD i []) 0)
  have b:=getD_in hp ih (nq (st.getD i []) 1)
  have:=Int.mul_nonneg (show 0≤(st.getD i []).getD 2 0 by omega) b.1
  omega
theorem Vf_in {p n:Int} {st:List (List Int)} {ns:List Int} (hp:1≤p) (hs:StV p n st) (hn:allIn p ns=true):allIn p (Vf p st ns)=true:=valS_nn hp hs hn (Nat.le_refl _)
theorem dot_nn {p:Int} {q ns:List Int} (hp:1≤p) (hq:allIn p q=true) (hn:allIn p ns=true):∀ {k:Nat},0≤dot q ns k
 | 0=>Int.le_refl _
 | k+1=>by
  have ih:=dot_nn hp hq hn (k:=k)
  have:=Int.mul_nonneg (getD_in hp hq k).1 (getD_in hp hn k).1
  simp only[dot]
  omega
structure OutV (p:Int) (T:List (List Int)) (V0 V:List Int) (out:List (List Int)) (i:Nat):Prop where
 len:out.length=i
 pre:∀ a,a<V0.length→V.getD a 0=V0.getD a 0
 val:∀ j,j<i→nq (out.getD j []) 0<V.length∧0≤(out.getD j []).getD 1 0∧p∣(out.getD j []).getD 1 0*V.getD (nq (out.getD j []) 0) 0-dot (T.getD j []) V0 (T.getD j []).length
theorem finP_val {p n:Int} {st0:List (List Int)} {T:List (List Int)} {ns:List Int} (hp:isP p=true) (hn:1≤n) (hnl:(ns.length:Int)=n) (hs:StV p n st0)
  (hr:∀ i,i<T.length→allIn p (T.getD i [])=true∧((T.getD i []).length:Int)≤n+st0.length):∀ {i:Nat},i≤T.length→OutV p T (Vf p st0 ns) (Vf p (finP ⟨p,n,st0,[]⟩ T i).st ns) (finP ⟨p,n,st0,[]⟩ T i).out i
 | 0,_=>⟨rfl,fun _ _=>rfl,fun j hj=>by omega⟩
 | i+1,hi=>by
  have ih:=finP_val hp hn hnl hs hr (i:=i) (by omega)
  obtain⟨⟨e1,e2,sv,ov⟩,g1,g2⟩:=finP_valid (x:=⟨p,n,st0,[]⟩) (rows:=T) hp hr hn ⟨rfl,rfl,hs,fun i hi=>by simp at hi⟩ (i:=i) (by omega)
  obtain⟨r1,r2⟩:=hr i (by omega)
  simp only at g1
  have v:=rowSt_valid (st0:=(finP ⟨p,n,st0,[]⟩ T i).st) (row:=T.getD i []) hp r1 hn (by omega) sv (k:=(T.getD i []).length) (Nat.le_refl _)
  obtain⟨w1,w2⟩:=rowSt_val (st0:=(finP ⟨p,n,st0,[]⟩ T i).st) (row:=T.getD i []) (ns:=ns) hp r1 hn hnl (by omega) sv (k:=(T.getD i []).length) (Nat.le_refl _)
  have es:finP ⟨p,n,st0,[]⟩ T (i+1)=rowP (finP ⟨p,n,st0,[]⟩ T i) (T.getD i []):=rfl
  rw[es]
  unfold rowP
  rw[e1,e2]
  simp only
  obtain⟨len,pre,val⟩:=ih
  have L0:=Vf_len (p:=p) (st:=st0) (ns:=ns)
  have L1:=Vf_len (p:=p) (st:=(finP ⟨p,n,st0,[]⟩ T i).st) (ns:=ns)
  have ec:dot (T.getD i []) (Vf p (finP ⟨p,n,st0,[]⟩ T i).st ns) (T.getD i []).length=dot (T.getD i []) (Vf p st0 ns) (T.getD i []).length:=dot_congr fun a ha=>pre a (by omega)
  rw[ec] at w2
  generalize rowSt p n (finP ⟨p,n,st0,[]⟩ T i).st (T.getD i []) (T.getD i []).length=s at *
  obtain⟨v1,v2,v3,v4,v5,v6,v7⟩:=v
  have L2:=Vf_len (p:=p) (st:=s.st) (ns:=ns)
  generalize (finP ⟨p,n,st0,[]⟩ T i).out=out at *
  refine⟨by simp[len],fun a ha=>(w1 a (by omega)).trans (pre a ha),fun j hj=>?_⟩
  by_cases ej:j<i
  ·obtain⟨q1,q2,q3⟩:=val j ej
   rw[getD_app_l (by omega)]
   refine⟨by omega,q2,?_⟩
   rw[w1 _ q1]
   exact q3
  ·have:j=i:=by omega
   subst this
   rw[getD_app_r (by omega),len,Nat.sub_self]
   have hm:(max s.val 0).toNat=s.val.toNat:=by omega
   show (max s.val 0).toNat<_∧0≤s.fac∧p∣s.fac*(Vf p s.st ns).getD (max s.val 0).toNat 0-_
   rw[hm]
   refine⟨?_,v4.1,w2⟩
   rw[L2]
   omega
theorem outS_get {p:Int} {out:List (List Int)} {vs:List Int} {j:Nat}:∀ {i:Nat},j<i→(outS p out vs i).getD j 0=((out.getD j []).getD 1 0*vs.getD (nq (out.getD j []) 0) 0).tmod p
 | 0,h=>by omega
 | i+1,h=>by
  simp only[outS]
  by_cases e:j=i
  ·subst e
   rw[getD_app_r (by rw[outS_len];exact Nat.le_refl _),outS_len,Nat.sub_self]
   rfl
  ·rw[getD_app_l (by rw[outS_len];omega),outS_get (by omega)]
theorem runP_fin {p n:Int} {st0:List (List Int)} {T:List (List Int)} {ns:List Int} (hp:isP p=true) (hn:1≤n) (hnl:(ns.length:Int)=n) (hal:allIn p ns=true) (hs:StV p n st0)
  (hr:∀ i,i<T.length→allIn p (T.getD i [])=true∧((T.getD i []).length:Int)≤n+st0.length) {j:Nat} (hj:j<T.length) :
  (runP (finP ⟨p,n,st0,[]⟩ T T.length) ns).getD j 0=(dot (T.getD j []) (Vf p st0 ns) (T.getD j []).length).tmod p:=by
 have hp5:=isP_in hp
 have ov:=finP_val hp hn hnl hs hr (i:=T.length) (Nat.le_refl _)
 obtain⟨⟨e1,e2,sv,_⟩,g1,g2⟩:=finP_valid (x:=⟨p,n,st0,[]⟩) (rows:=T) hp hr hn ⟨rfl,rfl,hs,fun i hi=>by simp at hi⟩ (i:=T.length) (Nat.le_refl _)
 obtain⟨q1,q2,q3⟩:=ov.val j hj
 unfold runP
 rw[e1,outS_get (by rw[ov.len];exact hj)]
 show (_*(Vf p (finP ⟨p,n,st0,[]⟩ T T.length).st ns).getD _ 0).tmod p=_
 have vin:=getD_in (show 1≤p by omega) (Vf_in (by omega) sv hal) (nq ((finP ⟨p,n,st0,[]⟩ T T.length).out.getD j []) 0)
 have a:=tmod_nn (J:=p) (Int.mul_nonneg q2 vin.1) (by omega)
 have b:=tmod_nn (J:=p) (dot_nn (show 1≤p by omega) (hr j hj).1 (Vf_in (show 1≤p by omega) hs hal) (k:=(T.getD j []).length)) (by omega)
 obtain⟨k1,h1⟩:=q3
 obtain⟨k2,h2⟩:=tmod_dvd (((finP ⟨p,n,st0,[]⟩ T T.length).out.getD j []).getD 1 0*(Vf p (finP ⟨p,n,st0,[]⟩ T T.length).st ns).getD (nq ((finP ⟨p,n,st0,[]⟩ T T.length).out.getD j []) 0) 0) p
 obtain⟨k3,h3⟩:=tmod_dvd (dot (T.getD j []) (Vf p st0 ns) (T.getD j []).length) p
 exact dvd_eq ⟨k1-k2+k3,by grind⟩ a b
theorem dot_set {q ns:List Int} {a:Nat} {x:Int} (ha:a<q.length):∀ {k:Nat},dot (q.set a x) ns k=dot q ns k+(if a<k then (x-q.getD a 0)*ns.getD a 0 else 0)
 | 0=>by simp[dot]
 | k+1=>by
  simp only[dot]
  rw[dot_set ha (k:=k),set_getD ha]
  by_cases e:k=a
  ·subst e
   rw[if_pos rfl,if_neg (Nat.lt_irrefl _),if_pos (by omega)]
   grind
  ·rw[if_neg e]
   by_cases h:a<k
   ·rw[if_pos h,if_pos (by omega)]
    omega
   ·rw[if_neg h,if_neg (by omega)]
    omega
theorem dot_app {q ns:List Int} {x v:Int} (hl:q.length=ns.length):dot (q++[x]) (ns++[v]) (q.length+1)=dot q ns q.length+x*v:=by
 have key:∀ {k:Nat},k≤q.length→dot (q++[x]) (ns++[v]) k=dot q ns k:=by
  intro k
  induction k with
  | zero=>intro _;rfl
  | succ k ih=>
   intro hk
   simp only[dot]
   rw[ih (by omega),getD_app_l (by omega),getD_app_l (by omega)]
 simp only[dot]
 rw[key (Nat.le_refl _),getD_app_r (Nat.le_refl _),Nat.sub_self,hl,getD_app_r (Nat.le_refl _),Nat.sub_self]
 rfl
theorem mv_dot {p:Int} {l j r:Nat} {row V:List Int} {v:Int} (hl:l<row.length) (hj:j<row.length) (hlj:l≠j) (hV:row.length=V.length) (hv:p∣V.getD l 0+r*V.getD j 0-v) :
  p∣dot (mvRow p l j r row) (V++[v]) (row.length+1)-dot row V row.length:=by
 unfold mvRow
 by_cases hm:mvOK p l j r row=true
 ·rw[if_pos hm]
  have e:((row.set l 0).set j 0).length=row.length:=by simp
  have da:=dot_app (q:=(row.set l 0).set j 0) (ns:=V) (x:=row.getD l 0) (v:=v) (by rw[e,hV])
  rw[e] at da
  rw[da,dot_set (by simp;exact hj),dot_set hl,if_pos hj,if_pos hl,set_getD hl,if_neg (fun q=>hlj q.symm)]
  unfold mvOK at hm
  rw[Bool.and_eq_true,decide_eq_true_eq,decide_eq_true_eq] at hm
  obtain⟨k1,h1⟩:=hv
  obtain⟨k2,h2⟩:=tmod_dvd (row.getD l 0*r) p
  rw[←hm.2] at h2
  generalize row.getD l 0=a at *
  generalize row.getD j 0=b at *
  generalize V.getD l 0=x at *
  generalize V.getD j 0=y at *
  exact⟨k2*y-a*k1,by grind⟩
 ·rw[if_neg hm,dot_app hV]
  exact⟨0,by grind⟩
structure ShV (p:Int) (rows:List (List Int)) (ns:List Int) (s:SS):Prop where
 val:∀ i,i<rows.length→p∣dot (s.T.getD i []) (Vf p s.st ns) (s.T.getD i []).length-dot (rows.getD i []) ns (rows.getD i []).length
theorem shF_val {p:Int} {N:Nat} {rows:List (List Int)} {ns:List Int} (hp:isP p=true) (hT:1≤rows.length) (hN:ns.length=N):∀ (f:Nat) (s:SS),ShI p N rows s→ShV p rows ns s→ShV p rows ns (shF p f s)
 | 0,s,_,hs=>hs
 | f+1,s,i,hs=>by
  unfold shF
  by_cases h:2≤(bst p s.T).m
  ·rw[if_pos h]
   have b:=bst_ok hp i.gt (by rw[i.len];exact hT) h
   refine shF_val hp hT hN f _ (i.go hp hT h).1 ⟨fun k hk=>?_⟩
   have hk':k<s.T.length:=by rw[i.len];exact hk
   have wl:=(i.gt k hk').1
   have Vl:=Vf_len (p:=p) (st:=s.st) (ns:=ns)
   have eT:(stepS p s).T.getD k []=mvRow p (bst p s.T).l (bst p s.T).j (bst p s.T).r (s.T.getD k []):=mvT_get hk'
   have eS:(stepS p s).st=s.st++[[((bst p s.T).l:Int),((bst p s.T).j:Int),((bst p s.T).r:Int)]]:=rfl
   rw[eT,eS,Vf_snoc,mvRow_len]
   have md:=mv_dot (p:=p) (row:=s.T.getD k []) (V:=Vf p s.st ns) (l:=(bst p s.T).l) (j:=(bst p s.T).j) (r:=(bst p s.T).r) (by omega) (by omega) (by omega) (by omega) (tmod_dvd ((Vf p s.st ns).getD (bst p s.T).l 0+((bst p s.T).r:Int)*(Vf p s.st ns).getD (bst p s.T).j 0) p)
   obtain⟨k1,h1⟩:=md
   obtain⟨k2,h2⟩:=hs.val k hk
   exact⟨k1+k2,by grind⟩
  ·rw[if_neg h]
   exact hs
theorem runP_pgO {p n:Int} {rows:List (List Int)} {ns:List Int} {b:Bool} (ok:lsOK p n rows=true) (hnl:(ns.length:Int)=n) (hal:allIn p ns=true) {j:Nat} (hj:j<rows.length) :
  (runP (pgO p n rows b) ns).getD j 0=(dot (rows.getD j []) ns (rows.getD j []).length).tmod p:=by
 obtain⟨hp,hn,hl,hm⟩:=lsOK_iff.1 ok
 have hp5:=isP_in hp
 unfold pgO
 cases b with
 | false=>
  rw[if_neg (by decide)]
  exact runP_fin hp hn.1 hnl hal (fun i hi=>by simp at hi) (fun i hi=>⟨(isMat_iff.1 hm i hi).2,by have:=(isMat_iff.1 hm i hi).1;simp only[List.length_nil];omega⟩) hj
 | true=>
  rw[if_pos rfl]
  have si:=shS_facts ok
  have sv:StV p ((n.toNat:Nat):Int) (shS p rows).st:=shF_valid hp (by omega) (nzT rows) ⟨rows,[]⟩ (ShI.start ok) (fun i hi=>by simp at hi)
  have hN:((n.toNat:Nat):Int)=n:=by omega
  rw[hN] at sv
  have vv:ShV p rows ns (shS p rows):=shF_val hp (by omega) (by omega) (nzT rows) ⟨rows,[]⟩ (ShI.start ok) ⟨fun i hi=>⟨0,by show dot (rows.getD i []) ns (rows.getD i []).length-dot (rows.getD i []) ns (rows.getD i []).length=p*0;omega⟩⟩
  have rr:∀ i,i<(shS p rows).T.length→allIn p ((shS p rows).T.getD i [])=true∧(((shS p rows).T.getD i []).length:Int)≤n+(shS p rows).st.length:=fun i hi=>by
   obtain⟨g1,g2⟩:=si.gt i hi
   exact⟨allIn_iff.2 fun j hj=>g2 j (by omega),by omega⟩
  have hj':j<(shS p rows).T.length:=by rw[si.len];exact hj
  have e:=runP_fin hp hn.1 hnl hal sv rr hj'
  show (runP (finP ⟨p,n,(shS p rows).st,[]⟩ (shS p rows).T (shS p rows).T.length) ns).getD j 0=_
  rw[e]
  have a:=tmod_nn (J:=p) (dot_nn (show 1≤p by omega) (rr j hj').1 (Vf_in (show 1≤p by omega) sv hal) (k:=((shS p rows).T.getD j []).length)) (by omega)
  have c:=tmod_nn (J:=p) (dot_nn (show 1≤p by omega) (isMat_iff.1 hm j hj).2 hal (k:=(rows.getD j []).length)) (by omega)
  obtain⟨k1,h1⟩:=vv.val j hj
  obtain⟨k2,h2⟩:=tmod_dvd (dot ((shS p rows).T.getD j []) (Vf p (shS p rows).st ns) ((shS p rows).T.getD j []).length) p
  obtain⟨k3,h3⟩:=tmod_dvd (dot (rows.getD j []) ns (rows.getD j []).length) p
  exact dvd_eq ⟨k1-k2+k3,by grind⟩ a c
theorem cg_md (x p:Int):Cg p (x.tmod p) x:=by
 have h:=Int.tmod_add_tdiv_mul x p
 exact⟨-(x.tdiv p),by rw[Int.mul_neg,Int.mul_comm p];omega⟩
theorem cg_eq {p a b:Int} (ha:0≤a∧a<p) (hb:0≤b∧b<p) (h:Cg p a b):a=b:=by
 obtain⟨k,hk⟩:=h
 have:k=0:=by
  by_cases h0:0<k
  ·have:=Int.mul_le_mul_of_nonneg_left (show 1≤k by omega) (show 0≤p by omega)
   omega
  ·by_cases h1:k<0
   ·have:=Int.mul_le_mul_of_nonneg_left (show k ≤ -1 by omega) (show 0≤p by omega)
    omega
   ·omega
 subst this
 omega
section
variable (x:Prg)
def nSt (i:Nat) (r:Nat):Nat:=nq (x.st.getD i []) r
def nOut (i:Nat):Nat:=nq (x.out.getD i []) 0
def uO:Nat→List Bool
 | 0=>List.replicate (x.n.toNat+x.st.length) false
 | i+1=>if (x.out.getD i []).getD 1 0=0 then uO i else (uO i).set (nOut x i) true
def uS:Nat→List Bool
 | 0=>uO x x.out.length
 | m+1=>if (uS m).getD (x.n.toNat+(x.st.length-1-m)) false=true then ((uS m).set (nSt x (x.st.length-1-m) 0) true).set (nSt x (x.st.length-1-m) 1) true else uS m
def kp (j:Nat):Bool:=decide (j<x.n.toNat)||(uS x x.st.length).getD j false
def rk:Nat→Int
 | 0=>0
 | j+1=>rk j+(if kp x j=true then 1 else 0)
end
variable {x:Prg}
section
variable {x:Prg}
end
end Go.Proofs.Ytapafdpnmakekaa.X

set_option linter.unusedVariables false
set_option linter.unusedSimpArgs false
set_option maxRecDepth 20000
set_option maxHeartbeats 4000000
namespace Go.Proofs.Ytapafdpnmakekaa.X
open Go Go.RowKit
open Nat (reduceEqDiff reduceAdd reduceSub reduceLeDiff)
theorem l_likeInts {v w:Value} {ns ms:List Int} {h:AH} {Q:Value→AH→Prop} (hv:Ints h v ns) (hv':Ints h w ms) (hl:(ns.length:Int)≤1048576)
  (hQ:Q (.bool (decide (ns=ms))) h):WF S 20 [v,w] h Q:=by
 refine WF_fn (fn:=c20) rfl rfl ?_
 dsimp only[c20,oO,oM,oS,oG,oK,oE,oL,oF,oX,oN]
 by_cases hne:(ns.length:Int)≠ms.length
 ·((try simp (maxSteps:=3000000) (dsimp:=false) (disch:=first|omega|simp only[lnx];omega) only[↓ypre,ypost,↓reduceIte,reduceEqDiff,reduceAdd,reduceSub,reduceLeDiff,zz0,ynew,hv.len,hv'.len,decide_eq_true hne]);try simp only[yback])
  have:ns≠ms:=fun e=>hne (by rw[e])
  simpa [this] using hQ
 ·((try simp (maxSteps:=3000000) (dsimp:=false) (disch:=first|omega|simp only[lnx];omega) only[↓ypre,ypost,↓reduceIte,reduceEqDiff,reduceAdd,reduceSub,reduceLeDiff,zz0,ynew,hv.len,hv'.len,decide_eq_false hne]);try simp only[yback])
  have hlen:ns.length=ms.length:=by omega
  refine WC_loop_inv (fun m f K1=>∃ (i:Nat),m=ns.length-i∧i≤ns.length∧f 0=v∧f 1=w∧f 5=I64 i∧(K1=h)∧(∀ j,j<i→ns.getD j 0=ms.getD j 0)) ?_ (ns.length-0) _ _ ⟨0,rfl,by omega,(by first|rfl|simp[upd_apply]),(by first|rfl|simp[upd_apply]),(by first|rfl|simp[upd_apply]),rfl,(by omega)⟩
  rintro m f K1 ⟨i,rfl,hi,f0,f1,f5,hK,hj⟩
  subst hK
  by_cases hlt:(i:Int)<ns.length
  ·obtain⟨n1,off1,hix1,hrd1⟩:=hv.cell (j:=i) (by omega)
   obtain⟨n2,off2,hix2,hrd2⟩:=hv'.cell (j:=i) (by omega)
   by_cases he:ns.getD i 0≠ms.getD i 0
   ·((try simp (maxSteps:=3000000) (dsimp:=false) (disch:=first|omega|simp only[lnx];omega) only[↓ypre,ypost,↓reduceIte,reduceEqDiff,reduceAdd,reduceSub,reduceLeDiff,zz0,ynew,f0,f1,f5,hv.len,decide_eq_true hlt,hix1,hrd1,hix2,hrd2,decide_eq_true he]);try simp only[yback])
    have:ns≠ms:=fun e=>he (by rw[e])
    simpa [this] using hQ
   ·((try simp (maxSteps:=3000000) (dsimp:=false) (disch:=first|omega|simp only[lnx];omega) only[↓ypre,ypost,↓reduceIte,reduceEqDiff,reduceAdd,reduceSub,reduceLeDiff,zz0,ynew,f0,f1,f5,hv.len,decide_eq_true hlt,hix1,hrd1,hix2,hrd2,decide_eq_false he,wrap64_in]);try simp only[yback])
    have hj':∀ j,j<i+1→ns.getD j 0=ms.getD j 0:=fun j q=>by
     rcases Nat.lt_succ_iff_lt_or_eq.1 q with q|rfl
     ·exact hj j q
     ·exact Decidable.not_not.1 he
    refine InvQ_go (ns.length-(i+1)) (by omega) ⟨(i+1),rfl,by omega,(by first|rfl|exact f0|(simp only[upd_apply];rfl)|(show I64 _=_;congr 1;omega)),(by first|rfl|exact f1|(simp only[upd_apply];rfl)|(show I64 _=_;congr 1;omega)),(by first|rfl|exact f5|(simp only[upd_apply];rfl)|(show I64 _=_;congr 1;omega)),rfl,hj'⟩
  ·((try simp (maxSteps:=3000000) (dsimp:=false) (disch:=first|omega|simp only[lnx];omega) only[↓ypre,ypost,↓reduceIte,reduceEqDiff,reduceAdd,reduceSub,reduceLeDiff,zz0,ynew,f0,f1,f5,hv.len,decide_eq_false hlt]);try simp only[yback])
   have:ns=ms:=by
    refine List.ext_getElem? fun j=>?_
    by_cases h1:j<ns.length
    ·have:=hj j (by omega)
     rw[List.getElem?_eq_getElem h1,List.getElem?_eq_getElem (by omega)]
     simpa [List.getD_eq_getElem?_getD,List.getElem?_eq_getElem h1,List.getElem?_eq_getElem (show j<ms.length by omega)] using this
    ·rw[List.getElem?_eq_none (by omega),List.getElem?_eq_none (by omega)]
   simpa [this] using hQ
end Go.Proofs.Ytapafdpnmakekaa.X

set_option linter.unusedVariables false
set_option linter.unusedSimpArgs false
set_option maxRecDepth 20000
set_option maxHeartbeats 4000000
namespace Go.Proofs.Ytapafdpnmakekaa.X
open Go Go.RowKit
theorem ProgD.one {lo:Nat} {h:AH} {v w:Value} {x:Prg} (o:ProgD lo h v w x):isOne v=true∧isOne w=true:=⟨o.now.1.one,o.now.2.one⟩
theorem l_like {v w:Value} {ns:List Int} {h:AH} {Q:Value→AH→Prop} (hv:Ints h v ns) (hw:Ints h w ns) (hl:(ns.length:Int)≤1048576)
  (hQ:Q (.bool true) h):WF S 20 [v,w] h Q:=l_likeInts hv hw hl (by rw[decide_eq_true rfl];exact hQ)
end Go.Proofs.Ytapafdpnmakekaa.X

set_option linter.unusedVariables false
set_option linter.unusedSimpArgs false
set_option maxRecDepth 20000
set_option maxHeartbeats 4000000
namespace Go.Proofs.Ytapafdpnmakekaa.X
open Go Go.RowKit
open Nat (reduceEqDiff reduceAdd reduceSub reduceLeDiff)
theorem i_Grow {n:Int} {h:AH} {Q:Value→AH→Prop} (hn:1≤n∧n≤1048576) (hQ:Q (sl h.length 0) (h.new ⟨[],2,false,false⟩)):WF S 287 [.slice none 0 0,I64 n] h Q:=by
 refine WF_fn (fn:=c287) rfl rfl ?_
 dsimp only[c287,oO,oM,oS,oG,oK,oE,oL,oF,oX,oN]
 ((try simp (maxSteps:=3000000) (dsimp:=false) (disch:=first|omega|simp only[lnx];omega) only[↓ypre,ypost,↓reduceIte,reduceEqDiff,reduceAdd,reduceSub,reduceLeDiff,zz0,ynew,decide_eq_false (show ¬ n<0 by omega),capV_nil,show lenV (.slice none 0 0)=some (I64 0) from rfl,wrap64_in,Int.sub_zero,decide_eq_true (show (0:Int)<n by omega),decide_eq_true (show n>0 by omega)]);try simp only[yback])
 have s1:slcV 1 (.slice none 0 0) none (some (I64 0))=some (.slice none 0 0):=rfl
 ((try simp (maxSteps:=3000000) (dsimp:=false) (disch:=first|omega|simp only[lnx];omega) only[↓ypre,ypost,↓reduceIte,reduceEqDiff,reduceAdd,reduceSub,reduceLeDiff,zz0,ynew,omapF_none,omapF_some,s1]);try simp only[yback])
 have e1:appzV 2 1 8 (.slice none 0 0) (I64 n) h=some (.slice (some ⟨h.length,0,none⟩) n.toNat 1,h.new ⟨[],2,false,false⟩):=by
  rw[appzV_nil,if_pos (by omega)]
 ((try simp (maxSteps:=3000000) (dsimp:=false) (disch:=first|omega|simp only[lnx];omega) only[↓ypre,ypost,↓reduceIte,reduceEqDiff,reduceAdd,reduceSub,reduceLeDiff,zz0,ynew,e1]);try simp only[yback])
 have s2:slcV 1 (.slice (some ⟨h.length,0,none⟩) n.toNat 1) none (some (.int .i64 ((0:Nat):Int)))=some (sl h.length 0):=by
  simp[slcV,boundV,sl]
 ((try simp (maxSteps:=3000000) (dsimp:=false) (disch:=first|omega|simp only[lnx];omega) only[↓ypre,ypost,↓reduceIte,reduceEqDiff,reduceAdd,reduceSub,reduceLeDiff,zz0,ynew,omapF_none,omapF_some,s2]);try simp only[yback])
 exact hQ
theorem Lst.appL {H:AH} {n:Nat} {l ns:List Int} {full:Bool} {v:Value} (o:Lst H n l full) (hv:Ints H v ns) (h0:0<ns.length) (hl:(l.length:Int)+ns.length≤1048576) {Q:Value→AH→Prop}
  (hQ:∀ H',H'.length=H.length+1→(∀ h0:AH,h0.length≤n→h0<+:H→h0<+:H')→Lst H' H.length (l++ns) false→Q (sl H.length (l++ns).length) H') :
  OQ (appV 2 1 8 (sl n l.length) v H) Q:=by
 obtain⟨n',off,rfl,hr⟩:=hv.vals.rdn (by simpa using h0)
 rw[List.length_map] at hr
 have e:appV 2 1 8 (sl n l.length) (.slice (some ⟨n',off,none⟩) (ns.map (Value.int .i64)).length 1) H=some (sl H.length (l++ns).length,(H.kill n).new ⟨(l++ns).map (Value.int .i64),2,false,false⟩):=by
  simp only[appV,xop,ev,sl,if_true,Nat.mul_one,List.length_map,hr]
  rw[if_pos (by omega),if_neg (by omega)]
  unfold Lst at o
  simp[o]
 rw[e,OQ_some]
 exact hQ _ (by rw[len_new,len_kill]) (fun h0 q p=>pre_new (pre_kill p q)) (get_new_eq (by rw[len_kill]))
theorem i_Concat {v:Value} {L:List (List Int)} {w:Nat} {h:AH} {Q:Value→AH→Prop} (hv:Rows h v L) (hw:Wid w L) (h1:1≤w∧w≤1000) (h2:1≤L.length∧L.length≤1000)
  (hQ:∀ n full h',h.length≤n→h<+:h'→Lst h' n L.flatten full→Q (sl n L.flatten.length) h'):WF S 165 [v] h Q:=by
 refine WF_fn (fn:=c165) rfl rfl ?_
 dsimp only[c165,oO,oM,oS,oG,oK,oE,oL,oF,oX,oN]
 have hwl:∀ i,i<L.length→(L.getD i []).length=w:=fun i hi=>hw _ (by rw[List.getD_eq_getElem?_getD,List.getElem?_eq_getElem hi];exact List.getElem_mem hi)
 have hLw:L.length*w≤1000*1000:=Nat.mul_le_mul h2.2 h1.2
 have hLw1:1*1≤L.length*w:=Nat.mul_le_mul h2.1 h1.1
 ((try simp (maxSteps:=3000000) (dsimp:=false) (disch:=first|omega|simp only[lnx];omega) only[↓ypre,ypost,↓reduceIte,reduceEqDiff,reduceAdd,reduceSub,reduceLeDiff,zz0,ynew,hv.len]);try simp only[yback])
 refine WC_loop_inv (fun m f K1=>∃ (i:Nat),m=L.length-i∧i≤L.length∧f 0=v∧f 3=I64 ((i*w:Nat):Int)∧f 9=v∧f 10=I64 L.length∧f 11=I64 i∧(K1=h)) ?_ (L.length-0) _ _ ⟨0,rfl,by omega,(by first|rfl|simp[upd_apply]),(by first|rfl|simp[upd_apply]),(by first|rfl|simp[upd_apply]),(by first|rfl|simp[upd_apply]),(by first|rfl|simp[upd_apply]),rfl⟩
 rintro m f K1 ⟨i,rfl,hi,f0,f3,f9,f10,f11,hK⟩
 subst hK
 by_cases hlt:(i:Int)<L.length
 ·have hi':i<L.length:=by omega
  obtain⟨n0,off0,x0,hix0,hrd0,i0⟩:=hv.row hi'
  have hm:=mul_row (w:=w) hi'
  have hc:(((i*w:Nat):Int)+((L.getD i []).length:Int))=(((i+1)*w:Nat):Int):=by rw[hwl i hi',Nat.succ_mul];omega
  have hb:((i+1)*w:Nat)≤1000000:=by rw[Nat.succ_mul];omega
  ((try simp (maxSteps:=3000000) (dsimp:=false) (disch:=first|omega|simp only[lnx];omega) only[↓ypre,ypost,↓reduceIte,reduceEqDiff,reduceAdd,reduceSub,reduceLeDiff,zz0,ynew,f0,f3,f9,f10,f11,decide_eq_true hlt,hix0,hrd0,i0.len,hc,wrap64_in,decide_eq_false (show ¬ (((i+1)*w:Nat):Int)<0 by omega)]);try simp only[yback])
  refine InvQ_go (L.length-(i+1)) (by omega) ⟨(i+1),rfl,by omega,(by first|rfl|exact f0|(simp only[upd_apply];rfl)|(show I64 _=_;congr 1;omega)),(by first|rfl|exact f3|(simp only[upd_apply];rfl)|(show I64 _=_;congr 1;omega)),(by first|rfl|exact f9|(simp only[upd_apply];rfl)|(show I64 _=_;congr 1;omega)),(by first|rfl|exact f10|(simp only[upd_apply];rfl)|(show I64 _=_;congr 1;omega)),(by first|rfl|exact f11|(simp only[upd_apply];rfl)|(show I64 _=_;congr 1;omega)),rfl⟩
 have ei:i=L.length:=by omega
 subst ei
 ((try simp (maxSteps:=3000000) (dsimp:=false) (disch:=first|omega|simp only[lnx];omega) only[↓ypre,ypost,↓reduceIte,reduceEqDiff,reduceAdd,reduceSub,reduceLeDiff,zz0,ynew,f0,f3,f9,f10,f11,decide_eq_false hlt]);try simp only[yback])
 refine i_Grow (by omega) ?_
 generalize hH1:AH.new K1 _=H1
 obtain⟨hb1,p1,n1⟩:=new_facts hH1
 have l0:Lst H1 K1.length (L.take 0).flatten false:=hb1
 ((try simp (maxSteps:=3000000) (dsimp:=false) (disch:=first|omega|simp only[lnx];omega) only[↓ypre,ypost,↓reduceIte,reduceEqDiff,reduceAdd,reduceSub,reduceLeDiff,zz0,ynew,f0,f3,f9,f10,f11,hv.len]);try simp only[yback])
 refine WC_loop_inv (fun m f K2=>∃ (i:Nat) (kn:Nat) (fu:Bool),m=L.length-i∧i≤L.length∧f 6=sl kn (L.take i).flatten.length∧f 25=v∧f 26=I64 L.length∧f 27=I64 i∧(K1<+:K2)∧(Lst K2 kn (L.take i).flatten fu)∧(K1.length≤kn)) ?_ (L.length-0) _ _ ⟨0,K1.length,false,rfl,by omega,(by first|rfl|simp[upd_apply]),(by first|rfl|simp[upd_apply]),(by first|rfl|simp[upd_apply]),(by first|rfl|simp[upd_apply]),p1,l0,Nat.le_refl _⟩
 rintro m f K2 ⟨i,kn,fu,rfl,hi,f6,f25,f26,f27,pp,lo,hk⟩
 by_cases hlt:(i:Int)<L.length
 ·have hi':i<L.length:=by omega
  obtain⟨n0,off0,x0,hix0,hrd0,i0⟩:=(hv.pre pp).row hi'
  have et:(L.take i).flatten++L.getD i []=(L.take (i+1)).flatten:=by
   rw[take_next (d:=[]) hi',List.flatten_append]
   simp
  have lt:(L.take i).flatten.length=i*w:=by
   rw[flat_len (fun q hq=>hw q (List.mem_of_mem_take hq)),List.length_take,Nat.min_eq_left (by omega)]
  have hm:=mul_row (w:=w) hi'
  have hwi:=hwl i hi'
  ((try simp (maxSteps:=3000000) (dsimp:=false) (disch:=first|omega|simp only[lnx];omega) only[↓ypre,ypost,↓reduceIte,reduceEqDiff,reduceAdd,reduceSub,reduceLeDiff,zz0,ynew,f6,f25,f26,f27,decide_eq_true hlt,hix0,hrd0]);try simp only[yback])
  refine lo.appL i0 (by omega) (by omega) fun H5 l5 pre5 lo5=>?_
  rw[et] at lo5 ⊢
  ((try simp (maxSteps:=3000000) (dsimp:=false) (disch:=first|omega|simp only[lnx];omega) only[↓ypre,ypost,↓reduceIte,reduceEqDiff,reduceAdd,reduceSub,reduceLeDiff,zz0,ynew,f6,f25,f26,f27,wrap64_in]);try simp only[yback])
  refine InvQ_go (L.length-(i+1)) (by omega) ⟨(i+1),K2.length,false,rfl,by omega,(by first|rfl|exact f6|(simp only[upd_apply];rfl)|(show I64 _=_;congr 1;omega)),(by first|rfl|exact f25|(simp only[upd_apply];rfl)|(show I64 _=_;congr 1;omega)),(by first|rfl|exact f26|(simp only[upd_apply];rfl)|(show I64 _=_;congr 1;omega)),(by first|rfl|exact f27|(simp only[upd_apply];rfl)|(show I64 _=_;congr 1;omega)),(pre5 _ hk pp),lo5,(by have:=pre_len pp;omega)⟩
 have ei:i=L.length:=by omega
 subst ei
 rw[List.take_of_length_le (Nat.le_refl _)] at lo f6
 ((try simp (maxSteps:=3000000) (dsimp:=false) (disch:=first|omega|simp only[lnx];omega) only[↓ypre,ypost,↓reduceIte,reduceEqDiff,reduceAdd,reduceSub,reduceLeDiff,zz0,ynew,f6,f25,f26,f27,decide_eq_false hlt]);try simp only[yback])
 exact hQ _ _ _ hk pp lo
end Go.Proofs.Ytapafdpnmakekaa.X

set_option linter.unusedVariables false
set_option linter.unusedSimpArgs false
set_option maxRecDepth 20000
set_option maxHeartbeats 4000000
namespace Go.Proofs.Ytapafdpnmakekaa.X
open Go Go.RowKit
end Go.Proofs.Ytapafdpnmakekaa.X

set_option linter.unusedVariables false
set_option linter.unusedSimpArgs false
set_option maxRecDepth 20000
set_option maxHeartbeats 4000000
namespace Go.Proofs.Ytapafdpnmakekaa.X
open Go Go.RowKit
open Nat (reduceEqDiff reduceAdd reduceSub reduceLeDiff)
theorem seg_n9 {q:List Int} (hq:q.length=27) {i:Nat} (hi:i<3):(seg q i).length=9:=by
 unfold seg
 rw[List.length_take,List.length_drop]
 omega
theorem seg_by {q:List Int} (hq:By 27 q) {f:Nat} (hf:f<3):By 9 (seg q f):=⟨seg_n9 hq.1 hf,fun j hj=>by
 unfold seg
 rw[List.getD_eq_getElem?_getD,List.getElem?_take_of_lt hj,List.getElem?_drop,←List.getD_eq_getElem?_getD]
 exact hq.2 _ (by omega)⟩
theorem cel_seg {q:List Int} {f:Nat}:((cel .u8 q).drop (f*9)).take 9=cel .u8 (seg q f):=by rw[cel_drop,cel_take];rfl
theorem s_l03Factor {q:List Int} {f:Nat} {h:AH} {Q:Value→AH→Prop} (hq:By 27 q) (hf:f<3) (hQ:∀ h',h<+:h'→Q (aggV .u8 (seg q f)) h'):WF S 198 [aggV .u8 q,I64 f] h Q:=by
 refine WF_fn (fn:=c198) rfl rfl ?_
 dsimp only[c198,oO,oM,oS,oG,oK,oE,oL,oF,oX,oN]
 have q27:=hq.1
 ((try simp (maxSteps:=3000000) (dsimp:=false) (disch:=first|omega|simp only[lnx];omega) only[↓ypre,ypost,↓reduceIte,reduceEqDiff,reduceAdd,reduceSub,reduceLeDiff,zz0,ynew,aggV,cellsL_cel,cel_all,zeros9]);try simp only[yback])
 generalize hH1:AH.new h _=H1
 obtain⟨hb1,p1,n1⟩:=new_facts hH1
 generalize hH2:AH.new H1 _=H2
 obtain⟨hb2,p2,n2⟩:=new_facts hH2
 have g1:=pre_get p2 hb1
 have l2:=get_lt hb2
 have w9:=wr_full (vs:=cel .u8 (seg q f)) hb2 (by rw[cel_len,seg_n9 q27 hf];rfl)
 have s9:=seg_n9 q27 hf
 have fin:=hQ _ (pre_put (b:=⟨cel .u8 (seg q f),136,false,true⟩) (p1.trans p2) (n:=H1.length) (by omega))
 have tf:(cel .u8 (seg q f)).take 9=cel .u8 (seg q f):=List.take_of_length_le (by rw[cel_len,s9];exact Nat.le_refl _)
 have c0:(cel .u8 q).take 9=cel .u8 (seg q 0):=by have:=cel_seg (q:=q) (f:=0);rwa [Nat.zero_mul,List.drop_zero] at this
 have c1:((cel .u8 q).drop 9).take 9=cel .u8 (seg q 1):=cel_seg (f:=1)
 have c2:((cel .u8 q).drop 18).take 9=cel .u8 (seg q 2):=cel_seg (f:=2)
 have:f=0∨f=1∨f=2:=by omega
 rcases this with rfl|rfl|rfl
 ·((try simp (maxSteps:=3000000) (dsimp:=false) (disch:=first|omega|simp only[lnx];omega) only[↓ypre,ypost,↓reduceIte,reduceEqDiff,reduceAdd,reduceSub,reduceLeDiff,zz0,ynew,show ((0:Nat):Int)=0 from rfl,show decide ((0:Int)=0)=true from rfl,rdn_of g1,cel_len,q27,c0,s9,cel_all,w9,rdn_put_same,tf]);try simp only[yback])
  exact fin
 ·((try simp (maxSteps:=3000000) (dsimp:=false) (disch:=first|omega|simp only[lnx];omega) only[↓ypre,ypost,↓reduceIte,reduceEqDiff,reduceAdd,reduceSub,reduceLeDiff,zz0,ynew,show ((1:Nat):Int)=1 from rfl,show decide ((1:Int)=0)=false from rfl,show decide ((1:Int)=1)=true from rfl,rdn_of g1,cel_len,q27,c1,s9,cel_all,w9,rdn_put_same,tf]);try simp only[yback])
  exact fin
 ·((try simp (maxSteps:=3000000) (dsimp:=false) (disch:=first|omega|simp only[lnx];omega) only[↓ypre,ypost,↓reduceIte,reduceEqDiff,reduceAdd,reduceSub,reduceLeDiff,zz0,ynew,show ((2:Nat):Int)=2 from rfl,show decide ((2:Int)=0)=false from rfl,show decide ((2:Int)=1)=false from rfl,rdn_of g1,cel_len,q27,c2,s9,cel_all,w9,rdn_put_same,tf]);try simp only[yback])
  exact fin
def wth (q:List Int) (f:Nat) (r:List Int):List Int:=q.take (f*9)++r++q.drop (f*9+9)
theorem wth_len {q r:List Int} {f:Nat} (hq:q.length=27) (hr:r.length=9) (hf:f<3):(wth q f r).length=27:=by
 unfold wth
 rw[List.length_append,List.length_append,List.length_take,List.length_drop]
 omega
theorem wth_by {q r:List Int} {f:Nat} (hq:By 27 q) (hr:By 9 r) (hf:f<3):By 27 (wth q f r):=by
 refine⟨wth_len hq.1 hr.1 hf,fun j hj=>?_⟩
 have lt:(q.take (f*9)).length=f*9:=by rw[List.length_take,hq.1];omega
 unfold wth
 by_cases h1:j<f*9
 ·rw[List.append_assoc,getD_app_l (by omega),List.getD_eq_getElem?_getD,List.getElem?_take_of_lt h1,←List.getD_eq_getElem?_getD]
  exact hq.2 j hj
 ·by_cases h2:j<f*9+9
  ·rw[getD_app_l (by rw[List.length_append,lt,hr.1];exact h2),getD_app_r (by omega),lt]
   exact hr.2 _ (by omega)
  ·rw[getD_app_r (by rw[List.length_append,lt,hr.1];omega),List.length_append,lt,hr.1,List.getD_eq_getElem?_getD,List.getElem?_drop,show f*9+9+(j-(f*9+9))=j by omega,←List.getD_eq_getElem?_getD]
   exact hq.2 j hj
theorem splice_wth {q r:List Int} {f:Nat} (hr:r.length=9):splice (cel .u8 q) (f*9) (cel .u8 r)=cel .u8 (wth q f r):=by
 rw[cel_splice,hr]
 rfl
theorem s_l03With {q r:List Int} {f:Nat} {h:AH} {Q:Value→AH→Prop} (hq:By 27 q) (hr:By 9 r) (hf:f<3) (hQ:∀ h',h<+:h'→Q (aggV .u8 (wth q f r)) h'):WF S 268 [aggV .u8 q,I64 f,aggV .u8 r] h Q:=by
 refine WF_fn (fn:=c268) rfl rfl ?_
 dsimp only[c268,oO,oM,oS,oG,oK,oE,oL,oF,oX,oN]
 have q27:=hq.1
 have r9:=hr.1
 have w27:=wth_len (f:=f) q27 r9 hf
 ((try simp (maxSteps:=3000000) (dsimp:=false) (disch:=first|omega|simp only[lnx];omega) only[↓ypre,ypost,↓reduceIte,reduceEqDiff,reduceAdd,reduceSub,reduceLeDiff,zz0,ynew,aggV,cellsL_cel,cel_all,zeros27]);try simp only[yback])
 generalize hH1:AH.new h _=H1
 obtain⟨hb1,p1,n1⟩:=new_facts hH1
 generalize hH2:AH.new H1 _=H2
 obtain⟨hb2,p2,n2⟩:=new_facts hH2
 generalize hH3:AH.new H2 _=H3
 obtain⟨hb3,p3,n3⟩:=new_facts hH3
 have g1:=pre_get (p2.trans p3) hb1
 have g2:=pre_get p3 hb2
 have l1:=get_lt g1
 have l3:=get_lt hb3
 have t9:(cel .u8 r).take 9=cel .u8 r:=List.take_of_length_le (by rw[cel_len,r9];exact Nat.le_refl _)
 have t27:(cel .u8 (wth q f r)).take 27=cel .u8 (wth q f r):=List.take_of_length_le (by rw[cel_len,w27];exact Nat.le_refl _)
 have sw:=splice_wth (q:=q) (f:=f) r9
 have g3:=fun e:TypeId=>(get_put_ne (h:=H3) (b:=⟨cel .u8 (wth q f r),e,false,true⟩) (show h.length≠H2.length by omega)).trans hb3
 have w3:=fun e:TypeId=>wr_full (vs:=cel .u8 (wth q f r)) (g3 e) (by rw[cel_len,w27];rfl)
 have fin:=fun e:TypeId=>hQ _ (pre_put (b:=⟨cel .u8 (wth q f r),138,false,true⟩) (pre_put (b:=⟨cel .u8 (wth q f r),e,false,true⟩) (p1.trans (p2.trans p3)) (n:=h.length) (Nat.le_refl _)) (n:=H2.length) (by omega))
 have:f=0∨f=1∨f=2:=by omega
 rcases this with rfl|rfl|rfl
 ·rw[Nat.zero_mul] at sw
  ((try simp (maxSteps:=3000000) (dsimp:=false) (disch:=first|omega|simp only[lnx];omega) only[↓ypre,ypost,↓reduceIte,reduceEqDiff,reduceAdd,reduceSub,reduceLeDiff,zz0,ynew,show ((0:Nat):Int)=0 from rfl,show decide ((0:Int)=0)=true from rfl,rdn_of g2,cel_len,r9,t9,cel_all,wr_of g1,q27,sw,rdn_put_same,w27,t27,w3]);try simp only[yback])
  exact fin _
 ·rw[Nat.one_mul] at sw
  ((try simp (maxSteps:=3000000) (dsimp:=false) (disch:=first|omega|simp only[lnx];omega) only[↓ypre,ypost,↓reduceIte,reduceEqDiff,reduceAdd,reduceSub,reduceLeDiff,zz0,ynew,show ((1:Nat):Int)=1 from rfl,show decide ((1:Int)=0)=false from rfl,show decide ((1:Int)=1)=true from rfl,rdn_of g2,cel_len,r9,t9,cel_all,wr_of g1,q27,sw,rdn_put_same,w27,t27,w3]);try simp only[yback])
  exact fin _
 ·have sw:splice (cel .u8 q) 18 (cel .u8 r)=cel .u8 (wth q 2 r):=sw
  ((try simp (maxSteps:=3000000) (dsimp:=false) (disch:=first|omega|simp only[lnx];omega) only[↓ypre,ypost,↓reduceIte,reduceEqDiff,reduceAdd,reduceSub,reduceLeDiff,zz0,ynew,show ((2:Nat):Int)=2 from rfl,show decide ((2:Int)=0)=false from rfl,show decide ((2:Int)=1)=false from rfl,rdn_of g2,cel_len,r9,t9,cel_all,wr_of g1,q27,sw,rdn_put_same,w27,t27,w3]);try simp only[yback])
  exact fin _
def addF (p:Int) (a b:List Int) (k:Int) (i:Nat):List Int:=(gen i fun j=>md p (a.getD j 0+k*b.getD j 0))++a.drop i
theorem addF_len {p k:Int} {a b:List Int} {i:Nat} (ha:a.length=9) (hi:i≤9):(addF p a b k i).length=9:=by
 unfold addF
 rw[List.length_append,gen_len,List.length_drop]
 omega
theorem gen_snoc {i:Nat} {g:Nat→Int}:gen (i+1) g=gen i g++[g i]:=by simp[gen,List.range_succ]
theorem addF_at {p k:Int} {a b:List Int} {i j:Nat} (hi:i≤j):(addF p a b k i).getD j 0=a.getD j 0:=by
 unfold addF
 rw[getD_app_r (by rw[gen_len];exact hi),gen_len,List.getD_eq_getElem?_getD,List.getElem?_drop,show i+(j-i)=j by omega,←List.getD_eq_getElem?_getD]
theorem addF_set {p k:Int} {a b:List Int} {i:Nat} (ha:a.length=9) (hi:i<9):(addF p a b k i).set i (md p (a.getD i 0+k*b.getD i 0))=addF p a b k (i+1):=by
 unfold addF
 rw[List.set_append_right _ _ (by rw[gen_len];exact Nat.le_refl _),gen_len,Nat.sub_self,List.drop_eq_getElem_cons (by omega),List.set_cons_zero,gen_snoc]
 simp
theorem addF_by {p k:Int} {a b:List Int} {i:Nat} (hp:2≤p∧p≤5) (ha:By 9 a) (hi:i≤9):By 9 (addF p a b k i):=by
 refine⟨addF_len ha.1 hi,fun j hj=>?_⟩
 by_cases h:j<i
 ·unfold addF
  rw[getD_app_l (by rw[gen_len];exact h),gen_get h]
  have:=md_in (x:=a.getD j 0+k*b.getD j 0) hp.1
  omega
 ·rw[addF_at (by omega)]
  exact ha.2 j hj
theorem s_l01Add {p k:Int} {a b:List Int} {h:AH} {Q:Value→AH→Prop} (hp:2≤p∧p≤5) (ha:By 9 a) (hb:By 9 b) (hk:-1000≤k∧k≤1000) (hQ:∀ h',h<+:h'→Q (aggV .u8 (addF p a b k 9)) h'):WF S 279 [I64 p,aggV .u8 a,aggV .u8 b,I64 k] h Q:=by
 refine WF_fn (fn:=c279) rfl rfl ?_
 dsimp only[c279,oO,oM,oS,oG,oK,oE,oL,oF,oX,oN]
 have a9:=ha.1
 have b9:=hb.1
 ((try simp (maxSteps:=3000000) (dsimp:=false) (disch:=first|omega|simp only[lnx];omega) only[↓ypre,ypost,↓reduceIte,reduceEqDiff,reduceAdd,reduceSub,reduceLeDiff,zz0,ynew,aggV,cellsL_cel,cel_all,zeros9]);try simp only[yback])
 generalize hH1:AH.new h _=H1
 obtain⟨hb1,p1,n1⟩:=new_facts hH1
 generalize hH2:AH.new H1 _=H2
 obtain⟨hb2,p2,n2⟩:=new_facts hH2
 generalize hH3:AH.new H2 _=H3
 obtain⟨hb3,p3,n3⟩:=new_facts hH3
 have e0:addF p a b k 0=a:=by simp[addF,gen]
 refine WC_loop_inv (fun m f K1=>∃ (i:Nat),m=9-i∧i≤9∧f 0=I64 p∧f 3=I64 k∧f 5=.pointer (some ⟨h.length,0,none⟩)∧f 6=.pointer (some ⟨H1.length,0,none⟩)∧f 8=.pointer (some ⟨H2.length,0,none⟩)∧f 9=I64 i∧(h<+:K1)∧(K1.get h.length=some ⟨cel .u8 (addF p a b k i),136,false,true⟩)∧(K1.get H1.length=some ⟨cel .u8 b,136,false,true⟩)∧(K1.get H2.length=some ⟨cel .u8 (List.replicate 9 0),136,false,true⟩)) ?_ (9-0) _ _ ⟨0,rfl,by omega,(by first|rfl|simp[upd_apply]),(by first|rfl|simp[upd_apply]),(by first|rfl|simp[upd_apply]),(by first|rfl|simp[upd_apply]),(by first|rfl|simp[upd_apply]),(by first|rfl|simp[upd_apply]),p1.trans (p2.trans p3),(by rw[e0];exact pre_get (p2.trans p3) hb1),pre_get p3 hb2,hb3⟩
 rintro m f K1 ⟨i,rfl,hi,f0,f3,f5,f6,f8,f9,pp,g1,g2,g3⟩
 have lF:=addF_len (p:=p) (k:=k) (a:=a) (b:=b) (i:=i) a9 (by omega)
 by_cases hlt:(i:Int)<9
 ·have ba:=ha.2 i (by omega)
  have bb:=hb.2 i (by omega)
  have c1:=cel_get (k:=.u8) (q:=addF p a b k i) (j:=i) (by omega)
  rw[addF_at (Nat.le_refl _)] at c1
  have c2:=cel_get (k:=.u8) (q:=b) (j:=i) (by omega)
  have kb:-255000≤k*b.getD i 0∧k*b.getD i 0≤255000:=by
   generalize b.getD i 0=y at bb
   constructor
   ·have:=Int.mul_le_mul_of_nonneg_right (show -k≤1000 by omega) bb.1
    have h2:-k*y = -(k*y):=Int.neg_mul k y
    omega
   ·have:=Int.mul_le_mul_of_nonneg_right hk.2 bb.1
    omega
  have mi:=md_in (x:=a.getD i 0+k*b.getD i 0) hp.1
  have st:=cel_set (k:=.u8) (q:=addF p a b k i) (j:=i) (x:=md p (a.getD i 0+k*b.getD i 0)) (by omega)
  rw[addF_set a9 (by omega)] at st
  have ia:∀ m:Nat,ixaV 9 1 (.pointer (some ⟨m,0,none⟩)) (I64 i)=_:=fun m=>ixaV_ptr ⟨by omega,by omega⟩
  have w1:IntKind.i64.wrap (k*b.getD i 0)=k*b.getD i 0:=wrap64_in (by omega) (by omega)
  have w2:IntKind.i64.wrap (a.getD i 0+k*b.getD i 0)=a.getD i 0+k*b.getD i 0:=wrap64_in (by omega) (by omega)
  ((try simp (maxSteps:=3000000) (dsimp:=false) (disch:=first|omega|simp only[lnx];omega) only[↓ypre,ypost,↓reduceIte,reduceEqDiff,reduceAdd,reduceSub,reduceLeDiff,zz0,ynew,f0,f3,f5,f6,f8,f9,decide_eq_true hlt,↓WX_ixa,ia,Int.toNat_natCast,Nat.mul_one,rd1_of g1,rd1_of g2,c1,c2,wrap64_in,w1,w2]);try simp only[yback])
  refine s_l01Mod hp ?_
  ((try simp (maxSteps:=3000000) (dsimp:=false) (disch:=first|omega|simp only[lnx];omega) only[↓ypre,ypost,↓reduceIte,reduceEqDiff,reduceAdd,reduceSub,reduceLeDiff,zz0,ynew,f0,f3,f5,f6,f8,f9,wrap8_in,↓WX_ixa,ia,Int.toNat_natCast,Nat.mul_one,wr_of g1,st,cel_len,lF,wrap64_in]);try simp only[yback])
  refine⟨by omega,?_⟩
  ((try simp (maxSteps:=3000000) (dsimp:=false) (disch:=first|omega|simp only[lnx];omega) only[↓ypre,ypost,↓reduceIte,reduceEqDiff,reduceAdd,reduceSub,reduceLeDiff,zz0,ynew,f0,f3,f5,f6,f8,f9,wrap64_in]);try simp only[yback])
  refine InvQ_go (9-(i+1)) (by omega) ⟨(i+1),rfl,by omega,(by first|rfl|exact f0|(simp only[upd_apply];rfl)|(show I64 _=_;congr 1;omega)),(by first|rfl|exact f3|(simp only[upd_apply];rfl)|(show I64 _=_;congr 1;omega)),(by first|rfl|exact f5|(simp only[upd_apply];rfl)|(show I64 _=_;congr 1;omega)),(by first|rfl|exact f6|(simp only[upd_apply];rfl)|(show I64 _=_;congr 1;omega)),(by first|rfl|exact f8|(simp only[upd_apply];rfl)|(show I64 _=_;congr 1;omega)),(by first|rfl|exact f9|(simp only[upd_apply];rfl)|(show I64 _=_;congr 1;omega)),(pre_put pp (Nat.le_refl _)),(get_put_same (get_lt g1)),(by rw[get_put_ne (by omega)];exact g2),(by rw[get_put_ne (by omega)];exact g3)⟩
 ·have ei:i=9:=by omega
  subst ei
  have t9:(cel .u8 (addF p a b k 9)).take 9=cel .u8 (addF p a b k 9):=List.take_of_length_le (by rw[cel_len,lF];exact Nat.le_refl _)
  have w9:=wr_full (vs:=cel .u8 (addF p a b k 9)) g3 (by rw[cel_len,lF];rfl)
  have l3:=get_lt g3
  ((try simp (maxSteps:=3000000) (dsimp:=false) (disch:=first|omega|simp only[lnx];omega) only[↓ypre,ypost,↓reduceIte,reduceEqDiff,reduceAdd,reduceSub,reduceLeDiff,zz0,ynew,f0,f3,f5,f6,f8,f9,decide_eq_false hlt,rdn_of g1,cel_len,lF,t9,cel_all,w9,rdn_put_same]);try simp only[yback])
  exact hQ _ (pre_put pp (by omega))
def toldL (L:List (List Int)):List (List Int):=L.filter fun q=>!hasZ q
theorem toldL_snoc {L:List (List Int)} {q:List Int}:toldL (L++[q])=if hasZ q=true then toldL L else toldL L++[q]:=by
 unfold toldL
 rw[List.filter_append]
 cases h:hasZ q<;>simp[h]
theorem toldL_len {L:List (List Int)}:(toldL L).length≤L.length:=List.length_filter_le _ _
theorem WayZ.putz {lo a b n:Nat} {h:AH} {sv:Value} {L:List (List Int)} {c:Blk} (o:WayZ lo a b h sv L) (hn:n<lo):WayZ lo a b (h.put n c) sv L:=by
 obtain⟨hw,o|⟨kb,h1,h2,h3,h4⟩⟩:=o
 ·exact⟨hw,.inl o⟩
 ·exact⟨hw,.inr ⟨kb,h1,h2,h3,by rw[get_put_ne (by omega)];exact h4⟩⟩
theorem WayZ.els {lo a b:Nat} {h:AH} {sv:Value} {L:List (List Int)} (o:WayZ lo a b h sv L):Els .u8 27 h sv L:=by
 obtain⟨hw,⟨rfl,rfl⟩|⟨kb,h1,h2,h3,h4⟩⟩:=o
 ·exact .inl ⟨rfl,2,by omega,rfl⟩
 ·exact InE.rd (a:=lo) (b:=h.length) (.inr ⟨kb,_,false,⟨h2,get_lt h4⟩,h1,h4,hw⟩)
theorem WayZ.kN {lo lo' a b:Nat} {h:AH} {sv:Value} {L:List (List Int)} (o:WayZ lo a b h sv L) (bl:Byt 27 L) (hl:lo'≤lo):KN lo' h fun h'=>Prods h' sv L:=fun h' l g=>by
 refine⟨WayZ.els (lo:=lo) (a:=a) (b:=b) ?_,bl⟩
 obtain⟨hw,o|⟨kb,h1,h2,h3,h4⟩⟩:=o
 ·exact⟨hw,.inl o⟩
 ·exact⟨hw,.inr ⟨kb,h1,h2,h3,(g kb (by omega) (get_lt h4)).trans h4⟩⟩
theorem s_l03Told {x:Sch} {v w:Value} {L:List (List Int)} {h:AH} {Q:Value→AH→Prop} (hv:isOne v=true) (hw:Prods h w L) (ll:L.length≤100)
  (hQ:∀ (w':Value) (h':AH),h<+:h'→KN h.length h' (fun h2=>Prods h2 w' (toldL L))→Q (schV ⟨x.p,x.n,x.m,x.k,toldL L⟩ w') h'):WF S 155 [schV x v,w] h Q:=by
 refine WF_fn (fn:=c155) rfl rfl ?_
 dsimp only[c155,oO,oM,oS,oG,oK,oE,oL,oF,oX,oN]
 ((try simp (maxSteps:=3000000) (dsimp:=false) (disch:=first|omega|simp only[lnx];omega) only[↓ypre,ypost,↓reduceIte,reduceEqDiff,reduceAdd,reduceSub,reduceLeDiff,zz0,ynew,schV,hv]);try simp only[yback])
 generalize hH1:AH.new h _=H1
 obtain⟨hb1,p1,n1⟩:=new_facts hH1
 generalize hH2:AH.new H1 _=H2
 obtain⟨hb2,p2,n2⟩:=new_facts hH2
 have g1:=pre_get p2 hb1
 ((try simp (maxSteps:=3000000) (dsimp:=false) (disch:=first|omega|simp only[lnx];omega) only[↓ypre,ypost,↓reduceIte,reduceEqDiff,reduceAdd,reduceSub,reduceLeDiff,zz0,ynew,rdn_of g1]);try simp only[yback])
 refine s_l01Empty (x:=x) hv fun H3 p3=>?_
 ((try simp (maxSteps:=3000000) (dsimp:=false) (disch:=first|omega|simp only[lnx];omega) only[↓ypre,ypost,↓reduceIte,reduceEqDiff,reduceAdd,reduceSub,reduceLeDiff,zz0,ynew,schV]);try simp only[yback])
 generalize hH4:AH.new H3 _=H4
 obtain⟨hb4,p4,n4⟩:=new_facts hH4
 have g2:=pre_get p3 hb2
 have q3:=pre_len p3
 have P3:h<+:H3:=p1.trans (p2.trans p3)
 have w0:WayZ H4.length H4.length H4.length H4 (.slice none 0 2) (toldL (L.take 0)):=⟨fun r hr=>by simp[toldL] at hr,.inl ⟨rfl,rfl⟩⟩
 have elen:=hw.1.len
 refine WC_loop_inv (fun m f K1=>∃ (i:Nat) (sv:Value),m=L.length-i∧i≤L.length∧f 1=w∧f 4=.pointer (some ⟨H1.length,0,none⟩)∧f 5=.pointer (some ⟨H3.length,0,none⟩)∧f 6=I64 i∧(H3<+:K1)∧(H4.length≤K1.length)∧(OwnB K1 H3.length [I64 x.p,I64 x.n,I64 x.m,I64 x.k,sv] true)∧(WayZ H4.length H4.length H4.length K1 sv (toldL (L.take i)))∧(Byt 27 (toldL (L.take i)))) ?_ (L.length-0) _ _ ⟨0,.slice none 0 2,rfl,by omega,(by first|rfl|simp[upd_apply]),(by first|rfl|simp[upd_apply]),(by first|rfl|simp[upd_apply]),(by first|rfl|simp[upd_apply]),p4,Nat.le_refl _,⟨_,hb4⟩,w0,(fun _ h=>by simp[toldL] at h)⟩
 rintro m f K1 ⟨i,sv,rfl,hi,f1,f4,f5,f6,pp,l1,g5,ww,bl⟩
 obtain⟨e5,g5⟩:=g5
 by_cases hlt:(i:Int)<L.length
 ·have hi:i<L.length:=by omega
  obtain⟨nn,off,ix,rd⟩:=((hw.pre (P3.trans pp)).1).at hi
  have by27:By 27 (L.getD i []):=⟨hw.1.wid hi,fun j hj=>hw.2 i hi j hj⟩
  have et:toldL (L.take (i+1))=if hasZ (L.getD i [])=true then toldL (L.take i) else toldL (L.take i)++[L.getD i []]:=by rw[take_next (d:=[]) hi,toldL_snoc]
  generalize L.getD i []=q at rd by27 et
  have q27:=by27.1
  have r27:K1.rdn nn off 27=some (cel .u8 q):=by
   have:=rd.1 0 27 (by omega)
   rwa [Nat.add_zero,List.drop_zero,List.take_of_length_le (by omega)] at this
  have c0:(cel .u8 q).take 9=cel .u8 (seg q 0):=by have:=cel_seg (q:=q) (f:=0);rwa [Nat.zero_mul,List.drop_zero] at this
  have c1:((cel .u8 q).drop 9).take 9=cel .u8 (seg q 1):=cel_seg (f:=1)
  have c2:((cel .u8 q).drop 18).take 9=cel .u8 (seg q 2):=cel_seg (f:=2)
  have n0:=seg_n9 q27 (show 0<3 by omega)
  have n1':=seg_n9 q27 (show 1<3 by omega)
  have n2':=seg_n9 q27 (show 2<3 by omega)
  ((try simp (maxSteps:=3000000) (dsimp:=false) (disch:=first|omega|simp only[lnx];omega) only[↓ypre,ypost,↓reduceIte,reduceEqDiff,reduceAdd,reduceSub,reduceLeDiff,zz0,ynew,f1,f4,f5,f6,elen,decide_eq_true hlt,ix,r27,cel_all,cel_len,q27,sp27z q27,zrep27,splice_27 q27,c0]);try simp only[yback])
  generalize hK2:AH.new K1 _=K2
  obtain⟨hb7,p7,n7⟩:=new_facts hK2
  refine s_l01Zero n0 fun K3 pa=>?_
  have g7:=pre_get pa hb7
  cases z0:isZ (seg q 0) with
  | true=>
   have hz:hasZ q=true:=by unfold hasZ;rw[z0];rfl
   rw[hz,if_pos rfl] at et
   ((try simp (maxSteps:=3000000) (dsimp:=false) (disch:=first|omega|simp only[lnx];omega) only[↓ypre,ypost,↓reduceIte,reduceEqDiff,reduceAdd,reduceSub,reduceLeDiff,zz0,ynew,f1,f4,f5,f6,wrap64_in]);try simp only[yback])
   refine InvQ_go (L.length-(i+1)) (by omega) ⟨(i+1),sv,rfl,by omega,(by first|rfl|exact f1|(simp only[upd_apply];rfl)|(show I64 _=_;congr 1;omega)),(by first|rfl|exact f4|(simp only[upd_apply];rfl)|(show I64 _=_;congr 1;omega)),(by first|rfl|exact f5|(simp only[upd_apply];rfl)|(show I64 _=_;congr 1;omega)),(by first|rfl|exact f6|(simp only[upd_apply];rfl)|(show I64 _=_;congr 1;omega)),(pp.trans (p7.trans pa)),(by have:=pre_len (p7.trans pa);omega),⟨_,pre_get (p7.trans pa) g5⟩,(by rw[et];exact ww.pre (p7.trans pa)),(by rw[et];exact bl)⟩
  | false=>
   ((try simp (maxSteps:=3000000) (dsimp:=false) (disch:=first|omega|simp only[lnx];omega) only[↓ypre,ypost,↓reduceIte,reduceEqDiff,reduceAdd,reduceSub,reduceLeDiff,zz0,ynew,f1,f4,f5,f6,rdn_of g7,cel_len,q27,c1]);try simp only[yback])
   refine s_l01Zero n1' fun K4 pb=>?_
   have g7:=pre_get pb g7
   cases z1:isZ (seg q 1) with
   | true=>
    have hz:hasZ q=true:=by unfold hasZ;rw[z0,z1];rfl
    rw[hz,if_pos rfl] at et
    ((try simp (maxSteps:=3000000) (dsimp:=false) (disch:=first|omega|simp only[lnx];omega) only[↓ypre,ypost,↓reduceIte,reduceEqDiff,reduceAdd,reduceSub,reduceLeDiff,zz0,ynew,f1,f4,f5,f6,wrap64_in]);try simp only[yback])
    refine InvQ_go (L.length-(i+1)) (by omega) ⟨(i+1),sv,rfl,by omega,(by first|rfl|exact f1|(simp only[upd_apply];rfl)|(show I64 _=_;congr 1;omega)),(by first|rfl|exact f4|(simp only[upd_apply];rfl)|(show I64 _=_;congr 1;omega)),(by first|rfl|exact f5|(simp only[upd_apply];rfl)|(show I64 _=_;congr 1;omega)),(by first|rfl|exact f6|(simp only[upd_apply];rfl)|(show I64 _=_;congr 1;omega)),(pp.trans (p7.trans (pa.trans pb))),(by have:=pre_len (p7.trans (pa.trans pb));omega),⟨_,pre_get (p7.trans (pa.trans pb)) g5⟩,(by rw[et];exact ww.pre (p7.trans (pa.trans pb))),(by rw[et];exact bl)⟩
   | false=>
    ((try simp (maxSteps:=3000000) (dsimp:=false) (disch:=first|omega|simp only[lnx];omega) only[↓ypre,ypost,↓reduceIte,reduceEqDiff,reduceAdd,reduceSub,reduceLeDiff,zz0,ynew,f1,f4,f5,f6,rdn_of g7,cel_len,q27,c2]);try simp only[yback])
    refine s_l01Zero n2' fun K5 pc=>?_
    have g7:=pre_get pc g7
    cases z2:isZ (seg q 2) with
    | true=>
    have hz:hasZ q=true:=by unfold hasZ;rw[z0,z1,z2];rfl
    rw[hz,if_pos rfl] at et
    ((try simp (maxSteps:=3000000) (dsimp:=false) (disch:=first|omega|simp only[lnx];omega) only[↓ypre,ypost,↓reduceIte,reduceEqDiff,reduceAdd,reduceSub,reduceLeDiff,zz0,ynew,f1,f4,f5,f6,wrap64_in]);try simp only[yback])
    refine InvQ_go (L.length-(i+1)) (by omega) ⟨(i+1),sv,rfl,by omega,(by first|rfl|exact f1|(simp only[upd_apply];rfl)|(show I64 _=_;congr 1;omega)),(by first|rfl|exact f4|(simp only[upd_apply];rfl)|(show I64 _=_;congr 1;omega)),(by first|rfl|exact f5|(simp only[upd_apply];rfl)|(show I64 _=_;congr 1;omega)),(by first|rfl|exact f6|(simp only[upd_apply];rfl)|(show I64 _=_;congr 1;omega)),(pp.trans (p7.trans (pa.trans (pb.trans pc)))),(by have:=pre_len (p7.trans (pa.trans (pb.trans pc)));omega),⟨_,pre_get (p7.trans (pa.trans (pb.trans pc))) g5⟩,(by rw[et];exact ww.pre (p7.trans (pa.trans (pb.trans pc)))),(by rw[et];exact bl)⟩
    | false=>
     have hz:hasZ q=false:=by unfold hasZ;rw[z0,z1,z2];rfl
     rw[hz,if_neg (by decide)] at et
     have P5:K1<+:K5:=p7.trans (pa.trans (pb.trans pc))
     have L5:=pre_len P5
     have g55:=pre_get P5 g5
     have t27:(cel .u8 q).take 27=cel .u8 q:=List.take_of_length_le (by rw[cel_len,q27];exact Nat.le_refl _)
     have tl:=toldL_len (L:=L.take i)
     have tk:(L.take i).length=i:=by rw[List.length_take];omega
     ((try simp (maxSteps:=3000000) (dsimp:=false) (disch:=first|omega|simp only[lnx];omega) only[↓ypre,ypost,↓reduceIte,reduceEqDiff,reduceAdd,reduceSub,reduceLeDiff,zz0,ynew,f1,f4,f5,f6,rd1_of g55,rdn_of g7,cel_len,q27,t27,zrep27,sp27z q27,fillL,cel_all,List.append_nil,List.length_replicate]);try simp only[yback])
     refine (ww.pre P5).app (q:=q) q27 (by omega) (by omega) (by omega) fun sv' H' l' pre' keep' w'=>?_
     have g6:=keep' _ _ (.inl (by omega)) g55
     have lt6:=get_lt g6
     ((try simp (maxSteps:=3000000) (dsimp:=false) (disch:=first|omega|simp only[lnx];omega) only[↓ypre,ypost,↓reduceIte,reduceEqDiff,reduceAdd,reduceSub,reduceLeDiff,zz0,ynew,f1,f4,f5,f6,w'.one,w'.cells,wr_of g6,splice_eq,wrap64_in]);try simp only[yback])
     rw[←et] at w'
     refine InvQ_go (L.length-(i+1)) (by omega) ⟨(i+1),sv',rfl,by omega,(by first|rfl|exact f1|(simp only[upd_apply];rfl)|(show I64 _=_;congr 1;omega)),(by first|rfl|exact f4|(simp only[upd_apply];rfl)|(show I64 _=_;congr 1;omega)),(by first|rfl|exact f5|(simp only[upd_apply];rfl)|(show I64 _=_;congr 1;omega)),(by first|rfl|exact f6|(simp only[upd_apply];rfl)|(show I64 _=_;congr 1;omega)),(pre_put (pre' _ (by omega) (pp.trans P5)) (Nat.le_refl _)),(by rw[len_put];omega),⟨_,get_put_same lt6⟩,(w'.putz (by omega)),(by rw[et];exact byt_snoc bl by27)⟩
 ·have ei:i=L.length:=by omega
  subst ei
  rw[List.take_length] at ww bl
  have g2:=pre_get pp g2
  have lt2:=get_lt g2
  have q1:=pre_len pp
  ((try simp (maxSteps:=3000000) (dsimp:=false) (disch:=first|omega|simp only[lnx];omega) only[↓ypre,ypost,↓reduceIte,reduceEqDiff,reduceAdd,reduceSub,reduceLeDiff,zz0,ynew,f1,f4,f5,f6,elen,decide_eq_false hlt,rdn_of g5,wr_of g2,splice_eq,rdn_put_same,ww.one]);try simp only[yback])
  exact hQ sv _ (pre_put (P3.trans pp) (by omega)) ((ww.putz (by omega)).kN bl (by omega))
def flG' (f:Nat):Nat:=(f+1)%3
def flH' (f:Nat):Nat:=(f+2)%3
def flOne (p:Int) (a b:List Int) (f:Nat) (s:Int):List Int:=wth a (flG' f) (addF p (seg a (flG' f)) (seg b (flG' f)) s 9)
def flTwo (p:Int) (a b:List Int) (f:Nat) (s:Int):List Int:=wth b (flH' f) (addF p (seg b (flH' f)) (seg a (flH' f)) (-s) 9)
def flipL (p:Int) (L:List (List Int)) (i k f:Nat) (s:Int):List (List Int):=(L.set i (flOne p (L.getD i []) (L.getD k []) f s)).set k (flTwo p (L.getD i []) (L.getD k []) f s)
theorem byt_setq {L:List (List Int)} {q:List Int} {i:Nat} (hb:Byt 27 L) (hq:By 27 q):Byt 27 (L.set i q):=fun m hm j hj=>by
 rw[List.length_set] at hm
 by_cases e:m=i
 ·subst e
  rw[List.getD_eq_getElem?_getD (l:=L.set m q),List.getElem?_set_self hm,Option.getD_some]
  exact hq.2 j hj
 ·rw[List.getD_eq_getElem?_getD (l:=L.set i q),List.getElem?_set_ne (Ne.symm e),←List.getD_eq_getElem?_getD]
  exact hb m hm j hj
theorem s_l03Flip {x:Sch} {v:Value} {i k r:Nat} {s:Int} {h:AH} {Q:Value→AH→Prop} (hv:Prods h v x.ps) (ll:x.ps.length≤100) (hp:2≤x.p∧x.p≤5) (hi:i<x.ps.length) (hk:k<x.ps.length) (hf:r<3) (hs:1≤s∧s≤1000)
  (hQ:∀ (w':Value) (h':AH),h<+:h'→KN h.length h' (fun h2=>Prods h2 w' (toldL (flipL x.p x.ps i k r s)))→Q (schV ⟨x.p,x.n,x.m,x.k,toldL (flipL x.p x.ps i k r s)⟩ w') h'):WF S 157 [schV x v,I64 i,I64 k,I64 r,I64 s] h Q:=by
 refine WF_fn (fn:=c157) rfl rfl ?_
 dsimp only[c157,oO,oM,oS,oG,oK,oE,oL,oF,oX,oN]
 have v1:isOne v=true:=hv.one
 ((try simp (maxSteps:=3000000) (dsimp:=false) (disch:=first|omega|simp only[lnx];omega) only[↓ypre,ypost,↓reduceIte,reduceEqDiff,reduceAdd,reduceSub,reduceLeDiff,zz0,ynew,schV,v1]);try simp only[yback])
 generalize hH1:AH.new h _=H1
 obtain⟨hb1,p1,n1⟩:=new_facts hH1
 generalize hH2:AH.new H1 _=H2
 obtain⟨hb2,p2,n2⟩:=new_facts hH2
 have g1:=pre_get p2 hb1
 have gf:flG' r<3:=Nat.mod_lt _ (by omega)
 have gh:flH' r<3:=Nat.mod_lt _ (by omega)
 ((try simp (maxSteps:=3000000) (dsimp:=false) (disch:=first|omega|simp only[lnx];omega) only[↓ypre,ypost,↓reduceIte,reduceEqDiff,reduceAdd,reduceSub,reduceLeDiff,zz0,ynew,rd1_of g1,zrep,fillL]);try simp only[yback])
 have w27:Wid 27 x.ps:=hv.1.widL
 refine copy_zero (hv.1.pre (p1.trans p2)) (by omega) (by omega) fun H3 l3 p3 gB=>?_
 have g1:=pre_get p3 g1
 have g10:=pre_get p3 hb2
 have wg:(IntKind.i64.wrap ((r:Int)+1)).tmod 3=((flG' r:Nat):Int):=by
  have:r=0∨r=1∨r=2:=by omega
  rcases this with rfl|rfl|rfl<;>rfl
 have wh:(IntKind.i64.wrap ((r:Int)+2)).tmod 3=((flH' r:Nat):Int):=by
  have:r=0∨r=1∨r=2:=by omega
  rcases this with rfl|rfl|rfl<;>rfl
 refine WO_cut (fun f:Fr=>f 1=I64 i∧f 2=I64 k∧f 3=I64 r∧f 4=I64 s∧f 5=.pointer (some ⟨h.length,0,none⟩)∧f 10=.pointer (some ⟨H1.length,0,none⟩)∧f 19=.slice (some ⟨H2.length+1,0,none⟩) x.ps.length 27∧True) ⟨(by first|rfl|simp[upd_apply]),(by first|rfl|simp[upd_apply]),(by first|rfl|simp[upd_apply]),(by first|rfl|simp[upd_apply]),(by first|rfl|simp[upd_apply]),(by first|rfl|simp[upd_apply]),(by first|rfl|simp[upd_apply]),trivial⟩ ?_
 rintro f ⟨f1,f2,f3,f4,f5,f10,f19,-⟩
 have el:Els .u8 27 H3 (.slice (some ⟨H2.length+1,0,none⟩) x.ps.length 27) x.ps:=(blk_kN (lo:=0) gB w27 (Nat.zero_le _)).now
 obtain⟨ni,oi,ixi,rdi⟩:=el.at hi
 obtain⟨nk,ok,ixk,rdk⟩:=el.at hk
 have byi:By 27 (x.ps.getD i []):=⟨hv.1.wid hi,fun j hj=>hv.2 i hi j hj⟩
 have byk:By 27 (x.ps.getD k []):=⟨hv.1.wid hk,fun j hj=>hv.2 k hk j hj⟩
 unfold flipL at hQ
 generalize x.ps.getD i []=a at rdi byi hQ
 generalize x.ps.getD k []=b at rdk byk hQ
 have a27:=byi.1
 have b27:=byk.1
 have ri:H3.rdn ni oi 27=some (cel .u8 a):=by
  have:=rdi.1 0 27 (by omega)
  rwa [Nat.add_zero,List.drop_zero,List.take_of_length_le (by omega)] at this
 have rk:H3.rdn nk ok 27=some (cel .u8 b):=by
  have:=rdk.1 0 27 (by omega)
  rwa [Nat.add_zero,List.drop_zero,List.take_of_length_le (by omega)] at this
 have ta:(cel .u8 a).take 27=cel .u8 a:=List.take_of_length_le (by rw[cel_len,a27];exact Nat.le_refl _)
 have tb:(cel .u8 b).take 27=cel .u8 b:=List.take_of_length_le (by rw[cel_len,b27];exact Nat.le_refl _)
 ((try simp (maxSteps:=3000000) (dsimp:=false) (disch:=first|omega|simp only[lnx];omega) only[↓ypre,ypost,↓reduceIte,reduceEqDiff,reduceAdd,reduceSub,reduceLeDiff,zz0,ynew,f1,f2,f3,f4,f5,f10,f19,bin_rem (show (3:Int)≠0 by decide),wg,wh,ixi,ixk,ri,rk,cellsL_cel,cel_all,cel_len,a27,b27,rd1_of g1,ta,tb]);try simp only[yback])
 generalize hK1:AH.new H3 _=K1
 obtain⟨ka,pa,na⟩:=new_facts hK1
 generalize hK2:AH.new K1 _=K2
 obtain⟨kb,pb,nb⟩:=new_facts hK2
 have ka:=pre_get pb ka
 have P2:H3<+:K2:=pa.trans pb
 refine s_l03Factor (q:=a) byi gf fun K3 q3=>⟨q3,?_⟩
 have ka:=pre_get q3 ka
 have kb:=pre_get q3 kb
 ((try simp (maxSteps:=3000000) (dsimp:=false) (disch:=first|omega|simp only[lnx];omega) only[↓ypre,ypost,↓reduceIte,reduceEqDiff,reduceAdd,reduceSub,reduceLeDiff,zz0,ynew,f1,f2,f3,f4,f5,f10,f19,rdn_of kb,cel_len,b27,tb]);try simp only[yback])
 refine s_l03Factor (q:=b) byk gf fun K4 q4=>⟨q4,?_⟩
 have ka:=pre_get q4 ka
 have kb:=pre_get q4 kb
 ((try simp (maxSteps:=3000000) (dsimp:=false) (disch:=first|omega|simp only[lnx];omega) only[↓ypre,ypost,↓reduceIte,reduceEqDiff,reduceAdd,reduceSub,reduceLeDiff,zz0,ynew,f1,f2,f3,f4,f5,f10,f19]);try simp only[yback])
 have sga:=seg_by byi gf
 have sgb:=seg_by byk gf
 refine s_l01Add (k:=s) hp sga sgb (by omega) fun K5 q5=>⟨q5,?_⟩
 ((try simp (maxSteps:=3000000) (dsimp:=false) (disch:=first|omega|simp only[lnx];omega) only[↓ypre,ypost,↓reduceIte,reduceEqDiff,reduceAdd,reduceSub,reduceLeDiff,zz0,ynew,f1,f2,f3,f4,f5,f10,f19]);try simp only[yback])
 have ad:=addF_by (k:=s) (b:=seg b (flG' r)) (i:=9) hp sga (Nat.le_refl _)
 refine s_l03With byi ad gf fun K6 q6=>?_
 have ka:=pre_get (q5.trans q6) ka
 have kb:=pre_get (q5.trans q6) kb
 have P6:H3<+:K6:=P2.trans (q3.trans (q4.trans (q5.trans q6)))
 have gB6:=pre_get P6 gB
 have by1:By 27 (flOne x.p a b r s):=wth_by byi ad gf
 have l1:=by1.1
 have e1:wth a (flG' r) (addF x.p (seg a (flG' r)) (seg b (flG' r)) s 9)=flOne x.p a b r s:=rfl
 rw[e1]
 have i1:ixsV 27 (.slice (some ⟨H2.length+1,0,none⟩) x.ps.length 27) (I64 i)=some (.pointer (some ⟨H2.length+1,i*27,none⟩)):=by
  rw[ixsV_some,if_pos (by omega),Int.toNat_natCast,Nat.zero_add]
 have i2:ixsV 27 (.slice (some ⟨H2.length+1,0,none⟩) x.ps.length 27) (I64 k)=some (.pointer (some ⟨H2.length+1,k*27,none⟩)):=by
  rw[ixsV_some,if_pos (by omega),Int.toNat_natCast,Nat.zero_add]
 have sf1:=splice_flat (k:=.u8) l1 w27 (j:=i) hi
 have fl:=flat_len w27
 have g16:=pre_get P6 g1
 have g106:=pre_get P6 g10
 have n3:=get_lt gB
 ((try simp (maxSteps:=3000000) (dsimp:=false) (disch:=first|omega|simp only[lnx];omega) only[↓ypre,ypost,↓reduceIte,reduceEqDiff,reduceAdd,reduceSub,reduceLeDiff,zz0,ynew,f1,f2,f3,f4,f5,f10,f19,aggV,cellsL_cel,cel_all,cel_len,l1,i1,wr_of gB6,sf1,fl,rdn_of kb,b27,tb,rd1_of g16]);try simp only[yback])
 refine⟨by omega,?_⟩
 generalize hK7:AH.put K6 _ _=K7
 have ne1:H2.length+1≠h.length:=by omega
 have ne10:H2.length+1≠H1.length:=by omega
 have L6:=pre_len P6
 have kp:∀ m c,m≠H2.length+1→AH.get K6 m=some c→AH.get K7 m=some c:=fun m c hm g=>by rw[←hK7,get_put_ne (Ne.symm hm)];exact g
 have gB7:K7.get (H2.length+1)=some ⟨cel .u8 (x.ps.set i (flOne x.p a b r s)).flatten,138,false,false⟩:=by rw[←hK7];exact get_put_same (get_lt gB6)
 have g17:=kp _ _ (by omega) g16
 have g107:=kp _ _ (by omega) g106
 have ka7:=kp _ _ (by omega) ka
 have kb7:=kp _ _ (by omega) kb
 have P7:H2<+:K7:=by rw[←hK7];exact pre_put (p3.trans P6) (by omega)
 refine s_l03Factor (q:=b) byk gh fun K8 q8=>⟨q8,?_⟩
 have ka8:=pre_get q8 ka7
 ((try simp (maxSteps:=3000000) (dsimp:=false) (disch:=first|omega|simp only[lnx];omega) only[↓ypre,ypost,↓reduceIte,reduceEqDiff,reduceAdd,reduceSub,reduceLeDiff,zz0,ynew,f1,f2,f3,f4,f5,f10,f19,rdn_of ka8,cel_len,a27,ta]);try simp only[yback])
 refine s_l03Factor (q:=a) byi gh fun K9 q9=>⟨q9,?_⟩
 have wn:IntKind.i64.wrap (0-s) = -s:=by rw[wrap64_in (by omega) (by omega)];omega
 ((try simp (maxSteps:=3000000) (dsimp:=false) (disch:=first|omega|simp only[lnx];omega) only[↓ypre,ypost,↓reduceIte,reduceEqDiff,reduceAdd,reduceSub,reduceLeDiff,zz0,ynew,f1,f2,f3,f4,f5,f10,f19,wn]);try simp only[yback])
 have tgb:=seg_by byk gh
 have tga:=seg_by byi gh
 refine s_l01Add (k:=-s) hp tgb tga (by omega) fun K10 q10=>⟨q10,?_⟩
 ((try simp (maxSteps:=3000000) (dsimp:=false) (disch:=first|omega|simp only[lnx];omega) only[↓ypre,ypost,↓reduceIte,reduceEqDiff,reduceAdd,reduceSub,reduceLeDiff,zz0,ynew,f1,f2,f3,f4,f5,f10,f19]);try simp only[yback])
 have ad2:=addF_by (k:=-s) (b:=seg a (flH' r)) (i:=9) hp tgb (Nat.le_refl _)
 refine s_l03With byk ad2 gh fun K11 q11=>?_
 have P11:K7<+:K11:=q8.trans (q9.trans (q10.trans q11))
 have gB11:=pre_get P11 gB7
 have g111:=pre_get P11 g17
 have g1011:=pre_get P11 g107
 have by2:By 27 (flTwo x.p a b r s):=wth_by byk ad2 gh
 have l2:=by2.1
 have e2:wth b (flH' r) (addF x.p (seg b (flH' r)) (seg a (flH' r)) (-s) 9)=flTwo x.p a b r s:=rfl
 rw[e2]
 have w27':Wid 27 (x.ps.set i (flOne x.p a b r s)):=wid_set w27 l1
 have lS:(x.ps.set i (flOne x.p a b r s)).length=x.ps.length:=List.length_set
 have sf2:=splice_flat (k:=.u8) l2 w27' (j:=k) (by rw[lS];exact hk)
 have fl':=flat_len w27'
 rw[lS] at fl'
 ((try simp (maxSteps:=3000000) (dsimp:=false) (disch:=first|omega|simp only[lnx];omega) only[↓ypre,ypost,↓reduceIte,reduceEqDiff,reduceAdd,reduceSub,reduceLeDiff,zz0,ynew,f1,f2,f3,f4,f5,f10,f19,aggV,cellsL_cel,cel_all,cel_len,l2,i2,wr_of gB11,sf2,fl',rdn_of g111]);try simp only[yback])
 refine⟨by omega,?_⟩
 generalize hK12:AH.put K11 _ _=K12
 generalize hL:(x.ps.set i (flOne x.p a b r s)).set k (flTwo x.p a b r s)=L at *
 have lL:L.length=x.ps.length:=by rw[←hL,List.length_set,lS]
 have gB12:AH.get K12 (H2.length+1)=some ⟨cel .u8 L.flatten,138,false,false⟩:=by rw[←hK12];exact get_put_same (get_lt gB11)
 have bL:Byt 27 L:=by rw[←hL];exact byt_setq (byt_setq hv.2 by1) by2
 have wL:Wid 27 L:=by rw[←hL];exact wid_set w27' l2
 have pr:Prods K12 (.slice (some ⟨H2.length+1,0,none⟩) x.ps.length 27) L:=⟨by rw[←lL];exact (blk_kN (lo:=0) gB12 wL (Nat.zero_le _)).now,bL⟩
 have P12:H2<+:K12:=by rw[←hK12];exact pre_put (P7.trans P11) (by omega)
 have g1012:=(show AH.get K12 H1.length=AH.get K11 H1.length from by rw[←hK12];exact get_put_ne (by omega)).trans g1011
 refine s_l03Told (x:=x) v1 pr (by omega) fun w' H13 p13 hw'=>?_
 have g13:=pre_get p13 g1012
 have l13:=get_lt g13
 have P13:=P12.trans p13
 ((try simp (maxSteps:=3000000) (dsimp:=false) (disch:=first|omega|simp only[lnx];omega) only[↓ypre,ypost,↓reduceIte,reduceEqDiff,reduceAdd,reduceSub,reduceLeDiff,zz0,ynew,f1,f2,f3,f4,f5,f10,f19,schV,hw'.now.one,wr_of g13,splice_eq,rdn_put_same]);try simp only[yback])
 have q13:=pre_len P12
 exact hQ w' _ (pre_put ((p1.trans p2).trans P13) (by omega)) (KN.mono (KN.put hw' (by omega)) (by omega))
end Go.Proofs.Ytapafdpnmakekaa.X

set_option linter.unusedVariables false
set_option linter.unusedSimpArgs false
set_option maxRecDepth 20000
set_option maxHeartbeats 4000000
namespace Go.Proofs.Ytapafdpnmakekaa.X
open Go Go.RowKit
def flF (L:List (List Int)) (i k:Nat):Nat→List (List Int)
 | 0=>[]
 | r+1=>flF L i k r++(if seg (L.getD i []) r=seg (L.getD k []) r then [[(i:Int),k,r]] else [])
def flK (L:List (List Int)) (i:Nat):Nat→List (List Int)
 | 0=>[]
 | k+1=>flK L i k++(if i=k then [] else flF L i k 3)
def flI (L:List (List Int)):Nat→List (List Int)
 | 0=>[]
 | i+1=>flI L i++flK L i L.length
end Go.Proofs.Ytapafdpnmakekaa.X

set_option linter.unusedVariables false
set_option linter.unusedSimpArgs false
set_option maxRecDepth 20000
set_option maxHeartbeats 4000000
namespace Go.Proofs.Ytapafdpnmakekaa.X
open Go Go.RowKit
open Nat (reduceEqDiff reduceAdd reduceSub reduceLeDiff)
def mOK (x:Sch) (L R:List (List Int)):Bool:=(isMat x.p x.m L&&decide ((L.length:Int)=x.n))&&(isMat x.p x.k R&&decide ((R.length:Int)=x.m))
def mcX (x:Sch) (L R:List (List Int)):Int:=if isX x=true then (if mOK x L R=true then 0 else 2) else 1
theorem i_matricesCode {v u z:Value} {x:Sch} {L R:List (List Int)} {h:AH} {Q:Value→AH→Prop} (hv:Prods h v x.ps) (hl:SmallX x.ps) (hu:Rows h u L) (hL:BigM L) (hz:Rows h z R) (hR:BigM R)
  (hQ:∀ h',h<+:h'→Q (I64 (mcX x L R)) h'):WF S 162 [schV x v,u,z] h Q:=by
 refine WF_fn (fn:=c162) rfl rfl ?_
 dsimp only[c162,oO,oM,oS,oG,oK,oE,oL,oF,oX,oN]
 ((try simp (maxSteps:=3000000) (dsimp:=false) (disch:=first|omega|simp only[lnx];omega) only[↓ypre,ypost,↓reduceIte,reduceEqDiff,reduceAdd,reduceSub,reduceLeDiff,zz0,ynew,schV,hv.one]);try simp only[yback])
 generalize hH1:AH.new h _=H1
 obtain⟨hb1,p1,n1⟩:=new_facts hH1
 ((try simp (maxSteps:=3000000) (dsimp:=false) (disch:=first|omega|simp only[lnx];omega) only[↓ypre,ypost,↓reduceIte,reduceEqDiff,reduceAdd,reduceSub,reduceLeDiff,zz0,ynew,rdn_of hb1]);try simp only[yback])
 refine i_IsScheme (x:=x) (hv.pre p1) hl fun H2 p2=>?_
 have p12:=p1.trans p2
 have hb2:=pre_get p2 hb1
 have hQ2:=hQ _ p12
 unfold mcX at hQ2
 cases h1:isX x with
 | false=>
  rw[h1,if_neg (by decide)] at hQ2
  ((try simp (maxSteps:=3000000) (dsimp:=false) (disch:=first|omega|simp only[lnx];omega) only[↓ypre,ypost,↓reduceIte,reduceEqDiff,reduceAdd,reduceSub,reduceLeDiff,zz0,ynew]);try simp only[yback])
  exact hQ2
 | true=>
  rw[h1,if_pos rfl] at hQ2
  unfold mOK at hQ2
  ((try simp (maxSteps:=3000000) (dsimp:=false) (disch:=first|omega|simp only[lnx];omega) only[↓ypre,ypost,↓reduceIte,reduceEqDiff,reduceAdd,reduceSub,reduceLeDiff,zz0,ynew,rd1_of hb2]);try simp only[yback])
  refine i_isMatrix (hu.pre p12) hL.1 hL.2 ?_
  cases h2:(isMat x.p x.m L&&decide ((L.length:Int)=x.n)) with
  | false=>
   rw[h2,Bool.false_and,if_neg (by decide)] at hQ2
   ((try simp (maxSteps:=3000000) (dsimp:=false) (disch:=first|omega|simp only[lnx];omega) only[↓ypre,ypost,↓reduceIte,reduceEqDiff,reduceAdd,reduceSub,reduceLeDiff,zz0,ynew]);try simp only[yback])
   exact hQ2
  | true=>
   rw[h2,Bool.true_and] at hQ2
   ((try simp (maxSteps:=3000000) (dsimp:=false) (disch:=first|omega|simp only[lnx];omega) only[↓ypre,ypost,↓reduceIte,reduceEqDiff,reduceAdd,reduceSub,reduceLeDiff,zz0,ynew,rd1_of hb2]);try simp only[yback])
   refine i_isMatrix (hz.pre p12) hR.1 hR.2 ?_
   cases h3:(isMat x.p x.k R&&decide ((R.length:Int)=x.m)) with
   | false=>
    rw[h3,if_neg (by decide)] at hQ2
    ((try simp (maxSteps:=3000000) (dsimp:=false) (disch:=first|omega|simp only[lnx];omega) only[↓ypre,ypost,↓reduceIte,reduceEqDiff,reduceAdd,reduceSub,reduceLeDiff,zz0,ynew]);try simp only[yback])
    exact hQ2
   | true=>
    rw[h3,if_pos rfl] at hQ2
    ((try simp (maxSteps:=3000000) (dsimp:=false) (disch:=first|omega|simp only[lnx];omega) only[↓ypre,ypost,↓reduceIte,reduceEqDiff,reduceAdd,reduceSub,reduceLeDiff,zz0,ynew]);try simp only[yback])
    exact hQ2
def valI (p:Int) (l r q:List Int):Int:=(dot (seg q 0) l l.length).tmod p*(dot (seg q 1) r r.length).tmod p
def stM (p:Int) (l r:List Int) (ps:List (List Int)):Nat→Nat→Int
 | 0,_=>0
 | t+1,j=>(stM p l r ps t j+(ps.getD t []).getD (18+j) 0*valI p l r (ps.getD t [])).tmod p
theorem valI_in {p:Int} {l r q:List Int} (hp:2≤p∧p≤5) (hq:By 27 q) (hl:l.length≤9) (hr:r.length≤9) (al:allIn p l=true) (ar:allIn p r=true):0≤valI p l r q∧valI p l r q≤16:=by
 have d1:=dot_in (hq.seg (i:=0) (by omega)) al hp (Nat.le_refl _) hl
 have d2:=dot_in (hq.seg (i:=1) (by omega)) ar hp (Nat.le_refl _) hr
 have t1:=tmod_nn (J:=p) d1.1 (by omega)
 have t2:=tmod_nn (J:=p) d2.1 (by omega)
 refine⟨Int.mul_nonneg t1.1 t2.1,?_⟩
 have:valI p l r q≤4*4:=Int.le_trans (Int.mul_le_mul_of_nonneg_right (show _≤(4:Int) by omega) t2.1) (Int.mul_le_mul_of_nonneg_left (by omega) (by decide))
 omega
theorem stM_in {p:Int} {l r:List Int} {ps:List (List Int)} (hp:2≤p∧p≤5) (hps:Byt 27 ps) (hw:Wid 27 ps) (hl:l.length≤9) (hr:r.length≤9) (al:allIn p l=true) (ar:allIn p r=true):∀ {t:Nat},t≤ps.length→∀ j,j<9→0≤stM p l r ps t j∧stM p l r ps t j<p
 | 0,_,j,_=>by simp only[stM];omega
 | t+1,ht,j,hj=>by
  have ih:=stM_in hp hps hw hl hr al ar (t:=t) (by omega) j hj
  have hq:By 27 (ps.getD t []):=⟨hw _ (by rw[List.getD_eq_getElem?_getD,List.getElem?_eq_getElem (by omega)];exact List.getElem_mem _),fun i hi=>hps t (by omega) i hi⟩
  have v:=valI_in hp hq hl hr al ar
  have c:=hq.2 (18+j) (by omega)
  have m:=Int.mul_nonneg c.1 v.1
  simp only[stM]
  exact tmod_nn (by omega) (by omega)
theorem gen_set {N c:Nat} {f g:Nat→Int} (hc:c<N) (x:Int) (hx:x=f c):(gen N fun j=>if j<c then f j else g j).set c x=gen N fun j=>if j<c+1 then f j else g j:=by
 refine gen_ext (by rw[List.length_set,gen_len]) fun j hj=>?_
 rw[List.getD_eq_getElem?_getD,List.getElem?_set]
 by_cases e:c=j
 ·subst e
  rw[if_pos rfl,if_pos (by rw[gen_len];exact hc),if_pos (by omega),hx]
  rfl
 ·rw[if_neg e,←List.getD_eq_getElem?_getD,gen_get hj]
  by_cases h1:j<c
  ·rw[if_pos h1,if_pos (by omega)]
  ·rw[if_neg h1,if_neg (by omega)]
theorem zrep_gen:∀ {N:Nat},zrep N [I64 0]=(gen N fun _=>0).map (Value.int .i64)
 | 0=>rfl
 | N+1=>by
  have e:(gen (N+1) fun _=>(0:Int))=0::gen N fun _=>0:=by
   refine (gen_ext (by simp[gen_len]) fun i hi=>?_).symm
   cases i with
   | zero=>rfl
   | succ i=>
    rw[List.getD_cons_succ,gen_get (by omega)]
  rw[e,zrep,zrep_gen (N:=N)]
  rfl
theorem mks_gen {N:Nat} {h:AH} (hN:N≤1000000):mksV 2 1 8 [I64 0] (I64 N) h=some (sl h.length N,h.new ⟨(gen N fun _=>0).map (Value.int .i64),2,false,true⟩):=by
 rw[mksV_int,if_pos (by omega),Int.toNat_natCast,zrep_gen]
 rfl
theorem i_makes {p:Int} {N:Nat} {v u z:Value} {l r:List Int} {ps:List (List Int)} {h:AH} {Q:Value→AH→Prop} (hv:Prods h v ps) (hl:ps.length≤30) (hp:2≤p∧p≤5) (ll:l.length≤9) (lr:r.length≤9) (al:allIn p l=true) (ar:allIn p r=true)
  (hN:1≤N∧N≤9) (hu:Ints h u l) (hz:Ints h z r) (hQ:∀ n full h',h.length≤n→h<+:h'→Lst h' n (gen N (stM p l r ps ps.length)) full→Q (sl n N) h'):WF S 164 [I64 p,v,I64 N,u,z] h Q:=by
 refine WF_fn (fn:=c164) rfl rfl ?_
 dsimp only[c164,oO,oM,oS,oG,oK,oE,oL,oF,oX,oN]
 ((try simp (maxSteps:=3000000) (dsimp:=false) (disch:=first|omega|simp only[lnx];omega) only[↓ypre,ypost,↓reduceIte,reduceEqDiff,reduceAdd,reduceSub,reduceLeDiff,zz0,ynew,mks_gen (N:=N) (h:=h) (by omega)]);try simp only[yback])
 generalize hH1:AH.new h _=H1
 obtain⟨hb1,p1,n1⟩:=new_facts hH1
 have lo0:Lst H1 h.length (gen N (stM p l r ps 0)) true:=hb1
 have z27:=zeros27
 ((try simp (maxSteps:=3000000) (dsimp:=false) (disch:=first|omega|simp only[lnx];omega) only[↓ypre,ypost,↓reduceIte,reduceEqDiff,reduceAdd,reduceSub,reduceLeDiff,zz0,ynew,hv.1.len]);try simp only[yback])
 refine WC_loop_inv (fun m f K1=>∃ (t:Nat),m=ps.length-t∧t≤ps.length∧f 0=I64 p∧f 3=u∧f 4=z∧f 11=sl h.length N∧f 18=v∧f 19=I64 ps.length∧f 20=I64 t∧(h<+:K1)∧(Lst K1 h.length (gen N (stM p l r ps t)) true)) ?_ (ps.length-0) _ _ ⟨0,rfl,by omega,(by first|rfl|simp[upd_apply]),(by first|rfl|simp[upd_apply]),(by first|rfl|simp[upd_apply]),(by first|rfl|simp[upd_apply]),(by first|rfl|simp[upd_apply]),(by first|rfl|simp[upd_apply]),(by first|rfl|simp[upd_apply]),p1,lo0⟩
 rintro m f K1 ⟨t,rfl,ht,f0,f3,f4,f11,f18,f19,f20,pp,lo⟩
 have kh:=pre_len pp
 have klt:=lo.lt
 by_cases hlt:(t:Int)<ps.length
 ·have hj':t<ps.length:=by omega
  have hvK:=hv.pre pp
  obtain⟨n5',off5,hix,hrn,hr1⟩:=hvK.1.at hj'
  have r27:=hrn 0 27 (by omega)
  have wi:=hvK.1.wid hj'
  have hby:=hvK.by hj'
  have tk:(ps.getD t []).take 27=ps.getD t []:=List.take_of_length_le (by omega)
  rw[List.drop_zero,tk,Nat.add_zero] at r27
  have sin:=stM_in hp hv.2 hvK.1.widL ll lr al ar (t:=t) ht
  have stn:∀ j,stM p l r ps (t+1) j=(stM p l r ps t j+(ps.getD t []).getD (18+j) 0*valI p l r (ps.getD t [])).tmod p:=fun _=>rfl
  generalize hq:ps.getD t []=q at *
  have w1:∀ (h1:AH) (e:TypeId),(h1.new ⟨[.int .u8 0,.int .u8 0,.int .u8 0,.int .u8 0,.int .u8 0,.int .u8 0,.int .u8 0,.int .u8 0,.int .u8 0,.int .u8 0,.int .u8 0,.int .u8 0,.int .u8 0,.int .u8 0,.int .u8 0,.int .u8 0,.int .u8 0,.int .u8 0,.int .u8 0,.int .u8 0,.int .u8 0,.int .u8 0,.int .u8 0,.int .u8 0,.int .u8 0,.int .u8 0,.int .u8 0],e,false,true⟩).wr h1.length 0 (cel .u8 q)=some (h1.new ⟨cel .u8 q,e,false,true⟩):=fun h1 e=>wr_all (by rw[cel_len,wi];rfl)
  ((try simp (maxSteps:=3000000) (dsimp:=false) (disch:=first|omega|simp only[lnx];omega) only[↓ypre,ypost,↓reduceIte,reduceEqDiff,reduceAdd,reduceSub,reduceLeDiff,zz0,ynew,f0,f3,f4,f11,f18,f19,f20,decide_eq_true hlt,hix,r27,cel_all,cellsL_cel,cel_len,wi,↓w1,cel_take,tk,wrap64_in]);try simp only[yback])
  have s0:Value.agg (cel .u8 (q.take 9)).toArray=aggV .u8 (seg q 0):=by simp[aggV,seg]
  have s1:Value.agg (cel .u8 ((q.drop 9).take 9)).toArray=aggV .u8 (seg q 1):=by simp[aggV,seg]
  rw[s0]
  generalize hH3:AH.new K1 _=H3
  obtain⟨hb3,p3,n3⟩:=new_facts hH3
  refine i_atF (hby.seg (by omega)) (hu.pre (pp.trans p3)) ll al hp fun H4 p4=>?_
  have hb4:=pre_get p4 hb3
  refine⟨p4,?_⟩
  ((try simp (maxSteps:=3000000) (dsimp:=false) (disch:=first|omega|simp only[lnx];omega) only[↓ypre,ypost,↓reduceIte,reduceEqDiff,reduceAdd,reduceSub,reduceLeDiff,zz0,ynew,f0,f3,f4,f11,f18,f19,f20,rdn_of hb4,cel_len,wi,cel_drop,cel_take]);try simp only[yback])
  rw[s1]
  refine i_atF (hby.seg (by omega)) (hz.pre (pp.trans (p3.trans p4))) lr ar hp fun H5 p5=>?_
  have p35:=p3.trans (p4.trans p5)
  have hb5:=pre_get p5 hb4
  have vin:=valI_in hp hby ll lr al ar
  have evq:(dot (seg q 0) l l.length).tmod p*(dot (seg q 1) r r.length).tmod p=valI p l r q:=rfl
  have l5:=lo.pre p35
  have k5:=pre_len p35
  ((try simp (maxSteps:=3000000) (dsimp:=false) (disch:=first|omega|simp only[lnx];omega) only[↓ypre,ypost,↓reduceIte,reduceEqDiff,reduceAdd,reduceSub,reduceLeDiff,zz0,ynew,f0,f3,f4,f11,f18,f19,f20,wrap64_in,evq,show lenV (sl h.length N)=some (I64 N) from rfl]);try simp only[yback])
  have mx0:gen N (stM p l r ps t)=gen N fun j=>if j<0 then stM p l r ps (t+1) j else stM p l r ps t j:=gen_congr fun j _=>by rw[if_neg (by omega)]
  rw[mx0] at l5
  refine WC_loop_inv (fun m f K2=>∃ (c:Nat),m=N-c∧c≤N∧f 0=I64 p∧f 3=u∧f 4=z∧f 11=sl h.length N∧f 18=v∧f 19=I64 ps.length∧f 20=I64 t∧f 13=.pointer (some ⟨K1.length,0,none⟩)∧f 14=I64 (valI p l r q)∧f 36=I64 N∧f 37=I64 c∧(h<+:K2)∧(Lst K2 h.length (gen N fun j=>if j<c then stM p l r ps (t+1) j else stM p l r ps t j) true)∧(∃ e,K2.get K1.length=some ⟨cel .u8 q,e,false,true⟩)) ?_ (N-0) _ _ ⟨0,rfl,by omega,(by first|rfl|exact f0|(simp[upd_apply];done)),(by first|rfl|exact f3|(simp[upd_apply];done)),(by first|rfl|exact f4|(simp[upd_apply];done)),(by first|rfl|exact f11|(simp[upd_apply];done)),(by first|rfl|exact f18|(simp[upd_apply];done)),(by first|rfl|exact f19|(simp[upd_apply];done)),(by first|rfl|exact f20|(simp[upd_apply];done)),(by first|rfl|simp[upd_apply]),(by first|rfl|simp[upd_apply]),(by first|rfl|simp[upd_apply]),(by first|rfl|simp[upd_apply]),pp.trans p35,l5,⟨_,hb5⟩⟩
  rintro m f K2 ⟨c,rfl,hc,f0,f3,f4,f11,f18,f19,f20,f13,f14,f36,f37,p2,l2,b2⟩
  obtain⟨e2,b2⟩:=b2
  by_cases hlc:(c:Int)<N
  ·have hc':c<N:=by omega
   have ixd:ixsV 1 (sl h.length N) (I64 c)=some (.pointer (some ⟨h.length,c,none⟩)):=by
    rw[Lst.ix (by omega),Int.toNat_natCast]
   have rd:=l2.rd (j:=c) (by rw[gen_len];exact hc')
   rw[gen_get hc',if_neg (Nat.lt_irrefl _)] at rd
   have g1:=cel_get (k:=.u8) (q:=q) (j:=18+c) (by omega)
   have ixa:=ixa_u (n:=K1.length) (off:=18) (len:=9) (kk:=.i64) (j:=c) (by omega)
   have c1:=hby.2 (18+c) (by omega)
   have c2:=sin c (by omega)
   have c3:=Int.mul_nonneg c1.1 vin.1
   have c4:q.getD (18+c) 0*valI p l r q≤255*16:=Int.le_trans (Int.mul_le_mul_of_nonneg_right c1.2 vin.1) (Int.mul_le_mul_of_nonneg_left vin.2 (by decide))
   obtain⟨H6,w6,e6,l6⟩:=l2.wr (j:=c) (x:=(stM p l r ps t c+q.getD (18+c) 0*valI p l r q).tmod p) (by rw[gen_len];exact hc')
   rw[gen_set hc' _ (by rw[stn])] at l6
   ((try simp (maxSteps:=3000000) (dsimp:=false) (disch:=first|omega|simp only[lnx];omega) only[↓ypre,ypost,↓reduceIte,reduceEqDiff,reduceAdd,reduceSub,reduceLeDiff,zz0,ynew,f0,f3,f4,f11,f18,f19,f20,f13,f14,f36,f37,decide_eq_true hlc,ixd,rd,ixa,rd1_of b2,g1,wrap64_in,bin_rem (show p≠0 by omega),w6]);try simp only[yback])
   have b6:∃ e,H6.get K1.length=some ⟨cel .u8 q,e,false,true⟩:=⟨e2,by rw[e6,get_put_ne (by omega)];exact b2⟩
   refine InvQ_go (N-(c+1)) (by omega) ⟨(c+1),rfl,by omega,(by first|rfl|exact f0|(simp only[upd_apply];rfl)|(show I64 _=_;congr 1;omega)),(by first|rfl|exact f3|(simp only[upd_apply];rfl)|(show I64 _=_;congr 1;omega)),(by first|rfl|exact f4|(simp only[upd_apply];rfl)|(show I64 _=_;congr 1;omega)),(by first|rfl|exact f11|(simp only[upd_apply];rfl)|(show I64 _=_;congr 1;omega)),(by first|rfl|exact f18|(simp only[upd_apply];rfl)|(show I64 _=_;congr 1;omega)),(by first|rfl|exact f19|(simp only[upd_apply];rfl)|(show I64 _=_;congr 1;omega)),(by first|rfl|exact f20|(simp only[upd_apply];rfl)|(show I64 _=_;congr 1;omega)),(by first|rfl|exact f13|(simp only[upd_apply];rfl)|(show I64 _=_;congr 1;omega)),(by first|rfl|exact f14|(simp only[upd_apply];rfl)|(show I64 _=_;congr 1;omega)),(by first|rfl|exact f36|(simp only[upd_apply];rfl)|(show I64 _=_;congr 1;omega)),(by first|rfl|exact f37|(simp only[upd_apply];rfl)|(show I64 _=_;congr 1;omega)),(by rw[e6];exact pre_put p2 (Nat.le_refl _)),l6,b6⟩
  have ec:c=N:=by omega
  subst ec
  ((try simp (maxSteps:=3000000) (dsimp:=false) (disch:=first|omega|simp only[lnx];omega) only[↓ypre,ypost,↓reduceIte,reduceEqDiff,reduceAdd,reduceSub,reduceLeDiff,zz0,ynew,f0,f3,f4,f11,f18,f19,f20,f13,f14,f36,f37,decide_eq_false hlc,wrap64_in]);try simp only[yback])
  rw[gen_congr (g':=stM p l r ps (t+1)) (fun j hj=>by rw[if_pos hj])] at l2
  refine InvQ_go (ps.length-(t+1)) (by omega) ⟨(t+1),rfl,by omega,(by first|rfl|exact f0|(simp only[upd_apply];rfl)|(show I64 _=_;congr 1;omega)),(by first|rfl|exact f3|(simp only[upd_apply];rfl)|(show I64 _=_;congr 1;omega)),(by first|rfl|exact f4|(simp only[upd_apply];rfl)|(show I64 _=_;congr 1;omega)),(by first|rfl|exact f11|(simp only[upd_apply];rfl)|(show I64 _=_;congr 1;omega)),(by first|rfl|exact f18|(simp only[upd_apply];rfl)|(show I64 _=_;congr 1;omega)),(by first|rfl|exact f19|(simp only[upd_apply];rfl)|(show I64 _=_;congr 1;omega)),(by first|rfl|exact f20|(simp only[upd_apply];rfl)|(show I64 _=_;congr 1;omega)),p2,l2⟩
 have et:t=ps.length:=by omega
 subst et
 ((try simp (maxSteps:=3000000) (dsimp:=false) (disch:=first|omega|simp only[lnx];omega) only[↓ypre,ypost,↓reduceIte,reduceEqDiff,reduceAdd,reduceSub,reduceLeDiff,zz0,ynew,f0,f3,f4,f11,f18,f19,f20,decide_eq_false hlt]);try simp only[yback])
 exact hQ _ _ _ (Nat.le_refl _) pp lo
theorem mcX_0 {x:Sch} {L R:List (List Int)} (h:mcX x L R=0):isX x=true∧isMat x.p x.m L=true∧(L.length:Int)=x.n∧isMat x.p x.k R=true∧(R.length:Int)=x.m:=by
 unfold mcX at h
 split at h
 ·rename_i h1
  split at h
  ·rename_i h2
   simp only[mOK,Bool.and_eq_true,decide_eq_true_eq] at h2
   exact⟨h1,h2.1.1,h2.1.2,h2.2.1,h2.2.2⟩
  ·omega
 ·omega
structure MF (x:Sch) (L R:List (List Int)) (n m k:Nat):Prop where
 en:x.n=n
 em:x.m=m
 ek:x.k=k
 b:1≤n∧n≤3∧1≤m∧m≤3∧1≤k∧k≤3
 nk:1≤n*k∧n*k≤9
 wL:Wid m L
 wR:Wid k R
 lL:L.length=n
 lR:R.length=m
 fL:L.flatten.length≤9
 fR:R.flatten.length≤9
 aL:allIn x.p L.flatten=true
 aR:allIn x.p R.flatten=true
 hm:isMat x.p m L=true
 hr:isMat x.p k R=true
theorem mf_of {x:Sch} {L R:List (List Int)} (h:mcX x L R=0):∃ n m k,MF x L R n m k:=by
 obtain⟨hx,m1,l1,m2,l2⟩:=mcX_0 h
 obtain⟨zz,hp,hl30,ho⟩:=isX_facts hx
 obtain⟨p,⟨n1,n2⟩,⟨k1,k2⟩,⟨j1,j2⟩,_,_,_⟩:=zz
 obtain⟨n,hn⟩:∃ n:Nat,x.n=n:=⟨x.n.toNat,by omega⟩
 obtain⟨m,hm⟩:∃ m:Nat,x.m=m:=⟨x.m.toNat,by omega⟩
 obtain⟨k,hk⟩:∃ k:Nat,x.k=k:=⟨x.k.toNat,by omega⟩
 rw[hm] at m1
 rw[hk] at m2
 have wL:=isMat_wid m1
 have wR:=isMat_wid m2
 have b1:n*m≤3*3:=Nat.mul_le_mul (by omega) (by omega)
 have b2:m*k≤3*3:=Nat.mul_le_mul (by omega) (by omega)
 have b3:n*k≤3*3:=Nat.mul_le_mul (by omega) (by omega)
 have b4:1*1≤n*k:=Nat.mul_le_mul (by omega) (by omega)
 have lL:L.length=n:=by omega
 have lR:R.length=m:=by omega
 exact⟨n,m,k,hn,hm,hk,by omega,by omega,wL,wR,lL,lR,by rw[flat_len wL,lL];omega,by rw[flat_len wR,lR];omega,allIn_flat m1,allIn_flat m2,m1,m2⟩
def mpF (x:Sch) (L R:List (List Int)):List (List Int):=parts (gen (x.n*x.k).toNat (stM x.p L.flatten R.flatten x.ps x.ps.length)) x.k.toNat x.n.toNat
def mpR (x:Sch) (L R:List (List Int)):List (List Int)×Int:=if mcX x L R=0 then (mpF x L R,0) else ([],mcX x L R)
theorem i_MakeProduct {v u z:Value} {x:Sch} {L R:List (List Int)} {h:AH} {Q:Value→AH→Prop} (hv:Prods h v x.ps) (hl:SmallX x.ps) (hu:Rows h u L) (hL:BigM L) (hz:Rows h z R) (hR:BigM R)
  (hQ:∀ v' h',h<+:h'→OwnRows h h' v' (mpR x L R).1→Q (.tuple #[v',I64 (mpR x L R).2]) h'):WF S 21 [schV x v,u,z] h Q:=by
 refine WF_fn (fn:=c21) rfl rfl ?_
 dsimp only[c21,oO,oM,oS,oG,oK,oE,oL,oF,oX,oN]
 ((try simp (maxSteps:=3000000) (dsimp:=false) (disch:=first|omega|simp only[lnx];omega) only[↓ypre,ypost,↓reduceIte,reduceEqDiff,reduceAdd,reduceSub,reduceLeDiff,zz0,ynew,schV,hv.one]);try simp only[yback])
 generalize hH1:AH.new h _=H1
 obtain⟨hb1,p1,n1⟩:=new_facts hH1
 ((try simp (maxSteps:=3000000) (dsimp:=false) (disch:=first|omega|simp only[lnx];omega) only[↓ypre,ypost,↓reduceIte,reduceEqDiff,reduceAdd,reduceSub,reduceLeDiff,zz0,ynew,rdn_of hb1]);try simp only[yback])
 refine i_matricesCode (x:=x) (hv.pre p1) hl (hu.pre p1) hL (hz.pre p1) hR fun H2 p2=>?_
 have p12:=p1.trans p2
 have hb2:=pre_get p2 hb1
 unfold mpR at hQ
 by_cases hc:mcX x L R=0
 case neg=>
  rw[if_neg hc] at hQ
  ((try simp (maxSteps:=3000000) (dsimp:=false) (disch:=first|omega|simp only[lnx];omega) only[↓ypre,ypost,↓reduceIte,reduceEqDiff,reduceAdd,reduceSub,reduceLeDiff,zz0,ynew,decide_eq_true (show mcX x L R≠0 from hc)]);try simp only[yback])
  exact hQ _ _ p12 (.inl ⟨rfl,rfl⟩)
 rw[if_pos hc] at hQ
 obtain⟨hx,_⟩:=mcX_0 hc
 obtain⟨zz,hp,hl30,ho⟩:=isX_facts hx
 have hp5:=isP_in hp
 obtain⟨n,m,k,mf⟩:=mf_of hc
 have b:=mf.b
 have nk:=mf.nk
 have lL:=mf.lL
 have lR:=mf.lR
 ((try simp (maxSteps:=3000000) (dsimp:=false) (disch:=first|omega|simp only[lnx];omega) only[↓ypre,ypost,↓reduceIte,reduceEqDiff,reduceAdd,reduceSub,reduceLeDiff,zz0,ynew,decide_eq_false (show ¬ mcX x L R≠0 from fun y=>y hc),rd1_of hb2]);try simp only[yback])
 refine i_Concat (hu.pre p12) mf.wL (by omega) (by omega) fun nl fl H3 e3 p3 o3=>?_
 refine⟨p3,?_⟩
 ((try simp (maxSteps:=3000000) (dsimp:=false) (disch:=first|omega|simp only[lnx];omega) only[↓ypre,ypost,↓reduceIte,reduceEqDiff,reduceAdd,reduceSub,reduceLeDiff,zz0,ynew]);try simp only[yback])
 refine i_Concat (hz.pre (p12.trans p3)) mf.wR (by omega) (by omega) fun nr fr H4 e4 p4 o4=>?_
 refine⟨p4,?_⟩
 have enk:IntKind.i64.wrap (x.n*x.k)=((n*k:Nat):Int):=by
  rw[mf.en,mf.ek,←Int.natCast_mul,wrap64_in (by omega) (by omega)]
 ((try simp (maxSteps:=3000000) (dsimp:=false) (disch:=first|omega|simp only[lnx];omega) only[↓ypre,ypost,↓reduceIte,reduceEqDiff,reduceAdd,reduceSub,reduceLeDiff,zz0,ynew,enk]);try simp only[yback])
 have p14:=p12.trans (p3.trans p4)
 refine i_makes (N:=n*k) (hv.pre p14) hl30 hp5 mf.fL mf.fR mf.aL mf.aR nk (o3.pre p4).ints o4.ints fun no fo H5 e5 p5 o5=>?_
 refine⟨p5,?_⟩
 have hb5:=pre_get (p3.trans (p4.trans p5)) hb2
 ((try simp (maxSteps:=3000000) (dsimp:=false) (disch:=first|omega|simp only[lnx];omega) only[↓ypre,ypost,↓reduceIte,reduceEqDiff,reduceAdd,reduceSub,reduceLeDiff,zz0,ynew,rd1_of hb5]);try simp only[yback])
 rw[mf.ek]
 have gl:=gen_len (N:=n*k) (g:=stM x.p L.flatten R.flatten x.ps x.ps.length)
 have oi:=o5.ints
 rw[gl] at oi
 refine i_parted (w:=k) (n:=n) oi (by omega) (by omega) (by omega) fun v6 H6 p6 o6=>?_
 ((try simp (maxSteps:=3000000) (dsimp:=false) (disch:=first|omega|simp only[lnx];omega) only[↓ypre,ypost,↓reduceIte,reduceEqDiff,reduceAdd,reduceSub,reduceLeDiff,zz0,ynew]);try simp only[yback])
 have eF:parts (gen (n*k) (stM x.p L.flatten R.flatten x.ps x.ps.length)) k n=mpF x L R:=by
  unfold mpF
  rw[mf.en,mf.ek,←Int.natCast_mul,Int.toNat_natCast,Int.toNat_natCast,Int.toNat_natCast]
 rw[eF] at o6
 have pp:=p14.trans p5
 exact hQ _ _ (pp.trans p6) (o6.lo (pre_len pp))
end Go.Proofs.Ytapafdpnmakekaa.X

set_option linter.unusedVariables false
set_option linter.unusedSimpArgs false
set_option maxRecDepth 20000
set_option maxHeartbeats 4000000
namespace Go.Proofs.Ytapafdpnmakekaa.X
theorem dot_sm {q ns:List Int}:∀ {k:Nat},dot q ns k=sm k fun i=>q.getD i 0*ns.getD i 0
 | 0=>rfl
 | k+1=>by rw[dot,sm,dot_sm]
theorem Cg.tmod (x p:Int):Cg p (x.tmod p) x:=(show Cg p x (x.tmod p) from tmod_dvd x p).symm
theorem seg_at {q:List Int} {i j:Nat} (hj:j<9):(seg q i).getD j 0=q.getD (i*9+j) 0:=by
 unfold seg
 rw[cut_get hj]
def Sx (ps:List (List Int)) (T:Nat) (a b c:Nat):Int:=sm T fun t=>tm (ps.getD t []) a b c
theorem stM_cg {p:Int} {l r:List Int} {ps:List (List Int)} {j:Nat} (hl:l.length≤9) (hr:r.length≤9):∀ T,Cg p (stM p l r ps T j) (sm l.length fun a=>sm r.length fun b=>l.getD a 0*r.getD b 0*Sx ps T a b j)
 | 0=>by
  show Cg p 0 _
  rw[sm_zero' fun a _=>sm_zero' fun b _=>by show _*(0:Int)=0;rw[Int.mul_zero]]
  exact .rfl'
 | T+1=>by
  have ih:=stM_cg (p:=p) (l:=l) (r:=r) (ps:=ps) (j:=j) hl hr T
  refine (Cg.tmod _ _).trans ?_
  have hv:Cg p (valI p l r (ps.getD T [])) ((sm l.length fun a=>(ps.getD T []).getD a 0*l.getD a 0)*sm r.length fun b=>(ps.getD T []).getD (9+b) 0*r.getD b 0):=by
   unfold valI
   rw[dot_sm,dot_sm]
   have e1:(sm l.length fun i=>(seg (ps.getD T []) 0).getD i 0*l.getD i 0)=sm l.length fun a=>(ps.getD T []).getD a 0*l.getD a 0:=sm_ext fun i hi=>by
    rw[seg_at (by omega),Nat.zero_mul,Nat.zero_add]
   have e2:(sm r.length fun i=>(seg (ps.getD T []) 1).getD i 0*r.getD i 0)=sm r.length fun b=>(ps.getD T []).getD (9+b) 0*r.getD b 0:=sm_ext fun i hi=>by
    rw[seg_at (by omega),Nat.one_mul]
   rw[e1,e2]
   exact (Cg.tmod _ _).mul (Cg.tmod _ _)
  refine (ih.add (Cg.rfl'.mul hv)).trans (.of ?_)
  have e3:(ps.getD T []).getD (18+j) 0*((sm l.length fun a=>(ps.getD T []).getD a 0*l.getD a 0)*sm r.length fun b=>(ps.getD T []).getD (9+b) 0*r.getD b 0)=sm l.length fun a=>sm r.length fun b=>l.getD a 0*r.getD b 0*tm (ps.getD T []) a b j:=by
   rw[←sm_mulr,←sm_mul]
   refine sm_ext fun a _=>?_
   rw[←sm_mul,←sm_mul]
   refine sm_ext fun b _=>?_
   unfold tm
   grind
  rw[e3,←sm_add]
  refine sm_ext fun a _=>?_
  rw[←sm_add]
  refine sm_ext fun b _=>?_
  show _=_*(Sx ps T a b j+tm (ps.getD T []) a b j)
  rw[Int.mul_add]
def ppG (p:Int) (l r:List Int) (m k c:Nat):Int:=(sm m fun j=>l.getD (c / k*m+j) 0*r.getD (j*k+c%k) 0).tmod p
def wn (m k a b c:Nat):Int:=if a%m=b / k∧a / m=c / k∧b%k=c%k then 1 else 0
theorem correct_sum {p:Int} {n m k:Nat} {l r:List Int} {S:Nat→Nat→Nat→Int} {c:Nat} (hc:c<n*k) (hS:∀ a b,a<n*m→b<m*k→Cg p (S a b c) (wn m k a b c)) :
  Cg p (sm (n*m) fun a=>sm (m*k) fun b=>l.getD a 0*r.getD b 0*S a b c) (sm m fun j=>l.getD (c / k*m+j) 0*r.getD (j*k+c%k) 0):=by
 obtain⟨c1,c2,ec⟩:=dm_of hc
 have h1:Cg p (sm (n*m) fun a=>sm (m*k) fun b=>l.getD a 0*r.getD b 0*S a b c) (sm (n*m) fun a=>sm (m*k) fun b=>l.getD a 0*r.getD b 0*wn m k a b c):=
  Cg.sm fun a ha=>Cg.sm fun b hb=>Cg.rfl'.mul (hS a b ha hb)
 refine h1.trans (.of ?_)
 rw[sm_rows]
 have h2:(sm n fun i=>sm m fun j=>sm (m*k) fun b=>l.getD (i*m+j) 0*r.getD b 0*wn m k (i*m+j) b c)=sm n fun i=>if i=c / k then sm m (fun j=>l.getD (i*m+j) 0*r.getD (j*k+c%k) 0) else 0:=by
  refine sm_ext fun i hi=>?_
  by_cases e:i=c / k
  ·rw[if_pos e]
   refine sm_ext fun j hj=>?_
   rw[sm_rows]
   have h3:(sm m fun j'=>sm k fun l'=>l.getD (i*m+j) 0*r.getD (j'*k+l') 0*wn m k (i*m+j) (j'*k+l') c)=sm m fun j'=>if j'=j then l.getD (i*m+j) 0*r.getD (j'*k+c%k) 0 else 0:=by
    refine sm_ext fun j' hj'=>?_
    by_cases e2:j'=j
    ·rw[if_pos e2]
     have h4:(sm k fun l'=>l.getD (i*m+j) 0*r.getD (j'*k+l') 0*wn m k (i*m+j) (j'*k+l') c)=sm k fun l'=>if l'=c%k then l.getD (i*m+j) 0*r.getD (j'*k+l') 0 else 0:=by
      refine sm_ext fun l' hl'=>?_
      unfold wn
      rw[(dm hj).1,(dm hj).2,(dm hl').1,(dm hl').2]
      by_cases e3:l'=c%k
      ·rw[if_pos ⟨e2.symm,e,e3⟩,if_pos e3,Int.mul_one]
      ·rw[if_neg (fun h=>e3 h.2.2),if_neg e3,Int.mul_zero]
     rw[h4,sm_delta c2]
    ·rw[if_neg e2]
     refine sm_zero' fun l' hl'=>?_
     unfold wn
     rw[(dm hj).1,(dm hj).2,(dm hl').1,(dm hl').2,if_neg (fun h=>e2 h.1.symm),Int.mul_zero]
   rw[h3,sm_delta hj]
  ·rw[if_neg e]
   refine sm_zero' fun j hj=>sm_zero' fun b hb=>?_
   unfold wn
   rw[(dm hj).1,(dm hj).2,if_neg (fun h=>e h.2.1),Int.mul_zero]
 rw[h2,sm_delta c1]
section
variable {x y:Sch} {L R:List (List Int)} {n m k:Nat}
theorem mp_same (hp:2≤x.p∧x.p≤5) (wx:Wid 27 x.ps) (bx:Byt 27 x.ps) (wy:Wid 27 y.ps) (byy:Byt 27 y.ps) (mf:MF x L R n m k) (mg:MF y L R n m k) (ep:x.p=y.p)
  (hS:∀ a b c,a<n*m→b<m*k→c<n*k→Cg x.p (Sx x.ps x.ps.length a b c) (Sx y.ps y.ps.length a b c)):mpF x L R=mpF y L R:=by
 have bb:=mf.b
 have nk:=mf.nk
 unfold mpF
 rw[mf.en,mf.ek,mg.en,mg.ek,←Int.natCast_mul,Int.toNat_natCast,Int.toNat_natCast,Int.toNat_natCast]
 congr 1
 refine gen_congr fun c hc=>?_
 have fl:=flat_len mf.wL
 have fr:=flat_len mf.wR
 rw[mf.lL] at fl
 rw[mf.lR] at fr
 have h1:=stM_cg (p:=x.p) (l:=L.flatten) (r:=R.flatten) (ps:=x.ps) (j:=c) mf.fL mf.fR x.ps.length
 have h2:=stM_cg (p:=x.p) (l:=L.flatten) (r:=R.flatten) (ps:=y.ps) (j:=c) mf.fL mf.fR y.ps.length
 rw[fl,fr] at h1 h2
 have h3:Cg x.p (sm (n*m) fun a=>sm (m*k) fun b=>L.flatten.getD a 0*R.flatten.getD b 0*Sx x.ps x.ps.length a b c) (sm (n*m) fun a=>sm (m*k) fun b=>L.flatten.getD a 0*R.flatten.getD b 0*Sx y.ps y.ps.length a b c):=
  Cg.sm fun a ha=>Cg.sm fun b hb=>Cg.rfl'.mul (hS a b c ha hb hc)
 have i1:=stM_in hp bx wx mf.fL mf.fR mf.aL mf.aR (t:=x.ps.length) (Nat.le_refl _) c (by omega)
 have i2:=stM_in (p:=y.p) (by omega) byy wy mg.fL mg.fR mg.aL mg.aR (t:=y.ps.length) (Nat.le_refl _) c (by omega)
 rw[←ep] at i2 ⊢
 exact dvd_eq ((h1.trans h3).trans h2.symm) i1 i2
theorem mp_plain (hp:2≤x.p∧x.p≤5) (wx:Wid 27 x.ps) (bx:Byt 27 x.ps) (mf:MF x L R n m k)
  (hS:∀ a b c,a<n*m→b<m*k→c<n*k→Cg x.p (Sx x.ps x.ps.length a b c) (wn m k a b c)):mpF x L R=parts (gen (n*k) (ppG x.p L.flatten R.flatten m k)) k n:=by
 have bb:=mf.b
 have nk:=mf.nk
 unfold mpF
 rw[mf.en,mf.ek,←Int.natCast_mul,Int.toNat_natCast,Int.toNat_natCast,Int.toNat_natCast]
 congr 1
 refine gen_congr fun c hc=>?_
 have fl:=flat_len mf.wL
 have fr:=flat_len mf.wR
 rw[mf.lL] at fl
 rw[mf.lR] at fr
 have h1:=stM_cg (p:=x.p) (l:=L.flatten) (r:=R.flatten) (ps:=x.ps) (j:=c) mf.fL mf.fR x.ps.length
 rw[fl,fr] at h1
 have h3:=correct_sum (l:=L.flatten) (r:=R.flatten) hc (fun a b ha hb=>hS a b c ha hb hc)
 have i1:=stM_in hp bx wx mf.fL mf.fR mf.aL mf.aR (t:=x.ps.length) (Nat.le_refl _) c (by omega)
 have nn:0≤sm m fun j=>L.flatten.getD (c / k*m+j) 0*R.flatten.getD (j*k+c%k) 0:=by
  have:∀ m',0≤sm m' fun j=>L.flatten.getD (c / k*m+j) 0*R.flatten.getD (j*k+c%k) 0:=fun m'=>by
   induction m' with
   | zero=>exact Int.le_refl _
   | succ m' ih=>
    have g:∀ {ns:List Int} (j:Nat),allIn x.p ns=true→0≤ns.getD j 0:=fun {ns} j h=>by
     by_cases hj:j<ns.length
     ·exact (allIn_iff.1 h j hj).1
     ·rw[List.getD_eq_getElem?_getD,List.getElem?_eq_none (by omega)]
      exact Int.le_refl _
    have:=Int.mul_nonneg (g (c / k*m+m') mf.aL) (g (m'*k+c%k) mf.aR)
    simp only[sm]
    omega
  exact this m
 exact dvd_eq ((h1.trans h3).trans (Cg.tmod _ _).symm) i1 ⟨Int.tmod_nonneg _ nn,Int.tmod_lt_of_pos _ (by omega)⟩
end
end Go.Proofs.Ytapafdpnmakekaa.X

set_option linter.unusedVariables false
set_option linter.unusedSimpArgs false
set_option maxRecDepth 20000
set_option maxHeartbeats 4000000
namespace Go.Proofs.Ytapafdpnmakekaa.X
open Go Go.RowKit
open Nat (reduceEqDiff reduceAdd reduceSub reduceLeDiff)
def wnX (x:Sch) (a b c:Nat):Int:=wn x.m.toNat x.k.toNat a b c
theorem nt_mod (a b:Nat):(a:Int).tmod (b:Int)=((a%b:Nat):Int):=(Int.ofNat_tmod a b).symm
theorem nt_div (a b:Nat):(a:Int).tdiv (b:Int)=((a / b:Nat):Int):=(Int.ofNat_tdiv a b).symm
theorem i_rightSide {v:Value} {x:Sch} {a b c:Nat} {h:AH} {Q:Value→AH→Prop} (hv:isOne v=true) (z:SZ x) (ha:a<9) (hb:b<9) (hc:c<9)
  (hQ:∀ h',h<+:h'→Q (I64 (wnX x a b c)) h'):WF S 219 [schV x v,I64 a,I64 b,I64 c] h Q:=by
 refine WF_fn (fn:=c219) rfl rfl ?_
 dsimp only[c219,oO,oM,oS,oG,oK,oE,oL,oF,oX,oN]
 have zm:=z.m
 have zk:=z.k
 obtain⟨M,hM⟩:∃ M:Nat,x.m=M:=⟨x.m.toNat,by omega⟩
 obtain⟨K,hK⟩:∃ K:Nat,x.k=K:=⟨x.k.toNat,by omega⟩
 ((try simp (maxSteps:=3000000) (dsimp:=false) (disch:=first|omega|simp only[lnx];omega) only[↓ypre,ypost,↓reduceIte,reduceEqDiff,reduceAdd,reduceSub,reduceLeDiff,zz0,ynew,schV,hv]);try simp only[yback])
 generalize hH1:AH.new h _=H1
 obtain⟨hb1,p1,n1⟩:=new_facts hH1
 have e:wnX x a b c=wn M K a b c:=by unfold wnX;rw[hM,hK];rfl
 rw[e] at hQ
 rw[hM,hK] at hb1
 have d1:a / M≤9:=by have:=Nat.div_le_self a M;omega
 have d2:b / K≤9:=by have:=Nat.div_le_self b K;omega
 have d3:c / K≤9:=by have:=Nat.div_le_self c K;omega
 have wq:∀ n:Nat,n≤9→IntKind.i64.wrap (n:Int)=n:=fun n hn=>by rw[wrap64_in]<;>omega
 have w1:=wq _ d1
 have w2:=wq _ d2
 have w3:=wq _ d3
 have M0:(M:Int)≠0:=by omega
 have K0:(K:Int)≠0:=by omega
 have hQ1:a%M=b / K∧a / M=c / K∧b%K=c%K→Q (I64 1) H1:=fun hh=>by
  have:=hQ _ p1
  unfold wn at this
  rw[if_pos hh] at this
  exact this
 have hQ0:¬ (a%M=b / K∧a / M=c / K∧b%K=c%K)→Q (I64 0) H1:=fun hh=>by
  have:=hQ _ p1
  unfold wn at this
  rw[if_neg hh] at this
  exact this
 by_cases h1:a%M=b / K
 ·by_cases h2:a / M=c / K
  ·by_cases h3:b%K=c%K
   ·((try simp (maxSteps:=3000000) (dsimp:=false) (disch:=first|omega|simp only[lnx];omega) only[↓ypre,ypost,↓reduceIte,reduceEqDiff,reduceAdd,reduceSub,reduceLeDiff,zz0,ynew,hM,hK,rd1_of hb1,bin_rem M0,bin_rem K0,bin_quo K0,bin_quo M0,nt_mod,nt_div,w1,w2,w3,decide_eq_true (show ((a%M:Nat):Int)=((b / K:Nat):Int) from by exact_mod_cast h1),decide_eq_true (show ((a / M:Nat):Int)=((c / K:Nat):Int) from by exact_mod_cast h2),decide_eq_true (show ((b%K:Nat):Int)=((c%K:Nat):Int) from by exact_mod_cast h3)]);try simp only[yback])
    exact hQ1 ⟨h1,h2,h3⟩
   ·((try simp (maxSteps:=3000000) (dsimp:=false) (disch:=first|omega|simp only[lnx];omega) only[↓ypre,ypost,↓reduceIte,reduceEqDiff,reduceAdd,reduceSub,reduceLeDiff,zz0,ynew,hM,hK,rd1_of hb1,bin_rem M0,bin_rem K0,bin_quo K0,bin_quo M0,nt_mod,nt_div,w1,w2,w3,decide_eq_true (show ((a%M:Nat):Int)=((b / K:Nat):Int) from by exact_mod_cast h1),decide_eq_true (show ((a / M:Nat):Int)=((c / K:Nat):Int) from by exact_mod_cast h2),decide_eq_false (show ¬ ((b%K:Nat):Int)=((c%K:Nat):Int) from by exact_mod_cast h3)]);try simp only[yback])
    exact hQ0 fun hh=>h3 hh.2.2
  ·((try simp (maxSteps:=3000000) (dsimp:=false) (disch:=first|omega|simp only[lnx];omega) only[↓ypre,ypost,↓reduceIte,reduceEqDiff,reduceAdd,reduceSub,reduceLeDiff,zz0,ynew,hM,hK,rd1_of hb1,bin_rem M0,bin_rem K0,bin_quo K0,bin_quo M0,nt_mod,nt_div,w1,w2,w3,decide_eq_true (show ((a%M:Nat):Int)=((b / K:Nat):Int) from by exact_mod_cast h1),decide_eq_false (show ¬ ((a / M:Nat):Int)=((c / K:Nat):Int) from by exact_mod_cast h2)]);try simp only[yback])
   exact hQ0 fun hh=>h2 hh.2.1
 ·((try simp (maxSteps:=3000000) (dsimp:=false) (disch:=first|omega|simp only[lnx];omega) only[↓ypre,ypost,↓reduceIte,reduceEqDiff,reduceAdd,reduceSub,reduceLeDiff,zz0,ynew,hM,hK,rd1_of hb1,bin_rem M0,bin_rem K0,bin_quo K0,bin_quo M0,nt_mod,nt_div,w1,w2,w3,decide_eq_false (show ¬ ((a%M:Nat):Int)=((b / K:Nat):Int) from by exact_mod_cast h1)]);try simp only[yback])
  exact hQ0 fun hh=>h1 hh.1
section
variable (x:Sch) (J K:Nat)
def badE (e:Nat):Bool:=decide (lsX x (e / K / J) (e / K%J) (e%K)≠wnX x (e / K / J) (e / K%J) (e%K))
def plE (e:Nat):List Int:=[((e / K / J:Nat):Int),((e / K%J:Nat):Int),((e%K:Nat):Int)]
def wrS:Nat→List (List Int)
 | 0=>[]
 | e+1=>if badE x J K e=true then wrS e++[plE J K e] else wrS e
end
def wrX (x:Sch):List (List Int):=wrS x (x.m*x.k).toNat (x.n*x.k).toNat ((x.n*x.m).toNat*((x.m*x.k).toNat*(x.n*x.k).toNat))
theorem wrS_le {x:Sch} {J K:Nat}:∀ {e:Nat},(wrS x J K e).length≤e
 | 0=>Nat.le_refl _
 | e+1=>by
  have:=wrS_le (x:=x) (J:=J) (K:=K) (e:=e)
  unfold wrS
  split
  ·simp;omega
  ·omega
theorem wrS_nil {x:Sch} {J K:Nat}:∀ {e:Nat},wrS x J K e=[]→∀ e',e'<e→badE x J K e'=false
 | 0,h,e',he=>by omega
 | e+1,h,e',he=>by
  unfold wrS at h
  split at h
  ·simp at h
  ·rename_i hb
   by_cases h1:e'=e
   ·subst h1
    simpa using hb
   ·exact wrS_nil h e' (by omega)
theorem eDec {J K a b c e:Nat} (he:e=a*(J*K)+b*K+c) (hb:b<J) (hc:c<K):e / K / J=a∧e / K%J=b∧e%K=c:=by
 have e1:e=(a*J+b)*K+c:=by rw[he,Nat.add_mul,Nat.mul_assoc]
 rw[e1,(dm hc).1,(dm hc).2,(dm hb).1,(dm hb).2]
 exact⟨rfl,rfl,rfl⟩
theorem wrS_next {x:Sch} {J K a b c e:Nat} (he:e=a*(J*K)+b*K+c) (hb:b<J) (hc:c<K):wrS x J K (e+1)=if lsX x a b c=wnX x a b c then wrS x J K e else wrS x J K e++[[(a:Int),b,c]]:=by
 obtain⟨h1,h2,h3⟩:=eDec he hb hc
 unfold wrS badE plE
 rw[h1,h2,h3]
 by_cases h:lsX x a b c=wnX x a b c
 ·rw[if_pos h,if_neg (by simpa using h)]
  cases e<;>rfl
 ·rw[if_neg h,if_pos (by simpa using h)]
  cases e<;>rfl
theorem sz_nat {x:Sch} (z:SZ x):∃ I J K:Nat,x.n*x.m=I∧x.m*x.k=J∧x.n*x.k=K∧(1≤I∧I≤9)∧(1≤J∧J≤9)∧(1≤K∧K≤9)∧wrX x=wrS x J K (I*(J*K)):=by
 have zn:=z.nm
 have zm:=z.mk2
 have zk:=z.nk
 refine⟨(x.n*x.m).toNat,(x.m*x.k).toNat,(x.n*x.k).toNat,by omega,by omega,by omega,by omega,by omega,by omega,rfl⟩
theorem e_lt {I J K e:Nat} (hI:I≤9) (hJ:J≤9) (hK:K≤9) (h:e≤I*(J*K)):e≤729:=by
 have h1:J*K≤9*9:=Nat.mul_le_mul hJ hK
 have h2:I*(J*K)≤9*(9*9):=Nat.mul_le_mul hI h1
 omega
theorem RowD.pre {lo kb:Nat} {H H':AH} {fu:Bool} {rows:List (List Int)} {B:Nat→Nat} {cs:List Value} (r:RowD lo H kb fu rows B cs) (p:H<+:H'):RowD lo H' kb fu rows B cs:=
 ⟨pre_get p r.get,r.len,r.low,fun i hi=>by
  obtain⟨h1,h2,⟨f,h3⟩,h4⟩:=r.row i hi
  exact⟨h1,h2,⟨f,pre_get p h3⟩,h4⟩,r.inc⟩
theorem i_wrong {v:Value} {x:Sch} {h:AH} {Q:Value→AH→Prop} (hv:Prods h v x.ps) (hx:isX x=true)
  (hQ:∀ kb fu B cs h',h<+:h'→RowD h.length h' kb fu (wrX x) B cs→Q (sl kb (wrX x).length) h'):WF S 158 [schV x v] h Q:=by
 refine WF_fn (fn:=c158) rfl rfl ?_
 dsimp only[c158,oO,oM,oS,oG,oK,oE,oL,oF,oX,oN]
 have o1:=hv.one
 obtain⟨z,hP,hl30,-⟩:=isX_facts hx
 obtain⟨I,J,K,eI,eJ,eK,bI,bJ,bK,eW⟩:=sz_nat z
 rw[eW] at hQ
 ((try simp (maxSteps:=3000000) (dsimp:=false) (disch:=first|omega|simp only[lnx];omega) only[↓ypre,ypost,↓reduceIte,reduceEqDiff,reduceAdd,reduceSub,reduceLeDiff,zz0,ynew,schV,o1]);try simp only[yback])
 generalize hH1:AH.new h _=H1
 obtain⟨hb1,p1,n1⟩:=new_facts hH1
 ((try simp (maxSteps:=3000000) (dsimp:=false) (disch:=first|omega|simp only[lnx];omega) only[↓ypre,ypost,↓reduceIte,reduceEqDiff,reduceAdd,reduceSub,reduceLeDiff,zz0,ynew,rdn_of hb1,fillL,zrep]);try simp only[yback])
 generalize hH2:AH.new H1 _=H2
 obtain⟨hb2,p2,n2⟩:=new_facts hH2
 ((try simp (maxSteps:=3000000) (dsimp:=false) (disch:=first|omega|simp only[lnx];omega) only[↓ypre,ypost,↓reduceIte,reduceEqDiff,reduceAdd,reduceSub,reduceLeDiff,zz0,ynew,rdn_of (pre_get p2 hb1)]);try simp only[yback])
 refine i_placesOf (x:=x) o1 z fun H3 p3=>?_
 rw[eI,eJ,eK]
 have hb1:=pre_get (p2.trans p3) hb1
 have hb2:=pre_get p3 hb2
 refine WO_cut (fun f:Fr=>f 1=.pointer (some ⟨h.length,0,none⟩)∧f 8=.slice (some ⟨H1.length,0,none⟩) 0 1∧f 10=.agg #[I64 I,I64 J,I64 K]∧True) ⟨(by first|rfl|simp[upd_apply]),(by first|rfl|simp[upd_apply]),(by first|rfl|simp[upd_apply]),trivial⟩ ?_
 rintro f ⟨f1,f8,f10,-⟩
 ((try simp (maxSteps:=3000000) (dsimp:=false) (disch:=first|omega|simp only[lnx];omega) only[↓ypre,ypost,↓reduceIte,reduceEqDiff,reduceAdd,reduceSub,reduceLeDiff,zz0,ynew,f1,f8,f10]);try simp only[yback])
 generalize hH4:AH.new H3 _=H4
 obtain⟨g4,p4,n4⟩:=new_facts hH4
 have ix0:ixaV 3 1 (.pointer (some ⟨H3.length,0,none⟩)) (I64 0)=some (.pointer (some ⟨H3.length,0,none⟩)):=rfl
 have ix1:ixaV 3 1 (.pointer (some ⟨H3.length,0,none⟩)) (I64 1)=some (.pointer (some ⟨H3.length,1,none⟩)):=rfl
 have ix2:ixaV 3 1 (.pointer (some ⟨H3.length,0,none⟩)) (I64 2)=some (.pointer (some ⟨H3.length,2,none⟩)):=rfl
 have hb1:=pre_get p4 hb1
 have hb2:=pre_get p4 hb2
 have L1:=pre_len p2
 have L2:=pre_len p3
 ((try simp (maxSteps:=3000000) (dsimp:=false) (disch:=first|omega|simp only[lnx];omega) only[↓ypre,ypost,↓reduceIte,reduceEqDiff,reduceAdd,reduceSub,reduceLeDiff,zz0,ynew,f1,f8,f10,rd1_of g4,ix0]);try simp only[yback])
 have r0:RowD h.length H4 H1.length true [] (fun _=>0) []:=⟨hb2,rfl,by omega,fun i hi=>by simp at hi,fun i j _ hj=>by simp at hj⟩
 have pr:=p1.trans (p2.trans (p3.trans p4))
 refine WC_loop_inv (fun m f K1=>∃ (a:Nat) (e:Nat) (kb:Nat) (fu:Bool) (B:(Nat→Nat)) (cs:List Value),m=I-a∧a≤I∧f 1=.pointer (some ⟨h.length,0,none⟩)∧f 3=sl kb (wrS x J K e).length∧f 4=.pointer (some ⟨H3.length,0,none⟩)∧f 12=I64 I∧f 13=I64 a∧(h<+:K1)∧(K1.get h.length=some ⟨[I64 x.p,I64 x.n,I64 x.m,I64 x.k,v],26,false,true⟩)∧(K1.get H3.length=some ⟨[I64 I,I64 J,I64 K],158,false,true⟩)∧(RowD h.length K1 kb fu (wrS x J K e) B cs)∧(∀ j,j<(wrS x J K e).length→B j<K1.length)∧(e=a*(J*K))) ?_ (I-0) _ _ ⟨0,0,H1.length,true,(fun _=>0),[],rfl,by omega,(by first|rfl|exact f1|(simp[upd_apply];done)),(by first|rfl|simp[upd_apply]),(by first|rfl|simp[upd_apply]),(by first|rfl|simp[upd_apply]),(by first|rfl|simp[upd_apply]),pr,hb1,g4,r0,(fun j hj=>by simp[wrS] at hj),(by simp)⟩
 rintro m f K1 ⟨a,e,kb,fu,B,cs,rfl,ha,f1,f3,f4,f12,f13,pp,hp,g4,r,hB,he⟩
 by_cases hla:(a:Int)<I
 ·((try simp (maxSteps:=3000000) (dsimp:=false) (disch:=first|omega|simp only[lnx];omega) only[↓ypre,ypost,↓reduceIte,reduceEqDiff,reduceAdd,reduceSub,reduceLeDiff,zz0,ynew,f1,f3,f4,f12,f13,decide_eq_true hla,rd1_of g4,ix1]);try simp only[yback])
  refine WC_loop_inv (fun m f K2=>∃ (b:Nat) (e:Nat) (kb:Nat) (fu:Bool) (B:(Nat→Nat)) (cs:List Value),m=J-b∧b≤J∧f 1=.pointer (some ⟨h.length,0,none⟩)∧f 3=sl kb (wrS x J K e).length∧f 4=.pointer (some ⟨H3.length,0,none⟩)∧f 5=I64 a∧f 12=I64 I∧f 13=I64 a∧f 17=I64 J∧f 18=I64 b∧(h<+:K2)∧(K2.get h.length=some ⟨[I64 x.p,I64 x.n,I64 x.m,I64 x.k,v],26,false,true⟩)∧(K2.get H3.length=some ⟨[I64 I,I64 J,I64 K],158,false,true⟩)∧(RowD h.length K2 kb fu (wrS x J K e) B cs)∧(∀ j,j<(wrS x J K e).length→B j<K2.length)∧(e=a*(J*K)+b*K)) ?_ (J-0) _ _ ⟨0,e,kb,fu,B,cs,rfl,by omega,(by first|rfl|exact f1|(simp[upd_apply];done)),(by first|rfl|exact f3|(simp[upd_apply];done)),(by first|rfl|exact f4|(simp[upd_apply];done)),(by first|rfl|simp[upd_apply]),(by first|rfl|exact f12|(simp[upd_apply];done)),(by first|rfl|exact f13|(simp[upd_apply];done)),(by first|rfl|simp[upd_apply]),(by first|rfl|simp[upd_apply]),pp,hp,g4,r,hB,(by rw[he];simp)⟩
  rintro m f K2 ⟨b,e,kb,fu,B,cs,rfl,hb,f1,f3,f4,f5,f12,f13,f17,f18,pp,hp,g4,r,hB,he⟩
  by_cases hlb:(b:Int)<J
  ·((try simp (maxSteps:=3000000) (dsimp:=false) (disch:=first|omega|simp only[lnx];omega) only[↓ypre,ypost,↓reduceIte,reduceEqDiff,reduceAdd,reduceSub,reduceLeDiff,zz0,ynew,f1,f3,f4,f5,f12,f13,f17,f18,decide_eq_true hlb,rd1_of g4,ix2]);try simp only[yback])
   refine WC_loop_inv (fun m f K3=>∃ (c:Nat) (e:Nat) (kb:Nat) (fu:Bool) (B:(Nat→Nat)) (cs:List Value),m=K-c∧c≤K∧f 1=.pointer (some ⟨h.length,0,none⟩)∧f 3=sl kb (wrS x J K e).length∧f 4=.pointer (some ⟨H3.length,0,none⟩)∧f 5=I64 a∧f 6=I64 b∧f 12=I64 I∧f 13=I64 a∧f 17=I64 J∧f 18=I64 b∧f 22=I64 K∧f 23=I64 c∧(h<+:K3)∧(K3.get h.length=some ⟨[I64 x.p,I64 x.n,I64 x.m,I64 x.k,v],26,false,true⟩)∧(K3.get H3.length=some ⟨[I64 I,I64 J,I64 K],158,false,true⟩)∧(RowD h.length K3 kb fu (wrS x J K e) B cs)∧(∀ j,j<(wrS x J K e).length→B j<K3.length)∧(e=a*(J*K)+b*K+c)) ?_ (K-0) _ _ ⟨0,e,kb,fu,B,cs,rfl,by omega,(by first|rfl|exact f1|(simp[upd_apply];done)),(by first|rfl|exact f3|(simp[upd_apply];done)),(by first|rfl|exact f4|(simp[upd_apply];done)),(by first|rfl|exact f5|(simp[upd_apply];done)),(by first|rfl|simp[upd_apply]),(by first|rfl|exact f12|(simp[upd_apply];done)),(by first|rfl|exact f13|(simp[upd_apply];done)),(by first|rfl|exact f17|(simp[upd_apply];done)),(by first|rfl|exact f18|(simp[upd_apply];done)),(by first|rfl|simp[upd_apply]),(by first|rfl|simp[upd_apply]),pp,hp,g4,r,hB,(by rw[he];simp)⟩
   rintro m f K3 ⟨c,e,kb,fu,B,cs,rfl,hc,f1,f3,f4,f5,f6,f12,f13,f17,f18,f22,f23,pp,hp,g4,r,hB,he⟩
   by_cases hlc:(c:Int)<K
   ·have hvK:=hv.pre pp
    have nx:=wrS_next (x:=x) he (show b<J by omega) (show c<K by omega)
    have eb:e≤729:=by
     have h1:a*(J*K)+b*K+c<(a+1)*(J*K):=by
      have h2:b*K+c<J*K:=by
       have:=Nat.mul_le_mul_right K (show b+1≤J by omega)
       rw[Nat.add_mul,Nat.one_mul] at this
       omega
      rw[Nat.add_mul,Nat.one_mul]
      omega
     have h3:=Nat.mul_le_mul_right (J*K) (show a+1≤I by omega)
     exact e_lt bI.2 bJ.2 bK.2 (by omega)
    have ll:=wrS_le (x:=x) (J:=J) (K:=K) (e:=e)
    ((try simp (maxSteps:=3000000) (dsimp:=false) (disch:=first|omega|simp only[lnx];omega) only[↓ypre,ypost,↓reduceIte,reduceEqDiff,reduceAdd,reduceSub,reduceLeDiff,zz0,ynew,f1,f3,f4,f5,f6,f12,f13,f17,f18,f22,f23,decide_eq_true hlc,rdn_of hp]);try simp only[yback])
    refine i_leftSide (x:=x) hvK z hl30 (by omega) (by omega) (by omega) fun H5 p5=>?_
    refine⟨p5,?_⟩
    have hp:=pre_get p5 hp
    refine WO_cut (fun f:Fr=>f 1=.pointer (some ⟨h.length,0,none⟩)∧f 3=sl kb (wrS x J K e).length∧f 4=.pointer (some ⟨H3.length,0,none⟩)∧f 5=I64 a∧f 6=I64 b∧f 7=I64 c∧f 12=I64 I∧f 13=I64 a∧f 17=I64 J∧f 18=I64 b∧f 22=I64 K∧f 23=I64 c∧f 30=I64 (lsX x a b c)∧True) ⟨(by first|rfl|exact f1|simp[upd_apply,f1]),(by first|rfl|exact f3|simp[upd_apply,f3]),(by first|rfl|exact f4|simp[upd_apply,f4]),(by first|rfl|exact f5|simp[upd_apply,f5]),(by first|rfl|exact f6|simp[upd_apply,f6]),(by first|rfl|simp[upd_apply]),(by first|rfl|exact f12|simp[upd_apply,f12]),(by first|rfl|exact f13|simp[upd_apply,f13]),(by first|rfl|exact f17|simp[upd_apply,f17]),(by first|rfl|exact f18|simp[upd_apply,f18]),(by first|rfl|exact f22|simp[upd_apply,f22]),(by first|rfl|exact f23|simp[upd_apply,f23]),(by first|rfl|simp[upd_apply]),trivial⟩ ?_
    rintro f ⟨f1,f3,f4,f5,f6,f7,f12,f13,f17,f18,f22,f23,f30,-⟩
    ((try simp (maxSteps:=3000000) (dsimp:=false) (disch:=first|omega|simp only[lnx];omega) only[↓ypre,ypost,↓reduceIte,reduceEqDiff,reduceAdd,reduceSub,reduceLeDiff,zz0,ynew,f1,f3,f4,f5,f6,f7,f12,f13,f17,f18,f22,f23,f30,rdn_of hp]);try simp only[yback])
    refine i_rightSide (x:=x) o1 z (by omega) (by omega) (by omega) fun H6 p6=>?_
    have p56:=p5.trans p6
    have hp:=pre_get p6 hp
    have g4:=pre_get p56 g4
    have r:=r.pre p56
    have l56:=p56.length_le
    have rlow:=r.low
    refine WO_cut (fun f:Fr=>f 1=.pointer (some ⟨h.length,0,none⟩)∧f 3=sl kb (wrS x J K e).length∧f 4=.pointer (some ⟨H3.length,0,none⟩)∧f 5=I64 a∧f 6=I64 b∧f 7=I64 c∧f 12=I64 I∧f 13=I64 a∧f 17=I64 J∧f 18=I64 b∧f 22=I64 K∧f 23=I64 c∧f 30=I64 (lsX x a b c)∧f 35=I64 (wnX x a b c)∧True) ⟨(by first|rfl|exact f1|simp[upd_apply,f1]),(by first|rfl|exact f3|simp[upd_apply,f3]),(by first|rfl|exact f4|simp[upd_apply,f4]),(by first|rfl|exact f5|simp[upd_apply,f5]),(by first|rfl|exact f6|simp[upd_apply,f6]),(by first|rfl|exact f7|simp[upd_apply,f7]),(by first|rfl|exact f12|simp[upd_apply,f12]),(by first|rfl|exact f13|simp[upd_apply,f13]),(by first|rfl|exact f17|simp[upd_apply,f17]),(by first|rfl|exact f18|simp[upd_apply,f18]),(by first|rfl|exact f22|simp[upd_apply,f22]),(by first|rfl|exact f23|simp[upd_apply,f23]),(by first|rfl|exact f30|simp[upd_apply,f30]),(by first|rfl|simp[upd_apply]),trivial⟩ ?_
    rintro f ⟨f1,f3,f4,f5,f6,f7,f12,f13,f17,f18,f22,f23,f30,f35,-⟩
    by_cases hs:lsX x a b c=wnX x a b c
    ·rw[if_pos hs] at nx
     ((try simp (maxSteps:=3000000) (dsimp:=false) (disch:=first|omega|simp only[lnx];omega) only[↓ypre,ypost,↓reduceIte,reduceEqDiff,reduceAdd,reduceSub,reduceLeDiff,zz0,ynew,f1,f3,f4,f5,f6,f7,f12,f13,f17,f18,f22,f23,f30,f35,decide_eq_false (show ¬ lsX x a b c≠wnX x a b c from fun h=>h hs),wrap64_in]);try simp only[yback])
     refine InvQ_go (K-(c+1)) (by omega) ⟨(c+1),(e+1),kb,fu,B,cs,rfl,by omega,(by first|rfl|exact f1|(simp only[upd_apply];rfl)|(show I64 _=_;congr 1;omega)),(by rw[nx];exact f3),(by first|rfl|exact f4|(simp only[upd_apply];rfl)|(show I64 _=_;congr 1;omega)),(by first|rfl|exact f5|(simp only[upd_apply];rfl)|(show I64 _=_;congr 1;omega)),(by first|rfl|exact f6|(simp only[upd_apply];rfl)|(show I64 _=_;congr 1;omega)),(by first|rfl|exact f12|(simp only[upd_apply];rfl)|(show I64 _=_;congr 1;omega)),(by first|rfl|exact f13|(simp only[upd_apply];rfl)|(show I64 _=_;congr 1;omega)),(by first|rfl|exact f17|(simp only[upd_apply];rfl)|(show I64 _=_;congr 1;omega)),(by first|rfl|exact f18|(simp only[upd_apply];rfl)|(show I64 _=_;congr 1;omega)),(by first|rfl|exact f22|(simp only[upd_apply];rfl)|(show I64 _=_;congr 1;omega)),(by first|rfl|exact f23|(simp only[upd_apply];rfl)|(show I64 _=_;congr 1;omega)),(pp.trans p56),hp,g4,(by rw[nx];exact r),(by rw[nx];exact fun j hj=>Nat.lt_of_lt_of_le (hB j hj) l56),(by omega)⟩
    rw[if_neg hs] at nx
    ((try simp (maxSteps:=3000000) (dsimp:=false) (disch:=first|omega|simp only[lnx];omega) only[↓ypre,ypost,↓reduceIte,reduceEqDiff,reduceAdd,reduceSub,reduceLeDiff,zz0,ynew,f1,f3,f4,f5,f6,f7,f12,f13,f17,f18,f22,f23,f30,f35,decide_eq_true (show lsX x a b c≠wnX x a b c from hs),fillL,zrep,wrap64_in]);try simp only[yback])
    generalize hH7:AH.new H6 _=H7
    obtain⟨g7,p7,n7⟩:=new_facts hH7
    have rk:=get_lt r.get
    have q7:Lst H7 H6.length [(a:Int),b,c] true:=g7
    refine rowd_app (r.pre p7) (by omega) (by have:=pp.length_le;omega) (by omega) (fun j hj=>by have:=hB j hj;omega) q7 fun HZ lZ kZ rZ=>?_
    have hne:∀ m bl,H7.get m=some bl→bl.e≠27→m≠kb:=fun m bl g hb=>by
     rintro rfl
     have:=pre_get p7 r.get
     rw[this] at g
     cases g
     exact hb rfl
    have hp:=kZ.get (hne _ _ (pre_get p7 hp) (by simp)) (pre_get p7 hp)
    have g4:=kZ.get (hne _ _ (pre_get p7 g4) (by simp)) (pre_get p7 g4)
    have ppZ:=kZ.pre (pp.trans (p56.trans p7)) rlow
    have hB2:∀ j,j<(wrS x J K e++[[(a:Int),b,c]]).length→(if j<(wrS x J K e).length then B j else H6.length)<HZ.length:=fun j hj=>by
     split
     ·rename_i hjr
      have:=hB j hjr
      omega
     ·omega
    ((try simp (maxSteps:=3000000) (dsimp:=false) (disch:=first|omega|simp only[lnx];omega) only[↓ypre,ypost,↓reduceIte,reduceEqDiff,reduceAdd,reduceSub,reduceLeDiff,zz0,ynew,f1,f3,f4,f5,f6,f7,f12,f13,f17,f18,f22,f23,f30,f35,wrap64_in]);try simp only[yback])
    refine InvQ_go (K-(c+1)) (by omega) ⟨(c+1),(e+1),(H7.length+1),false,_,_,rfl,by omega,(by first|rfl|exact f1|(simp only[upd_apply];rfl)|(show I64 _=_;congr 1;omega)),(by rw[nx];rfl),(by first|rfl|exact f4|(simp only[upd_apply];rfl)|(show I64 _=_;congr 1;omega)),(by first|rfl|exact f5|(simp only[upd_apply];rfl)|(show I64 _=_;congr 1;omega)),(by first|rfl|exact f6|(simp only[upd_apply];rfl)|(show I64 _=_;congr 1;omega)),(by first|rfl|exact f12|(simp only[upd_apply];rfl)|(show I64 _=_;congr 1;omega)),(by first|rfl|exact f13|(simp only[upd_apply];rfl)|(show I64 _=_;congr 1;omega)),(by first|rfl|exact f17|(simp only[upd_apply];rfl)|(show I64 _=_;congr 1;omega)),(by first|rfl|exact f18|(simp only[upd_apply];rfl)|(show I64 _=_;congr 1;omega)),(by first|rfl|exact f22|(simp only[upd_apply];rfl)|(show I64 _=_;congr 1;omega)),(by first|rfl|exact f23|(simp only[upd_apply];rfl)|(show I64 _=_;congr 1;omega)),ppZ,hp,g4,(by rw[nx];exact rZ),(by rw[nx];exact hB2),(by omega)⟩
   ·have ec:c=K:=by omega
    ((try simp (maxSteps:=3000000) (dsimp:=false) (disch:=first|omega|simp only[lnx];omega) only[↓ypre,ypost,↓reduceIte,reduceEqDiff,reduceAdd,reduceSub,reduceLeDiff,zz0,ynew,f1,f3,f4,f5,f6,f12,f13,f17,f18,f22,f23,decide_eq_false hlc,wrap64_in]);try simp only[yback])
    refine InvQ_go (J-(b+1)) (by omega) ⟨(b+1),e,kb,fu,B,cs,rfl,by omega,(by first|rfl|exact f1|(simp only[upd_apply];rfl)|(show I64 _=_;congr 1;omega)),(by first|rfl|exact f3|(simp only[upd_apply];rfl)|(show I64 _=_;congr 1;omega)),(by first|rfl|exact f4|(simp only[upd_apply];rfl)|(show I64 _=_;congr 1;omega)),(by first|rfl|exact f5|(simp only[upd_apply];rfl)|(show I64 _=_;congr 1;omega)),(by first|rfl|exact f12|(simp only[upd_apply];rfl)|(show I64 _=_;congr 1;omega)),(by first|rfl|exact f13|(simp only[upd_apply];rfl)|(show I64 _=_;congr 1;omega)),(by first|rfl|exact f17|(simp only[upd_apply];rfl)|(show I64 _=_;congr 1;omega)),(by first|rfl|exact f18|(simp only[upd_apply];rfl)|(show I64 _=_;congr 1;omega)),pp,hp,g4,r,hB,(by rw[he,ec,Nat.add_mul,Nat.one_mul];omega)⟩
  ·have ebJ:b=J:=by omega
   ((try simp (maxSteps:=3000000) (dsimp:=false) (disch:=first|omega|simp only[lnx];omega) only[↓ypre,ypost,↓reduceIte,reduceEqDiff,reduceAdd,reduceSub,reduceLeDiff,zz0,ynew,f1,f3,f4,f5,f12,f13,f17,f18,decide_eq_false hlb,wrap64_in]);try simp only[yback])
   refine InvQ_go (I-(a+1)) (by omega) ⟨(a+1),e,kb,fu,B,cs,rfl,by omega,(by first|rfl|exact f1|(simp only[upd_apply];rfl)|(show I64 _=_;congr 1;omega)),(by first|rfl|exact f3|(simp only[upd_apply];rfl)|(show I64 _=_;congr 1;omega)),(by first|rfl|exact f4|(simp only[upd_apply];rfl)|(show I64 _=_;congr 1;omega)),(by first|rfl|exact f12|(simp only[upd_apply];rfl)|(show I64 _=_;congr 1;omega)),(by first|rfl|exact f13|(simp only[upd_apply];rfl)|(show I64 _=_;congr 1;omega)),pp,hp,g4,r,hB,(by rw[he,ebJ,Nat.add_mul,Nat.one_mul])⟩
 ·have eaI:a=I:=by omega
  ((try simp (maxSteps:=3000000) (dsimp:=false) (disch:=first|omega|simp only[lnx];omega) only[↓ypre,ypost,↓reduceIte,reduceEqDiff,reduceAdd,reduceSub,reduceLeDiff,zz0,ynew,f1,f3,f4,f12,f13,decide_eq_false hla]);try simp only[yback])
  rw[he,eaI] at r ⊢
  exact hQ kb fu B cs _ pp r
end Go.Proofs.Ytapafdpnmakekaa.X
