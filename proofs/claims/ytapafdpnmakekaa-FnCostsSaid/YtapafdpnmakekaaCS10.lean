/- Texts of one claim, put together by merge.py: XZ5, XZ6, XDL, XDM, XP7, XU2, XU3, XU4, XU5, XW1, XV1, XM2, XM3, XM5, XP9, XM6, XDN, XDD, XDO, XZ7, XV2, XZ8, XS8, XS9, XS10, XS11, XS12. -/
import Derived.Test.YtapafdpnmakekaaCS9
import Derived.Test.YtapafdpnmakekaaCS8
set_option linter.unusedVariables false
set_option linter.unusedSimpArgs false
set_option maxRecDepth 20000
set_option maxHeartbeats 4000000
namespace Go.Proofs.Ytapafdpnmakekaa.X
open Go Go.RowKit
open Nat (reduceEqDiff reduceAdd reduceSub reduceLeDiff)
theorem join_k {q qa qb:List Int} {k j:Nat} (s:S3 q) (hk:k<3) (hj:(j:Int)+1<q.getD k 0) (ea:qa=q.set k ((j:Int)+1)) (eb:qb=q.set k (q.getD k 0-((j:Int)+1))) :
  (k=0∧(qa.getD 0 0).toNat+(qb.getD 0 0).toNat≤3∧(qa.getD 1 0).toNat≤3∧(qa.getD 2 0).toNat≤3∧(qb.getD 1 0).toNat=(qa.getD 1 0).toNat∧(qb.getD 2 0).toNat=(qa.getD 2 0).toNat ∨
   k=1∧(qa.getD 1 0).toNat+(qb.getD 1 0).toNat≤3∧(qa.getD 0 0).toNat≤3∧(qa.getD 2 0).toNat≤3∧(qb.getD 0 0).toNat=(qa.getD 0 0).toNat∧(qb.getD 2 0).toNat=(qa.getD 2 0).toNat ∨
   k=2∧(qa.getD 2 0).toNat+(qb.getD 2 0).toNat≤3∧(qa.getD 0 0).toNat≤3∧(qa.getD 1 0).toNat≤3∧(qb.getD 0 0).toNat=(qa.getD 0 0).toNat∧(qb.getD 1 0).toNat=(qa.getD 1 0).toNat) ∧
  ((if k=0 then (qa.getD 0 0).toNat+(qb.getD 0 0).toNat else (qa.getD 0 0).toNat:Nat):Int)=q.getD 0 0 ∧
  ((if k=1 then (qa.getD 1 0).toNat+(qb.getD 1 0).toNat else (qa.getD 1 0).toNat:Nat):Int)=q.getD 1 0 ∧
  ((if k=2 then (qa.getD 2 0).toNat+(qb.getD 2 0).toNat else (qa.getD 2 0).toNat:Nat):Int)=q.getD 2 0:=by
 have e1:∀ i,qa.getD i 0=if i=k then (j:Int)+1 else q.getD i 0:=fun i=>by rw[ea];exact set_getD (by rw[s.1];exact hk)
 have e2:∀ i,qb.getD i 0=if i=k then q.getD k 0-((j:Int)+1) else q.getD i 0:=fun i=>by rw[eb];exact set_getD (by rw[s.1];exact hk)
 have h0:=s.2 0 (by omega)
 have h1:=s.2 1 (by omega)
 have h2:=s.2 2 (by omega)
 rw[e1,e1,e1,e2,e2,e2]
 have:k=0∨k=1∨k=2:=by omega
 rcases this with rfl|rfl|rfl<;>simp only[reduceIte,Nat.reduceEqDiff,Nat.zero_ne_one,Nat.one_ne_zero,true_and,and_true,false_and,or_false,false_or]<;>refine⟨?_,?_,?_,?_⟩<;>omega
theorem s_l02Scheme:∀ (n:Nat) {q:List Int} {p:Int} {h:AH} {Q:Value→AH→Prop},S3 q→sm3 q≤n→(p=2∨p=3∨p=5) →
  (∀ (L:List (List Int)) (sv:Value) (h':AH),h<+:h'→InE .u8 27 h.length h'.length h' sv L→Byt 27 L→(L.length:Int)=nm q→Q (schV ⟨p,q.getD 0 0,q.getD 1 0,q.getD 2 0,L⟩ sv) h')→WF S 304 [I64 p,szs q] h Q
 | 0,q,p,h,Q,s,hs,_,_=>by
  exfalso
  have h0:=s.2 0 (by omega)
  have h1:=s.2 1 (by omega)
  have h2:=s.2 2 (by omega)
  unfold sm3 at hs
  omega
 | n+1,q,p,h,Q,s,hs,hp,hQ=>by
  have q3:=s.1
  have t3:(cel .i64 q).take 3=cel .i64 q:=List.take_of_length_le (by rw[cel_len,q3];exact Nat.le_refl _)
  refine WF_fn (fn:=c304) rfl rfl ?_
  dsimp only[c304,oO,oM,oS,oG,oK,oE,oL,oF,oX,oN]
  ((try simp (maxSteps:=3000000) (dsimp:=false) (disch:=first|omega|simp only[lnx];omega) only[↓ypre,ypost,↓reduceIte,reduceEqDiff,reduceAdd,reduceSub,reduceLeDiff,zz0,ynew,aggV,cellsL_cel,cel_all]);try simp only[yback])
  generalize hH1:AH.new h _=H1
  obtain⟨hb1,p1,n1⟩:=new_facts hH1
  generalize hH2:AH.new H1 _=H2
  obtain⟨hb2,p2,n2⟩:=new_facts hH2
  have g1:=pre_get p2 hb1
  by_cases e1:q=[1,1,1]
  ·((try simp (maxSteps:=3000000) (dsimp:=false) (disch:=first|omega|simp only[lnx];omega) only[↓ypre,ypost,↓reduceIte,reduceEqDiff,reduceAdd,reduceSub,reduceLeDiff,zz0,ynew,rdn_of g1,cel_len,q3,t3,fillL,eqa_q q3,decide_eq_true e1]);try simp only[yback])
   have hz:szX (stdX p 1 1 1)=true:=by rcases hp with rfl|rfl|rfl<;>decide
   refine s_l01Standard (szX_facts hz) fun v H3 p3 hv=>?_
   have g2:=pre_get p3 hb2
   have lt2:=get_lt g2
   ((try simp (maxSteps:=3000000) (dsimp:=false) (disch:=first|omega|simp only[lnx];omega) only[↓ypre,ypost,↓reduceIte,reduceEqDiff,reduceAdd,reduceSub,reduceLeDiff,zz0,ynew,stdX,schV,hv.rd.one,wr_of g2,splice_eq,rdn_put_same]);try simp only[yback])
   subst e1
   exact hQ _ v _ (pre_put (p1.trans (p2.trans p3)) (by omega)) ((hv.1.putb (by omega)).mono (by omega) (by rw[len_put];exact Nat.le_refl _)) hv.2 rfl
  by_cases e2:q=[2,2,2]
  ·((try simp (maxSteps:=3000000) (dsimp:=false) (disch:=first|omega|simp only[lnx];omega) only[↓ypre,ypost,↓reduceIte,reduceEqDiff,reduceAdd,reduceSub,reduceLeDiff,zz0,ynew,rdn_of g1,cel_len,q3,t3,fillL,eqa_q q3,decide_eq_false e1,decide_eq_true e2]);try simp only[yback])
   refine s_l02Strassen (by omega) fun L v H3 p3 hv b3 l3=>?_
   have g2:=pre_get p3 hb2
   have lt2:=get_lt g2
   ((try simp (maxSteps:=3000000) (dsimp:=false) (disch:=first|omega|simp only[lnx];omega) only[↓ypre,ypost,↓reduceIte,reduceEqDiff,reduceAdd,reduceSub,reduceLeDiff,zz0,ynew,schV,hv.rd.one,wr_of g2,splice_eq,rdn_put_same]);try simp only[yback])
   subst e2
   exact hQ L v _ (pre_put (p1.trans (p2.trans p3)) (by omega)) ((hv.putb (by omega)).mono (by omega) (by rw[len_put];exact Nat.le_refl _)) b3 (by rw[l3];decide)
  ((try simp (maxSteps:=3000000) (dsimp:=false) (disch:=first|omega|simp only[lnx];omega) only[↓ypre,ypost,↓reduceIte,reduceEqDiff,reduceAdd,reduceSub,reduceLeDiff,zz0,ynew,rdn_of g1,cel_len,q3,t3,fillL,eqa_q q3,decide_eq_false e1,decide_eq_false e2]);try simp only[yback])
  refine s_l02Number (sm3 q).toNat s (by omega) fun H3 p3=>?_
  ((try simp (maxSteps:=3000000) (dsimp:=false) (disch:=first|omega|simp only[lnx];omega) only[↓ypre,ypost,↓reduceIte,reduceEqDiff,reduceAdd,reduceSub,reduceLeDiff,zz0,ynew]);try simp only[yback])
  have g1:=pre_get p3 g1
  have g2:=pre_get p3 hb2
  refine WC_loop_inv (fun m f K1=>∃ (k:Nat),m=3-k∧k≤3∧f 0=I64 p∧f 3=.pointer (some ⟨h.length,0,none⟩)∧f 4=.pointer (some ⟨H1.length,0,none⟩)∧f 5=I64 (nm q)∧f 6=I64 k∧(H3<+:K1)∧(∀ k' j':Nat,k'<k→(j':Int)+1<q.getD k' 0→nm (q.set k' ((j':Int)+1))+nm (q.set k' (q.getD k' 0-((j':Int)+1)))≠nm q)) ?_ (3-0) _ _ ⟨0,rfl,by omega,(by first|rfl|simp[upd_apply]),(by first|rfl|simp[upd_apply]),(by first|rfl|simp[upd_apply]),(by first|rfl|simp[upd_apply]),(by first|rfl|simp[upd_apply]),List.prefix_refl _,(fun _ _ h=>absurd h (Nat.not_lt_zero _))⟩
  rintro m f K1 ⟨k,rfl,hk,f0,f3,f4,f5,f6,pp,hno⟩
  by_cases hk:(k:Int)<3
  ·have bk:=s.2 k (by omega)
   ((try simp (maxSteps:=3000000) (dsimp:=false) (disch:=first|omega|simp only[lnx];omega) only[↓ypre,ypost,↓reduceIte,reduceEqDiff,reduceAdd,reduceSub,reduceLeDiff,zz0,ynew,f0,f3,f4,f5,f6,decide_eq_true hk]);try simp only[yback])
   refine WC_loop_inv (fun m f K2=>∃ (j:Nat),m=((q.getD k 0-1).toNat)-j∧j≤((q.getD k 0-1).toNat)∧f 0=I64 p∧f 3=.pointer (some ⟨h.length,0,none⟩)∧f 4=.pointer (some ⟨H1.length,0,none⟩)∧f 5=I64 (nm q)∧f 6=I64 k∧f 7=I64 ((j:Int)+1)∧(H3<+:K2)∧(∀ j':Nat,j'<j→nm (q.set k ((j':Int)+1))+nm (q.set k (q.getD k 0-((j':Int)+1)))≠nm q)) ?_ (((q.getD k 0-1).toNat)-0) _ _ ⟨0,rfl,by omega,(by first|rfl|exact f0|(simp[upd_apply];done)),(by first|rfl|exact f3|(simp[upd_apply];done)),(by first|rfl|exact f4|(simp[upd_apply];done)),(by first|rfl|exact f5|(simp[upd_apply];done)),(by first|rfl|exact f6|(simp[upd_apply];done)),(by first|rfl|simp[upd_apply]),pp,(fun _ h=>absurd h (Nat.not_lt_zero _))⟩
   rintro m f K2 ⟨j,rfl,hj,f0,f3,f4,f5,f6,f7,pp,hni⟩
   have g:=pre_get pp g1
   have ix:ixaV 3 1 (.pointer (some ⟨h.length,0,none⟩)) (I64 k)=_:=ixaV_ptr ⟨by omega,by omega⟩
   have cg:=cel_get (k:=.i64) (q:=q) (j:=k) (by omega)
   by_cases hj:(j:Int)+1<q.getD k 0
   ·((try simp (maxSteps:=3000000) (dsimp:=false) (disch:=first|omega|simp only[lnx];omega) only[↓ypre,ypost,↓reduceIte,reduceEqDiff,reduceAdd,reduceSub,reduceLeDiff,zz0,ynew,f0,f3,f4,f5,f6,f7,↓WX_ixa,ix,Int.toNat_natCast,Nat.mul_one,rd1_of g,cg,decide_eq_true hj,rdn_of g,cel_len,q3,t3]);try simp only[yback])
    have sA:=s.set (k:=k) (v:=(j:Int)+1) (by omega) (by omega)
    have sB:=s.set (k:=k) (v:=q.getD k 0-((j:Int)+1)) (by omega) (by omega)
    have dA:=sm3_set (k:=k) (v:=(j:Int)+1) s (by omega) hj
    have dB:=sm3_set (k:=k) (v:=q.getD k 0-((j:Int)+1)) s (by omega) (by omega)
    have jk:=join_k s (k:=k) (j:=j) (by omega) hj rfl rfl
    refine s_l02Sizes q3 (by omega) fun H4 p4=>⟨p4,?_⟩
    have g:=pre_get p4 g
    ((try simp (maxSteps:=3000000) (dsimp:=false) (disch:=first|omega|simp only[lnx];omega) only[↓ypre,ypost,↓reduceIte,reduceEqDiff,reduceAdd,reduceSub,reduceLeDiff,zz0,ynew,f0,f3,f4,f5,f6,f7,↓WX_ixa,ix,Int.toNat_natCast,Nat.mul_one,rd1_of g,cg,rdn_of g,cel_len,q3,t3,wrap64_in]);try simp only[yback])
    refine s_l02Sizes q3 (by omega) fun H5 p5=>?_
    generalize ea:q.set k ((j:Int)+1)=qa at *
    generalize eb:q.set k (q.getD k 0-((j:Int)+1))=qb at *
    have nA:=nm_bd _ sA.mem
    have nB:=nm_bd _ sB.mem
    have a3:=sA.1
    have b3:=sB.1
    have ta:(cel .i64 qa).take 3=cel .i64 qa:=List.take_of_length_le (by rw[cel_len,a3];exact Nat.le_refl _)
    have tb:(cel .i64 qb).take 3=cel .i64 qb:=List.take_of_length_le (by rw[cel_len,b3];exact Nat.le_refl _)
    ((try simp (maxSteps:=3000000) (dsimp:=false) (disch:=first|omega|simp only[lnx];omega) only[↓ypre,ypost,↓reduceIte,reduceEqDiff,reduceAdd,reduceSub,reduceLeDiff,zz0,ynew,f0,f3,f4,f5,f6,f7,aggV,cellsL_cel,cel_all,cel_len,a3,b3]);try simp only[yback])
    generalize hH6:AH.new H5 _=H6
    obtain⟨hb6,p6,n6⟩:=new_facts hH6
    generalize hH7:AH.new H6 _=H7
    obtain⟨hb7,p7,n7⟩:=new_facts hH7
    have g8:=pre_get p7 hb6
    ((try simp (maxSteps:=3000000) (dsimp:=false) (disch:=first|omega|simp only[lnx];omega) only[↓ypre,ypost,↓reduceIte,reduceEqDiff,reduceAdd,reduceSub,reduceLeDiff,zz0,ynew,f0,f3,f4,f5,f6,f7,rdn_of g8,cel_len,a3,ta]);try simp only[yback])
    refine s_l02Number (sm3 qa).toNat sA (by omega) fun H8 p8=>⟨p8,?_⟩
    have g8:=pre_get p8 g8
    have g9:=pre_get p8 hb7
    ((try simp (maxSteps:=3000000) (dsimp:=false) (disch:=first|omega|simp only[lnx];omega) only[↓ypre,ypost,↓reduceIte,reduceEqDiff,reduceAdd,reduceSub,reduceLeDiff,zz0,ynew,f0,f3,f4,f5,f6,f7,rdn_of g9,cel_len,b3,tb]);try simp only[yback])
    refine s_l02Number (sm3 qb).toNat sB (by omega) fun H9 p9=>?_
    have P9:H3<+:H9:=pp.trans (p4.trans (p5.trans (p6.trans (p7.trans (p8.trans p9)))))
    by_cases hn:nm qa+nm qb=nm q
    ·have g8:=pre_get p9 g8
     have g9:=pre_get p9 g9
     ((try simp (maxSteps:=3000000) (dsimp:=false) (disch:=first|omega|simp only[lnx];omega) only[↓ypre,ypost,↓reduceIte,reduceEqDiff,reduceAdd,reduceSub,reduceLeDiff,zz0,ynew,f0,f3,f4,f5,f6,f7,wrap64_in,decide_eq_true hn,rdn_of g8,cel_len,a3,ta]);try simp only[yback])
     refine s_l02Scheme n sA (by omega) hp fun L1 v1 H10 p10 o1 b1 l1=>⟨p10,?_⟩
     have g9:=pre_get p10 g9
     ((try simp (maxSteps:=3000000) (dsimp:=false) (disch:=first|omega|simp only[lnx];omega) only[↓ypre,ypost,↓reduceIte,reduceEqDiff,reduceAdd,reduceSub,reduceLeDiff,zz0,ynew,f0,f3,f4,f5,f6,f7,rdn_of g9,cel_len,b3,tb]);try simp only[yback])
     refine s_l02Scheme n sB (by omega) hp fun L2 v2 H11 p11 o2 b2 l2=>?_
     ((try simp (maxSteps:=3000000) (dsimp:=false) (disch:=first|omega|simp only[lnx];omega) only[↓ypre,ypost,↓reduceIte,reduceEqDiff,reduceAdd,reduceSub,reduceLeDiff,zz0,ynew,f0,f3,f4,f5,f6,f7]);try simp only[yback])
     have nq:=nm_bd _ s.mem
     have A0:=sA.2 0 (by omega)
     have A1:=sA.2 1 (by omega)
     have A2:=sA.2 2 (by omega)
     have B0:=sB.2 0 (by omega)
     have B1:=sB.2 1 (by omega)
     have B2:=sB.2 2 (by omega)
     have q11:=pre_len p11
     refine s_l02Join (x:=⟨p,qa.getD 0 0,qa.getD 1 0,qa.getD 2 0,L1⟩) (y:=⟨p,qb.getD 0 0,qb.getD 1 0,qb.getD 2 0,L2⟩) (kind:=k) ⟨(Int.toNat_of_nonneg (show 0≤qa.getD 0 0 by omega)).symm,(Int.toNat_of_nonneg (show 0≤qa.getD 1 0 by omega)).symm,(Int.toNat_of_nonneg (show 0≤qa.getD 2 0 by omega)).symm⟩ ⟨(Int.toNat_of_nonneg (show 0≤qb.getD 0 0 by omega)).symm,(Int.toNat_of_nonneg (show 0≤qb.getD 1 0 by omega)).symm,(Int.toNat_of_nonneg (show 0≤qb.getD 2 0 by omega)).symm⟩ ((o1.pre p11).mono (Nat.zero_le _) q11) b1 (o2.mono (Nat.zero_le _) (Nat.le_refl _)) b2 (by show L1.length+L2.length≤100;omega) (by show 1≤L1.length;omega) jk.1 fun L v H12 p12 o b l=>?_
     have P12:=P9.trans (p10.trans (p11.trans p12))
     have g4:=pre_get P12 g2
     have lt4:=get_lt g4
     have l:L.length=L1.length+L2.length:=l
     have q12:=pre_len P12
     rw[jk.2.1,jk.2.2.1,jk.2.2.2]
     ((try simp (maxSteps:=3000000) (dsimp:=false) (disch:=first|omega|simp only[lnx];omega) only[↓ypre,ypost,↓reduceIte,reduceEqDiff,reduceAdd,reduceSub,reduceLeDiff,zz0,ynew,f0,f3,f4,f5,f6,f7,schV,o.rd.one,wr_of g4,splice_eq,rdn_put_same]);try simp only[yback])
     have P:=p1.trans (p2.trans (p3.trans P12))
     exact hQ L v _ (pre_put P (by omega)) ((o.putb (by have:=pre_len p3;have:=pre_len p10;have:=pre_len p11;have:=pre_len P9;omega)).mono (by have:=pre_len p3;have:=pre_len p10;have:=pre_len p11;have:=pre_len P9;omega) (by rw[len_put];exact Nat.le_refl _)) b (by omega)
    ·((try simp (maxSteps:=3000000) (dsimp:=false) (disch:=first|omega|simp only[lnx];omega) only[↓ypre,ypost,↓reduceIte,reduceEqDiff,reduceAdd,reduceSub,reduceLeDiff,zz0,ynew,f0,f3,f4,f5,f6,f7,wrap64_in,decide_eq_false hn]);try simp only[yback])
     refine InvQ_go (((q.getD k 0-1).toNat)-(j+1)) (by omega) ⟨(j+1),rfl,by omega,(by first|rfl|exact f0|(simp only[upd_apply];rfl)|(show I64 _=_;congr 1;omega)),(by first|rfl|exact f3|(simp only[upd_apply];rfl)|(show I64 _=_;congr 1;omega)),(by first|rfl|exact f4|(simp only[upd_apply];rfl)|(show I64 _=_;congr 1;omega)),(by first|rfl|exact f5|(simp only[upd_apply];rfl)|(show I64 _=_;congr 1;omega)),(by first|rfl|exact f6|(simp only[upd_apply];rfl)|(show I64 _=_;congr 1;omega)),(by first|rfl|exact f7|(simp only[upd_apply];rfl)|(show I64 _=_;congr 1;omega)),P9,(fun j' h'=>by rcases Nat.lt_succ_iff_lt_or_eq.1 h' with h1|rfl;exact hni j' h1;rw[ea,eb];exact hn)⟩
   ·have ej:j=(q.getD k 0-1).toNat:=by omega
    ((try simp (maxSteps:=3000000) (dsimp:=false) (disch:=first|omega|simp only[lnx];omega) only[↓ypre,ypost,↓reduceIte,reduceEqDiff,reduceAdd,reduceSub,reduceLeDiff,zz0,ynew,f0,f3,f4,f5,f6,f7,↓WX_ixa,ix,Int.toNat_natCast,Nat.mul_one,rd1_of g,cg,decide_eq_false hj,wrap64_in]);try simp only[yback])
    refine InvQ_go (3-(k+1)) (by omega) ⟨(k+1),rfl,by omega,(by first|rfl|exact f0|(simp only[upd_apply];rfl)|(show I64 _=_;congr 1;omega)),(by first|rfl|exact f3|(simp only[upd_apply];rfl)|(show I64 _=_;congr 1;omega)),(by first|rfl|exact f4|(simp only[upd_apply];rfl)|(show I64 _=_;congr 1;omega)),(by first|rfl|exact f5|(simp only[upd_apply];rfl)|(show I64 _=_;congr 1;omega)),(by first|rfl|exact f6|(simp only[upd_apply];rfl)|(show I64 _=_;congr 1;omega)),pp,(fun k' j' h1 h2=>by rcases Nat.lt_succ_iff_lt_or_eq.1 h1 with h3|rfl;exact hno k' j' h3 h2;exact hni j' (by omega))⟩
  ·have ek:k=3:=by omega
   subst ek
   obtain⟨k',hk',j',hj',a1,a2⟩:=nm_split q s.mem e1 e2
   exact absurd a2 (hno k' j' (by simp at hk';omega) a1)
theorem WayE.appG {e:TypeId} {k:IntKind} {w:Nat} {lo bx:Nat} {sv:Value} {L:List (List Int)} {H:AH} {q:List Int} {e':TypeId} {ro full:Bool} {bytes:Nat} (o:WayE e k w H lo bx sv L) (hq:q.length=w) (hl:((L.length:Int)+1)*bytes≤140737488355328) (hn:(L.length:Int)<1048576) (hlo:lo≤H.length) (hbx:bx<H.length)
  {Q:Value→AH→Prop} (hQ:∀ (sv':Value) (H':AH),H'.length=H.length+2→(∀ m,m<lo∨m=bx→H'.get m=H.get m)→WayE e k w H' lo bx sv' (L++[q])→Q sv' H') :
  OQ (appV e w bytes sv (.slice (some ⟨H.length,0,none⟩) 1 w) (H.new ⟨cel k q,e',ro,full⟩)) Q:=by
 have hr:(H.new ⟨cel k q,e',ro,full⟩).rdn H.length 0 w=some (cel k q):=by
  rw[rdn_of get_new_same]
  simp only
  rw[if_pos (by rw[cel_len,hq];omega),List.drop_zero,List.take_of_length_le (by rw[cel_len,hq];omega)]
 obtain⟨hw,⟨rfl,rfl⟩|⟨kb,fu,rfl,h2,h3,h4⟩⟩:=o
 ·rw[app_nilW (.inl rfl) hr (by simp only[List.length_nil] at hl;omega),OQ_some]
  refine hQ _ _ (by rw[len_new,len_new]) (fun m hm=>by rw[get_new_lt (by rw[len_new];omega),get_new_lt (by omega)]) ⟨?_,.inr ⟨_,false,rfl,by rw[len_new];omega,by rw[len_new];omega,?_⟩⟩
  ·intro r hr
   rw[List.nil_append,List.mem_singleton] at hr
   rw[hr,hq]
  ·rw[get_new_same]
   simp
 ·have hk:(H.new ⟨cel k q,e',ro,full⟩).get kb=some ⟨cel k L.flatten,e,false,fu⟩:=get_new_any h4
  have hkb:=get_lt h4
  rw[app_ownW hk (by rw[cel_len,flat_len hw]) hr ⟨hl,by omega⟩,OQ_some]
  refine hQ _ _ (by rw[len_new,len_kill,len_new]) (fun m hm=>by rw[get_new_lt (by rw[len_kill,len_new];omega),get_kill_ne (by omega),get_new_lt (by omega)]) ⟨?_,.inr ⟨(H.new ⟨cel k q,e',ro,full⟩).length,false,by simp,by rw[len_new];omega,by rw[len_new];omega,?_⟩⟩
  ·intro r hr
   rcases List.mem_append.1 hr with hr|hr
   ·exact hw r hr
   ·rw[List.mem_singleton.1 hr,hq]
  ·rw[get_new_eq (by rw[len_kill])]
   simp[cel_app]
theorem WayE.kp {e:TypeId} {k:IntKind} {w:Nat} {lo bx n:Nat} {sv:Value} {L:List (List Int)} {H H':AH} (o:WayE e k w H lo bx sv L) (kk:Kp n H H') (hn:n<lo):WayE e k w H' lo bx sv L:=by
 obtain⟨hw,o|⟨kb,full,h1,h2,h3,h4⟩⟩:=o
 ·exact⟨hw,.inl o⟩
 ·exact⟨hw,.inr ⟨kb,full,h1,h2,h3,kk.get (by omega) h4⟩⟩
theorem s3_3:S3 [3,3,3]:=by
 refine⟨rfl,fun k hk=>?_⟩
 have:k=0∨k=1∨k=2:=by omega
 rcases this with rfl|rfl|rfl<;>decide
theorem s_l06Draw {h0 h:AH} {n:Nat} {Q:Value→AH→Prop} (s:Src h0 h n)
  (hQ:∀ (x:Sch) (v:Value) (h':AH),Kp n h h'→Src h0 h' n→SchD h.length h' v x→SchB x→Q (schV x v) h'):WF S 227 [srcP n] h Q:=by
 refine WF_fn (fn:=c227) rfl rfl ?_
 dsimp only[c227,oO,oM,oS,oG,oK,oE,oL,oF,oX,oN]
 have lt:=s.lt
 have l0:=pre_len s.p
 ((try simp (maxSteps:=3000000) (dsimp:=false) (disch:=first|omega|simp only[lnx];omega) only[↓ypre,ypost,↓reduceIte,reduceEqDiff,reduceAdd,reduceSub,reduceLeDiff,zz0,ynew,zrep,fillL]);try simp only[yback])
 generalize hH1:AH.new h _=H1
 obtain⟨hb1,p1,n1⟩:=new_facts hH1
 generalize hH2:AH.new H1 _=H2
 obtain⟨hb2,p2,n2⟩:=new_facts hH2
 have kv:=kp_new (n:=n) (ns:=[2,3,5]) hH2 (by omega)
 refine s_l01Pick (s.kp (p1.trans p2)) kv (by simp) (by simp) fun j H3 k3 l3 s3 hj=>?_
 have hp:([2,3,5]:List Int).getD j 0=2∨([2,3,5]:List Int).getD j 0=3∨([2,3,5]:List Int).getD j 0=5:=by
  simp at hj
  have:j=0∨j=1∨j=2:=by omega
  rcases this with rfl|rfl|rfl<;>simp
 generalize ([2,3,5]:List Int).getD j 0=p at hp
 have g1:=k3.get (by omega) (pre_get p2 hb1)
 ((try simp (maxSteps:=3000000) (dsimp:=false) (disch:=first|omega|simp only[lnx];omega) only[↓ypre,ypost,↓reduceIte,reduceEqDiff,reduceAdd,reduceSub,reduceLeDiff,zz0,ynew]);try simp only[yback])
 refine s_l01Next s3 fun r H4 k4 l4 s4 hr _=>?_
 have hr:=hr (by omega)
 have g1:=k4.get (by omega) g1
 have kk:Kp n h H4:=(Kp.of (p1.trans p2)).trans (k3.trans k4)
 have fin:∀ (x:Sch) (v:Value) (h':AH),Kp n h h'→Src h0 h' n→SchD H1.length h' v x→SchB x →
   Q (schV x v) (h'.put h.length ⟨[I64 x.p,I64 x.n,I64 x.m,I64 x.k,v],26,false,true⟩):=fun x v h' kk ss sd xb=>
  hQ x v _ (kk.putb (Nat.le_refl _)) (ss.putb (by omega) (by omega)) ((KN.put sd (by omega)).mono (by omega)) xb
 have sb:∀ L:List (List Int),L.length≤100→SchB ⟨p,2,2,2,L⟩:=fun L hl=>⟨by show -1000≤p∧p≤1000;omega,by show (-1000:Int)≤2∧(2:Int)≤1000;omega,by show (-1000:Int)≤2∧(2:Int)≤1000;omega,by show (-1000:Int)≤2∧(2:Int)≤1000;omega,by show (L.length:Int)≤1048576;omega⟩
 have kl:=kk.len
 have nl:=l3
 have knp:∀ (L:List (List Int)) (v:Value) (h':AH) (a b:Nat),InE .u8 27 a b h' v L→H1.length≤a→Byt 27 L→SchD H1.length h' v ⟨p,2,2,2,L⟩:=fun L v h' a b o ha bb h2 d d'=>⟨o.kN ha h2 d d',bb⟩
 by_cases r0:r=0
 ·((try simp (maxSteps:=3000000) (dsimp:=false) (disch:=first|omega|simp only[lnx];omega) only[↓ypre,ypost,↓reduceIte,reduceEqDiff,reduceAdd,reduceSub,reduceLeDiff,zz0,ynew,decide_eq_true r0]);try simp only[yback])
  refine s_l02Strassen (by omega) fun L v H5 p5 o5 b5 l5=>?_
  have g1:=pre_get p5 g1
  have lg:=get_lt g1
  ((try simp (maxSteps:=3000000) (dsimp:=false) (disch:=first|omega|simp only[lnx];omega) only[↓ypre,ypost,↓reduceIte,reduceEqDiff,reduceAdd,reduceSub,reduceLeDiff,zz0,ynew,schV,o5.rd.one,wr_of g1,splice_eq,rdn_put_same]);try simp only[yback])
  exact fin ⟨p,2,2,2,L⟩ v _ (kk.trans (Kp.of p5)) (s4.kp p5) (knp L v _ _ _ o5 (by omega) b5) (sb L (by omega))
 by_cases r1:r=1
 ·((try simp (maxSteps:=3000000) (dsimp:=false) (disch:=first|omega|simp only[lnx];omega) only[↓ypre,ypost,↓reduceIte,reduceEqDiff,reduceAdd,reduceSub,reduceLeDiff,zz0,ynew,decide_eq_false r0,decide_eq_true r1]);try simp only[yback])
  refine s_l02Strassen (by omega) fun L v H5 p5 o5 b5 l5=>?_
  have g1:=pre_get p5 g1
  have lg:=get_lt g1
  ((try simp (maxSteps:=3000000) (dsimp:=false) (disch:=first|omega|simp only[lnx];omega) only[↓ypre,ypost,↓reduceIte,reduceEqDiff,reduceAdd,reduceSub,reduceLeDiff,zz0,ynew,schV,o5.rd.one,wr_of g1,splice_eq,rdn_put_same]);try simp only[yback])
  exact fin ⟨p,2,2,2,L⟩ v _ (kk.trans (Kp.of p5)) (s4.kp p5) (knp L v _ _ _ o5 (by omega) b5) (sb L (by omega))
 by_cases r2:r=2
 ·((try simp (maxSteps:=3000000) (dsimp:=false) (disch:=first|omega|simp only[lnx];omega) only[↓ypre,ypost,↓reduceIte,reduceEqDiff,reduceAdd,reduceSub,reduceLeDiff,zz0,ynew,decide_eq_false r0,decide_eq_false r1,decide_eq_true r2]);try simp only[yback])
  refine s_l02Winograd (by omega) fun L v H5 p5 o5 b5 l5=>?_
  have g1:=pre_get p5 g1
  have lg:=get_lt g1
  ((try simp (maxSteps:=3000000) (dsimp:=false) (disch:=first|omega|simp only[lnx];omega) only[↓ypre,ypost,↓reduceIte,reduceEqDiff,reduceAdd,reduceSub,reduceLeDiff,zz0,ynew,schV,o5.rd.one,wr_of g1,splice_eq,rdn_put_same]);try simp only[yback])
  exact fin ⟨p,2,2,2,L⟩ v _ (kk.trans (Kp.of p5)) (s4.kp p5) (knp L v _ _ _ o5 (by omega) b5) (sb L (by omega))
 by_cases r3:r=3
 ·((try simp (maxSteps:=3000000) (dsimp:=false) (disch:=first|omega|simp only[lnx];omega) only[↓ypre,ypost,↓reduceIte,reduceEqDiff,reduceAdd,reduceSub,reduceLeDiff,zz0,ynew,decide_eq_false r0,decide_eq_false r1,decide_eq_false r2,decide_eq_true r3]);try simp only[yback])
  have hz:szX (stdX p 2 2 2)=true:=by rcases hp with rfl|rfl|rfl<;>decide
  refine s_l01Standard (szX_facts hz) fun v H5 p5 o6=>?_
  have o5:=o6.1
  have g1:=pre_get p5 g1
  have lg:=get_lt g1
  ((try simp (maxSteps:=3000000) (dsimp:=false) (disch:=first|omega|simp only[lnx];omega) only[↓ypre,ypost,↓reduceIte,reduceEqDiff,reduceAdd,reduceSub,reduceLeDiff,zz0,ynew,stdX,schV,o5.rd.one,wr_of g1,splice_eq,rdn_put_same]);try simp only[yback])
  exact fin (stdX p 2 2 2) v _ (kk.trans (Kp.of p5)) (s4.kp p5) (knp _ v _ _ _ o5 (by omega) o6.2) (sb _ (by show (stdL 2 2 8).length≤100;rw[stdL_len];omega))
 by_cases r4:r=4
 ·((try simp (maxSteps:=3000000) (dsimp:=false) (disch:=first|omega|simp only[lnx];omega) only[↓ypre,ypost,↓reduceIte,reduceEqDiff,reduceAdd,reduceSub,reduceLeDiff,zz0,ynew,decide_eq_false r0,decide_eq_false r1,decide_eq_false r2,decide_eq_false r3,decide_eq_true r4,fillL]);try simp only[yback])
  refine s_l02Scheme 9 (q:=[3,3,3]) s3_3 (by decide) hp fun L v H5 p5 o5 b5 l5=>?_
  have l5:(L.length:Int)=26:=l5
  have g1:=pre_get p5 g1
  have lg:=get_lt g1
  ((try simp (maxSteps:=3000000) (dsimp:=false) (disch:=first|omega|simp only[lnx];omega) only[↓ypre,ypost,↓reduceIte,reduceEqDiff,reduceAdd,reduceSub,reduceLeDiff,zz0,ynew,schV,List.getD_cons_zero,List.getD_cons_succ,o5.rd.one,wr_of g1,splice_eq,rdn_put_same]);try simp only[yback])
  exact fin ⟨p,3,3,3,L⟩ v _ (kk.trans (Kp.of p5)) (s4.kp p5) (fun h2 d d'=>⟨o5.kN (by omega) h2 d d',b5⟩) ⟨by show -1000≤p∧p≤1000;omega,by show (-1000:Int)≤3∧(3:Int)≤1000;omega,by show (-1000:Int)≤3∧(3:Int)≤1000;omega,by show (-1000:Int)≤3∧(3:Int)≤1000;omega,by show (L.length:Int)≤1048576;omega⟩
 by_cases r5:r=5
 ·((try simp (maxSteps:=3000000) (dsimp:=false) (disch:=first|omega|simp only[lnx];omega) only[↓ypre,ypost,↓reduceIte,reduceEqDiff,reduceAdd,reduceSub,reduceLeDiff,zz0,ynew,decide_eq_false r0,decide_eq_false r1,decide_eq_false r2,decide_eq_false r3,decide_eq_false r4,decide_eq_true r5,fillL]);try simp only[yback])
  generalize hH5:AH.new H4 _=H5
  obtain⟨hb5,p5,n5⟩:=new_facts hH5
  refine s_l01Next (s4.kp p5) fun N H6 k6 l6 s6 hN _=>?_
  have hN:=hN (by omega)
  have g1:=k6.get (by omega) (pre_get p5 g1)
  have g5:=k6.get (by omega) hb5
  obtain⟨M,rfl⟩:∃ M:Nat,N=M:=⟨N.toNat,by omega⟩
  ((try simp (maxSteps:=3000000) (dsimp:=false) (disch:=first|omega|simp only[lnx];omega) only[↓ypre,ypost,↓reduceIte,reduceEqDiff,reduceAdd,reduceSub,reduceLeDiff,zz0,ynew]);try simp only[yback])
  have szx:szX ⟨p,2,2,2,[]⟩=true:=by
   unfold szX
   rw[isP_of hp]
   rfl
  have z:=szX_facts szx
  have w0:WayE (138) .u8 27 H6 H5.length H4.length (.slice none 0 0) []:=⟨fun r hr=>by simp at hr,.inl ⟨rfl,rfl⟩⟩
  refine WC_loop_inv (fun m f K1=>∃ (i:Nat) (L:List (List Int)) (sv:Value),m=M-i∧i≤M∧f 0=srcP n∧f 2=.pointer (some ⟨h.length,0,none⟩)∧f 4=.pointer (some ⟨H4.length,0,none⟩)∧f 5=I64 ((M-i:Nat):Int)∧(Kp n h K1)∧(Src h0 K1 n)∧(H5.length≤K1.length)∧(L.length=i)∧(Byt 27 L)∧(K1.get h.length=some ⟨[.int .i64 0,.int .i64 0,.int .i64 0,.int .i64 0,.slice none 0 0],26,false,true⟩)∧(K1.get H4.length=some ⟨[I64 p,.int .i64 2,.int .i64 2,.int .i64 2,sv],26,false,true⟩)∧(WayE (138) .u8 27 K1 H5.length H4.length sv L)) ?_ (M-0) _ _ ⟨0,[],.slice none 0 0,rfl,by omega,(by first|rfl|simp[upd_apply]),(by first|rfl|simp[upd_apply]),(by first|rfl|simp[upd_apply]),(by first|rfl|simp[upd_apply]),kk.trans ((Kp.of p5).trans k6),s6,k6.len,rfl,(fun _ h=>by simp at h),g1,g5,w0⟩
  rintro m f K1 ⟨i,L,sv,rfl,hi,f0,f2,f4,f5,kq,ss,lk,li,bl,q1,q5,ww⟩
  by_cases hlt:(0:Int)<((M-i:Nat):Int)
  ·((try simp (maxSteps:=3000000) (dsimp:=false) (disch:=first|omega|simp only[lnx];omega) only[↓ypre,ypost,↓reduceIte,reduceEqDiff,reduceAdd,reduceSub,reduceLeDiff,zz0,ynew,f0,f2,f4,f5,decide_eq_true hlt,rd1_of q5,rdn_of q5,List.length_cons,List.length_nil,List.drop_zero,List.take_succ_cons,List.take_nil]);try simp only[yback])
   refine⟨by omega,s_l01DrawOf ss (x:=⟨p,2,2,2,[]⟩) z ww.one fun q H7 k7 s7 hq oq=>?_⟩
   refine⟨⟨n,rfl,k7⟩,?_⟩
   have q1:=k7.get (by omega) q1
   have q5:=k7.get (by omega) q5
   have w7:=ww.kp k7 (by omega)
   have k7l:=k7.len
   ((try simp (maxSteps:=3000000) (dsimp:=false) (disch:=first|omega|simp only[lnx];omega) only[↓ypre,ypost,↓reduceIte,reduceEqDiff,reduceAdd,reduceSub,reduceLeDiff,zz0,ynew,f0,f2,f4,f5,aggV,zrep27,hq.1,cel_len,sp27z,List.append_nil,cel_all]);try simp only[yback])
   refine w7.appG (bytes:=27) hq.1 (by omega) (by omega) (by omega) (by omega) fun sv' H8 l8 g8 w8=>?_
   have kq8:Kp n h H8:=⟨by omega,fun m hm hn=>(g8 m (.inl (by omega))).trans ((kq.trans k7).2 m hm hn)⟩
   have s8:Src h0 H8 n:=s7.keep (kq8.pre s.p s.lo) fun b g=>(g8 n (.inl (by omega))).trans g
   have q1:=(g8 _ (.inl (by omega))).trans q1
   have q5:=(g8 _ (.inr rfl)).trans q5
   have lq5:=get_lt q5
   ((try simp (maxSteps:=3000000) (dsimp:=false) (disch:=first|omega|simp only[lnx];omega) only[↓ypre,ypost,↓reduceIte,reduceEqDiff,reduceAdd,reduceSub,reduceLeDiff,zz0,ynew,f0,f2,f4,f5,w8.one,w8.cells,wr_of q5,splice_eq,wrap64_in]);try simp only[yback])
   refine InvQ_go (M-(i+1)) (by omega) ⟨(i+1),(L++[q]),sv',rfl,by omega,(by first|rfl|exact f0|(simp only[upd_apply];rfl)|(show I64 _=_;congr 1;omega)),(by first|rfl|exact f2|(simp only[upd_apply];rfl)|(show I64 _=_;congr 1;omega)),(by first|rfl|exact f4|(simp only[upd_apply];rfl)|(show I64 _=_;congr 1;omega)),(by first|rfl|exact f5|(simp only[upd_apply];rfl)|(show I64 _=_;congr 1;omega)),(kq8.putb (by omega)),(s8.putb (by omega) (by omega)),(by rw[len_put];omega),(by rw[List.length_append,li];rfl),(byt_snoc bl hq),(by rw[get_put_ne (by omega)];exact q1),(get_put_same lq5),w8.put⟩
  ·((try simp (maxSteps:=3000000) (dsimp:=false) (disch:=first|omega|simp only[lnx];omega) only[↓ypre,ypost,↓reduceIte,reduceEqDiff,reduceAdd,reduceSub,reduceLeDiff,zz0,ynew,f0,f2,f4,f5,decide_eq_false hlt]);try simp only[yback])
   have lg:=get_lt q1
   ((try simp (maxSteps:=3000000) (dsimp:=false) (disch:=first|omega|simp only[lnx];omega) only[↓ypre,ypost,↓reduceIte,reduceEqDiff,reduceAdd,reduceSub,reduceLeDiff,zz0,ynew,f0,f2,f4,f5,rdn_of q5,wr_of q1,splice_eq,rdn_put_same,ww.one]);try simp only[yback])
   exact fin ⟨p,2,2,2,L⟩ sv _ kq ss (knp L sv _ _ _ ww.inE (by omega) bl) (sb L (by omega))
 ((try simp (maxSteps:=3000000) (dsimp:=false) (disch:=first|omega|simp only[lnx];omega) only[↓ypre,ypost,↓reduceIte,reduceEqDiff,reduceAdd,reduceSub,reduceLeDiff,zz0,ynew,decide_eq_false r0,decide_eq_false r1,decide_eq_false r2,decide_eq_false r3,decide_eq_false r4,decide_eq_false r5]);try simp only[yback])
 refine s_l01Spoil s4 fun x v H5 k5 s5 sd xb=>?_
 have g1:=k5.get (by omega) g1
 have lg:=get_lt g1
 ((try simp (maxSteps:=3000000) (dsimp:=false) (disch:=first|omega|simp only[lnx];omega) only[↓ypre,ypost,↓reduceIte,reduceEqDiff,reduceAdd,reduceSub,reduceLeDiff,zz0,ynew,schV,sd.now.one,wr_of g1,splice_eq,rdn_put_same]);try simp only[yback])
 exact fin x v _ (kk.trans k5) s5 (KN.mono sd (by omega)) xb
end Go.Proofs.Ytapafdpnmakekaa.X

set_option linter.unusedVariables false
set_option linter.unusedSimpArgs false
set_option maxRecDepth 20000
set_option maxHeartbeats 4000000
namespace Go.Proofs.Ytapafdpnmakekaa.X
open Go Go.RowKit
def ProgD (lo:Nat) (h:AH) (v w:Value) (x:Prg):Prop:=KN lo h fun h'=>PrgR h' v w x
theorem WayX.kN {e:TypeId} {k:IntKind} {w lo:Nat} {h:AH} {v:Value} {L:List (List Int)} {ex:List Nat} (o:WayX e k w h lo ex v L):KN lo h fun h'=>Els k w h' v L:=o.inE.kN (Nat.le_refl _)
theorem Way2.kN {lo:Nat} {h:AH} {v w:Value} {x:Prg} (o:Way2 h lo v w x):ProgD lo h v w x:=fun h' l g=>⟨o.st.kN h' l g,o.out.kN h' l g⟩
theorem ProgD.kp {lo n:Nat} {h h':AH} {v w:Value} {x:Prg} (o:ProgD lo h v w x) (k:Kp n h h') (hn:n<lo):ProgD lo h' v w x:=KN.kp o k hn
theorem ProgD.mono {lo lo':Nat} {h:AH} {v w:Value} {x:Prg} (o:ProgD lo h v w x) (hl:lo'≤lo):ProgD lo' h v w x:=KN.mono o hl
theorem ProgD.none {lo:Nat} {h:AH} {p n:Int}:ProgD lo h (.slice none 0 0) (.slice none 0 0) ⟨p,n,[],[]⟩:=fun h' _ _=>⟨.inl ⟨rfl,0,by omega,rfl⟩,.inl ⟨rfl,0,by omega,rfl⟩⟩
theorem WayX.app_kp {e:TypeId} {k:IntKind} {w lo:Nat} {sv:Value} {L:List (List Int)} {H:AH} {q:List Int} {e':TypeId} {ro full:Bool} {bytes:Nat} (o:WayX e k w H lo [] sv L) (hq:q.length=w) (hl:((L.length:Int)+1)*bytes≤140737488355328) (hn:(L.length:Int)<1048576) (hlo:lo≤H.length)
  {Q:Value→AH→Prop} (hQ:∀ (sv':Value) (H':AH) (kb:Nat),H'.length=H.length+2→lo≤kb→(kb=H.length∨blkOf sv=some kb)→Kp kb H H'→WayX e k w H' H.length [] sv' (L++[q])→Q sv' H') :
  OQ (appV e w bytes sv (.slice (some ⟨H.length,0,none⟩) 1 w) (H.new ⟨cel k q,e',ro,full⟩)) Q:=by
 have hr:(H.new ⟨cel k q,e',ro,full⟩).rdn H.length 0 w=some (cel k q):=by
  rw[rdn_of get_new_same]
  simp only
  rw[if_pos (by rw[cel_len,hq];omega),List.drop_zero,List.take_of_length_le (by rw[cel_len,hq];omega)]
 obtain⟨hw,⟨rfl,rfl⟩|⟨kb,fu,rfl,h2,h3,h4⟩⟩:=o
 ·rw[app_nilW (.inl rfl) hr (by simp only[List.length_nil] at hl;omega),OQ_some]
  refine hQ _ _ H.length (by rw[len_new,len_new]) hlo (.inl rfl) (Kp.of (pre_new (pre_new (List.prefix_refl _)))) ⟨?_,.inr ⟨_,false,rfl,by rw[len_new];omega,by simp,?_⟩⟩
  ·intro r hr
   rw[List.nil_append,List.mem_singleton] at hr
   rw[hr,hq]
  ·rw[get_new_same]
   simp
 ·have hk:(H.new ⟨cel k q,e',ro,full⟩).get kb=some ⟨cel k L.flatten,e,false,fu⟩:=get_new_any h4
  have hkb:=get_lt h4
  rw[app_ownW hk (by rw[cel_len,flat_len hw]) hr ⟨hl,by omega⟩,OQ_some]
  refine hQ _ _ kb (by rw[len_new,len_kill,len_new]) h2 (.inr rfl) ⟨by rw[len_new,len_kill,len_new];omega,fun j hj hne=>?_⟩ ⟨?_,.inr ⟨(H.new ⟨cel k q,e',ro,full⟩).length,false,by simp,by rw[len_new];omega,by simp,?_⟩⟩
  ·rw[show ∀ b,(((H.new ⟨cel k q,e',ro,full⟩).kill kb).new b).get j=((H.new ⟨cel k q,e',ro,full⟩).kill kb).get j from fun b=>prefix_get (pre_new (List.prefix_refl _)) (by rw[len_kill,len_new];omega),get_kill_ne (Ne.symm hne)]
   exact prefix_get (pre_new (List.prefix_refl _)) hj
  ·intro r hr
   rcases List.mem_append.1 hr with hr|hr
   ·exact hw r hr
   ·rw[List.mem_singleton.1 hr,hq]
  ·rw[get_new_eq (by rw[len_kill])]
   simp[cel_app]
theorem TabS.get {h0 h:AH} {nb i:Nat} {full:Bool} {L:List (Nat×List Int)} (s:TabS h0 h nb full L) (hi:i<L.length):h.rd1 nb i=some (sl (L[i]).1 (L[i]).2.length):=by
 rw[rd1_of s.g]
 simp[hi,rowV,sl]
def prgC (x:Prg) (v w:Value):List Value:=[I64 x.p,I64 x.n,v,w]
structure Pr3 (h:AH) (nb:Nat) (x:Sch) (b:Bool) (v1 w1 v2 w2 v3 w3:Value):Prop where
 g:∃ fl,h.get nb=some ⟨prgC (pgX x b 0) v1 w1++prgC (pgX x b 1) v2 w2++prgC (pgX x b 2) v3 w3,70,false,fl⟩
 r1:PrgR h v1 w1 (pgX x b 0)
 r2:PrgR h v2 w2 (pgX x b 1)
 r3:PrgR h v3 w3 (pgX x b 2)
section
variable {h h':AH} {nb:Nat} {x:Sch} {b:Bool} {v1 w1 v2 w2 v3 w3:Value}
theorem Pr3.pre (o:Pr3 h nb x b v1 w1 v2 w2 v3 w3) (p:h<+:h'):Pr3 h' nb x b v1 w1 v2 w2 v3 w3:=
 ⟨by obtain⟨fl,g⟩:=o.g;exact⟨fl,pre_get p g⟩,o.r1.pre p,o.r2.pre p,o.r3.pre p⟩
theorem Pr3.at (o:Pr3 h nb x b v1 w1 v2 w2 v3 w3) {i:Nat} (hi:i<3):∃ y z,h.rd1 nb (i*4+2)=some y∧h.rdn nb (i*4) 4=some (prgC (pgX x b i) y z)∧PrgR h y z (pgX x b i):=by
 obtain⟨fl,g⟩:=o.g
 have hc:i=0∨i=1∨i=2:=by omega
 rcases hc with rfl|rfl|rfl
 ·exact⟨v1,w1,by rw[rd1_of g];rfl,by rw[rdn_of g];rfl,o.r1⟩
 ·exact⟨v2,w2,by rw[rd1_of g];rfl,by rw[rdn_of g];rfl,o.r2⟩
 ·exact⟨v3,w3,by rw[rd1_of g];rfl,by rw[rdn_of g];rfl,o.r3⟩
end
theorem InE.move {k:IntKind} {w a b:Nat} {h h':AH} {v:Value} {L:List (List Int)} (o:InE k w a b h v L) (hk:∀ m bl,a≤m→m<b→h.get m=some bl→h'.get m=some bl):InE k w a b h' v L:=by
 rcases o with o|⟨m,e,full,h1,rfl,h2,h3⟩
 ·exact .inl o
 ·exact .inr ⟨m,e,full,h1,rfl,hk _ _ h1.1 h1.2 h2,h3⟩
theorem InP.move {a b:Nat} {h h':AH} {v w:Value} {x:Prg} (o:InP a b h v w x) (hk:∀ m bl,a≤m→m<b→h.get m=some bl→h'.get m=some bl):InP a b h' v w x:=by
 obtain⟨c,h1,h2,h3,h4⟩:=o
 exact⟨c,h1,h2,h3.move fun m bl q1 q2 g=>hk m bl q1 (by omega) g,h4.move fun m bl q1 q2 g=>hk m bl (by omega) q2 g⟩
def StV (p n:Int) (st:List (List Int)):Prop:=∀ i,i<st.length→okStep p (n+(i:Nat)) (st.getD i [])=true
def OuV (p m:Int) (out:List (List Int)):Prop:=∀ i,i<out.length→∃ a b,out.getD i []=[a,b]∧0≤a∧a<m∧0≤b∧b<p∧¬ (b=0∧a≠0)
theorem OuV.mono {p m m':Int} {out:List (List Int)} (o:OuV p m out) (h:m≤m'):OuV p m' out:=fun i hi=>by
 obtain⟨a,b,e,h1,h2,h3⟩:=o i hi
 exact⟨a,b,e,h1,by omega,h3⟩
theorem StV.app {p n:Int} {st:List (List Int)} {q:List Int} (o:StV p n st) (hq:okStep p (n+(st.length:Nat)) q=true):StV p n (st++[q]):=fun i hi=>by
 rw[List.length_append,List.length_singleton] at hi
 by_cases e:i=st.length
 ·subst e
  rw[getD_app_r (Nat.le_refl _),Nat.sub_self]
  exact hq
 ·rw[getD_app_l (by omega)]
  exact o i (by omega)
theorem OuV.app {p m a b:Int} {out:List (List Int)} (o:OuV p m out) (h:0≤a∧a<m∧0≤b∧b<p∧¬ (b=0∧a≠0)):OuV p m (out++[[a,b]]):=fun i hi=>by
 rw[List.length_append,List.length_singleton] at hi
 by_cases e:i=out.length
 ·subst e
  rw[getD_app_r (Nat.le_refl _),Nat.sub_self]
  exact⟨a,b,rfl,h⟩
 ·rw[getD_app_l (by omega)]
  exact o i (by omega)
def dot (q ns:List Int):Nat→Int
 | 0=>0
 | j+1=>dot q ns j+q.getD j 0*ns.getD j 0
@[simp] theorem dot_0 {q ns:List Int}:dot q ns 0=0:=rfl
theorem flat_at {w i k:Nat} {L:List (List Int)} (hw:Wid w L) (hi:i<L.length) (hk:k<w):L.flatten.getD (i*w+k) 0=(L.getD i []).getD k 0:=by
 have hf:=flat_get hw hi
 have h1:=congrArg (fun l=>l[k]?) hf
 simp only[List.getElem?_take,hk,if_true,List.getElem?_drop] at h1
 rw[List.getD_eq_getElem?_getD,h1]
 rfl
section
variable (x:Prg)
def nSt (i:Nat) (r:Nat):Nat:=nq (x.st.getD i []) r
def nOut (i:Nat):Nat:=nq (x.out.getD i []) 0
def uO:Nat→List Bool
 | 0=>List.replicate (x.n.toNat+x.st.length) false
 | i+1=>if (x.out.getD i []).getD 1 0=0 then uO i else (uO i).set (nOut x i) true
def uS:Nat→List Bool
 | 0=>uO x x.out.length
 | m+1=>if (uS m).getD (x.n.toNat+(x.st.length-1-m)) false=true then ((uS m).set (nSt x (x.st.length-1-m) 0) true).set (nSt x (x.st.length-1-m) 1) true else uS m
def kp (j:Nat):Bool:=decide (j<x.n.toNat)||(uS x x.st.length).getD j false
end
variable {x:Prg}
section
variable {x:Prg}
end
theorem WayX.blk_e {e:TypeId} {k:IntKind} {w lo kb:Nat} {h:AH} {ex:List Nat} {sv:Value} {L:List (List Int)} (o:WayX e k w h lo ex sv L) (hb:blkOf sv=some kb):∃ b,h.get kb=some b∧b.e=e:=by
 obtain⟨hw,⟨rfl,_⟩|⟨kb',full,rfl,h2,h3,h4⟩⟩:=o
 ·cases hb
 ·cases hb
  exact⟨_,h4,rfl⟩
theorem WayX.ne {e:TypeId} {k:IntKind} {w lo kb m:Nat} {h:AH} {ex:List Nat} {sv:Value} {L:List (List Int)} {b:Blk} (o:WayX e k w h lo ex sv L) (hk:kb=h.length∨blkOf sv=some kb) (g:h.get m=some b) (hb:b.e≠e):m≠kb:=by
 rintro rfl
 rcases hk with rfl|hk
 ·exact absurd (get_lt g) (Nat.lt_irrefl _)
 ·obtain⟨b',g',e'⟩:=o.blk_e hk
  rw[g] at g'
  cases g'
  exact hb e'
theorem WayX.copy {e:TypeId} {k:IntKind} {w lo bytes:Nat} {sv:Value} {L:List (List Int)} {H:AH} (o:WayX e k w H lo [] sv L) (hw0:0<w) (hl:(L.length:Int)*bytes≤140737488355328) (hn:(L.length:Int)<1048576)
  {Q:Value→AH→Prop} (hQ:∀ (sv':Value) (H':AH),H<+:H'→WayX e k w H' H.length [] sv' L→Q sv' H') :
  OQ (appV e w bytes (.slice (some ⟨H.length,0,none⟩) 0 w) sv (H.new ⟨[],e,false,true⟩)) Q:=by
 have p1:H<+:H.new ⟨[],e,false,true⟩:=pre_new (List.prefix_refl _)
 have hk:(H.new ⟨[],e,false,true⟩).get H.length=some ⟨[],e,false,true⟩:=get_new_same
 by_cases h0:L=[]
 ·subst h0
  have e1:appV e w bytes (.slice (some ⟨H.length,0,none⟩) 0 w) sv (H.new ⟨[],e,false,true⟩)=some (.slice (some ⟨H.length,0,none⟩) 0 w,H.new ⟨[],e,false,true⟩):=by
   obtain⟨hw,⟨rfl,_⟩|⟨kb,fu,rfl,h2,h3,h4⟩⟩:=o
   ·simp[appV,xop,ev]
   ·have:=pre_get p1 h4
    simp[appV,xop,ev,AH.rdn,this]
  rw[e1,OQ_some]
  exact hQ _ _ p1 ⟨fun q hq=>by simp at hq,.inr ⟨H.length,true,rfl,Nat.le_refl _,by simp,hk⟩⟩
 ·have hl0:0<L.length:=List.length_pos_iff.2 h0
  obtain⟨hw,⟨rfl,h⟩|⟨kb,fu,rfl,h2,h3,h4⟩⟩:=o
  ·exact absurd h h0
  ·have g:=pre_get p1 h4
   have fl:=flat_len hw
   have hr:(H.new ⟨[],e,false,true⟩).rdn kb 0 (L.length*w)=some (cel k L.flatten):=by
    rw[rdn_of g]
    simp only
    rw[if_pos (by rw[cel_len,fl];omega),List.drop_zero,List.take_of_length_le (by rw[cel_len,fl];exact Nat.le_refl _)]
   rw[app_zeroW hk hr hl0 (by omega),OQ_some]
   refine hQ _ _ (pre_new (pre_kill p1 (Nat.le_refl _))) ⟨hw,.inr ⟨H.length+1,false,?_,by omega,by simp,?_⟩⟩
   ·rw[len_new]
   ·rw[get_new_eq (by rw[len_kill,len_new])]
structure PrgB (x:Prg):Prop where
 p:0≤x.p∧x.p≤1000
 n:-1000≤x.n∧x.n≤1000
 st:x.st.length≤10000
 out:x.out.length≤10000
end Go.Proofs.Ytapafdpnmakekaa.X

set_option linter.unusedVariables false
set_option linter.unusedSimpArgs false
set_option maxRecDepth 20000
set_option maxHeartbeats 4000000
namespace Go.Proofs.Ytapafdpnmakekaa.X
open Go Go.RowKit
open Nat (reduceEqDiff reduceAdd reduceSub reduceLeDiff)
theorem l_likeInts {v w:Value} {ns ms:List Int} {h:AH} {Q:Value→AH→Prop} (hv:Ints h v ns) (hv':Ints h w ms) (hl:(ns.length:Int)≤1048576)
  (hQ:Q (.bool (decide (ns=ms))) h):WF S 20 [v,w] h Q:=by
 refine WF_fn (fn:=c20) rfl rfl ?_
 dsimp only[c20,oO,oM,oS,oG,oK,oE,oL,oF,oX,oN]
 by_cases hne:(ns.length:Int)≠ms.length
 ·((try simp (maxSteps:=3000000) (dsimp:=false) (disch:=first|omega|simp only[lnx];omega) only[↓ypre,ypost,↓reduceIte,reduceEqDiff,reduceAdd,reduceSub,reduceLeDiff,zz0,ynew,hv.len,hv'.len,decide_eq_true hne]);try simp only[yback])
  have:ns≠ms:=fun e=>hne (by rw[e])
  simpa [this] using hQ
 ·((try simp (maxSteps:=3000000) (dsimp:=false) (disch:=first|omega|simp only[lnx];omega) only[↓ypre,ypost,↓reduceIte,reduceEqDiff,reduceAdd,reduceSub,reduceLeDiff,zz0,ynew,hv.len,hv'.len,decide_eq_false hne]);try simp only[yback])
  have hlen:ns.length=ms.length:=by omega
  refine WC_loop_inv (fun m f K1=>∃ (i:Nat),m=ns.length-i∧i≤ns.length∧f 0=v∧f 1=w∧f 5=I64 i∧(K1=h)∧(∀ j,j<i→ns.getD j 0=ms.getD j 0)) ?_ (ns.length-0) _ _ ⟨0,rfl,by omega,(by first|rfl|simp[upd_apply]),(by first|rfl|simp[upd_apply]),(by first|rfl|simp[upd_apply]),rfl,(by omega)⟩
  rintro m f K1 ⟨i,rfl,hi,f0,f1,f5,hK,hj⟩
  subst hK
  by_cases hlt:(i:Int)<ns.length
  ·obtain⟨n1,off1,hix1,hrd1⟩:=hv.cell (j:=i) (by omega)
   obtain⟨n2,off2,hix2,hrd2⟩:=hv'.cell (j:=i) (by omega)
   by_cases he:ns.getD i 0≠ms.getD i 0
   ·((try simp (maxSteps:=3000000) (dsimp:=false) (disch:=first|omega|simp only[lnx];omega) only[↓ypre,ypost,↓reduceIte,reduceEqDiff,reduceAdd,reduceSub,reduceLeDiff,zz0,ynew,f0,f1,f5,hv.len,decide_eq_true hlt,hix1,hrd1,hix2,hrd2,decide_eq_true he]);try simp only[yback])
    have:ns≠ms:=fun e=>he (by rw[e])
    simpa [this] using hQ
   ·((try simp (maxSteps:=3000000) (dsimp:=false) (disch:=first|omega|simp only[lnx];omega) only[↓ypre,ypost,↓reduceIte,reduceEqDiff,reduceAdd,reduceSub,reduceLeDiff,zz0,ynew,f0,f1,f5,hv.len,decide_eq_true hlt,hix1,hrd1,hix2,hrd2,decide_eq_false he,wrap64_in]);try simp only[yback])
    have hj':∀ j,j<i+1→ns.getD j 0=ms.getD j 0:=fun j q=>by
     rcases Nat.lt_succ_iff_lt_or_eq.1 q with q|rfl
     ·exact hj j q
     ·exact Decidable.not_not.1 he
    refine InvQ_go (ns.length-(i+1)) (by omega) ⟨(i+1),rfl,by omega,(by first|rfl|exact f0|(simp only[upd_apply];rfl)|(show I64 _=_;congr 1;omega)),(by first|rfl|exact f1|(simp only[upd_apply];rfl)|(show I64 _=_;congr 1;omega)),(by first|rfl|exact f5|(simp only[upd_apply];rfl)|(show I64 _=_;congr 1;omega)),rfl,hj'⟩
  ·((try simp (maxSteps:=3000000) (dsimp:=false) (disch:=first|omega|simp only[lnx];omega) only[↓ypre,ypost,↓reduceIte,reduceEqDiff,reduceAdd,reduceSub,reduceLeDiff,zz0,ynew,f0,f1,f5,hv.len,decide_eq_false hlt]);try simp only[yback])
   have:ns=ms:=by
    refine List.ext_getElem? fun j=>?_
    by_cases h1:j<ns.length
    ·have:=hj j (by omega)
     rw[List.getElem?_eq_getElem h1,List.getElem?_eq_getElem (by omega)]
     simpa [List.getD_eq_getElem?_getD,List.getElem?_eq_getElem h1,List.getElem?_eq_getElem (show j<ms.length by omega)] using this
    ·rw[List.getElem?_eq_none (by omega),List.getElem?_eq_none (by omega)]
   simpa [this] using hQ
theorem l_big {h:AH} {cv:Value} {code:List (List Int)} {Q:Value→AH→Prop} (c:Els .u8 1 h cv code)
  (hQ:Q (.bool (decide ((code.length:Int)>4096))) h):WF S 13 [cv] h Q:=by
 refine WF_fn (fn:=c13) rfl rfl ?_
 dsimp only[c13,oO,oM,oS,oG,oK,oE,oL,oF,oX,oN]
 ((try simp (maxSteps:=3000000) (dsimp:=false) (disch:=first|omega|simp only[lnx];omega) only[↓ypre,ypost,↓reduceIte,reduceEqDiff,reduceAdd,reduceSub,reduceLeDiff,zz0,ynew,c.len]);try simp only[yback])
 exact hQ
end Go.Proofs.Ytapafdpnmakekaa.X

set_option linter.unusedVariables false
set_option linter.unusedSimpArgs false
set_option maxRecDepth 20000
set_option maxHeartbeats 4000000
namespace Go.Proofs.Ytapafdpnmakekaa.X
open Go Go.RowKit
theorem PrgB.small {x:Prg} (b:PrgB x):SmallP x:=⟨by have:=b.st;show (x.st.length:Int)≤1048576;omega,by have:=b.out;show (x.out.length:Int)≤1048576;omega⟩
theorem ProgD.one {lo:Nat} {h:AH} {v w:Value} {x:Prg} (o:ProgD lo h v w x):isOne v=true∧isOne w=true:=⟨o.now.1.one,o.now.2.one⟩
theorem l_like {v w:Value} {ns:List Int} {h:AH} {Q:Value→AH→Prop} (hv:Ints h v ns) (hw:Ints h w ns) (hl:(ns.length:Int)≤1048576)
  (hQ:Q (.bool true) h):WF S 20 [v,w] h Q:=l_likeInts hv hw hl (by rw[decide_eq_true rfl];exact hQ)
end Go.Proofs.Ytapafdpnmakekaa.X

set_option linter.unusedVariables false
set_option linter.unusedSimpArgs false
set_option maxRecDepth 20000
set_option maxHeartbeats 4000000
namespace Go.Proofs.Ytapafdpnmakekaa.X
open Go Go.RowKit
open Nat (reduceEqDiff reduceAdd reduceSub reduceLeDiff)
theorem finX2 {f:Fr} {h:AH} {a b c n e:Nat} {x:Sch} {v l m:Value} {Q:Value→AH→Prop} (fa:f a=.pointer (some ⟨n,0,none⟩)) (fb:f b=l) (fc:f c=m)
  (ha:h.get n=some ⟨[I64 x.p,I64 x.n,I64 x.m,I64 x.k,v],e,false,true⟩) (hQ:Q (.tuple #[schV x v,l,m]) h):OQ (Option.map (fun x=>(x,h)) (xres f h [.celln a 5,.tmp b,.tmp c])) Q:=by
 rw[xres_3 (show xres1 f h (.celln a 5)=some (schV x v) from xresn fa ha rfl) (show xres1 f h (.tmp b)=some l by rw[xres1_tmp,fb]) (show xres1 f h (.tmp c)=some m by rw[xres1_tmp,fc]),Option.map_some,OQ_some]
 exact hQ
theorem s_DrawMixedCost {h:AH} {cv:Value} {code:List (List Int)} {Q:Value→AH→Prop} (c:Cod h cv code)
  (hQ:∀ (x:Sch) (v:Value) (l b:Int) (h':AH),h<+:h'→SchD h.length h' v x→SchB x→Q (.tuple #[schV x v,I64 l,I64 b]) h'):WF S 95 [cv] h Q:=by
 refine WF_fn (fn:=c95) rfl rfl ?_
 dsimp only[c95,oO,oM,oS,oG,oK,oE,oL,oF,oX,oN]
 ((try simp (maxSteps:=3000000) (dsimp:=false) (disch:=first|omega|simp only[lnx];omega) only[↓ypre,ypost,↓reduceIte,reduceEqDiff,reduceAdd,reduceSub,reduceLeDiff,zz0,ynew]);try simp only[yback])
 generalize hH1:AH.new h _=H1
 obtain⟨hb1,p1,n1⟩:=new_facts hH1
 refine s_l01From (c.els.pre p1) c.byt c.len fun H2 p2 l2 s2=>?_
 ((try simp (maxSteps:=3000000) (dsimp:=false) (disch:=first|omega|simp only[lnx];omega) only[↓ypre,ypost,↓reduceIte,reduceEqDiff,reduceAdd,reduceSub,reduceLeDiff,zz0,ynew]);try simp only[yback])
 refine s_l06Draw s2 fun x v H3 k3 s3 sd xb=>?_
 have g1:=k3.get (by omega) (pre_get p2 hb1)
 have k3l:=k3.len
 have sd:SchD H2.length H3 v x:=sd
 have sl:=s3.lt
 ((try simp (maxSteps:=3000000) (dsimp:=false) (disch:=first|omega|simp only[lnx];omega) only[↓ypre,ypost,↓reduceIte,reduceEqDiff,reduceAdd,reduceSub,reduceLeDiff,zz0,ynew]);try simp only[yback])
 refine s_l01Near s3 (by omega) fun r4 H4 k4 s4 hr4=>?_
 have g1:=k4.get (by omega) g1
 have kl4:=k4.len
 have sd:=KN.kp sd k4 (by omega)
 ((try simp (maxSteps:=3000000) (dsimp:=false) (disch:=first|omega|simp only[lnx];omega) only[↓ypre,ypost,↓reduceIte,reduceEqDiff,reduceAdd,reduceSub,reduceLeDiff,zz0,ynew,wrap64_in]);try simp only[yback])
 ((try simp (maxSteps:=3000000) (dsimp:=false) (disch:=first|omega|simp only[lnx];omega) only[↓ypre,ypost,↓reduceIte,reduceEqDiff,reduceAdd,reduceSub,reduceLeDiff,zz0,ynew,fillL,zrep]);try simp only[yback])
 generalize hH5:AH.new H4 _=H5
 obtain⟨hb5,p5,n5⟩:=new_facts hH5
 have s5:=s4.kp p5
 have g1:=pre_get p5 g1
 have sd:=KN.pre sd p5
 have kv:=kp_new (n:=H1.length) (ns:=[0,1,2,3,r4]) hH5 (by omega)
 refine s_l01Pick s5 kv (by simp) (by simp) fun j6 H6 k6 l6 s6 hj6=>?_
 have g1:=k6.get (by omega) g1
 have kl6:=k6.len
 have sd:=KN.kp sd k6 (by omega)
 generalize List.getD _ j6 0=q6
 ((try simp (maxSteps:=3000000) (dsimp:=false) (disch:=first|omega|simp only[lnx];omega) only[↓ypre,ypost,↓reduceIte,reduceEqDiff,reduceAdd,reduceSub,reduceLeDiff,zz0,ynew]);try simp only[yback])
 refine s_l01Next s6 fun r7 H7 k7 l7 s7 hr7 _=>?_
 have g1:=k7.get (by omega) g1
 have kl7:=k7.len
 have sd:=KN.kp sd k7 (by omega)
 have hr7:=hr7 (by omega)
 ((try simp (maxSteps:=3000000) (dsimp:=false) (disch:=first|omega|simp only[lnx];omega) only[↓ypre,ypost,↓reduceIte,reduceEqDiff,reduceAdd,reduceSub,reduceLeDiff,zz0,ynew,wrap64_in]);try simp only[yback])
 refine s_l01Near s7 (by omega) fun r8 H8 k8 s8 hr8=>?_
 have g1:=k8.get (by omega) g1
 have kl8:=k8.len
 have sd:=KN.kp sd k8 (by omega)
 ((try simp (maxSteps:=3000000) (dsimp:=false) (disch:=first|omega|simp only[lnx];omega) only[↓ypre,ypost,↓reduceIte,reduceEqDiff,reduceAdd,reduceSub,reduceLeDiff,zz0,ynew,wrap64_in]);try simp only[yback])
 ((try simp (maxSteps:=3000000) (dsimp:=false) (disch:=first|omega|simp only[lnx];omega) only[↓ypre,ypost,↓reduceIte,reduceEqDiff,reduceAdd,reduceSub,reduceLeDiff,zz0,ynew,fillL,zrep]);try simp only[yback])
 generalize hH9:AH.new H8 _=H9
 obtain⟨hb9,p9,n9⟩:=new_facts hH9
 have s9:=s8.kp p9
 have g1:=pre_get p9 g1
 have sd:=KN.pre sd p9
 have kv:=kp_new (n:=H1.length) (ns:=[1,1+r7,r8]) hH9 (by omega)
 refine s_l01Pick s9 kv (by simp) (by simp) fun j10 H10 k10 l10 s10 hj10=>?_
 have g1:=k10.get (by omega) g1
 have kl10:=k10.len
 have sd:=KN.kp sd k10 (by omega)
 generalize List.getD _ j10 0=q10
 ((try simp (maxSteps:=3000000) (dsimp:=false) (disch:=first|omega|simp only[lnx];omega) only[↓ypre,ypost,↓reduceIte,reduceEqDiff,reduceAdd,reduceSub,reduceLeDiff,zz0,ynew]);try simp only[yback])
 have lg:=get_lt g1
 ((try simp (maxSteps:=3000000) (dsimp:=false) (disch:=first|omega|simp only[lnx];omega) only[↓ypre,ypost,↓reduceIte,reduceEqDiff,reduceAdd,reduceSub,reduceLeDiff,zz0,ynew,schV,sd.now.one,wr_of g1,splice_eq,rdn_put_same]);try simp only[yback])
 refine finX2 (x:=x) (v:=v) rfl rfl rfl (get_put_same lg) ?_
 exact hQ x v _ _ _ (pre_put (p1.trans s10.p) (Nat.le_refl _)) (KN.mono (KN.put sd (by omega)) (by omega)) xb
theorem s_DrawRepeatedCost {h:AH} {cv:Value} {code:List (List Int)} {Q:Value→AH→Prop} (c:Cod h cv code)
  (hQ:∀ (x:Sch) (v:Value) (l:Int) (h':AH),h<+:h'→SchD h.length h' v x→SchB x→Q (.tuple #[schV x v,I64 l]) h'):WF S 89 [cv] h Q:=by
 refine WF_fn (fn:=c89) rfl rfl ?_
 dsimp only[c89,oO,oM,oS,oG,oK,oE,oL,oF,oX,oN]
 ((try simp (maxSteps:=3000000) (dsimp:=false) (disch:=first|omega|simp only[lnx];omega) only[↓ypre,ypost,↓reduceIte,reduceEqDiff,reduceAdd,reduceSub,reduceLeDiff,zz0,ynew]);try simp only[yback])
 generalize hH1:AH.new h _=H1
 obtain⟨hb1,p1,n1⟩:=new_facts hH1
 refine s_l01From (c.els.pre p1) c.byt c.len fun H2 p2 l2 s2=>?_
 ((try simp (maxSteps:=3000000) (dsimp:=false) (disch:=first|omega|simp only[lnx];omega) only[↓ypre,ypost,↓reduceIte,reduceEqDiff,reduceAdd,reduceSub,reduceLeDiff,zz0,ynew]);try simp only[yback])
 refine s_l06Draw s2 fun x v H3 k3 s3 sd xb=>?_
 have g1:=k3.get (by omega) (pre_get p2 hb1)
 have k3l:=k3.len
 have sd:SchD H2.length H3 v x:=sd
 have sl:=s3.lt
 ((try simp (maxSteps:=3000000) (dsimp:=false) (disch:=first|omega|simp only[lnx];omega) only[↓ypre,ypost,↓reduceIte,reduceEqDiff,reduceAdd,reduceSub,reduceLeDiff,zz0,ynew]);try simp only[yback])
 refine s_l01Near s3 (by omega) fun r4 H4 k4 s4 hr4=>?_
 have g1:=k4.get (by omega) g1
 have kl4:=k4.len
 have sd:=KN.kp sd k4 (by omega)
 ((try simp (maxSteps:=3000000) (dsimp:=false) (disch:=first|omega|simp only[lnx];omega) only[↓ypre,ypost,↓reduceIte,reduceEqDiff,reduceAdd,reduceSub,reduceLeDiff,zz0,ynew,wrap64_in]);try simp only[yback])
 ((try simp (maxSteps:=3000000) (dsimp:=false) (disch:=first|omega|simp only[lnx];omega) only[↓ypre,ypost,↓reduceIte,reduceEqDiff,reduceAdd,reduceSub,reduceLeDiff,zz0,ynew,fillL,zrep]);try simp only[yback])
 generalize hH5:AH.new H4 _=H5
 obtain⟨hb5,p5,n5⟩:=new_facts hH5
 have s5:=s4.kp p5
 have g1:=pre_get p5 g1
 have sd:=KN.pre sd p5
 have kv:=kp_new (n:=H1.length) (ns:=[0,1,2,3,r4]) hH5 (by omega)
 refine s_l01Pick s5 kv (by simp) (by simp) fun j6 H6 k6 l6 s6 hj6=>?_
 have g1:=k6.get (by omega) g1
 have kl6:=k6.len
 have sd:=KN.kp sd k6 (by omega)
 generalize List.getD _ j6 0=q6
 ((try simp (maxSteps:=3000000) (dsimp:=false) (disch:=first|omega|simp only[lnx];omega) only[↓ypre,ypost,↓reduceIte,reduceEqDiff,reduceAdd,reduceSub,reduceLeDiff,zz0,ynew]);try simp only[yback])
 have lg:=get_lt g1
 ((try simp (maxSteps:=3000000) (dsimp:=false) (disch:=first|omega|simp only[lnx];omega) only[↓ypre,ypost,↓reduceIte,reduceEqDiff,reduceAdd,reduceSub,reduceLeDiff,zz0,ynew,schV,sd.now.one,wr_of g1,splice_eq,rdn_put_same]);try simp only[yback])
 exact hQ x v _ _ (pre_put (p1.trans s6.p) (Nat.le_refl _)) (KN.mono (KN.put sd (by omega)) (by omega)) xb
theorem i_Grow {n:Int} {h:AH} {Q:Value→AH→Prop} (hn:1≤n∧n≤1048576) (hQ:Q (sl h.length 0) (h.new ⟨[],2,false,false⟩)):WF S 287 [.slice none 0 0,I64 n] h Q:=by
 refine WF_fn (fn:=c287) rfl rfl ?_
 dsimp only[c287,oO,oM,oS,oG,oK,oE,oL,oF,oX,oN]
 ((try simp (maxSteps:=3000000) (dsimp:=false) (disch:=first|omega|simp only[lnx];omega) only[↓ypre,ypost,↓reduceIte,reduceEqDiff,reduceAdd,reduceSub,reduceLeDiff,zz0,ynew,decide_eq_false (show ¬ n<0 by omega),capV_nil,show lenV (.slice none 0 0)=some (I64 0) from rfl,wrap64_in,Int.sub_zero,decide_eq_true (show (0:Int)<n by omega),decide_eq_true (show n>0 by omega)]);try simp only[yback])
 have s1:slcV 1 (.slice none 0 0) none (some (I64 0))=some (.slice none 0 0):=rfl
 ((try simp (maxSteps:=3000000) (dsimp:=false) (disch:=first|omega|simp only[lnx];omega) only[↓ypre,ypost,↓reduceIte,reduceEqDiff,reduceAdd,reduceSub,reduceLeDiff,zz0,ynew,omapF_none,omapF_some,s1]);try simp only[yback])
 have e1:appzV 2 1 8 (.slice none 0 0) (I64 n) h=some (.slice (some ⟨h.length,0,none⟩) n.toNat 1,h.new ⟨[],2,false,false⟩):=by
  rw[appzV_nil,if_pos (by omega)]
 ((try simp (maxSteps:=3000000) (dsimp:=false) (disch:=first|omega|simp only[lnx];omega) only[↓ypre,ypost,↓reduceIte,reduceEqDiff,reduceAdd,reduceSub,reduceLeDiff,zz0,ynew,e1]);try simp only[yback])
 have s2:slcV 1 (.slice (some ⟨h.length,0,none⟩) n.toNat 1) none (some (.int .i64 ((0:Nat):Int)))=some (sl h.length 0):=by
  simp[slcV,boundV,sl]
 ((try simp (maxSteps:=3000000) (dsimp:=false) (disch:=first|omega|simp only[lnx];omega) only[↓ypre,ypost,↓reduceIte,reduceEqDiff,reduceAdd,reduceSub,reduceLeDiff,zz0,ynew,omapF_none,omapF_some,s2]);try simp only[yback])
 exact hQ
theorem Lst.appL {H:AH} {n:Nat} {l ns:List Int} {full:Bool} {v:Value} (o:Lst H n l full) (hv:Ints H v ns) (h0:0<ns.length) (hl:(l.length:Int)+ns.length≤1048576) {Q:Value→AH→Prop}
  (hQ:∀ H',H'.length=H.length+1→(∀ h0:AH,h0.length≤n→h0<+:H→h0<+:H')→Lst H' H.length (l++ns) false→Q (sl H.length (l++ns).length) H') :
  OQ (appV 2 1 8 (sl n l.length) v H) Q:=by
 obtain⟨n',off,rfl,hr⟩:=hv.vals.rdn (by simpa using h0)
 rw[List.length_map] at hr
 have e:appV 2 1 8 (sl n l.length) (.slice (some ⟨n',off,none⟩) (ns.map (Value.int .i64)).length 1) H=some (sl H.length (l++ns).length,(H.kill n).new ⟨(l++ns).map (Value.int .i64),2,false,false⟩):=by
  simp only[appV,xop,ev,sl,if_true,Nat.mul_one,List.length_map,hr]
  rw[if_pos (by omega),if_neg (by omega)]
  unfold Lst at o
  simp[o]
 rw[e,OQ_some]
 exact hQ _ (by rw[len_new,len_kill]) (fun h0 q p=>pre_new (pre_kill p q)) (get_new_eq (by rw[len_kill]))
theorem i_Concat {v:Value} {L:List (List Int)} {w:Nat} {h:AH} {Q:Value→AH→Prop} (hv:Rows h v L) (hw:Wid w L) (h1:1≤w∧w≤1000) (h2:1≤L.length∧L.length≤1000)
  (hQ:∀ n full h',h.length≤n→h<+:h'→Lst h' n L.flatten full→Q (sl n L.flatten.length) h'):WF S 165 [v] h Q:=by
 refine WF_fn (fn:=c165) rfl rfl ?_
 dsimp only[c165,oO,oM,oS,oG,oK,oE,oL,oF,oX,oN]
 have hwl:∀ i,i<L.length→(L.getD i []).length=w:=fun i hi=>hw _ (by rw[List.getD_eq_getElem?_getD,List.getElem?_eq_getElem hi];exact List.getElem_mem hi)
 have hLw:L.length*w≤1000*1000:=Nat.mul_le_mul h2.2 h1.2
 have hLw1:1*1≤L.length*w:=Nat.mul_le_mul h2.1 h1.1
 ((try simp (maxSteps:=3000000) (dsimp:=false) (disch:=first|omega|simp only[lnx];omega) only[↓ypre,ypost,↓reduceIte,reduceEqDiff,reduceAdd,reduceSub,reduceLeDiff,zz0,ynew,hv.len]);try simp only[yback])
 refine WC_loop_inv (fun m f K1=>∃ (i:Nat),m=L.length-i∧i≤L.length∧f 0=v∧f 3=I64 ((i*w:Nat):Int)∧f 9=v∧f 10=I64 L.length∧f 11=I64 i∧(K1=h)) ?_ (L.length-0) _ _ ⟨0,rfl,by omega,(by first|rfl|simp[upd_apply]),(by first|rfl|simp[upd_apply]),(by first|rfl|simp[upd_apply]),(by first|rfl|simp[upd_apply]),(by first|rfl|simp[upd_apply]),rfl⟩
 rintro m f K1 ⟨i,rfl,hi,f0,f3,f9,f10,f11,hK⟩
 subst hK
 by_cases hlt:(i:Int)<L.length
 ·have hi':i<L.length:=by omega
  obtain⟨n0,off0,x0,hix0,hrd0,i0⟩:=hv.row hi'
  have hm:=mul_row (w:=w) hi'
  have hc:(((i*w:Nat):Int)+((L.getD i []).length:Int))=(((i+1)*w:Nat):Int):=by rw[hwl i hi',Nat.succ_mul];omega
  have hb:((i+1)*w:Nat)≤1000000:=by rw[Nat.succ_mul];omega
  ((try simp (maxSteps:=3000000) (dsimp:=false) (disch:=first|omega|simp only[lnx];omega) only[↓ypre,ypost,↓reduceIte,reduceEqDiff,reduceAdd,reduceSub,reduceLeDiff,zz0,ynew,f0,f3,f9,f10,f11,decide_eq_true hlt,hix0,hrd0,i0.len,hc,wrap64_in,decide_eq_false (show ¬ (((i+1)*w:Nat):Int)<0 by omega)]);try simp only[yback])
  refine InvQ_go (L.length-(i+1)) (by omega) ⟨(i+1),rfl,by omega,(by first|rfl|exact f0|(simp only[upd_apply];rfl)|(show I64 _=_;congr 1;omega)),(by first|rfl|exact f3|(simp only[upd_apply];rfl)|(show I64 _=_;congr 1;omega)),(by first|rfl|exact f9|(simp only[upd_apply];rfl)|(show I64 _=_;congr 1;omega)),(by first|rfl|exact f10|(simp only[upd_apply];rfl)|(show I64 _=_;congr 1;omega)),(by first|rfl|exact f11|(simp only[upd_apply];rfl)|(show I64 _=_;congr 1;omega)),rfl⟩
 have ei:i=L.length:=by omega
 subst ei
 ((try simp (maxSteps:=3000000) (dsimp:=false) (disch:=first|omega|simp only[lnx];omega) only[↓ypre,ypost,↓reduceIte,reduceEqDiff,reduceAdd,reduceSub,reduceLeDiff,zz0,ynew,f0,f3,f9,f10,f11,decide_eq_false hlt]);try simp only[yback])
 refine i_Grow (by omega) ?_
 generalize hH1:AH.new K1 _=H1
 obtain⟨hb1,p1,n1⟩:=new_facts hH1
 have l0:Lst H1 K1.length (L.take 0).flatten false:=hb1
 ((try simp (maxSteps:=3000000) (dsimp:=false) (disch:=first|omega|simp only[lnx];omega) only[↓ypre,ypost,↓reduceIte,reduceEqDiff,reduceAdd,reduceSub,reduceLeDiff,zz0,ynew,f0,f3,f9,f10,f11,hv.len]);try simp only[yback])
 refine WC_loop_inv (fun m f K2=>∃ (i:Nat) (kn:Nat) (fu:Bool),m=L.length-i∧i≤L.length∧f 6=sl kn (L.take i).flatten.length∧f 25=v∧f 26=I64 L.length∧f 27=I64 i∧(K1<+:K2)∧(Lst K2 kn (L.take i).flatten fu)∧(K1.length≤kn)) ?_ (L.length-0) _ _ ⟨0,K1.length,false,rfl,by omega,(by first|rfl|simp[upd_apply]),(by first|rfl|simp[upd_apply]),(by first|rfl|simp[upd_apply]),(by first|rfl|simp[upd_apply]),p1,l0,Nat.le_refl _⟩
 rintro m f K2 ⟨i,kn,fu,rfl,hi,f6,f25,f26,f27,pp,lo,hk⟩
 by_cases hlt:(i:Int)<L.length
 ·have hi':i<L.length:=by omega
  obtain⟨n0,off0,x0,hix0,hrd0,i0⟩:=(hv.pre pp).row hi'
  have et:(L.take i).flatten++L.getD i []=(L.take (i+1)).flatten:=by
   rw[take_next (d:=[]) hi',List.flatten_append]
   simp
  have lt:(L.take i).flatten.length=i*w:=by
   rw[flat_len (fun q hq=>hw q (List.mem_of_mem_take hq)),List.length_take,Nat.min_eq_left (by omega)]
  have hm:=mul_row (w:=w) hi'
  have hwi:=hwl i hi'
  ((try simp (maxSteps:=3000000) (dsimp:=false) (disch:=first|omega|simp only[lnx];omega) only[↓ypre,ypost,↓reduceIte,reduceEqDiff,reduceAdd,reduceSub,reduceLeDiff,zz0,ynew,f6,f25,f26,f27,decide_eq_true hlt,hix0,hrd0]);try simp only[yback])
  refine lo.appL i0 (by omega) (by omega) fun H5 l5 pre5 lo5=>?_
  rw[et] at lo5 ⊢
  ((try simp (maxSteps:=3000000) (dsimp:=false) (disch:=first|omega|simp only[lnx];omega) only[↓ypre,ypost,↓reduceIte,reduceEqDiff,reduceAdd,reduceSub,reduceLeDiff,zz0,ynew,f6,f25,f26,f27,wrap64_in]);try simp only[yback])
  refine InvQ_go (L.length-(i+1)) (by omega) ⟨(i+1),K2.length,false,rfl,by omega,(by first|rfl|exact f6|(simp only[upd_apply];rfl)|(show I64 _=_;congr 1;omega)),(by first|rfl|exact f25|(simp only[upd_apply];rfl)|(show I64 _=_;congr 1;omega)),(by first|rfl|exact f26|(simp only[upd_apply];rfl)|(show I64 _=_;congr 1;omega)),(by first|rfl|exact f27|(simp only[upd_apply];rfl)|(show I64 _=_;congr 1;omega)),(pre5 _ hk pp),lo5,(by have:=pre_len pp;omega)⟩
 have ei:i=L.length:=by omega
 subst ei
 rw[List.take_of_length_le (Nat.le_refl _)] at lo f6
 ((try simp (maxSteps:=3000000) (dsimp:=false) (disch:=first|omega|simp only[lnx];omega) only[↓ypre,ypost,↓reduceIte,reduceEqDiff,reduceAdd,reduceSub,reduceLeDiff,zz0,ynew,f6,f25,f26,f27,decide_eq_false hlt]);try simp only[yback])
 exact hQ _ _ _ hk pp lo
theorem i_matrixR {q:List Int} {N n:Nat} {h:AH} {Q:Value→AH→Prop} (hq:By 9 q) (hn:1≤n∧1≤N∧N*n≤9) (hQ:∀ v' h',h<+:h'→OwnRows h h' v' (parts (q.take (N*n)) n N)→Q v' h'):WF S 310 [aggV .u8 q,I64 N,I64 n] h Q:=by
 refine WF_fn (fn:=c310) rfl rfl ?_
 dsimp only[c310,oO,oM,oS,oG,oK,oE,oL,oF,oX,oN]
 ((try simp (maxSteps:=3000000) (dsimp:=false) (disch:=first|omega|simp only[lnx];omega) only[↓ypre,ypost,↓reduceIte,reduceEqDiff,reduceAdd,reduceSub,reduceLeDiff,zz0,ynew,aggV,cel_all,cellsL_cel]);try simp only[yback])
 generalize hH1:AH.new h _=H1
 obtain⟨hb1,p1,n1⟩:=new_facts hH1
 generalize hH2:AH.new H1 _=H2
 obtain⟨hb2,p2,n2⟩:=new_facts hH2
 have l0:Lst H2 H1.length (q.take 0) true:=hb2
 have hq1:=hq.1
 have em:(N:Int)*(n:Int)=((N*n:Nat):Int):=by push_cast;rfl
 have m9:=hn.2.2
 generalize hm:N*n=z at *
 have wm:IntKind.i64.wrap (z:Int)=z:=wrap64_in (by omega) (by omega)
 ((try simp (maxSteps:=3000000) (dsimp:=false) (disch:=first|omega|simp only[lnx];omega) only[↓ypre,ypost,↓reduceIte,reduceEqDiff,reduceAdd,reduceSub,reduceLeDiff,zz0,ynew,em,wm]);try simp only[yback])
 refine WC_loop_inv (fun m f K1=>∃ (i:Nat) (k:Nat) (fu:Bool),m=z-i∧i≤z∧f 2=I64 n∧f 3=.pointer (some ⟨h.length,0,none⟩)∧f 7=sl k (q.take i).length∧f 12=I64 z∧f 13=I64 i∧(H1<+:K1)∧(Lst K1 k (q.take i) fu)∧(H1.length≤k)) ?_ (z-0) _ _ ⟨0,H1.length,true,rfl,by omega,(by first|rfl|simp[upd_apply]),(by first|rfl|simp[upd_apply]),(by first|rfl|simp[upd_apply]),(by first|rfl|simp[upd_apply]),(by first|rfl|simp[upd_apply]),p2,l0,Nat.le_refl _⟩
 rintro m f K1 ⟨i,k,fu,rfl,hi,f2,f3,f7,f12,f13,pp,lo,hk⟩
 have hb:=pre_get pp hb1
 by_cases hlt:(i:Int)<z
 ·have hi':i<z:=by omega
  have g1:=cel_get (k:=.u8) (q:=q) (j:=i) (by omega)
  have ixa:=ixa_u (n:=h.length) (off:=0) (len:=9) (kk:=.i64) (j:=i) (by omega)
  rw[Nat.zero_add] at ixa
  have b1:=hq.2 i (by omega)
  ((try simp (maxSteps:=3000000) (dsimp:=false) (disch:=first|omega|simp only[lnx];omega) only[↓ypre,ypost,↓reduceIte,reduceEqDiff,reduceAdd,reduceSub,reduceLeDiff,zz0,ynew,f2,f3,f7,f12,f13,decide_eq_true hlt,ixa,rd1_of hb,g1,wrap64_in]);try simp only[yback])
  refine lo.app3 (by rw[List.length_take];omega) fun H5 l5 pre5 keep5 lo5=>?_
  have et:q.take i++[q.getD i 0]=q.take (i+1):=(take_next (by omega)).symm
  ((try simp (maxSteps:=3000000) (dsimp:=false) (disch:=first|omega|simp only[lnx];omega) only[↓ypre,ypost,↓reduceIte,reduceEqDiff,reduceAdd,reduceSub,reduceLeDiff,zz0,ynew,f2,f3,f7,f12,f13,wrap64_in]);try simp only[yback])
  refine InvQ_go (z-(i+1)) (by omega) ⟨(i+1),(K1.length+1),false,rfl,by omega,(by first|rfl|exact f2|(simp only[upd_apply];rfl)|(show I64 _=_;congr 1;omega)),(by first|rfl|exact f3|(simp only[upd_apply];rfl)|(show I64 _=_;congr 1;omega)),(by rw[←et];rfl),(by first|rfl|exact f12|(simp only[upd_apply];rfl)|(show I64 _=_;congr 1;omega)),(by first|rfl|exact f13|(simp only[upd_apply];rfl)|(show I64 _=_;congr 1;omega)),(pre5 _ hk pp),(by rw[←et];exact lo5),(by have:=pre_len pp;omega)⟩
 have ei:i=z:=by omega
 subst ei
 ((try simp (maxSteps:=3000000) (dsimp:=false) (disch:=first|omega|simp only[lnx];omega) only[↓ypre,ypost,↓reduceIte,reduceEqDiff,reduceAdd,reduceSub,reduceLeDiff,zz0,ynew,f2,f3,f7,f12,f13,decide_eq_false hlt]);try simp only[yback])
 have ql:(q.take i).length=i:=by rw[List.length_take];omega
 refine i_parted (w:=n) (n:=N) lo.ints (by omega) (by omega) (by rw[ql,hm]) fun v' H3 p3 o3=>?_
 ((try simp (maxSteps:=3000000) (dsimp:=false) (disch:=first|omega|simp only[lnx];omega) only[↓ypre,ypost,↓reduceIte,reduceEqDiff,reduceAdd,reduceSub,reduceLeDiff,zz0,ynew,f2,f3,f7,f12,f13]);try simp only[yback])
 exact hQ _ _ ((p1.trans pp).trans p3) (o3.lo (by have:=pre_len (p1.trans pp);omega))
def padF (l:List Int) (i:Nat):List Int:=l.take i++List.replicate (9-i) 0
theorem padF_len {l:List Int} {i:Nat} (hi:i≤l.length) (h9:l.length≤9):(padF l i).length=9:=by
 unfold padF
 rw[List.length_append,List.length_take,List.length_replicate]
 omega
theorem padF_set {l:List Int} {i:Nat} (hi:i<l.length) (h9:l.length≤9):(padF l i).set i (l.getD i 0)=padF l (i+1):=by
 unfold padF
 have e:l.take (i+1)=l.take i++[l.getD i 0]:=take_next hi
 rw[List.set_append_right _ _ (by rw[List.length_take];omega),List.length_take,show i-min i l.length=0 by omega,show 9-i=(9-(i+1))+1 by omega,List.replicate_succ,List.set_cons_zero,e]
 simp
theorem i_formOf {v:Value} {R:List (List Int)} {w:Nat} {h:AH} {Q:Value→AH→Prop} (hv:Rows h v R) (hw:Wid w R) (h1:1≤w∧w≤9) (h2:1≤R.length∧R.length≤9) (h9:R.flatten.length≤9) (hb:∀ i,i<R.flatten.length→0≤R.flatten.getD i 0∧R.flatten.getD i 0≤255)
  (hQ:∀ h',h<+:h'→Q (aggV .u8 (padF R.flatten R.flatten.length)) h'):WF S 309 [v] h Q:=by
 refine WF_fn (fn:=c309) rfl rfl ?_
 dsimp only[c309,oO,oM,oS,oG,oK,oE,oL,oF,oX,oN]
 ((try simp (maxSteps:=3000000) (dsimp:=false) (disch:=first|omega|simp only[lnx];omega) only[↓ypre,ypost,↓reduceIte,reduceEqDiff,reduceAdd,reduceSub,reduceLeDiff,zz0,ynew,zeros9,fillL]);try simp only[yback])
 generalize hH1:AH.new h _=H1
 obtain⟨hb1,p1,n1⟩:=new_facts hH1
 ((try simp (maxSteps:=3000000) (dsimp:=false) (disch:=first|omega|simp only[lnx];omega) only[↓ypre,ypost,↓reduceIte,reduceEqDiff,reduceAdd,reduceSub,reduceLeDiff,zz0,ynew,zeros9,fillL,cel_len,List.length_replicate,cel_all,sp9]);try simp only[yback])
 generalize hH2:AH.new H1 _=H2
 obtain⟨hb2,p2,n2⟩:=new_facts hH2
 refine i_Concat (hv.pre (p1.trans p2)) hw ⟨h1.1,by omega⟩ ⟨h2.1,by omega⟩ fun n full H3 hn p3 lo=>?_
 generalize hF:R.flatten=F at *
 have g1:=pre_get (p2.trans p3) hb1
 have g2:=pre_get p3 hb2
 have li:=lo.ints
 have ll:=li.len
 ((try simp (maxSteps:=3000000) (dsimp:=false) (disch:=first|omega|simp only[lnx];omega) only[↓ypre,ypost,↓reduceIte,reduceEqDiff,reduceAdd,reduceSub,reduceLeDiff,zz0,ynew,ll]);try simp only[yback])
 refine WC_loop_inv (fun m f K1=>∃ (i:Nat),m=F.length-i∧i≤F.length∧f 2=.pointer (some ⟨h.length,0,none⟩)∧f 3=.pointer (some ⟨H1.length,0,none⟩)∧f 8=sl n F.length∧f 9=I64 F.length∧f 10=I64 i∧(H1<+:K1)∧(Lst K1 n F full)∧(K1.get H1.length=some ⟨cel .u8 (padF F i),136,false,true⟩)) ?_ (F.length-0) _ _ ⟨0,rfl,by omega,(by first|rfl|simp[upd_apply]),(by first|rfl|simp[upd_apply]),(by first|rfl|simp[upd_apply]),(by first|rfl|simp[upd_apply]),(by first|rfl|simp[upd_apply]),p2.trans p3,lo,g2⟩
 rintro m f K1 ⟨i,rfl,hi,f2,f3,f8,f9,f10,pp,il,g⟩
 by_cases hlt:(i:Int)<F.length
 ·obtain⟨nn,off,ix,rd⟩:=il.ints.cell (j:=i) (by omega)
  have ix:=ix .i64
  have b8:=hb i (by omega)
  have st:=cel_set (k:=.u8) (q:=padF F i) (j:=i) (x:=F.getD i 0) (by rw[padF_len (by omega) h9];omega)
  rw[padF_set (by omega) h9] at st
  have lp:=padF_len (l:=F) (i:=i) (by omega) h9
  have ia:ixaV 9 1 (.pointer (some ⟨H1.length,0,none⟩)) (I64 i)=_:=ixaV_ptr ⟨by omega,by omega⟩
  ((try simp (maxSteps:=3000000) (dsimp:=false) (disch:=first|omega|simp only[lnx];omega) only[↓ypre,ypost,↓reduceIte,reduceEqDiff,reduceAdd,reduceSub,reduceLeDiff,zz0,ynew,f2,f3,f8,f9,f10,decide_eq_true hlt,ix,rd,wrap8_in,wrap64_in,↓WX_ixa,ia,Int.toNat_natCast,Nat.mul_one,wr_of g,st,cel_len,lp]);try simp only[yback])
  refine⟨by omega,?_⟩
  ((try simp (maxSteps:=3000000) (dsimp:=false) (disch:=first|omega|simp only[lnx];omega) only[↓ypre,ypost,↓reduceIte,reduceEqDiff,reduceAdd,reduceSub,reduceLeDiff,zz0,ynew,f2,f3,f8,f9,f10,wrap64_in]);try simp only[yback])
  refine InvQ_go (F.length-(i+1)) (by omega) ⟨(i+1),rfl,by omega,(by first|rfl|exact f2|(simp only[upd_apply];rfl)|(show I64 _=_;congr 1;omega)),(by first|rfl|exact f3|(simp only[upd_apply];rfl)|(show I64 _=_;congr 1;omega)),(by first|rfl|exact f8|(simp only[upd_apply];rfl)|(show I64 _=_;congr 1;omega)),(by first|rfl|exact f9|(simp only[upd_apply];rfl)|(show I64 _=_;congr 1;omega)),(by first|rfl|exact f10|(simp only[upd_apply];rfl)|(show I64 _=_;congr 1;omega)),(pre_put pp (Nat.le_refl _)),(il.put_ne (by omega)),(get_put_same (get_lt g))⟩
 ·have ei:i=F.length:=by omega
  subst ei
  have lp:=padF_len (l:=F) (i:=F.length) (Nat.le_refl _) h9
  have t9:(cel .u8 (padF F F.length)).take 9=cel .u8 (padF F F.length):=List.take_of_length_le (by rw[cel_len,lp];exact Nat.le_refl _)
  have g0:=pre_get pp hb1
  have w9:=wr_full (vs:=cel .u8 (padF F F.length)) g0 (by rw[cel_len,lp];rfl)
  have l0:=get_lt g0
  ((try simp (maxSteps:=3000000) (dsimp:=false) (disch:=first|omega|simp only[lnx];omega) only[↓ypre,ypost,↓reduceIte,reduceEqDiff,reduceAdd,reduceSub,reduceLeDiff,zz0,ynew,f2,f3,f8,f9,f10,decide_eq_false hlt,rdn_of g,cel_len,lp,t9,cel_all,w9,rdn_put_same]);try simp only[yback])
  exact hQ _ (pre_put (p1.trans pp) (Nat.le_refl _))
def tuF (q:List Int) (N M:Nat):List Int:=gen 9 fun e=>if e<N*M then q.getD (e%N*M+e / N) 0 else 0
theorem getD_extI {a b:List Int} (hl:a.length=b.length) (h:∀ i,i<a.length→a.getD i 0=b.getD i 0):a=b:=List.ext_getElem hl fun i h1 h2=>by
 have:=h i h1
 rwa [List.getD_eq_getElem?_getD,List.getElem?_eq_getElem h1,List.getD_eq_getElem?_getD,List.getElem?_eq_getElem h2,Option.getD_some,Option.getD_some] at this
theorem parts_at {q:List Int} {N M i j:Nat} (hq:N*M≤q.length) (hi:i<N) (hj:j<M):((parts (q.take (N*M)) M N).getD i []).getD j 0=q.getD (i*M+j) 0:=by
 have h1:i*M+M≤N*M:=by rw[←Nat.succ_mul];exact Nat.mul_le_mul_right M hi
 rw[parts_get hi,List.getD_eq_getElem?_getD,List.getElem?_take_of_lt hj,List.getElem?_drop,List.getElem?_take_of_lt (by omega),←List.getD_eq_getElem?_getD]
theorem parts_wid {q:List Int} {N M:Nat} (hq:N*M≤q.length):∀ i,i<N→((parts (q.take (N*M)) M N).getD i []).length=M:=fun i hi=>by
 have h1:i*M+M≤N*M:=by rw[←Nat.succ_mul];exact Nat.mul_le_mul_right M hi
 rw[parts_get hi,List.length_take,List.length_drop,List.length_take]
 omega
theorem trF_eq {q:List Int} {N M:Nat} (hq:N*M≤q.length) (hN:1≤N):(trL (parts (q.take (N*M)) M N) M).flatten=gen (N*M) fun e=>q.getD (e%N*M+e / N) 0:=by
 have hw:Wid N (trL (parts (q.take (N*M)) M N) M):=wid_of fun j hj=>by
  rw[trL_len] at hj
  rw[trL_get hj,gen_len,parts_len]
 have hl:(trL (parts (q.take (N*M)) M N) M).flatten.length=N*M:=by rw[flat_len hw,trL_len,Nat.mul_comm]
 refine getD_extI (by rw[hl,gen_len]) fun e he=>?_
 rw[hl] at he
 have h1:e%N<N:=Nat.mod_lt _ (by omega)
 have h2:e / N<M:=Nat.div_lt_of_lt_mul he
 have h3:e / N*N+e%N=e:=by rw[Nat.mul_comm];exact Nat.div_add_mod e N
 have fa:=flat_at hw (i:=e / N) (k:=e%N) (by rw[trL_len];exact h2) h1
 rw[h3] at fa
 rw[fa,trL_get h2,gen_get (by rw[parts_len];exact h1),parts_at hq h1 h2,gen_get he]
theorem tuF_eq {q:List Int} {N M:Nat} (hq:N*M≤q.length) (hN:1≤N) (h9:N*M≤9):padF (trL (parts (q.take (N*M)) M N) M).flatten (trL (parts (q.take (N*M)) M N) M).flatten.length=tuF q N M:=by
 rw[trF_eq hq hN]
 generalize hg:(gen (N*M) fun e=>q.getD (e%N*M+e / N) 0)=g
 have hl:g.length=N*M:=by rw[←hg,gen_len]
 unfold padF tuF
 refine getD_extI (by rw[List.length_append,List.length_take,List.length_replicate,gen_len];omega) fun e he=>?_
 rw[List.length_append,List.length_take,List.length_replicate] at he
 rw[gen_get (by omega),List.take_of_length_le (Nat.le_refl _)]
 by_cases h:e<N*M
 ·rw[if_pos h,getD_app_l (by omega),←hg,gen_get h]
 ·rw[if_neg h,getD_app_r (by omega),List.getD_eq_getElem?_getD,List.getElem?_replicate]
  split<;>rfl
theorem i_turnedForm {q:List Int} {N M:Nat} {h:AH} {Q:Value→AH→Prop} (hq:By 9 q) (hn:1≤M∧1≤N∧N*M≤9) (hQ:∀ h',h<+:h'→Q (aggV .u8 (tuF q N M)) h'):WF S 239 [aggV .u8 q,I64 N,I64 M] h Q:=by
 refine WF_fn (fn:=c239) rfl rfl ?_
 dsimp only[c239,oO,oM,oS,oG,oK,oE,oL,oF,oX,oN]
 have q9:=hq.1
 have t9:(cel .u8 q).take 9=cel .u8 q:=List.take_of_length_le (by rw[cel_len,q9];exact Nat.le_refl _)
 ((try simp (maxSteps:=3000000) (dsimp:=false) (disch:=first|omega|simp only[lnx];omega) only[↓ypre,ypost,↓reduceIte,reduceEqDiff,reduceAdd,reduceSub,reduceLeDiff,zz0,ynew,aggV,cellsL_cel,cel_all]);try simp only[yback])
 generalize hH1:AH.new h _=H1
 obtain⟨hb1,p1,n1⟩:=new_facts hH1
 generalize hH2:AH.new H1 _=H2
 obtain⟨hb2,p2,n2⟩:=new_facts hH2
 have g1:=pre_get p2 hb1
 ((try simp (maxSteps:=3000000) (dsimp:=false) (disch:=first|omega|simp only[lnx];omega) only[↓ypre,ypost,↓reduceIte,reduceEqDiff,reduceAdd,reduceSub,reduceLeDiff,zz0,ynew,rdn_of g1,cel_len,q9,t9]);try simp only[yback])
 refine i_matrixR hq hn fun v H3 p3 o3=>?_
 ((try simp (maxSteps:=3000000) (dsimp:=false) (disch:=first|omega|simp only[lnx];omega) only[↓ypre,ypost,↓reduceIte,reduceEqDiff,reduceAdd,reduceSub,reduceLeDiff,zz0,ynew]);try simp only[yback])
 have nm:=hn.2.2
 have hN:N≤N*M:=Nat.le_mul_of_pos_right N (by omega)
 have hM:M≤N*M:=Nat.le_mul_of_pos_left M (by omega)
 refine i_transposed (w:=M) o3.rows (by rw[parts_len];omega) (by rw[parts_len];omega) (by rw[parts_len];exact parts_wid (by omega)) (by omega) fun v' H4 p4 o4=>?_
 ((try simp (maxSteps:=3000000) (dsimp:=false) (disch:=first|omega|simp only[lnx];omega) only[↓ypre,ypost,↓reduceIte,reduceEqDiff,reduceAdd,reduceSub,reduceLeDiff,zz0,ynew]);try simp only[yback])
 have hw:Wid N (trL (parts (q.take (N*M)) M N) M):=wid_of fun j hj=>by
  rw[trL_len] at hj
  rw[trL_get hj,gen_len,parts_len]
 have fl:(trL (parts (q.take (N*M)) M N) M).flatten.length=N*M:=by rw[flat_len hw,trL_len,Nat.mul_comm]
 refine i_formOf o4.rows hw ⟨by omega,by omega⟩ ⟨by rw[trL_len];omega,by rw[trL_len];omega⟩ (by rw[fl];omega) (fun i hi=>?_) fun H5 p5=>?_
 ·rw[fl] at hi
  rw[trF_eq (by omega) (by omega),gen_get hi]
  have h1:i%N<N:=Nat.mod_lt _ (by omega)
  have h2:i / N<M:=Nat.div_lt_of_lt_mul hi
  have h3:i%N*M+M≤N*M:=by rw[←Nat.succ_mul];exact Nat.mul_le_mul_right M h1
  exact hq.2 _ (by omega)
 ·rw[tuF_eq (by omega) (by omega) nm]
  have lt:(tuF q N M).length=9:=gen_len
  have g2:=pre_get (p3.trans (p4.trans p5)) hb2
  have w9:=wr_full (vs:=cel .u8 (tuF q N M)) g2 (by rw[cel_len,lt];rfl)
  have l2:=get_lt g2
  ((try simp (maxSteps:=3000000) (dsimp:=false) (disch:=first|omega|simp only[lnx];omega) only[↓ypre,ypost,↓reduceIte,reduceEqDiff,reduceAdd,reduceSub,reduceLeDiff,zz0,ynew,aggV,cellsL_cel,cel_len,lt,cel_all,w9,rdn_put_same]);try simp only[yback])
  exact hQ _ (pre_put (p1.trans (p2.trans (p3.trans (p4.trans p5)))) (by omega))
def trP (N M K:Nat) (q:List Int):List Int:=tuF (seg q 1) M K++tuF (seg q 0) N M++tuF (seg q 2) N K
def trX (N M K:Nat) (x:Sch):Sch:=⟨x.p,x.k,x.m,x.n,x.ps.map (trP N M K)⟩
theorem tuF_len {q:List Int} {N M:Nat}:(tuF q N M).length=9:=gen_len
theorem tuF_by {q:List Int} {N M:Nat} (hq:By 9 q):By 9 (tuF q N M):=⟨tuF_len,fun j hj=>by
 unfold tuF
 rw[gen_get hj]
 split
 ·by_cases h:j%N*M+j / N<9
  ·exact hq.2 _ h
  ·rw[List.getD_eq_getElem?_getD,List.getElem?_eq_none (by rw[hq.1];omega)]
   exact⟨by decide,by decide⟩
 ·exact⟨by decide,by decide⟩⟩
theorem i_TransposeScheme {x:Sch} {v:Value} {N M K:Nat} {h:AH} {Q:Value→AH→Prop} (hv:Prods h v x.ps) (hx:isX x=true) (en:x.n=N) (em:x.m=M) (ek:x.k=K)
  (hQ:∀ v' h',h<+:h'→Prods h' v' (trX N M K x).ps→Q (.tuple #[schV (trX N M K x) v',I64 0]) h'):WF S 98 [schV x v] h Q:=by
 refine WF_fn (fn:=c98) rfl rfl ?_
 dsimp only[c98,oO,oM,oS,oG,oK,oE,oL,oF,oX,oN]
 obtain⟨z,hl⟩:=isX_sz hx
 have zn:=z.n
 have zm:=z.m
 have zk:=z.k
 rw[en] at zn
 rw[em] at zm
 rw[ek] at zk
 have nNM:N*M≤9:=Nat.mul_le_mul (show N≤3 by omega) (show M≤3 by omega)
 have nMK:M*K≤9:=Nat.mul_le_mul (show M≤3 by omega) (show K≤3 by omega)
 have nNK:N*K≤9:=Nat.mul_le_mul (show N≤3 by omega) (show K≤3 by omega)
 have v1:isOne v=true:=hv.one
 ((try simp (maxSteps:=3000000) (dsimp:=false) (disch:=first|omega|simp only[lnx];omega) only[↓ypre,ypost,↓reduceIte,reduceEqDiff,reduceAdd,reduceSub,reduceLeDiff,zz0,ynew,schV,v1,en,em,ek]);try simp only[yback])
 generalize hH1:AH.new h _=H1
 obtain⟨hb1,p1,n1⟩:=new_facts hH1
 generalize hH2:AH.new H1 _=H2
 obtain⟨hb2,p2,n2⟩:=new_facts hH2
 have g1:=pre_get p2 hb1
 ((try simp (maxSteps:=3000000) (dsimp:=false) (disch:=first|omega|simp only[lnx];omega) only[↓ypre,ypost,↓reduceIte,reduceEqDiff,reduceAdd,reduceSub,reduceLeDiff,zz0,ynew,rdn_of g1]);try simp only[yback])
 have ex:(.agg #[I64 x.p,I64 N,I64 M,I64 K,v]:Value)=schV x v:=by unfold schV;rw[en,em,ek]
 have e0:[(I64 x.p),I64 N,I64 M,I64 K,v]=[I64 x.p,I64 x.n,I64 x.m,I64 x.k,v]:=by rw[en,em,ek]
 try rw[ex]
 refine i_IsScheme (x:=x) (hv.pre (p1.trans p2)) (by unfold SmallX;omega) fun H3 p3=>?_
 have g1:=pre_get p3 g1
 have g2:=pre_get p3 hb2
 rw[hx]
 ((try simp (maxSteps:=3000000) (dsimp:=false) (disch:=first|omega|simp only[lnx];omega) only[↓ypre,ypost,↓reduceIte,reduceEqDiff,reduceAdd,reduceSub,reduceLeDiff,zz0,ynew,rd1_of g1,fillL]);try simp only[yback])
 generalize hH4:AH.new H3 _=H4
 obtain⟨hb4,p4,n4⟩:=new_facts hH4
 have g1:=pre_get p4 g1
 have elen:=hv.1.len
 have P3:h<+:H3:=p1.trans (p2.trans p3)
 have w0:WayE (138) .u8 27 H4 H4.length H3.length (.slice none 0 0) ((x.ps.take 0).map (trP N M K)):=⟨fun r hr=>by simp at hr,.inl ⟨rfl,rfl⟩⟩
 have q3:=pre_len p3
 ((try simp (maxSteps:=3000000) (dsimp:=false) (disch:=first|omega|simp only[lnx];omega) only[↓ypre,ypost,↓reduceIte,reduceEqDiff,reduceAdd,reduceSub,reduceLeDiff,zz0,ynew,rd1_of g1,elen]);try simp only[yback])
 refine WC_loop_inv (fun m f K1=>∃ (i:Nat) (sv:Value),m=x.ps.length-i∧i≤x.ps.length∧f 1=.pointer (some ⟨h.length,0,none⟩)∧f 2=.pointer (some ⟨H1.length,0,none⟩)∧f 4=.pointer (some ⟨H3.length,0,none⟩)∧f 21=v∧f 22=I64 x.ps.length∧f 23=I64 i∧(H3<+:K1)∧(H4.length≤K1.length)∧(OwnB K1 H3.length [I64 x.p,I64 K,I64 M,I64 N,sv] true)∧(WayE (138) .u8 27 K1 H4.length H3.length sv ((x.ps.take i).map (trP N M K)))∧(Byt 27 ((x.ps.take i).map (trP N M K)))) ?_ (x.ps.length-0) _ _ ⟨0,.slice none 0 0,rfl,by omega,(by first|rfl|simp[upd_apply]),(by first|rfl|simp[upd_apply]),(by first|rfl|simp[upd_apply]),(by first|rfl|simp[upd_apply]),(by first|rfl|simp[upd_apply]),(by first|rfl|simp[upd_apply]),p4,Nat.le_refl _,⟨_,hb4⟩,w0,(fun _ h=>by simp at h)⟩
 rintro m f K1 ⟨i,sv,rfl,hi,f1,f2,f4,f21,f22,f23,pp,l1,g4,ww,bl⟩
 obtain⟨e4,g4⟩:=g4
 have g1:=pre_get (p3.trans pp) (pre_get p2 hb1)
 have g2:=pre_get pp g2
 by_cases hlt:(i:Int)<x.ps.length
 ·have hi:i<x.ps.length:=by omega
  obtain⟨nn,off,ix,rd⟩:=((hv.pre (P3.trans pp)).1).at hi
  have by27:By 27 (x.ps.getD i []):=⟨hv.1.wid hi,fun j hj=>hv.2 i hi j hj⟩
  have et:(x.ps.take (i+1)).map (trP N M K)=(x.ps.take i).map (trP N M K)++[trP N M K (x.ps.getD i [])]:=by rw[take_next (d:=[]) hi,List.map_append];rfl
  generalize x.ps.getD i []=q at rd by27 et
  have q27:=by27.1
  have r27:K1.rdn nn off 27=some (cel .u8 q):=by
   have:=rd.1 0 27 (by omega)
   rwa [Nat.add_zero,List.drop_zero,List.take_of_length_le (by omega)] at this
  have t18:∀ k,k+9≤27→By 9 ((q.drop k).take 9):=fun k hk=>⟨by rw[List.length_take,List.length_drop];omega,fun j hj=>by
   rw[List.getD_eq_getElem?_getD,List.getElem?_take_of_lt hj,List.getElem?_drop,←List.getD_eq_getElem?_getD]
   exact by27.2 (k+j) (by omega)⟩
  have s0:seg q 0=q.take 9:=by simp[seg]
  have s1:seg q 1=(q.drop 9).take 9:=rfl
  have s2:seg q 2=(q.drop 18).take 9:=rfl
  have t0:By 9 (q.take 9):=by have:=t18 0 (by omega);rwa [List.drop_zero] at this
  ((try simp (maxSteps:=3000000) (dsimp:=false) (disch:=first|omega|simp only[lnx];omega) only[↓ypre,ypost,↓reduceIte,reduceEqDiff,reduceAdd,reduceSub,reduceLeDiff,zz0,ynew,f1,f2,f4,f21,f22,f23,decide_eq_true hlt,ix,r27,cel_all,cel_len,q27,sp27z q27,zrep27,splice_27 q27,rd1_of g4,rd1_of g1,cel_take,cel_drop]);try simp only[yback])
  generalize hK2:AH.new K1 _=K2
  obtain⟨hb6,p6,n6⟩:=new_facts hK2
  have k1:=pre_get p6 g1
  refine i_turnedForm (q:=(q.drop 9).take 9) (t18 9 (by omega)) ⟨by omega,by omega,nMK⟩ fun K3 pa=>⟨pa,?_⟩
  have k1:=pre_get pa k1
  have kb:=pre_get pa hb6
  ((try simp (maxSteps:=3000000) (dsimp:=false) (disch:=first|omega|simp only[lnx];omega) only[↓ypre,ypost,↓reduceIte,reduceEqDiff,reduceAdd,reduceSub,reduceLeDiff,zz0,ynew,f1,f2,f4,f21,f22,f23,rd1_of k1,rdn_of kb,cel_take,cel_drop,cel_len,q27]);try simp only[yback])
  refine i_turnedForm (q:=q.take 9) t0 ⟨by omega,by omega,nNM⟩ fun K4 pb=>⟨pb,?_⟩
  have k1:=pre_get pb k1
  have kb:=pre_get pb kb
  ((try simp (maxSteps:=3000000) (dsimp:=false) (disch:=first|omega|simp only[lnx];omega) only[↓ypre,ypost,↓reduceIte,reduceEqDiff,reduceAdd,reduceSub,reduceLeDiff,zz0,ynew,f1,f2,f4,f21,f22,f23,rd1_of k1,rdn_of kb,cel_take,cel_drop,cel_len,q27]);try simp only[yback])
  refine i_turnedForm (q:=(q.drop 18).take 9) (t18 18 (by omega)) ⟨by omega,by omega,nNK⟩ fun K5 pc=>⟨pc,?_⟩
  have ba:=tuF_by (N:=M) (M:=K) (t18 9 (by omega))
  have bb:=tuF_by (N:=N) (M:=M) t0
  have bc:=tuF_by (N:=N) (M:=K) (t18 18 (by omega))
  have abc:=by_27 ba bb bc
  have e27:tuF ((q.drop 9).take 9) M K++tuF (q.take 9) N M++tuF ((q.drop 18).take 9) N K=trP N M K q:=by unfold trP;rw[s0,s1,s2]
  obtain⟨sa,sb,sc⟩:=sp27 ba.1 bb.1 bc.1
  have a9:=ba.1
  have b9:=bb.1
  have c9:=bc.1
  have P5:K1<+:K5:=p6.trans (pa.trans (pb.trans pc))
  have L5:=pre_len P5
  have g45:=pre_get P5 g4
  rw[e27] at sc abc
  have t27:=abc.1
  ((try simp (maxSteps:=3000000) (dsimp:=false) (disch:=first|omega|simp only[lnx];omega) only[↓ypre,ypost,↓reduceIte,reduceEqDiff,reduceAdd,reduceSub,reduceLeDiff,zz0,ynew,f1,f2,f4,f21,f22,f23,aggV,cellsL_cel,cel_len,a9,b9,c9,zeros27,sa,sb,sc,cel_all,t27,List.length_replicate,zrep27,sp27z t27,fillL,List.append_nil,rd1_of g45]);try simp only[yback])
  have ml:((x.ps.take i).map (trP N M K)).length=i:=by rw[List.length_map,List.length_take];omega
  refine (ww.pre P5).app (q:=trP N M K q) t27 (by rw[ml];omega) (by rw[ml];omega) (by omega) (by omega) fun sv' H' l' pre' _ own' w'=>?_
  obtain⟨e5,g5⟩:=own' _ _ ⟨e4,g45⟩
  have lt5:=get_lt g5
  ((try simp (maxSteps:=3000000) (dsimp:=false) (disch:=first|omega|simp only[lnx];omega) only[↓ypre,ypost,↓reduceIte,reduceEqDiff,reduceAdd,reduceSub,reduceLeDiff,zz0,ynew,f1,f2,f4,f21,f22,f23,w'.one,w'.cells,wr_of g5,splice_eq,wrap64_in]);try simp only[yback])
  rw[←et] at w'
  refine InvQ_go (x.ps.length-(i+1)) (by omega) ⟨(i+1),sv',rfl,by omega,(by first|rfl|exact f1|(simp only[upd_apply];rfl)|(show I64 _=_;congr 1;omega)),(by first|rfl|exact f2|(simp only[upd_apply];rfl)|(show I64 _=_;congr 1;omega)),(by first|rfl|exact f4|(simp only[upd_apply];rfl)|(show I64 _=_;congr 1;omega)),(by first|rfl|exact f21|(simp only[upd_apply];rfl)|(show I64 _=_;congr 1;omega)),(by first|rfl|exact f22|(simp only[upd_apply];rfl)|(show I64 _=_;congr 1;omega)),(by first|rfl|exact f23|(simp only[upd_apply];rfl)|(show I64 _=_;congr 1;omega)),(pre_put (pre' _ (by omega) (pp.trans P5)) (Nat.le_refl _)),(by rw[len_put];omega),⟨_,get_put_same lt5⟩,w'.put,(by rw[et];exact byt_snoc bl abc)⟩
 ·have ei:i=x.ps.length:=by omega
  subst ei
  have lg2:=get_lt g2
  rw[List.take_length] at ww bl
  ((try simp (maxSteps:=3000000) (dsimp:=false) (disch:=first|omega|simp only[lnx];omega) only[↓ypre,ypost,↓reduceIte,reduceEqDiff,reduceAdd,reduceSub,reduceLeDiff,zz0,ynew,f1,f2,f4,f21,f22,f23,decide_eq_false hlt,rdn_of g4,wr_of g2,splice_eq,rdn_put_same,ww.one]);try simp only[yback])
  have hq:=hQ sv (K1.put H1.length ⟨[I64 x.p,I64 K,I64 M,I64 N,sv],26,false,true⟩) (pre_put (P3.trans pp) (by omega)) ⟨(ww.putb (by omega)).inE.rd,bl⟩
  unfold trX schV at hq
  simp only[en,em,ek] at hq
  exact hq
def mm1 (b:Bool) (x y:Value):Option Value:=match x,y with
 | .int k a,.int _ c=>some (.int k (if b then (if c>a then c else a) else (if c<a then c else a)))
 | _,_=>none
theorem WX_mm1 {S:XS} {f:Fr} {h:AH} {Q:Value→AH→Prop} {b:Bool} {x y:Operand}:WX S (.mm b x [y]) f h Q=WV (mm1 b (ev f x) (ev f y)) fun v=>Q v h:=by
 refine WX_of (fun _=>rfl) ?_
 simp only[xop,List.map_cons,List.map_nil]
 generalize ev f x=vx
 generalize ev f y=vy
 cases vx<;>first|rfl|skip
 cases vy<;>rfl
def smW (g:Nat→Int):Nat→Int
 | 0=>0
 | n+1=>smW g n+g n
theorem smW_in {g:Nat→Int} {a b:Int} (h:∀ j,a≤g j∧g j≤b):∀ n:Nat,a*n≤smW g n∧smW g n≤b*n
 | 0=>by simp[smW]
 | n+1=>by
  have h1:=smW_in h n
  have h2:=h n
  simp only[smW]
  rw[show ((n+1:Nat):Int)=(n:Int)+1 by omega,Int.mul_add,Int.mul_add,Int.mul_one,Int.mul_one]
  omega
def nz (a:Int):Int:=if a=0 then 0 else 1
theorem nz_in (a:Int):0≤nz a∧nz a≤1:=by unfold nz;split<;>omega
def wt (f:List Int) (i:Nat):Int:=smW (fun j=>nz (f.getD j 0)) i
theorem wt_in (f:List Int) (i:Nat):0≤wt f i∧wt f i≤i:=by
 have:=smW_in (g:=fun j=>nz (f.getD j 0)) (a:=0) (b:=1) (fun j=>nz_in _) i
 unfold wt
 omega
theorem s_l06Weight {q:List Int} {h:AH} {Q:Value→AH→Prop} (hq:q.length=9) (hQ:∀ h',h<+:h'→Q (I64 (wt q 9)) h'):WF S 307 [aggV .u8 q] h Q:=by
 refine WF_fn (fn:=c307) rfl rfl ?_
 dsimp only[c307,oO,oM,oS,oG,oK,oE,oL,oF,oX,oN]
 try simp (maxSteps:=3000000) (disch:=first|omega|simp only[lnx];omega) only[↓xpre,xpost,↓reduceIte,reduceEqDiff,reduceAdd,reduceSub,reduceLeDiff,zz0,aggV,cel_all]
 generalize hH1:AH.new h _=H1
 obtain⟨hb1,p1,n1⟩:=new_facts hH1
 refine WC_loop_inv (fun m f K1=>∃ (i:Nat),m=9-i∧i≤9∧f 1=.pointer (some ⟨h.length,0,none⟩)∧f 3=I64 (wt q i)∧f 4=I64 i∧(K1=H1)) ?_ (9-0) _ _ ⟨0,rfl,by omega,(by first|rfl|simp[upd_apply]),(by first|rfl|simp[upd_apply]),(by first|rfl|simp[upd_apply]),rfl⟩
 rintro m f K1 ⟨i,rfl,hi,f1,f3,f4,hK⟩
 subst hK
 have w:=wt_in q i
 by_cases hlt:(i:Int)<9
 ·have g1:=cel_get (k:=.u8) (q:=q) (j:=i) (by omega)
  have e1:wt q (i+1)=wt q i+nz (q.getD i 0):=rfl
  by_cases c1:q.getD i 0=0
  ·try simp (maxSteps:=3000000) (disch:=first|omega|simp only[lnx];omega) only[↓xpre,xpost,↓reduceIte,reduceEqDiff,reduceAdd,reduceSub,reduceLeDiff,zz0,f1,f3,f4,decide_eq_true hlt,↓WX_ixa,ixaV_ptr,Int.toNat_natCast,Nat.mul_one,rd1_of hb1,g1,decide_eq_false (show ¬ (q.getD i 0≠0) from fun e=>e c1),wrap64_in]
   refine InvQ_go (9-(i+1)) (by omega) ⟨(i+1),rfl,by omega,(by first|rfl|exact f1|(simp only[upd_apply];rfl)|(show I64 _=_;congr 1;omega)),(by show f 3=_;rw[e1,f3];unfold nz;rw[if_pos c1,Int.add_zero]),(by first|rfl|exact f4|(simp only[upd_apply];rfl)|(show I64 _=_;congr 1;omega)),rfl⟩
  ·try simp (maxSteps:=3000000) (disch:=first|omega|simp only[lnx];omega) only[↓xpre,xpost,↓reduceIte,reduceEqDiff,reduceAdd,reduceSub,reduceLeDiff,zz0,f1,f3,f4,decide_eq_true hlt,↓WX_ixa,ixaV_ptr,Int.toNat_natCast,Nat.mul_one,rd1_of hb1,g1,decide_eq_true (show q.getD i 0≠0 from c1),wrap64_in]
   refine InvQ_go (9-(i+1)) (by omega) ⟨(i+1),rfl,by omega,(by first|rfl|exact f1|(simp only[upd_apply];rfl)|(show I64 _=_;congr 1;omega)),(by show I64 _=I64 _;rw[e1];unfold nz;rw[if_neg c1]),(by first|rfl|exact f4|(simp only[upd_apply];rfl)|(show I64 _=_;congr 1;omega)),rfl⟩
 ·have e9:i=9:=by omega
  subst e9
  try simp (maxSteps:=3000000) (disch:=first|omega|simp only[lnx];omega) only[↓xpre,xpost,↓reduceIte,reduceEqDiff,reduceAdd,reduceSub,reduceLeDiff,zz0,f1,f3,f4,decide_eq_false hlt]
  exact hQ _ p1
theorem i_weight {q:List Int} {h:AH} {Q:Value→AH→Prop} (hq:q.length=9) (hQ:∀ h',h<+:h'→Q (I64 (wt q 9)) h'):WF S 306 [aggV .u8 q] h Q:=by
 refine WF_fn (fn:=c306) rfl rfl ?_
 dsimp only[c306,oO,oM,oS,oG,oK,oE,oL,oF,oX,oN]
 have tk:q.take 9=q:=List.take_of_length_le (by omega)
 try simp (maxSteps:=3000000) (disch:=first|omega|simp only[lnx];omega) only[↓xpre,xpost,↓reduceIte,reduceEqDiff,reduceAdd,reduceSub,reduceLeDiff,zz0,aggV,cel_all]
 generalize hH1:AH.new h _=H1
 obtain⟨hb1,p1,n1⟩:=new_facts hH1
 try simp (maxSteps:=3000000) (disch:=first|omega|simp only[lnx];omega) only[↓xpre,xpost,↓reduceIte,reduceEqDiff,reduceAdd,reduceSub,reduceLeDiff,zz0,rdn_of hb1,cel_len,hq,cel_take,tk]
 refine WC_loop_inv (fun m f K1=>∃ (i:Nat),m=9-i∧i≤9∧f 3=I64 (wt q i)∧f 6=.agg (cel .u8 q).toArray∧f 7=I64 i∧(K1=H1)) ?_ (9-0) _ _ ⟨0,rfl,by omega,(by first|rfl|simp[upd_apply]),(by first|rfl|simp[upd_apply]),(by first|rfl|simp[upd_apply]),rfl⟩
 rintro m f K1 ⟨i,rfl,hi,f3,f6,f7,hK⟩
 subst hK
 have w:=wt_in q i
 by_cases hlt:(i:Int)<9
 ·have g1:=idx1V_cel (k:=.u8) (q:=q) (n:=9) (j:=i) (kk:=.i64) (by omega) (by omega)
  have e1:wt q (i+1)=wt q i+nz (q.getD i 0):=rfl
  by_cases c1:q.getD i 0=0
  ·try simp (maxSteps:=3000000) (disch:=first|omega|simp only[lnx];omega) only[↓xpre,xpost,↓reduceIte,reduceEqDiff,reduceAdd,reduceSub,reduceLeDiff,zz0,f3,f6,f7,decide_eq_true hlt,↓WX_idx1,g1,decide_eq_false (show ¬ (q.getD i 0≠0) from fun e=>e c1),wrap64_in]
   refine InvQ_go (9-(i+1)) (by omega) ⟨(i+1),rfl,by omega,(by show f 3=_;rw[e1,f3];unfold nz;rw[if_pos c1,Int.add_zero]),(by first|rfl|exact f6|(simp only[upd_apply];rfl)|(show I64 _=_;congr 1;omega)),(by first|rfl|exact f7|(simp only[upd_apply];rfl)|(show I64 _=_;congr 1;omega)),rfl⟩
  ·try simp (maxSteps:=3000000) (disch:=first|omega|simp only[lnx];omega) only[↓xpre,xpost,↓reduceIte,reduceEqDiff,reduceAdd,reduceSub,reduceLeDiff,zz0,f3,f6,f7,decide_eq_true hlt,↓WX_idx1,g1,decide_eq_true (show q.getD i 0≠0 from c1),wrap64_in]
   refine InvQ_go (9-(i+1)) (by omega) ⟨(i+1),rfl,by omega,(by show I64 _=I64 _;rw[e1];unfold nz;rw[if_neg c1]),(by first|rfl|exact f6|(simp only[upd_apply];rfl)|(show I64 _=_;congr 1;omega)),(by first|rfl|exact f7|(simp only[upd_apply];rfl)|(show I64 _=_;congr 1;omega)),rfl⟩
 ·have e9:i=9:=by omega
  subst e9
  try simp (maxSteps:=3000000) (disch:=first|omega|simp only[lnx];omega) only[↓xpre,xpost,↓reduceIte,reduceEqDiff,reduceAdd,reduceSub,reduceLeDiff,zz0,f3,f6,f7,decide_eq_false hlt]
  exact hQ _ p1
def cw (L:List (List Int)) (s:Nat) (i:Nat):Int:=smW (fun j=>wt (seg (L.getD j []) s) 9-1) i
theorem cw_in (L:List (List Int)) (s i:Nat):-i≤cw L s i∧cw L s i≤8*i:=by
 have:=smW_in (g:=fun j=>wt (seg (L.getD j []) s) 9-1) (a:=-1) (b:=8) (fun j=>by have:=wt_in (seg (L.getD j []) s) 9;omega) i
 unfold cw
 omega
def cc (L:List (List Int)) (c i:Nat):Int:=smW (fun j=>nz ((L.getD j []).getD (18+c) 0)) i
theorem cc_in (L:List (List Int)) (c i:Nat):0≤cc L c i∧cc L c i≤i:=by
 have:=smW_in (g:=fun j=>nz ((L.getD j []).getD (18+c) 0)) (a:=0) (b:=1) (fun j=>nz_in _) i
 unfold cc
 omega
def mx (a:Int):Int:=if 0>a then 0 else a
def cq (L:List (List Int)) (n c:Nat):Int:=smW (fun c=>mx (cc L c n-1)) c
theorem cq_in (L:List (List Int)) (n c:Nat):0≤cq L n c∧cq L n c≤(n:Int)*c:=by
 have:=smW_in (g:=fun c=>mx (cc L c n-1)) (a:=0) (b:=n) (fun j=>by have:=cc_in L j n;unfold mx;split<;>omega) c
 unfold cq
 omega
def costL (x:Sch):List Int:=[x.ps.length,cw x.ps 0 x.ps.length,cw x.ps 1 x.ps.length,cq x.ps x.ps.length 9]
theorem s_l06Cost {v:Value} {x:Sch} {h:AH} {Q:Value→AH→Prop} (hv:Prods h v x.ps) (hl:x.ps.length≤30)
  (hQ:∀ v' h',h<+:h'→OwnR h h' v' (costL x)→Q v' h'):WF S 229 [schV x v] h Q:=by
 refine WF_fn (fn:=c229) rfl rfl ?_
 dsimp only[c229,oO,oM,oS,oG,oK,oE,oL,oF,oX,oN]
 try simp (maxSteps:=3000000) (disch:=first|omega|simp only[lnx];omega) only[↓xpre,xpost,↓reduceIte,reduceEqDiff,reduceAdd,reduceSub,reduceLeDiff,zz0,schV,hv.one]
 generalize hH1:AH.new h _=H1
 obtain⟨hb1,p1,n1⟩:=new_facts hH1
 refine WC_loop_inv (fun m f K1=>∃ (i:Nat),m=x.ps.length-i∧i≤x.ps.length∧f 1=.pointer (some ⟨h.length,0,none⟩)∧f 3=I64 (cw x.ps 0 i)∧f 4=I64 (cw x.ps 1 i)∧f 5=I64 0∧f 6=I64 i∧(H1<+:K1)) ?_ (x.ps.length-0) _ _ ⟨0,rfl,by omega,(by first|rfl|simp[upd_apply]),(by first|rfl|simp[upd_apply]),(by first|rfl|simp[upd_apply]),(by first|rfl|simp[upd_apply]),(by first|rfl|simp[upd_apply]),List.prefix_refl _⟩
 rintro m f K1 ⟨i,rfl,hi,f1,f3,f4,f5,f6,pp⟩
 have hb:=pre_get pp hb1
 have hvK:=hv.pre (p1.trans pp)
 have b0:=cw_in x.ps 0 i
 have b1:=cw_in x.ps 1 i
 by_cases hlt:(i:Int)<x.ps.length
 ·have hi':i<x.ps.length:=by omega
  obtain⟨n,off,hix,hrn,hr1⟩:=hvK.1.at hi'
  have r0:=hrn 0 9 (by omega)
  have r1:=hrn 9 9 (by omega)
  rw[List.drop_zero,Nat.add_zero] at r0
  have s0:(x.ps.getD i []).take 9=seg (x.ps.getD i []) 0:=by unfold seg;simp
  have s1:((x.ps.getD i []).drop 9).take 9=seg (x.ps.getD i []) 1:=rfl
  rw[s0] at r0
  rw[s1] at r1
  have w0:=wt_in (seg (x.ps.getD i []) 0) 9
  have w1:=wt_in (seg (x.ps.getD i []) 1) 9
  have e0:cw x.ps 0 (i+1)=cw x.ps 0 i+(wt (seg (x.ps.getD i []) 0) 9-1):=rfl
  have e1:cw x.ps 1 (i+1)=cw x.ps 1 i+(wt (seg (x.ps.getD i []) 1) 9-1):=rfl
  try simp (maxSteps:=3000000) (disch:=first|omega|simp only[lnx];omega) only[↓xpre,xpost,↓reduceIte,reduceEqDiff,reduceAdd,reduceSub,reduceLeDiff,zz0,f1,f3,f4,f5,f6,rd1_of hb,hvK.1.len,decide_eq_true hlt,hix,Nat.add_zero,r0]
  refine s_l06Weight ((hvK.by hi').seg (by omega)).1 fun H2 p2=>?_
  have hb2:=pre_get p2 hb
  have hv2:=hvK.pre p2
  obtain⟨n',off',hix',hrn',hr1'⟩:=hv2.1.at hi'
  have r1':=hrn' 9 9 (by omega)
  rw[s1] at r1'
  try simp (maxSteps:=3000000) (disch:=first|omega|simp only[lnx];omega) only[↓xpre,xpost,↓reduceIte,reduceEqDiff,reduceAdd,reduceSub,reduceLeDiff,zz0,f1,f3,f4,f5,f6,rd1_of hb2,hix',r1',wrap64_in]
  refine s_l06Weight ((hvK.by hi').seg (by omega)).1 fun H3 p3=>?_
  try simp (maxSteps:=3000000) (disch:=first|omega|simp only[lnx];omega) only[↓xpre,xpost,↓reduceIte,reduceEqDiff,reduceAdd,reduceSub,reduceLeDiff,zz0,f1,f3,f4,f5,f6,wrap64_in]
  refine InvQ_go (x.ps.length-(i+1)) (by omega) ⟨(i+1),rfl,by omega,(by first|rfl|exact f1|(simp only[upd_apply];rfl)|(show I64 _=_;congr 1;omega)),(by show I64 _=I64 _;rw[e0];congr 1;omega),(by show I64 _=I64 _;rw[e1];congr 1;omega),(by first|rfl|exact f5|(simp only[upd_apply];rfl)|(show I64 _=_;congr 1;omega)),(by first|rfl|exact f6|(simp only[upd_apply];rfl)|(show I64 _=_;congr 1;omega)),(pp.trans (p2.trans p3))⟩
 ·have ei:i=x.ps.length:=by omega
  try simp (maxSteps:=3000000) (disch:=first|omega|simp only[lnx];omega) only[↓xpre,xpost,↓reduceIte,reduceEqDiff,reduceAdd,reduceSub,reduceLeDiff,zz0,f1,f3,f4,f5,f6,rd1_of hb,hvK.1.len,decide_eq_false hlt]
  subst ei
  refine WC_loop_inv (fun m f K2=>∃ (c:Nat),m=9-c∧c≤9∧f 1=.pointer (some ⟨h.length,0,none⟩)∧f 3=I64 (cw x.ps 0 x.ps.length)∧f 4=I64 (cw x.ps 1 x.ps.length)∧f 5=I64 (cq x.ps x.ps.length c)∧f 7=I64 c∧(K2=K1)) ?_ (9-0) _ _ ⟨0,rfl,by omega,(by first|rfl|exact f1|(simp[upd_apply];done)),(by first|rfl|exact f3|(simp[upd_apply];done)),(by first|rfl|exact f4|(simp[upd_apply];done)),(by first|rfl|exact f5|(simp[upd_apply];done)),(by first|rfl|simp[upd_apply]),rfl⟩
  rintro m f K2 ⟨c,rfl,hc,f1,f3,f4,f5,f7,hK⟩
  subst hK
  have b3:=cq_in x.ps x.ps.length c
  have b3':(x.ps.length:Int)*c≤30*9:=(mul_in (A:=30) (B:=9) (by omega) (by omega)).2
  by_cases hlc:(c:Int)<9
  ·try simp (maxSteps:=3000000) (disch:=first|omega|simp only[lnx];omega) only[↓xpre,xpost,↓reduceIte,reduceEqDiff,reduceAdd,reduceSub,reduceLeDiff,zz0,f1,f3,f4,f5,f7,decide_eq_true hlc]
   refine WC_loop_inv (fun m f K3=>∃ (j:Nat),m=x.ps.length-j∧j≤x.ps.length∧f 1=.pointer (some ⟨h.length,0,none⟩)∧f 3=I64 (cw x.ps 0 x.ps.length)∧f 4=I64 (cw x.ps 1 x.ps.length)∧f 5=I64 (cq x.ps x.ps.length c)∧f 7=I64 c∧f 8=I64 (cc x.ps c j)∧f 9=I64 j∧(K3=K2)) ?_ (x.ps.length-0) _ _ ⟨0,rfl,by omega,(by first|rfl|exact f1|(simp[upd_apply];done)),(by first|rfl|exact f3|(simp[upd_apply];done)),(by first|rfl|exact f4|(simp[upd_apply];done)),(by first|rfl|exact f5|(simp[upd_apply];done)),(by first|rfl|exact f7|(simp[upd_apply];done)),(by first|rfl|simp[upd_apply]),(by first|rfl|simp[upd_apply]),rfl⟩
   rintro m f K3 ⟨j,rfl,hj,f1,f3,f4,f5,f7,f8,f9,hK⟩
   subst hK
   have b4:=cc_in x.ps c j
   by_cases hlj:(j:Int)<x.ps.length
   ·have hj':j<x.ps.length:=by omega
    obtain⟨n,off,hix,hrn,hr1⟩:=hvK.1.at hj'
    have r1:=hr1 (18+c) (by omega)
    have e1:cc x.ps c (j+1)=cc x.ps c j+nz ((x.ps.getD j []).getD (18+c) 0):=rfl
    by_cases cz:(x.ps.getD j []).getD (18+c) 0=0
    ·try simp (maxSteps:=3000000) (disch:=first|omega|simp only[lnx];omega) only[↓xpre,xpost,↓reduceIte,reduceEqDiff,reduceAdd,reduceSub,reduceLeDiff,zz0,f1,f3,f4,f5,f7,f8,f9,rd1_of hb,hvK.1.len,decide_eq_true hlj,hix,↓WX_ixa,ixaV_ptr,Int.toNat_natCast,Nat.mul_one,Nat.add_assoc,r1,decide_eq_false (show ¬ ((x.ps.getD j []).getD (18+c) 0≠0) from fun e=>e cz),wrap64_in]
     refine InvQ_go (x.ps.length-(j+1)) (by omega) ⟨(j+1),rfl,by omega,(by first|rfl|exact f1|(simp only[upd_apply];rfl)|(show I64 _=_;congr 1;omega)),(by first|rfl|exact f3|(simp only[upd_apply];rfl)|(show I64 _=_;congr 1;omega)),(by first|rfl|exact f4|(simp only[upd_apply];rfl)|(show I64 _=_;congr 1;omega)),(by first|rfl|exact f5|(simp only[upd_apply];rfl)|(show I64 _=_;congr 1;omega)),(by first|rfl|exact f7|(simp only[upd_apply];rfl)|(show I64 _=_;congr 1;omega)),(by show f 8=_;rw[e1,f8];unfold nz;rw[if_pos cz,Int.add_zero]),(by first|rfl|exact f9|(simp only[upd_apply];rfl)|(show I64 _=_;congr 1;omega)),rfl⟩
    ·try simp (maxSteps:=3000000) (disch:=first|omega|simp only[lnx];omega) only[↓xpre,xpost,↓reduceIte,reduceEqDiff,reduceAdd,reduceSub,reduceLeDiff,zz0,f1,f3,f4,f5,f7,f8,f9,rd1_of hb,hvK.1.len,decide_eq_true hlj,hix,↓WX_ixa,ixaV_ptr,Int.toNat_natCast,Nat.mul_one,Nat.add_assoc,r1,decide_eq_true (show (x.ps.getD j []).getD (18+c) 0≠0 from cz),wrap64_in]
     refine InvQ_go (x.ps.length-(j+1)) (by omega) ⟨(j+1),rfl,by omega,(by first|rfl|exact f1|(simp only[upd_apply];rfl)|(show I64 _=_;congr 1;omega)),(by first|rfl|exact f3|(simp only[upd_apply];rfl)|(show I64 _=_;congr 1;omega)),(by first|rfl|exact f4|(simp only[upd_apply];rfl)|(show I64 _=_;congr 1;omega)),(by first|rfl|exact f5|(simp only[upd_apply];rfl)|(show I64 _=_;congr 1;omega)),(by first|rfl|exact f7|(simp only[upd_apply];rfl)|(show I64 _=_;congr 1;omega)),(by show I64 _=I64 _;rw[e1];unfold nz;rw[if_neg cz]),(by first|rfl|exact f9|(simp only[upd_apply];rfl)|(show I64 _=_;congr 1;omega)),rfl⟩
   ·have ej:j=x.ps.length:=by omega
    subst ej
    have e1:cq x.ps x.ps.length (c+1)=cq x.ps x.ps.length c+mx (cc x.ps c x.ps.length-1):=rfl
    have b5:0≤mx (cc x.ps c x.ps.length-1)∧mx (cc x.ps c x.ps.length-1)≤30:=by unfold mx;split<;>omega
    have m1:mm1 true (I64 (cc x.ps c x.ps.length-1)) (I64 0)=some (I64 (mx (cc x.ps c x.ps.length-1))):=rfl
    try simp (maxSteps:=3000000) (disch:=first|omega|simp only[lnx];omega) only[↓xpre,xpost,↓reduceIte,reduceEqDiff,reduceAdd,reduceSub,reduceLeDiff,zz0,f1,f3,f4,f5,f7,f8,f9,rd1_of hb,hvK.1.len,decide_eq_false hlj,wrap64_in,↓WX_mm1,m1]
    refine InvQ_go (9-(c+1)) (by omega) ⟨(c+1),rfl,by omega,(by first|rfl|exact f1|(simp only[upd_apply];rfl)|(show I64 _=_;congr 1;omega)),(by first|rfl|exact f3|(simp only[upd_apply];rfl)|(show I64 _=_;congr 1;omega)),(by first|rfl|exact f4|(simp only[upd_apply];rfl)|(show I64 _=_;congr 1;omega)),(by show I64 _=I64 _;rw[e1]),(by first|rfl|exact f7|(simp only[upd_apply];rfl)|(show I64 _=_;congr 1;omega)),rfl⟩
  ·have e9:c=9:=by omega
   subst e9
   try simp (maxSteps:=3000000) (disch:=first|omega|simp only[lnx];omega) only[↓xpre,xpost,↓reduceIte,reduceEqDiff,reduceAdd,reduceSub,reduceLeDiff,zz0,f1,f3,f4,f5,f7,rd1_of hb,hvK.1.len,decide_eq_false hlc,fillL,zrep]
   exact hQ _ _ (p1.trans (pp.trans (pre_new (List.prefix_refl _)))) (.inr ⟨K2.length,_,true,pre_len (p1.trans pp),rfl,get_new_same⟩)
def plN (L:List (List Int)) (i j:Nat):List Int:=gen 9 fun c=>if c<j then cc L c (i+1) else cc L c i
theorem plN_len {L:List (List Int)} {i j:Nat}:(plN L i j).length=9:=gen_len
theorem plN_get {L:List (List Int)} {i j:Nat} (hj:j<9):(plN L i j).getD j 0=cc L j i:=by
 unfold plN
 rw[gen_get hj,if_neg (by omega)]
theorem plN0_get {L:List (List Int)} {i j:Nat} (hj:j<9):(plN L i 0).getD j 0=cc L j i:=by
 unfold plN
 rw[gen_get hj,if_neg (by omega)]
theorem plN_set {L:List (List Int)} {i j:Nat} (hj:j<9):(plN L i j).set j (cc L j (i+1))=plN L i (j+1):=by
 refine gen_ext (by rw[List.length_set,plN_len]) fun c hc=>?_
 rw[set_getD (by rw[plN_len];exact hj)]
 by_cases h:c=j
 ·subst h
  rw[if_pos rfl,if_pos (by omega)]
 ·rw[if_neg h]
  unfold plN
  rw[gen_get hc]
  by_cases h2:c<j
  ·rw[if_pos h2,if_pos (by omega)]
  ·rw[if_neg h2,if_neg (by omega)]
theorem plN_same {L:List (List Int)} {i j:Nat} (hj:j<9) (h:cc L j (i+1)=cc L j i):plN L i j=plN L i (j+1):=by
 rw[←plN_set hj,h]
 refine (gen_ext (by rw[List.length_set,plN_len]) fun c hc=>?_).symm
 rw[set_getD (by rw[plN_len];exact hj)]
 split
 ·rename_i e
  subst e
  rw[if_neg (by omega)]
 ·unfold plN
  rw[gen_get hc]
theorem plN_next {L:List (List Int)} {i:Nat}:plN L i 9=plN L (i+1) 0:=gen_congr fun c hc=>by rw[if_pos hc,if_neg (by omega)]
theorem i_costOf {v:Value} {x:Sch} {h:AH} {Q:Value→AH→Prop} (hv:Prods h v x.ps) (hl:x.ps.length≤30)
  (hQ:∀ h',h<+:h'→Q (aggV .i64 (costL x)) h'):WF S 228 [schV x v] h Q:=by
 refine WF_fn (fn:=c228) rfl rfl ?_
 dsimp only[c228,oO,oM,oS,oG,oK,oE,oL,oF,oX,oN]
 have z9:∀ (k:IntKind),([.int .i64 0,.int .i64 0,.int .i64 0,.int .i64 0,.int .i64 0,.int .i64 0,.int .i64 0,.int .i64 0,.int .i64 0]:List Value)=cel .i64 (plN x.ps 0 0):=fun _=>rfl
 try simp (maxSteps:=3000000) (disch:=first|omega|simp only[lnx];omega) only[↓xpre,xpost,↓reduceIte,reduceEqDiff,reduceAdd,reduceSub,reduceLeDiff,zz0,schV,hv.one]
 generalize hH1:AH.new h _=H1
 obtain⟨hb1,p1,n1⟩:=new_facts hH1
 generalize hH2:AH.new H1 _=H2
 obtain⟨hb2,p2,n2⟩:=new_facts hH2
 have hb1:=pre_get p2 hb1
 try simp (maxSteps:=3000000) (disch:=first|omega|simp only[lnx];omega) only[↓xpre,xpost,↓reduceIte,reduceEqDiff,reduceAdd,reduceSub,reduceLeDiff,zz0,rd1_of hb1,(hv.pre (p1.trans p2)).1.len,fillL]
 have eL:∀ e:TypeId,(H2.new ⟨[I64 0,I64 0,I64 0,I64 0],e,false,true⟩).length=(H2.new ⟨[I64 x.ps.length,I64 0,I64 0,I64 0],e,false,true⟩).length:=fun e=>by rw[len_new,len_new]
 rw[eL]
 rw[z9 .i64]
 generalize hH3:AH.new H2 _=H3
 obtain⟨hb3,p3,n3⟩:=new_facts hH3
 have w9:∀ e:TypeId,(H3.new ⟨cel .i64 (plN x.ps 0 0),e,false,true⟩).wr H3.length 0 (cel .i64 (plN x.ps 0 0))=some (H3.new ⟨cel .i64 (plN x.ps 0 0),e,false,true⟩):=fun e=>wr_all rfl
 have hb1:=pre_get p3 hb1
 try simp (maxSteps:=3000000) (disch:=first|omega|simp only[lnx];omega) only[↓xpre,xpost,↓reduceIte,reduceEqDiff,reduceAdd,reduceSub,reduceLeDiff,zz0,↓w9,rd1_of hb1,(hv.pre (p1.trans p2)).1.len]
 generalize hH4:AH.new H3 _=H4
 obtain⟨hb4,p4,n4⟩:=new_facts hH4
 have lt2:H1.length<H2.length:=by omega
 refine WC_loop_inv (fun m f K1=>∃ (i:Nat),m=x.ps.length-i∧i≤x.ps.length∧f 1=.pointer (some ⟨h.length,0,none⟩)∧f 2=.pointer (some ⟨H1.length,0,none⟩)∧f 3=.pointer (some ⟨H2.length,0,none⟩)∧f 4=.pointer (some ⟨H3.length,0,none⟩)∧f 17=v∧f 18=I64 x.ps.length∧f 19=I64 i∧(H2<+:K1)∧(OwnB K1 H2.length [I64 x.ps.length,I64 (cw x.ps 0 i),I64 (cw x.ps 1 i),I64 0] true)∧(OwnB K1 H3.length (cel .i64 (plN x.ps i 0)) true)) ?_ (x.ps.length-0) _ _ ⟨0,rfl,by omega,(by first|rfl|simp[upd_apply]),(by first|rfl|simp[upd_apply]),(by first|rfl|simp[upd_apply]),(by first|rfl|simp[upd_apply]),(by first|rfl|simp[upd_apply]),(by first|rfl|simp[upd_apply]),(by first|rfl|simp[upd_apply]),p3.trans p4,⟨_,pre_get p4 hb3⟩,⟨_,hb4⟩⟩
 rintro m f K1 ⟨i,rfl,hi,f1,f2,f3,f4,f17,f18,f19,pp,hb3,hb4⟩
 obtain⟨e3,hb3⟩:=hb3
 obtain⟨e4,hb4⟩:=hb4
 have hvK:=hv.pre ((p1.trans p2).trans pp)
 have b0:=cw_in x.ps 0 i
 have b1:=cw_in x.ps 1 i
 have lt4:=get_lt hb4
 by_cases hlt:(i:Int)<x.ps.length
 ·have hi':i<x.ps.length:=by omega
  obtain⟨n,off,hix,hrn,hr1⟩:=hvK.1.at hi'
  have r27:=hrn 0 27 (by omega)
  have wi:=hvK.1.wid hi'
  rw[List.drop_zero,List.take_of_length_le (by omega),Nat.add_zero] at r27
  generalize hq:x.ps.getD i []=q at *
  have w1:∀ (h1:AH) (e:TypeId),(h1.new ⟨[.int .u8 0,.int .u8 0,.int .u8 0,.int .u8 0,.int .u8 0,.int .u8 0,.int .u8 0,.int .u8 0,.int .u8 0,.int .u8 0,.int .u8 0,.int .u8 0,.int .u8 0,.int .u8 0,.int .u8 0,.int .u8 0,.int .u8 0,.int .u8 0,.int .u8 0,.int .u8 0,.int .u8 0,.int .u8 0,.int .u8 0,.int .u8 0,.int .u8 0,.int .u8 0,.int .u8 0],e,false,true⟩).wr h1.length 0 (cel .u8 q)=some (h1.new ⟨cel .u8 q,e,false,true⟩):=fun h1 e=>wr_all (by rw[cel_len,wi];rfl)
  have s0:q.take 9=seg q 0:=by unfold seg;simp
  have s1:(q.drop 9).take 9=seg q 1:=rfl
  have s2:(q.drop 18).take 9=seg q 2:=rfl
  have byq:By 27 q:=by rw[←hq];exact hvK.by hi'
  have u0:=wt_in (seg q 0) 9
  have u1:=wt_in (seg q 1) 9
  have e0:cw x.ps 0 (i+1)=cw x.ps 0 i+(wt (seg q 0) 9-1):=by rw[←hq];rfl
  have e1:cw x.ps 1 (i+1)=cw x.ps 1 i+(wt (seg q 1) 9-1):=by rw[←hq];rfl
  have ix:∀ (n:Nat) (j:Nat),j<4→ixaV 4 1 (.pointer (some ⟨n,0,none⟩)) (I64 j)=some (.pointer (some ⟨n,j,none⟩)):=fun n j hj=>by
   rw[ixaV_ptr (by omega)]
   simp
  have ix1:∀ n:Nat,ixaV 4 1 (.pointer (some ⟨n,0,none⟩)) (I64 1)=some (.pointer (some ⟨n,1,none⟩)):=fun n=>ix n 1 (by omega)
  have ix2:∀ n:Nat,ixaV 4 1 (.pointer (some ⟨n,0,none⟩)) (I64 2)=some (.pointer (some ⟨n,2,none⟩)):=fun n=>ix n 2 (by omega)
  have lt3:=get_lt hb3
  try simp (maxSteps:=3000000) (disch:=first|omega|simp only[lnx];omega) only[↓xpre,xpost,↓reduceIte,reduceEqDiff,reduceAdd,reduceSub,reduceLeDiff,zz0,f1,f2,f3,f4,f17,f18,f19,decide_eq_true hlt,hix,r27,cel_all,cel_len,wi,↓w1,↓WX_ixa,ix1,rd1_of hb3,cel_take,cel_drop,List.drop_zero,s0]
  generalize hH5:AH.new K1 _=H5
  obtain⟨hb5,p5,n5⟩:=new_facts hH5
  have hb3:=pre_get p5 hb3
  have hb4:=pre_get p5 hb4
  refine i_weight (byq.seg (by omega)).1 fun H6 p6=>?_
  have hb3:=pre_get p6 hb3
  have hb4:=pre_get p6 hb4
  have hb5:=pre_get p6 hb5
  have lt3:=get_lt hb3
  have lt5:=get_lt hb5
  try simp (maxSteps:=3000000) (disch:=first|omega|simp only[lnx];omega) only[↓xpre,xpost,↓reduceIte,reduceEqDiff,reduceAdd,reduceSub,reduceLeDiff,zz0,f1,f2,f3,f4,f17,f18,f19,wrap64_in,↓WX_ixa,ix1,ix2,wr_of hb3,rdn_of hb5,cel_len,wi,cel_take,cel_drop,s1]
  refine⟨p6,?_⟩
  generalize hH7:AH.put H6 _ _=H7
  have k3:OwnB H7 H2.length [I64 x.ps.length,I64 (cw x.ps 0 i+(wt (seg q 0) 9-1)),I64 (cw x.ps 1 i),I64 0] true:=by rw[←hH7];exact⟨_,get_put_same lt3⟩
  have k4:OwnB H7 H3.length (cel .i64 (plN x.ps i 0)) true:=by rw[←hH7];exact OwnB.put_ne ⟨_,hb4⟩ (by omega)
  have k5:OwnB H7 K1.length (cel .u8 q) true:=by rw[←hH7];exact OwnB.put_ne ⟨_,hb5⟩ (by omega)
  have p7:H2<+:H7:=by rw[←hH7];exact pre_put (pp.trans (p5.trans p6)) (Nat.le_refl _)
  clear hb3 hb4 hb5 hH7
  refine i_weight (byq.seg (by omega)).1 fun H8 p8=>?_
  obtain⟨e7,k3⟩:=k3.pre p8
  obtain⟨e8,k4⟩:=k4.pre p8
  obtain⟨e9,k5⟩:=k5.pre p8
  have m3:=get_lt k3
  have m5:=get_lt k5
  try simp (maxSteps:=3000000) (disch:=first|omega|simp only[lnx];omega) only[↓xpre,xpost,↓reduceIte,reduceEqDiff,reduceAdd,reduceSub,reduceLeDiff,zz0,f1,f2,f3,f4,f17,f18,f19,wrap64_in,wr_of k3,rdn_of k5,cel_len,wi,cel_take,cel_drop,s2]
  refine⟨p8,?_⟩
  generalize hH9:AH.put H8 _ _=H9
  have j3:OwnB H9 H2.length [I64 x.ps.length,I64 (cw x.ps 0 (i+1)),I64 (cw x.ps 1 (i+1)),I64 0] true:=by rw[←hH9,e0,e1];exact⟨_,get_put_same m3⟩
  have j4:OwnB H9 H3.length (cel .i64 (plN x.ps i 0)) true:=by rw[←hH9];exact OwnB.put_ne ⟨_,k4⟩ (by omega)
  have p9:H2<+:H9:=by rw[←hH9];exact pre_put (p7.trans p8) (Nat.le_refl _)
  have sl:=(byq.seg (i:=2) (by omega)).1
  refine WC_loop_inv (fun m f K2=>∃ (j:Nat),m=9-j∧j≤9∧f 1=.pointer (some ⟨h.length,0,none⟩)∧f 2=.pointer (some ⟨H1.length,0,none⟩)∧f 3=.pointer (some ⟨H2.length,0,none⟩)∧f 4=.pointer (some ⟨H3.length,0,none⟩)∧f 17=v∧f 18=I64 x.ps.length∧f 19=I64 i∧f 40=.agg (cel .u8 (seg q 2)).toArray∧f 41=I64 j∧(H2<+:K2)∧(OwnB K2 H2.length [I64 x.ps.length,I64 (cw x.ps 0 (i+1)),I64 (cw x.ps 1 (i+1)),I64 0] true)∧(OwnB K2 H3.length (cel .i64 (plN x.ps i j)) true)) ?_ (9-0) _ _ ⟨0,rfl,by omega,(by first|rfl|exact f1|(simp[upd_apply];done)),(by first|rfl|exact f2|(simp[upd_apply];done)),(by first|rfl|exact f3|(simp[upd_apply];done)),(by first|rfl|exact f4|(simp[upd_apply];done)),(by first|rfl|exact f17|(simp[upd_apply];done)),(by first|rfl|exact f18|(simp[upd_apply];done)),(by first|rfl|exact f19|(simp[upd_apply];done)),(by first|rfl|simp[upd_apply]),(by first|rfl|simp[upd_apply]),p9,j3,j4⟩
  rintro m f K2 ⟨j,rfl,hj,f1,f2,f3,f4,f17,f18,f19,f40,f41,pj,j3,j4⟩
  by_cases hlj:(j:Int)<9
  ·have hj':j<9:=by omega
   have g1:=idx1V_cel (k:=.u8) (q:=seg q 2) (n:=9) (j:=j) (kk:=.i64) hj' (by omega)
   have sg:(seg q 2).getD j 0=q.getD (18+j) 0:=by unfold seg;rw[cut_get hj']
   have ec:cc x.ps j (i+1)=cc x.ps j i+nz (q.getD (18+j) 0):=by rw[←hq];rfl
   have bc:=cc_in x.ps j i
   rw[sg] at g1
   by_cases cz:q.getD (18+j) 0=0
   ·try simp (maxSteps:=3000000) (disch:=first|omega|simp only[lnx];omega) only[↓xpre,xpost,↓reduceIte,reduceEqDiff,reduceAdd,reduceSub,reduceLeDiff,zz0,f1,f2,f3,f4,f17,f18,f19,f40,f41,decide_eq_true hlj,↓WX_idx1,g1,decide_eq_false (show ¬ (q.getD (18+j) 0≠0) from fun e=>e cz),wrap64_in]
    refine InvQ_go (9-(j+1)) (by omega) ⟨(j+1),rfl,by omega,(by first|rfl|exact f1|(simp only[upd_apply];rfl)|(show I64 _=_;congr 1;omega)),(by first|rfl|exact f2|(simp only[upd_apply];rfl)|(show I64 _=_;congr 1;omega)),(by first|rfl|exact f3|(simp only[upd_apply];rfl)|(show I64 _=_;congr 1;omega)),(by first|rfl|exact f4|(simp only[upd_apply];rfl)|(show I64 _=_;congr 1;omega)),(by first|rfl|exact f17|(simp only[upd_apply];rfl)|(show I64 _=_;congr 1;omega)),(by first|rfl|exact f18|(simp only[upd_apply];rfl)|(show I64 _=_;congr 1;omega)),(by first|rfl|exact f19|(simp only[upd_apply];rfl)|(show I64 _=_;congr 1;omega)),(by first|rfl|exact f40|(simp only[upd_apply];rfl)|(show I64 _=_;congr 1;omega)),(by first|rfl|exact f41|(simp only[upd_apply];rfl)|(show I64 _=_;congr 1;omega)),pj,j3,(by rw[←plN_same hj' (by rw[ec];unfold nz;rw[if_pos cz,Int.add_zero])];exact j4)⟩
   ·obtain⟨ej,j4⟩:=j4
    have g4:=cel_get (k:=.i64) (q:=plN x.ps i j) (j:=j) (by rw[plN_len];exact hj')
    rw[plN_get hj'] at g4
    have ec':cc x.ps j (i+1)=cc x.ps j i+1:=by rw[ec];unfold nz;rw[if_neg cz]
    have s4:splice (cel .i64 (plN x.ps i j)) j [I64 (cc x.ps j i+1)]=cel .i64 (plN x.ps i (j+1)):=by
     rw[cel_set (by rw[plN_len];exact hj'),←ec',plN_set hj']
    have lt9:=get_lt j4
    try simp (maxSteps:=3000000) (disch:=first|omega|simp only[lnx];omega) only[↓xpre,xpost,↓reduceIte,reduceEqDiff,reduceAdd,reduceSub,reduceLeDiff,zz0,f1,f2,f3,f4,f17,f18,f19,f40,f41,decide_eq_true hlj,↓WX_idx1,g1,decide_eq_true (show q.getD (18+j) 0≠0 from cz),↓WX_ixa,ixaV_ptr,Int.toNat_natCast,Nat.mul_one,rd1_of j4,g4,wr_of j4,wrap64_in,s4,cel_len,plN_len]
    refine⟨by omega,?_⟩
    refine InvQ_go (9-(j+1)) (by omega) ⟨(j+1),rfl,by omega,(by first|rfl|exact f1|(simp only[upd_apply];rfl)|(show I64 _=_;congr 1;omega)),(by first|rfl|exact f2|(simp only[upd_apply];rfl)|(show I64 _=_;congr 1;omega)),(by first|rfl|exact f3|(simp only[upd_apply];rfl)|(show I64 _=_;congr 1;omega)),(by first|rfl|exact f4|(simp only[upd_apply];rfl)|(show I64 _=_;congr 1;omega)),(by first|rfl|exact f17|(simp only[upd_apply];rfl)|(show I64 _=_;congr 1;omega)),(by first|rfl|exact f18|(simp only[upd_apply];rfl)|(show I64 _=_;congr 1;omega)),(by first|rfl|exact f19|(simp only[upd_apply];rfl)|(show I64 _=_;congr 1;omega)),(by first|rfl|exact f40|(simp only[upd_apply];rfl)|(show I64 _=_;congr 1;omega)),(by first|rfl|exact f41|(simp only[upd_apply];rfl)|(show I64 _=_;congr 1;omega)),(pre_put pj (by omega)),(j3.put_ne (by omega)),⟨_,get_put_same lt9⟩⟩
  ·have ej:j=9:=by omega
   subst ej
   try simp (maxSteps:=3000000) (disch:=first|omega|simp only[lnx];omega) only[↓xpre,xpost,↓reduceIte,reduceEqDiff,reduceAdd,reduceSub,reduceLeDiff,zz0,f1,f2,f3,f4,f17,f18,f19,f40,f41,decide_eq_false hlj,wrap64_in]
   refine InvQ_go (x.ps.length-(i+1)) (by omega) ⟨(i+1),rfl,by omega,(by first|rfl|exact f1|(simp only[upd_apply];rfl)|(show I64 _=_;congr 1;omega)),(by first|rfl|exact f2|(simp only[upd_apply];rfl)|(show I64 _=_;congr 1;omega)),(by first|rfl|exact f3|(simp only[upd_apply];rfl)|(show I64 _=_;congr 1;omega)),(by first|rfl|exact f4|(simp only[upd_apply];rfl)|(show I64 _=_;congr 1;omega)),(by first|rfl|exact f17|(simp only[upd_apply];rfl)|(show I64 _=_;congr 1;omega)),(by first|rfl|exact f18|(simp only[upd_apply];rfl)|(show I64 _=_;congr 1;omega)),(by first|rfl|exact f19|(simp only[upd_apply];rfl)|(show I64 _=_;congr 1;omega)),pj,j3,(by rw[←plN_next];exact j4)⟩
 ·have ei:i=x.ps.length:=by omega
  subst ei
  have t9:(plN x.ps x.ps.length 0).take 9=plN x.ps x.ps.length 0:=List.take_of_length_le (by rw[plN_len];exact Nat.le_refl _)
  try simp (maxSteps:=3000000) (disch:=first|omega|simp only[lnx];omega) only[↓xpre,xpost,↓reduceIte,reduceEqDiff,reduceAdd,reduceSub,reduceLeDiff,zz0,f1,f2,f3,f4,f17,f18,f19,decide_eq_false hlt,rdn_of hb4,cel_len,plN_len,cel_take,t9]
  refine WC_loop_inv (fun m f K3=>∃ (c:Nat),m=9-c∧c≤9∧f 2=.pointer (some ⟨H1.length,0,none⟩)∧f 3=.pointer (some ⟨H2.length,0,none⟩)∧f 54=.agg (cel .i64 (plN x.ps x.ps.length 0)).toArray∧f 55=I64 c∧(H2<+:K3)∧(OwnB K3 H2.length [I64 x.ps.length,I64 (cw x.ps 0 x.ps.length),I64 (cw x.ps 1 x.ps.length),I64 (cq x.ps x.ps.length c)] true)) ?_ (9-0) _ _ ⟨0,rfl,by omega,(by first|rfl|exact f2|(simp[upd_apply];done)),(by first|rfl|exact f3|(simp[upd_apply];done)),(by first|rfl|simp[upd_apply]),(by first|rfl|simp[upd_apply]),pp,⟨_,hb3⟩⟩
  rintro m f K3 ⟨c,rfl,hc,f2,f3,f54,f55,pc,hc3⟩
  obtain⟨ec3,hc3⟩:=hc3
  have lt3:=get_lt hc3
  have b3:=cq_in x.ps x.ps.length c
  have b3':(x.ps.length:Int)*c≤30*9:=(mul_in (A:=30) (B:=9) (by omega) (by omega)).2
  by_cases hlc:(c:Int)<9
  ·have hc':c<9:=by omega
   have g1:=idx1V_cel (k:=.i64) (q:=plN x.ps x.ps.length 0) (n:=9) (j:=c) (kk:=.i64) hc' (by rw[plN_len];exact hc')
   rw[plN0_get hc'] at g1
   have bc:=cc_in x.ps c x.ps.length
   have b5:0≤mx (cc x.ps c x.ps.length-1)∧mx (cc x.ps c x.ps.length-1)≤30:=by unfold mx;split<;>omega
   have m1:mm1 true (I64 (cc x.ps c x.ps.length-1)) (I64 0)=some (I64 (mx (cc x.ps c x.ps.length-1))):=rfl
   have ix3:∀ n:Nat,ixaV 4 1 (.pointer (some ⟨n,0,none⟩)) (I64 3)=some (.pointer (some ⟨n,3,none⟩)):=fun n=>rfl
   try simp (maxSteps:=3000000) (disch:=first|omega|simp only[lnx];omega) only[↓xpre,xpost,↓reduceIte,reduceEqDiff,reduceAdd,reduceSub,reduceLeDiff,zz0,f2,f3,f54,f55,decide_eq_true hlc,↓WX_idx1,g1,↓WX_ixa,ix3,rd1_of hc3,wr_of hc3,wrap64_in,↓WX_mm1,m1]
   refine InvQ_go (9-(c+1)) (by omega) ⟨(c+1),rfl,by omega,(by first|rfl|exact f2|(simp only[upd_apply];rfl)|(show I64 _=_;congr 1;omega)),(by first|rfl|exact f3|(simp only[upd_apply];rfl)|(show I64 _=_;congr 1;omega)),(by first|rfl|exact f54|(simp only[upd_apply];rfl)|(show I64 _=_;congr 1;omega)),(by first|rfl|exact f55|(simp only[upd_apply];rfl)|(show I64 _=_;congr 1;omega)),(pre_put pc (Nat.le_refl _)),⟨_,get_put_same lt3⟩⟩
  ·have e9:c=9:=by omega
   subst e9
   have hb2':=pre_get pc hb2
   have lt2':=get_lt hb2'
   try simp (maxSteps:=3000000) (disch:=first|omega|simp only[lnx];omega) only[↓xpre,xpost,↓reduceIte,reduceEqDiff,reduceAdd,reduceSub,reduceLeDiff,zz0,f2,f3,f54,f55,decide_eq_false hlc,rdn_of hc3,wr_of hb2']
   exact hQ _ (pre_put ((p1.trans p2).trans pc) (show h.length≤H1.length by omega))
theorem costL_len {x:Sch}:(costL x).length=4:=rfl
def slcaV (len sz:Nat) (x:Value) (h:AH):Option (Value×AH):=xop (.slca len sz (.const x) none none) (fun _=>undef) h
theorem WX_slca {S:XS} {f:Fr} {h:AH} {Q:Value→AH→Prop} {len sz:Nat} {x:Operand}:WX S (.slca len sz x none none) f h Q=OQ (slcaV len sz (ev f x) h) Q:=by
 rw[WX_op (fun _=>rfl)]
 rfl
theorem slcaV_of {h:AH} {n len:Nat} {c:List Value} {e:TypeId} (hg:h.get n=some ⟨c,e,false,true⟩) (hl:len=c.length) (h0:0<len):slcaV len 1 (.pointer (some ⟨n,0,none⟩)) h=some (.slice (some ⟨n,0,none⟩) len 1,h):=by
 simp only[slcaV,xop,ev,hg,bound]
 rw[if_pos ⟨trivial,trivial,by omega,by omega,by omega,by omega⟩]
 simp
def coS (x:Sch):List Int×Int:=if isX x=true then (costL x,0) else ([],1)
theorem coS_small (x:Sch):SmallS (coS x).1:=by
 unfold coS SmallS
 split
 ·simp[costL_len]
 ·simp
theorem s_CostOf {v:Value} {x:Sch} {h:AH} {Q:Value→AH→Prop} (hv:Prods h v x.ps) (hl:SmallX x.ps)
  (hQ:∀ v' h',h<+:h'→OwnR h h' v' (coS x).1→Q (.tuple #[v',I64 (coS x).2]) h'):WF S 88 [schV x v] h Q:=by
 refine WF_fn (fn:=c88) rfl rfl ?_
 dsimp only[c88,oO,oM,oS,oG,oK,oE,oL,oF,oX,oN]
 try simp (maxSteps:=3000000) (disch:=first|omega|simp only[lnx];omega) only[↓xpre,xpost,↓reduceIte,reduceEqDiff,reduceAdd,reduceSub,reduceLeDiff,zz0,schV,hv.one]
 generalize hH1:AH.new h _=H1
 obtain⟨hb1,p1,n1⟩:=new_facts hH1
 try simp (maxSteps:=3000000) (disch:=first|omega|simp only[lnx];omega) only[↓xpre,xpost,↓reduceIte,reduceEqDiff,reduceAdd,reduceSub,reduceLeDiff,zz0,rdn_of hb1]
 refine s_l01Is (hv.pre p1) hl fun H2 p2=>?_
 have hb1:=pre_get p2 hb1
 unfold coS at hQ
 cases c0:isX x with
 | false=>
  rw[c0,if_neg (by decide)] at hQ
  try simp (maxSteps:=3000000) (disch:=first|omega|simp only[lnx];omega) only[↓xpre,xpost,↓reduceIte,reduceEqDiff,reduceAdd,reduceSub,reduceLeDiff,zz0]
  exact hQ _ _ (p1.trans p2) (.inl ⟨rfl,rfl⟩)
 | true=>
  rw[c0,if_pos rfl] at hQ
  try simp (maxSteps:=3000000) (disch:=first|omega|simp only[lnx];omega) only[↓xpre,xpost,↓reduceIte,reduceEqDiff,reduceAdd,reduceSub,reduceLeDiff,zz0,rdn_of hb1]
  refine s_l06Cost (hv.pre (p1.trans p2)) (isX_sz c0).2 fun v3 H3 p3 o3=>?_
  try simp (maxSteps:=3000000) (disch:=first|omega|simp only[lnx];omega) only[↓xpre,xpost,↓reduceIte,reduceEqDiff,reduceAdd,reduceSub,reduceLeDiff,zz0]
  exact hQ _ _ ((p1.trans p2).trans p3) (o3.lo (pre_len (p1.trans p2)))
theorem i_CostOf {v:Value} {x:Sch} {h:AH} {Q:Value→AH→Prop} (hv:Prods h v x.ps) (hl:SmallX x.ps)
  (hQ:∀ v' h',h<+:h'→OwnR h h' v' (coS x).1→Q (.tuple #[v',I64 (coS x).2]) h'):WF S 87 [schV x v] h Q:=by
 refine WF_fn (fn:=c87) rfl rfl ?_
 dsimp only[c87,oO,oM,oS,oG,oK,oE,oL,oF,oX,oN]
 try simp (maxSteps:=3000000) (disch:=first|omega|simp only[lnx];omega) only[↓xpre,xpost,↓reduceIte,reduceEqDiff,reduceAdd,reduceSub,reduceLeDiff,zz0,schV,hv.one]
 generalize hH1:AH.new h _=H1
 obtain⟨hb1,p1,n1⟩:=new_facts hH1
 try simp (maxSteps:=3000000) (disch:=first|omega|simp only[lnx];omega) only[↓xpre,xpost,↓reduceIte,reduceEqDiff,reduceAdd,reduceSub,reduceLeDiff,zz0,rdn_of hb1]
 refine i_IsScheme (hv.pre p1) hl fun H2 p2=>?_
 have hb1:=pre_get p2 hb1
 unfold coS at hQ
 cases c0:isX x with
 | false=>
  rw[c0,if_neg (by decide)] at hQ
  try simp (maxSteps:=3000000) (disch:=first|omega|simp only[lnx];omega) only[↓xpre,xpost,↓reduceIte,reduceEqDiff,reduceAdd,reduceSub,reduceLeDiff,zz0]
  exact hQ _ _ (p1.trans p2) (.inl ⟨rfl,rfl⟩)
 | true=>
  rw[c0,if_pos rfl] at hQ
  try simp (maxSteps:=3000000) (disch:=first|omega|simp only[lnx];omega) only[↓xpre,xpost,↓reduceIte,reduceEqDiff,reduceAdd,reduceSub,reduceLeDiff,zz0,rdn_of hb1]
  refine i_costOf (hv.pre (p1.trans p2)) (isX_sz c0).2 fun H3 p3=>?_
  have w1:∀ (h1:AH) (e:TypeId),(h1.new ⟨[.int .i64 0,.int .i64 0,.int .i64 0,.int .i64 0],e,false,true⟩).wr h1.length 0 (cel .i64 (costL x))=some (h1.new ⟨cel .i64 (costL x),e,false,true⟩):=fun h1 e=>wr_all rfl
  have s1:∀ (h1:AH) (e:TypeId),slcaV 4 1 (.pointer (some ⟨h1.length,0,none⟩)) (h1.new ⟨cel .i64 (costL x),e,false,true⟩)=some (.slice (some ⟨h1.length,0,none⟩) 4 1,h1.new ⟨cel .i64 (costL x),e,false,true⟩):=fun h1 e=>slcaV_of get_new_same rfl (by omega)
  try simp (maxSteps:=3000000) (disch:=first|omega|simp only[lnx];omega) only[↓xpre,xpost,↓reduceIte,reduceEqDiff,reduceAdd,reduceSub,reduceLeDiff,zz0,aggV,cel_all,cel_len,costL_len,↓w1,List.append_nil,↓WX_slca,s1]
  exact hQ _ _ (((p1.trans p2).trans p3).trans (pre_new (List.prefix_refl _))) (.inr ⟨H3.length,_,true,pre_len ((p1.trans p2).trans p3),rfl,get_new_same⟩)
def rep (a M n:Int):Nat→Int→Int→Int→Option (Int×Int)
 | 0,t,s,z=>some (t,s)
 | k+1,t,s,z=>if 1000000000000000<t*a∨1000000000000000<s*a∨1000000000000000<s*a+M*z*z then none else rep a M n k (t*a) (s*a+M*z*z) (z*n)
def more (x:Sch):Int:=cw x.ps 0 x.ps.length+cw x.ps 1 x.ps.length+cq x.ps x.ps.length 9
def repX (x:Sch) (k:Nat) (b:Int):Option (Int×Int):=rep x.ps.length (more x) x.n k (b*b*b) (b*b*b-b*b) b
def repV:Option (Int×Int)→Value
 | none=>.tuple #[I64 0,I64 0,.bool false]
 | some (t,s)=>.tuple #[I64 t,I64 s,.bool true]
theorem smW_nn {g:Nat→Int}:∀ {n:Nat},(∀ j,j<n→0≤g j)→0≤smW g n
 | 0,_=>Int.le_refl _
 | n+1,h=>by
  have h1:=smW_nn (n:=n) (fun j hj=>h j (by omega))
  have h2:=h n (by omega)
  simp only[smW]
  omega
theorem wt_pos {q:List Int} (hq:q.length=9) (hz:isZ q=false):1≤wt q 9:=by
 apply Decidable.byContradiction
 intro hc
 have hw:=wt_in q 9
 have h0:wt q 9=0:=by omega
 have mono:∀ i j:Nat,i≤j→wt q i≤wt q j:=fun i j hij=>by
  induction j with
  | zero=>rw[show i=0 by omega];exact Int.le_refl _
  | succ j ih=>
   by_cases h:i=j+1
   ·rw[h];exact Int.le_refl _
   ·have:=ih (by omega)
    have:=nz_in (q.getD j 0)
    show wt q i≤wt q j+nz (q.getD j 0)
    omega
 have all:∀ j,j<9→q.getD j 0=0:=fun j hj=>by
  apply Decidable.byContradiction
  intro hne
  have h1:=mono (j+1) 9 (by omega)
  have h2:wt q (j+1)=wt q j+nz (q.getD j 0):=rfl
  have h3:=wt_in q j
  unfold nz at h2
  rw[if_neg hne] at h2
  omega
 have:q=z9:=by
  refine List.ext_getElem? fun j=>?_
  by_cases hj:j<9
  ·have h1:=all j hj
   rw[List.getD_eq_getElem?_getD,List.getElem?_eq_getElem (by omega)] at h1
   rw[List.getElem?_eq_getElem (by omega)]
   have h1':q[j]=0:=h1
   rw[h1']
   have:j=0∨j=1∨j=2∨j=3∨j=4∨j=5∨j=6∨j=7∨j=8:=by omega
   rcases this with rfl|rfl|rfl|rfl|rfl|rfl|rfl|rfl|rfl<;>rfl
  ·rw[List.getElem?_eq_none (by omega),List.getElem?_eq_none (by show z9.length≤j;have:z9.length=9:=rfl;omega)]
 rw[this] at hz
 simp[isZ] at hz
theorem more_in {x:Sch} (hx:isX x=true) (hw:Wid 27 x.ps):0≤more x∧more x≤750:=by
 have hl:=(isX_sz hx).2
 have ok:∀ j,j<x.ps.length→∀ s,s<3→1≤wt (seg (x.ps.getD j []) s) 9:=fun j hj s hs=>by
  have h1:x.ps.all (okProd x)=true:=by
   unfold isX at hx
   simp only[Bool.and_eq_true] at hx
   exact hx.2
  have hm:x.ps.getD j []∈x.ps:=by
   rw[List.getD_eq_getElem?_getD,List.getElem?_eq_getElem hj]
   exact List.getElem_mem hj
  have h2:=List.all_eq_true.1 h1 _ hm
  have h27:=hw _ hm
  simp only[okProd,hasZ,Bool.and_eq_true,Bool.not_eq_true',Bool.or_eq_false_iff] at h2
  have hz:isZ (seg (x.ps.getD j []) s)=false:=by
   have:s=0∨s=1∨s=2:=by omega
   rcases this with rfl|rfl|rfl
   ·exact h2.2.1.1
   ·exact h2.2.1.2
   ·exact h2.2.2
  exact wt_pos (by unfold seg;rw[List.length_take,List.length_drop,h27];omega) hz
 have n0:0≤cw x.ps 0 x.ps.length:=smW_nn fun j hj=>by have:=ok j hj 0 (by omega);omega
 have n1:0≤cw x.ps 1 x.ps.length:=smW_nn fun j hj=>by have:=ok j hj 1 (by omega);omega
 have b0:=cw_in x.ps 0 x.ps.length
 have b1:=cw_in x.ps 1 x.ps.length
 have b2:=cq_in x.ps x.ps.length 9
 have b2':(x.ps.length:Int)*((9:Nat):Int)≤30*9:=(mul_in (A:=30) (B:=9) (by omega) (by omega)).2
 unfold more
 omega
theorem zz_in {z M:Int} (hz:1≤z∧z≤6561000) (hM:0≤M∧M≤750):(1≤z*z∧z*z≤43046721000000)∧(0≤M*z∧M*z≤4920750000)∧0≤M*z*z∧M*z*z≤32285040750000000:=by
 have h1:=mul_in1 (A:=6561000) (B:=6561000) hz hz
 have h2:=mul_in (a:=M) (b:=z) (A:=750) (B:=6561000) hM (by omega)
 have h3:=mul_in (a:=M*z) (b:=z) (A:=4920750000) (B:=6561000) (by omega) (by omega)
 omega
theorem size_in {z n:Int} {k:Nat} (hn:1≤n) (hz:1≤z∧z*n^k≤6561000):z≤6561000:=by
 have h1:=(pow_in (n:=n) (N:=n) ⟨hn,Int.le_refl _⟩ k).1
 have:=Int.mul_le_mul_of_nonneg_left h1 (show 0≤z by omega)
 rw[Int.mul_one] at this
 omega
theorem s_l06Repeated {v:Value} {x:Sch} {k:Nat} {b:Int} {h:AH} {Q:Value→AH→Prop} (hv:Prods h v x.ps) (hx:isX x=true) (hk:k≤8) (hb:1≤b∧b≤100000) (hbk:b*x.n^k≤6561000)
  (hQ:∀ h',h<+:h'→Q (repV (repX x k b)) h'):WF S 234 [schV x v,I64 k,I64 b] h Q:=by
 refine WF_fn (fn:=c234) rfl rfl ?_
 dsimp only[c234,oO,oM,oS,oG,oK,oE,oL,oF,oX,oN]
 have z:=(isX_sz hx).1
 have hl:=(isX_sz hx).2
 have hM:=more_in hx hv.1.widL
 have zn:=z.n
 have b2:=mul_in1 (A:=100000) (B:=100000) hb hb
 have b3:=mul_in1 (a:=b*b) (b:=b) (A:=10000000000) (B:=100000) (by omega) hb
 have b3':b*b≤b*b*b:=by
  have:=Int.mul_le_mul_of_nonneg_left hb.1 (show 0≤b*b by omega)
  rw[Int.mul_one] at this
  exact this
 try simp (maxSteps:=3000000) (disch:=first|omega|simp only[lnx];omega) only[↓xpre,xpost,↓reduceIte,reduceEqDiff,reduceAdd,reduceSub,reduceLeDiff,zz0,schV,hv.one]
 generalize hH1:AH.new h _=H1
 obtain⟨hb1,p1,n1⟩:=new_facts hH1
 try simp (maxSteps:=3000000) (disch:=first|omega|simp only[lnx];omega) only[↓xpre,xpost,↓reduceIte,reduceEqDiff,reduceAdd,reduceSub,reduceLeDiff,zz0,rdn_of hb1]
 refine s_l06Cost (hv.pre p1) hl fun v2 H2 p2 o2=>?_
 have hb1:=pre_get p2 hb1
 rcases o2 with⟨_,o2⟩|⟨n,e,full,q1,rfl,hg⟩
 ·simp[costL] at o2
 have c0:=cw_in x.ps 0 x.ps.length
 have c1:=cw_in x.ps 1 x.ps.length
 have c2:=cq_in x.ps x.ps.length 9
 have ix:∀ j:Nat,j<4→ixsV 1 (.slice (some ⟨n,0,none⟩) (costL x).length 1) (I64 j)=some (.pointer (some ⟨n,j,none⟩)):=fun j hj=>by
  rw[ixsV_some,if_pos ⟨by omega,by show (j:Int)<4;omega,rfl⟩]
  simp
 have ix0:ixsV 1 (.slice (some ⟨n,0,none⟩) (costL x).length 1) (I64 0)=_:=ix 0 (by omega)
 have ix1:ixsV 1 (.slice (some ⟨n,0,none⟩) (costL x).length 1) (I64 1)=_:=ix 1 (by omega)
 have ix2:ixsV 1 (.slice (some ⟨n,0,none⟩) (costL x).length 1) (I64 2)=_:=ix 2 (by omega)
 have ix3:ixsV 1 (.slice (some ⟨n,0,none⟩) (costL x).length 1) (I64 3)=_:=ix 3 (by omega)
 have r0:AH.rd1 H2 n 0=some (I64 x.ps.length):=by rw[rd1_of hg];rfl
 have r1:AH.rd1 H2 n 1=some (I64 (cw x.ps 0 x.ps.length)):=by rw[rd1_of hg];rfl
 have r2:AH.rd1 H2 n 2=some (I64 (cw x.ps 1 x.ps.length)):=by rw[rd1_of hg];rfl
 have r3:AH.rd1 H2 n 3=some (I64 (cq x.ps x.ps.length 9)):=by rw[rd1_of hg];rfl
 try simp (maxSteps:=3000000) (disch:=first|omega|simp only[lnx];omega) only[↓xpre,xpost,↓reduceIte,reduceEqDiff,reduceAdd,reduceSub,reduceLeDiff,zz0,ix1,ix2,ix3,r1,r2,r3,wrap64_in]
 refine WC_loop_inv (fun m f K1=>∃ (i:Nat) (t:Int) (s:Int) (w:Int),m=k-i∧i≤k∧f 1=I64 k∧f 3=.pointer (some ⟨h.length,0,none⟩)∧f 9=.slice (some ⟨n,0,none⟩) (costL x).length 1∧f 10=I64 (more x)∧f 11=I64 t∧f 12=I64 s∧f 13=I64 w∧f 14=I64 i∧(K1=H2)∧(rep x.ps.length (more x) x.n (k-i) t s w=repX x k b)∧(0≤t∧t≤1000000000000000)∧(0≤s∧s≤1000000000000000)∧(1≤w∧w*x.n^(k-i)≤6561000)) ?_ (k-0) _ _ ⟨0,b*b*b,b*b*b-b*b,b,rfl,by omega,(by first|rfl|simp[upd_apply]),(by first|rfl|simp[upd_apply]),(by first|rfl|simp[upd_apply]),(by first|rfl|simp[upd_apply]),(by first|rfl|simp[upd_apply]),(by first|rfl|simp[upd_apply]),(by first|rfl|simp[upd_apply]),(by first|rfl|simp[upd_apply]),rfl,rfl,(by omega),(by omega),⟨hb.1,hbk⟩⟩
 rintro m f K1 ⟨i,t,s,w,rfl,hi,f1,f3,f9,f10,f11,f12,f13,f14,hK,hr,ht,hs,hw⟩
 subst hK
 by_cases hlt:(i:Int)<k
 ·have hi':i<k:=by omega
  have hwl:=size_in (by omega) hw
  obtain⟨w2,w3,w4⟩:=zz_in ⟨hw.1,hwl⟩ hM
  have ta:=mul_in (a:=t) (b:=(x.ps.length:Int)) (A:=1000000000000000) (B:=30) ht (by omega)
  have sa:=mul_in (a:=s) (b:=(x.ps.length:Int)) (A:=1000000000000000) (B:=30) hs (by omega)
  have wn:=mul_in1 (a:=w) (b:=x.n) (A:=6561000) (B:=3) ⟨hw.1,hwl⟩ zn
  have hrs:rep x.ps.length (more x) x.n (k-i) t s w=if 1000000000000000<t*x.ps.length∨1000000000000000<s*x.ps.length∨1000000000000000<s*x.ps.length+more x*w*w then none else rep x.ps.length (more x) x.n (k-(i+1)) (t*x.ps.length) (s*x.ps.length+more x*w*w) (w*x.n):=by
   rw[show k-i=(k-(i+1))+1 by omega]
   rfl
  rw[hrs] at hr
  have hQ2:=hQ _ (p1.trans p2)
  have d0:=decide_eq_true hlt
  have dz:=decide_eq_false (show ¬ (1000000000000000<w*w) by omega)
  by_cases k1:1000000000000000<t*x.ps.length
  ·try simp (maxSteps:=3000000) (disch:=first|omega|simp only[lnx];omega) only[↓xpre,xpost,↓reduceIte,reduceEqDiff,reduceAdd,reduceSub,reduceLeDiff,zz0,f1,f3,f9,f10,f11,f12,f13,f14,d0,ix0,r0,wrap64_in,decide_eq_true k1,WG_un,xres_tmp3]
   rw[←hr,if_pos (.inl k1)] at hQ2
   exact hQ2
  have d1:=decide_eq_false k1
  by_cases k2:1000000000000000<s*x.ps.length
  ·try simp (maxSteps:=3000000) (disch:=first|omega|simp only[lnx];omega) only[↓xpre,xpost,↓reduceIte,reduceEqDiff,reduceAdd,reduceSub,reduceLeDiff,zz0,f1,f3,f9,f10,f11,f12,f13,f14,d0,ix0,r0,wrap64_in,d1,decide_eq_true k2,WG_un,xres_tmp3]
   rw[←hr,if_pos (.inr (.inl k2))] at hQ2
   exact hQ2
  have d2:=decide_eq_false k2
  by_cases k3:1000000000000000<s*x.ps.length+more x*w*w
  ·try simp (maxSteps:=3000000) (disch:=first|omega|simp only[lnx];omega) only[↓xpre,xpost,↓reduceIte,reduceEqDiff,reduceAdd,reduceSub,reduceLeDiff,zz0,f1,f3,f9,f10,f11,f12,f13,f14,d0,ix0,r0,wrap64_in,d1,d2,dz,rd1_of hb1,decide_eq_true k3,xres_tmp3]
   rw[←hr,if_pos (.inr (.inr k3))] at hQ2
   exact hQ2
  ·try simp (maxSteps:=3000000) (disch:=first|omega|simp only[lnx];omega) only[↓xpre,xpost,↓reduceIte,reduceEqDiff,reduceAdd,reduceSub,reduceLeDiff,zz0,f1,f3,f9,f10,f11,f12,f13,f14,d0,ix0,r0,wrap64_in,d1,d2,dz,rd1_of hb1,decide_eq_false k3]
   rw[if_neg (by omega)] at hr
   refine InvQ_go (k-(i+1)) (by omega) ⟨(i+1),(t*x.ps.length),(s*x.ps.length+more x*w*w),(w*x.n),rfl,by omega,(by first|rfl|exact f1|(simp only[upd_apply];rfl)|(show I64 _=_;congr 1;omega)),(by first|rfl|exact f3|(simp only[upd_apply];rfl)|(show I64 _=_;congr 1;omega)),(by first|rfl|exact f9|(simp only[upd_apply];rfl)|(show I64 _=_;congr 1;omega)),(by first|rfl|exact f10|(simp only[upd_apply];rfl)|(show I64 _=_;congr 1;omega)),(by first|rfl|exact f11|(simp only[upd_apply];rfl)|(show I64 _=_;congr 1;omega)),(by first|rfl|exact f12|(simp only[upd_apply];rfl)|(show I64 _=_;congr 1;omega)),(by first|rfl|exact f13|(simp only[upd_apply];rfl)|(show I64 _=_;congr 1;omega)),(by first|rfl|exact f14|(simp only[upd_apply];rfl)|(show I64 _=_;congr 1;omega)),rfl,hr,(by omega),(by omega),⟨wn.1,?_⟩⟩
   have e1:=hw.2
   rw[show k-i=(k-(i+1))+1 by omega,Int.pow_succ,Int.mul_comm (x.n^_) x.n,←Int.mul_assoc] at e1
   exact e1
 ·have ei:k-i=0:=by omega
  rw[ei] at hr
  try simp (maxSteps:=3000000) (disch:=first|omega|simp only[lnx];omega) only[↓xpre,xpost,↓reduceIte,reduceEqDiff,reduceAdd,reduceSub,reduceLeDiff,zz0,f1,f3,f9,f10,f11,f12,f13,f14,decide_eq_false hlt,xres_tmp3]
  have hQ2:=hQ _ (p1.trans p2)
  rw[←hr] at hQ2
  exact hQ2
def mn (a:Int):Int:=if 1000000000000001<a then 1000000000000001 else a
def over (a b:Int):Prop:=0<mn b∧(1000000000000000:Int).tdiv (mn b)<mn a
instance {a b:Int}:Decidable (over a b):=by unfold over;infer_instance
def limN:Int→List (List Int)→Int
 | all,[]=>all
 | all,q::r=>if over (q.getD 0 0) (q.getD 1 0) then 1000000000000001 else limN (mn (all+mn (q.getD 0 0)*mn (q.getD 1 0))) r
theorem mn_in {a:Int} (h:0≤a):0≤mn a∧mn a≤1000000000000001:=by unfold mn;split<;>omega
theorem mn_id {a:Int} (h:a≤1000000000000001):mn a=a:=by unfold mn;rw[if_neg (by omega)]
theorem over_iff {a b:Int} (ha:0≤a) (hb:0≤b):over a b↔1000000000000000<mn a*mn b:=by
 have h1:=mn_in ha
 have h2:=mn_in hb
 unfold over
 by_cases h0:0<mn b
 ·rw[Int.tdiv_eq_ediv_of_nonneg (by omega),Int.ediv_lt_iff_lt_mul h0]
  exact⟨fun h=>h.2,fun h=>⟨h0,h⟩⟩
 ·have e:mn b=0:=by omega
  rw[e,Int.mul_zero]
  omega
theorem mn_mul {a b:Int} (ha:0≤a) (hb:0≤b):(1000000000000000<mn a*mn b↔1000000000000000<a*b)∧(¬ 1000000000000000<a*b→mn a*mn b=a*b):=by
 by_cases b0:b=0
 ·subst b0
  rw[mn_id (a:=0) (by omega),Int.mul_zero,Int.mul_zero]
  omega
 by_cases a0:a=0
 ·subst a0
  rw[mn_id (a:=0) (by omega),Int.zero_mul,Int.zero_mul]
  omega
 have p1:a≤a*b:=by
  have:=Int.mul_le_mul_of_nonneg_left (show 1≤b by omega) ha
  rw[Int.mul_one] at this
  exact this
 have p2:b≤a*b:=by
  have:=Int.mul_le_mul_of_nonneg_right (show 1≤a by omega) hb
  rw[Int.one_mul] at this
  exact this
 have ma:1≤mn a:=by unfold mn;split<;>omega
 have mb:1≤mn b:=by unfold mn;split<;>omega
 have q1:mn a≤mn a*mn b:=by
  have:=Int.mul_le_mul_of_nonneg_left mb (show 0≤mn a by omega)
  rw[Int.mul_one] at this
  exact this
 have q2:mn b≤mn a*mn b:=by
  have:=Int.mul_le_mul_of_nonneg_right ma (show 0≤mn b by omega)
  rw[Int.one_mul] at this
  exact this
 by_cases ha1:1000000000000001<a
 ·have:mn a=1000000000000001:=by unfold mn;rw[if_pos ha1]
  omega
 ·by_cases hb1:1000000000000001<b
  ·have:mn b=1000000000000001:=by unfold mn;rw[if_pos hb1]
   omega
  ·rw[mn_id (a:=a) (by omega),mn_id (a:=b) (by omega)]
   omega
theorem lim1 {a b:Int} (ha:0≤a) (hb:0≤b):limN 0 [[a,b]]=mn (a*b):=by
 have k:=mn_mul ha hb
 show (if over a b then 1000000000000001 else mn (0+mn a*mn b))=mn (a*b)
 by_cases h:1000000000000000<a*b
 ·rw[if_pos ((over_iff ha hb).2 (k.1.2 h))]
  unfold mn
  split<;>omega
 ·rw[if_neg (fun e=>h (k.1.1 ((over_iff ha hb).1 e))),k.2 h,Int.zero_add]
theorem lim2 {a b c d:Int} (ha:0≤a) (hb:0≤b) (hc:0≤c) (hd:0≤d):limN 0 [[a,b],[c,d]]=mn (a*b+c*d):=by
 have k:=mn_mul ha hb
 have k':=mn_mul hc hd
 have n1:=Int.mul_nonneg ha hb
 have n2:=Int.mul_nonneg hc hd
 show (if over a b then 1000000000000001 else if over c d then 1000000000000001 else mn (mn (0+mn a*mn b)+mn c*mn d))=mn (a*b+c*d)
 by_cases h:1000000000000000<a*b
 ·rw[if_pos ((over_iff ha hb).2 (k.1.2 h))]
  unfold mn
  split<;>omega
 ·rw[if_neg (fun e=>h (k.1.1 ((over_iff ha hb).1 e))),k.2 h,Int.zero_add,mn_id (a:=a*b) (by omega)]
  by_cases h':1000000000000000<c*d
  ·rw[if_pos ((over_iff hc hd).2 (k'.1.2 h'))]
   unfold mn
   split<;>omega
  ·rw[if_neg (fun e=>h' (k'.1.1 ((over_iff hc hd).1 e))),k'.2 h']
theorem i_limited {v:Value} {L:List (List Int)} {h:AH} {Q:Value→AH→Prop} (hv:Els .i64 2 h v L) (hl:(L.length:Int)≤1048576) (hn:∀ i,i<L.length→0≤(L.getD i []).getD 0 0∧0≤(L.getD i []).getD 1 0)
  (hQ:∀ h',h<+:h'→Q (I64 (limN 0 L)) h'):WF S 308 [v] h Q:=by
 refine WF_fn (fn:=c308) rfl rfl ?_
 dsimp only[c308,oO,oM,oS,oG,oK,oE,oL,oF,oX,oN]
 try simp (maxSteps:=3000000) (disch:=first|omega|simp only[lnx];omega) only[↓xpre,xpost,↓reduceIte,reduceEqDiff,reduceAdd,reduceSub,reduceLeDiff,zz0,hv.len]
 refine WC_loop_inv (fun m f K1=>∃ (i:Nat) (all:Int),m=L.length-i∧i≤L.length∧f 3=I64 all∧f 8=v∧f 9=I64 L.length∧f 10=I64 i∧(h<+:K1)∧(0≤all∧all≤1000000000000001)∧(limN all (L.drop i)=limN 0 L)) ?_ (L.length-0) _ _ ⟨0,0,rfl,by omega,(by first|rfl|simp[upd_apply]),(by first|rfl|simp[upd_apply]),(by first|rfl|simp[upd_apply]),(by first|rfl|simp[upd_apply]),List.prefix_refl _,(by omega),rfl⟩
 rintro m f K1 ⟨i,all,rfl,hi,f3,f8,f9,f10,pp,ha,hL⟩
 have hvK:=hv.pre pp
 by_cases hlt:(i:Int)<L.length
 ·have hi':i<L.length:=by omega
  obtain⟨n,off,hix,hrn,hr1⟩:=hvK.at hi'
  have r2:=hrn 0 2 (by omega)
  have wd:=hvK.wid hi'
  rw[List.drop_zero,List.take_of_length_le (by omega),Nat.add_zero] at r2
  have hn':=hn i hi'
  have hd:L.drop i=L.getD i []::L.drop (i+1):=by
   rw[List.getD_eq_getElem?_getD,List.getElem?_eq_getElem hi',List.drop_eq_getElem_cons hi']
   rfl
  rw[hd] at hL
  generalize L.getD i []=q at *
  obtain⟨a,b,rfl⟩:∃ a b,q=[a,b]:=by
   match q,wd with
   | [a,b],_=>exact⟨a,b,rfl⟩
  have ha0:0≤a:=hn'.1
  have hb0:0≤b:=hn'.2
  have e1:cel .i64 [a,b]=[I64 a,I64 b]:=rfl
  rw[e1] at r2
  have ma:=mn_in ha0
  have mb:=mn_in hb0
  have m1:mm1 false (I64 a) (I64 1000000000000001)=some (I64 (mn a)):=rfl
  have m2:mm1 false (I64 b) (I64 1000000000000001)=some (I64 (mn b)):=rfl
  have ix0:∀ n:Nat,ixaV 2 1 (.pointer (some ⟨n,0,none⟩)) (I64 0)=some (.pointer (some ⟨n,0,none⟩)):=fun n=>rfl
  have ix1:∀ n:Nat,ixaV 2 1 (.pointer (some ⟨n,0,none⟩)) (I64 1)=some (.pointer (some ⟨n,1,none⟩)):=fun n=>rfl
  have hs:limN all ([a,b]::L.drop (i+1))=if over a b then 1000000000000001 else limN (mn (all+mn a*mn b)) (L.drop (i+1)):=rfl
  have ov:=over_iff ha0 hb0
  have d0:=decide_eq_true hlt
  by_cases k1:0<mn b
  ·have tq:0≤(1000000000000000:Int).tdiv (mn b)∧(1000000000000000:Int).tdiv (mn b)≤1000000000000000:=by
    rw[Int.tdiv_eq_ediv_of_nonneg (by omega)]
    exact⟨Int.ediv_nonneg (by omega) (by omega),Int.ediv_le_self _ (by omega)⟩
   by_cases k2:(1000000000000000:Int).tdiv (mn b)<mn a
   ·try simp (maxSteps:=3000000) (disch:=first|omega|simp only[lnx];omega) only[↓xpre,xpost,↓reduceIte,reduceEqDiff,reduceAdd,reduceSub,reduceLeDiff,zz0,f3,f8,f9,f10,d0,hix,r2,↓WX_ixa,ix0,ix1,↓WX_mm1,m1,m2,decide_eq_true k1,bin_quo,wrap64_in,decide_eq_true k2]
    have:=hQ _ (pp.trans (pre_new (b:=⟨[I64 a,I64 b],266,false,true⟩) (List.prefix_refl _)))
    rw[←hL,hs,if_pos ⟨k1,k2⟩] at this
    exact this
   ·have no:¬ over a b:=fun e=>k2 e.2
    rw[hs,if_neg no] at hL
    have pb:¬ 1000000000000000<mn a*mn b:=fun e=>no (ov.2 e)
    have pn:=Int.mul_nonneg ma.1 mb.1
    have m3:mm1 false (I64 (all+mn a*mn b)) (I64 1000000000000001)=some (I64 (mn (all+mn a*mn b))):=rfl
    try simp (maxSteps:=3000000) (disch:=first|omega|simp only[lnx];omega) only[↓xpre,xpost,↓reduceIte,reduceEqDiff,reduceAdd,reduceSub,reduceLeDiff,zz0,f3,f8,f9,f10,d0,hix,r2,↓WX_ixa,ix0,ix1,↓WX_mm1,m1,m2,decide_eq_true k1,bin_quo,wrap64_in,decide_eq_false k2,m3]
    refine InvQ_go (L.length-(i+1)) (by omega) ⟨(i+1),(mn (all+mn a*mn b)),rfl,by omega,(by first|rfl|exact f3|(simp only[upd_apply];rfl)|(show I64 _=_;congr 1;omega)),(by first|rfl|exact f8|(simp only[upd_apply];rfl)|(show I64 _=_;congr 1;omega)),(by first|rfl|exact f9|(simp only[upd_apply];rfl)|(show I64 _=_;congr 1;omega)),(by first|rfl|exact f10|(simp only[upd_apply];rfl)|(show I64 _=_;congr 1;omega)),(pp.trans (pre_new (List.prefix_refl _))),(mn_in (by omega)),hL⟩
  ·have no:¬ over a b:=fun e=>k1 e.1
   rw[hs,if_neg no] at hL
   have e0:mn b=0:=by omega
   have pe:mn a*mn b=0:=by rw[e0,Int.mul_zero]
   have m3:mm1 false (I64 (all+mn a*mn b)) (I64 1000000000000001)=some (I64 (mn (all+mn a*mn b))):=rfl
   try simp (maxSteps:=3000000) (disch:=first|omega|simp only[lnx];omega) only[↓xpre,xpost,↓reduceIte,reduceEqDiff,reduceAdd,reduceSub,reduceLeDiff,zz0,f3,f8,f9,f10,d0,hix,r2,↓WX_ixa,ix0,ix1,↓WX_mm1,m1,m2,decide_eq_false k1,WG_un,wrap64_in,m3]
   refine InvQ_go (L.length-(i+1)) (by omega) ⟨(i+1),(mn (all+mn a*mn b)),rfl,by omega,(by first|rfl|exact f3|(simp only[upd_apply];rfl)|(show I64 _=_;congr 1;omega)),(by first|rfl|exact f8|(simp only[upd_apply];rfl)|(show I64 _=_;congr 1;omega)),(by first|rfl|exact f9|(simp only[upd_apply];rfl)|(show I64 _=_;congr 1;omega)),(by first|rfl|exact f10|(simp only[upd_apply];rfl)|(show I64 _=_;congr 1;omega)),(pp.trans (pre_new (List.prefix_refl _))),(mn_in (by omega)),hL⟩
 ·have ei:i=L.length:=by omega
  subst ei
  rw[List.drop_length] at hL
  try simp (maxSteps:=3000000) (disch:=first|omega|simp only[lnx];omega) only[↓xpre,xpost,↓reduceIte,reduceEqDiff,reduceAdd,reduceSub,reduceLeDiff,zz0,f3,f8,f9,f10,decide_eq_false hlt]
  have:=hQ _ pp
  rw[←hL] at this
  exact this
theorem els_1 {h:AH} {n:Nat} {a b:Int} {e:TypeId} {ro full:Bool} (hg:h.get n=some ⟨[I64 a,I64 b],e,ro,full⟩):Els .i64 2 h (.slice (some ⟨n,0,none⟩) 1 2) [[a,b]]:=by
 refine .inr ⟨n,0,_,rfl,hg,fun i hi=>?_⟩
 have:i=0:=by simpa using hi
 subst this
 exact⟨by simp,rfl⟩
theorem els_2 {h:AH} {n:Nat} {a b c d:Int} {e:TypeId} {ro full:Bool} (hg:h.get n=some ⟨[I64 a,I64 b,I64 c,I64 d],e,ro,full⟩):Els .i64 2 h (.slice (some ⟨n,0,none⟩) 2 2) [[a,b],[c,d]]:=by
 refine .inr ⟨n,0,_,rfl,hg,fun i hi=>?_⟩
 have:i=0∨i=1:=by
  have:i<2:=hi
  omega
 rcases this with rfl|rfl
 ·exact⟨by simp,rfl⟩
 ·exact⟨by simp,rfl⟩
theorem i_lim1 {n:Nat} {a b:Int} {h:AH} {e:TypeId} {ro full:Bool} {Q:Value→AH→Prop} (hg:h.get n=some ⟨[I64 a,I64 b],e,ro,full⟩) (ha:0≤a) (hb:0≤b) (hQ:∀ h',h<+:h'→Q (I64 (mn (a*b))) h') :
  WF S 308 [.slice (some ⟨n,0,none⟩) 1 2] h Q:=by
 refine i_limited (els_1 hg) (by simp) (fun i hi=>?_) fun h' p=>?_
 ·have:i=0:=by simpa using hi
  subst this
  exact⟨ha,hb⟩
 ·rw[lim1 ha hb]
  exact hQ h' p
theorem i_lim2 {n:Nat} {a b c d:Int} {h:AH} {e:TypeId} {ro full:Bool} {Q:Value→AH→Prop} (hg:h.get n=some ⟨[I64 a,I64 b,I64 c,I64 d],e,ro,full⟩) (ha:0≤a) (hb:0≤b) (hc:0≤c) (hd:0≤d)
  (hQ:∀ h',h<+:h'→Q (I64 (mn (a*b+c*d))) h'):WF S 308 [.slice (some ⟨n,0,none⟩) 2 2] h Q:=by
 refine i_limited (els_2 hg) (by simp) (fun i hi=>?_) fun h' p=>?_
 ·have:i=0∨i=1:=by
   have:i<2:=hi
   omega
  rcases this with rfl|rfl
  ·exact⟨ha,hb⟩
  ·exact⟨hc,hd⟩
 ·rw[lim2 ha hb hc hd]
  exact hQ h' p
end Go.Proofs.Ytapafdpnmakekaa.X
