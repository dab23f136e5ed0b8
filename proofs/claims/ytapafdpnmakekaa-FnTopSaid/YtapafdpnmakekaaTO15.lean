/- Texts of one claim, put together by merge.py: XBM, XArgs, XA2, XA3, XA5, XHTO. -/
import Derived.Test.YtapafdpnmakekaaTO14
import Derived.Test.YtapafdpnmakekaaTO3
import Derived.Deep.Slices
import Derived.WideKeyArgs
import Derived.ChangeOld
import Derived.ChangeArms
import Derived.OpenShut
import Derived.Test.YtapafdpnmakekaaTO8
import Derived.Test.YtapafdpnmakekaaRows
import Derived.ProofKit
import Derived.ShutString
import Derived.Below
import Derived.SizedLaws
set_option linter.unusedVariables false
set_option linter.unusedSimpArgs false
set_option maxRecDepth 20000
set_option maxHeartbeats 4000000
namespace Go.Proofs.Ytapafdpnmakekaa.X
open Go Go.RowKit
open Nat (reduceEqDiff reduceAdd reduceSub reduceLeDiff)
theorem law_Top {h:AH} {cv:Value} {code:List (List Int)} (c:Els .u8 1 h cv code) (b:Byt 1 code):WF S 3 [cv] h (fun v _=>v=.bool true):=by
 refine WF_fn (fn:=c3) rfl rfl ?_
 dsimp only[c3,oO,oM,oS,oG,oK,oE,oL,oF,oX,oN]
 ((try simp (maxSteps:=3000000) (dsimp:=false) (disch:=first|omega|simp only[lnx];omega) only[↓ypre,ypost,↓reduceIte,reduceEqDiff,reduceAdd,reduceSub,reduceLeDiff,zz0,ynew]);try simp only[yback])
 refine l_big c ?_
 by_cases hbig:(code.length:Int)>4096
 ·((try simp (maxSteps:=3000000) (dsimp:=false) (disch:=first|omega|simp only[lnx];omega) only[↓ypre,ypost,↓reduceIte,reduceEqDiff,reduceAdd,reduceSub,reduceLeDiff,zz0,ynew,decide_eq_true hbig]);try simp only[yback])
 ((try simp (maxSteps:=3000000) (dsimp:=false) (disch:=first|omega|simp only[lnx];omega) only[↓ypre,ypost,↓reduceIte,reduceEqDiff,reduceAdd,reduceSub,reduceLeDiff,zz0,ynew,decide_eq_false hbig]);try simp only[yback])
 have c:Cod h cv code:=⟨c,b,by omega⟩
 refine s_DrawWalkFlips c fun x v1 nw ns H1 p1 hv1 xx nk1 hn ln=>?_
 have o1:isOne v1=true:=nk1.one
 refine WO_cut (fun f:Fr=>f 43=.tuple #[schV x v1,nw]∧True) ⟨(by first|rfl|simp[upd_apply]),trivial⟩ ?_
 rintro f ⟨f43,-⟩
 ((try simp (maxSteps:=3000000) (dsimp:=false) (disch:=first|omega|simp only[lnx];omega) only[↓ypre,ypost,↓reduceIte,reduceEqDiff,reduceAdd,reduceSub,reduceLeDiff,zz0,ynew,f43,schV,o1]);try simp only[yback])
 generalize hH2:AH.new H1 _=H2
 obtain⟨g2,p2,n2⟩:=new_facts hH2
 ((try simp (maxSteps:=3000000) (dsimp:=false) (disch:=first|omega|simp only[lnx];omega) only[↓ypre,ypost,↓reduceIte,reduceEqDiff,reduceAdd,reduceSub,reduceLeDiff,zz0,ynew,f43,rdn_of g2]);try simp only[yback])
 refine i_WalkFlips (x:=x) (hv1.pre p2) nk1 xx.l (hn.pre p2) (by omega) fun u1 H3 p3 ku1 nku1=>?_
 generalize hW:wkR x ns=W at ku1
 have qu1:=ku1.now
 have ou1:isOne u1=true:=nku1.one
 have vlu1:=qu1.1.len
 refine WO_cut (fun f:Fr=>f 3=.pointer (some ⟨H1.length,0,none⟩)∧f 4=nw∧f 49=.tuple #[schV W.1 u1,I64 W.2]∧True) ⟨(by first|rfl|simp[upd_apply]),(by first|rfl|simp[upd_apply]),(by first|rfl|simp[upd_apply]),trivial⟩ ?_
 rintro f ⟨f3,f4,f49,-⟩
 ((try simp (maxSteps:=3000000) (dsimp:=false) (disch:=first|omega|simp only[lnx];omega) only[↓ypre,ypost,↓reduceIte,reduceEqDiff,reduceAdd,reduceSub,reduceLeDiff,zz0,ynew,f3,f4,f49,schV,ou1]);try simp only[yback])
 generalize hH4:AH.new H3 _=H4
 obtain⟨g4,p4,n4⟩:=new_facts hH4
 have g2:=pre_get (p3.trans p4) g2
 ((try simp (maxSteps:=3000000) (dsimp:=false) (disch:=first|omega|simp only[lnx];omega) only[↓ypre,ypost,↓reduceIte,reduceEqDiff,reduceAdd,reduceSub,reduceLeDiff,zz0,ynew,f3,f4,f49,rdn_of g2]);try simp only[yback])
 refine s_WalkFlips (x:=x) (hv1.pre (p2.trans (p3.trans p4))) xx.l (hn.pre (p2.trans (p3.trans p4))) (by omega) fun u2 H5 p5 ku2=>?_
 rw[hW] at ku2 ⊢
 have qu2:=ku2.now
 have ou2:isOne u2=true:=qu2.one
 have vlu2:=qu2.1.len
 have sW:SmallX W.1.ps:=by rw[←hW];exact wkR_small ⟨hv1.1.widL,hv1.2⟩
 refine WO_cut (fun f:Fr=>f 3=.pointer (some ⟨H1.length,0,none⟩)∧f 5=.pointer (some ⟨H3.length,0,none⟩)∧f 6=I64 W.2∧f 55=.tuple #[schV W.1 u2,I64 W.2]∧True) ⟨(by first|rfl|exact f3|simp[upd_apply,f3]),(by first|rfl|simp[upd_apply]),(by first|rfl|simp[upd_apply]),(by first|rfl|simp[upd_apply]),trivial⟩ ?_
 rintro f ⟨f3,f5,f6,f55,-⟩
 ((try simp (maxSteps:=3000000) (dsimp:=false) (disch:=first|omega|simp only[lnx];omega) only[↓ypre,ypost,↓reduceIte,reduceEqDiff,reduceAdd,reduceSub,reduceLeDiff,zz0,ynew,f3,f5,f6,f55,schV,ou2]);try simp only[yback])
 generalize hH6:AH.new H5 _=H6
 obtain⟨g6,p6,n6⟩:=new_facts hH6
 have g4:=pre_get (p5.trans p6) g4
 by_cases z1:W.2≠0
 case pos=>
  ((try simp (maxSteps:=3000000) (dsimp:=false) (disch:=first|omega|simp only[lnx];omega) only[↓ypre,ypost,↓reduceIte,reduceEqDiff,reduceAdd,reduceSub,reduceLeDiff,zz0,ynew,f3,f5,f6,f55,decide_eq_false (show ¬ (W.2)≠(W.2) from fun h=>h rfl),rd1_of g4,vlu1,rd1_of g6,vlu2,decide_eq_false (show ¬ (W.1.ps.length:Int)≠W.1.ps.length from fun h=>h rfl),decide_eq_true z1]);try simp only[yback])
 obtain⟨gx,ok,eW,gw,ew⟩:=wkR_of (x:=x) (ns:=ns) ⟨hv1.1.widL,hv1.2⟩ (by rw[hW];exact Decidable.not_not.1 z1)
 rw[hW] at eW
 rw[←eW] at gw ew
 obtain⟨gd,ed,-⟩:=redX_ok gw
 have er:rdR W.1=(redX W.1,0):=by unfold rdR;rw[if_pos gw.ok]
 generalize redX W.1=D at gd ed er
 have exd:=ew.trans ed
 have sD:SmallX D.ps:=wps_small gd
 obtain⟨cb,hcb⟩:∃ cb:Bool,crR x=(cb,0):=⟨(crR x).1,Prod.ext rfl (crR_0 gx).1⟩
 have hcw:crR W.1=(cb,0):=by rw[←crR_eq gx gw ew];exact hcb
 have hcd:crR D=(cb,0):=by rw[←crR_eq gx gd exd];exact hcb
 obtain⟨ht1,ht2⟩:=tsR_eq gx gd exd
 have zx:=(isX_sz gx.ok).1
 have hsT:SmallS (tofX x).ns:=tofX_small zx
 have g2:=pre_get (p5.trans p6) g2
 ((try simp (maxSteps:=3000000) (dsimp:=false) (disch:=first|omega|simp only[lnx];omega) only[↓ypre,ypost,↓reduceIte,reduceEqDiff,reduceAdd,reduceSub,reduceLeDiff,zz0,ynew,f3,f5,f6,f55,decide_eq_false (show ¬ (W.2)≠(W.2) from fun h=>h rfl),rd1_of g4,vlu1,rd1_of g6,vlu2,decide_eq_false (show ¬ (W.1.ps.length:Int)≠W.1.ps.length from fun h=>h rfl),decide_eq_false z1,rdn_of g2]);try simp only[yback])
 refine i_IsCorrect (x:=x) (hv1.pre ((p2.trans p3).trans (p4.trans (p5.trans p6)))) xx.l fun H7 p7=>?_
 rw[hcb]
 refine WO_cut (fun f:Fr=>f 3=.pointer (some ⟨H1.length,0,none⟩)∧f 5=.pointer (some ⟨H3.length,0,none⟩)∧f 74=.tuple #[.bool cb,I64 0]∧True) ⟨(by first|rfl|exact f3|simp[upd_apply,f3]),(by first|rfl|exact f5|simp[upd_apply,f5]),(by first|rfl|simp[upd_apply]),trivial⟩ ?_
 rintro f ⟨f3,f5,f74,-⟩
 have g4:=pre_get p7 g4
 ((try simp (maxSteps:=3000000) (dsimp:=false) (disch:=first|omega|simp only[lnx];omega) only[↓ypre,ypost,↓reduceIte,reduceEqDiff,reduceAdd,reduceSub,reduceLeDiff,zz0,ynew,f3,f5,f74,rdn_of g4]);try simp only[yback])
 refine i_IsCorrect (x:=W.1) (qu1.pre ((p4.trans p5).trans (p6.trans p7))) sW fun H8 p8=>?_
 rw[hcw]
 refine WO_cut (fun f:Fr=>f 3=.pointer (some ⟨H1.length,0,none⟩)∧f 5=.pointer (some ⟨H3.length,0,none⟩)∧f 9=.bool cb∧f 10=I64 0∧f 79=.tuple #[.bool cb,I64 0]∧True) ⟨(by first|rfl|exact f3|simp[upd_apply,f3]),(by first|rfl|exact f5|simp[upd_apply,f5]),(by first|rfl|simp[upd_apply]),(by first|rfl|simp[upd_apply]),(by first|rfl|simp[upd_apply]),trivial⟩ ?_
 rintro f ⟨f3,f5,f9,f10,f79,-⟩
 have g4:=pre_get p8 g4
 ((try simp (maxSteps:=3000000) (dsimp:=false) (disch:=first|omega|simp only[lnx];omega) only[↓ypre,ypost,↓reduceIte,reduceEqDiff,reduceAdd,reduceSub,reduceLeDiff,zz0,ynew,f3,f5,f9,f10,f79,rdn_of g4]);try simp only[yback])
 refine i_ReduceScheme (x:=W.1) (qu1.pre ((p4.trans p5).trans (p6.trans (p7.trans p8)))) sW fun dv H9 p9 kd nkd=>?_
 rw[er] at kd ⊢
 have qd:=kd.now
 have od:isOne dv=true:=nkd.one
 have vld:=qd.1.len
 refine WO_cut (fun f:Fr=>f 3=.pointer (some ⟨H1.length,0,none⟩)∧f 9=.bool cb∧f 10=I64 0∧f 11=.bool cb∧f 12=I64 0∧f 84=.tuple #[schV D dv,I64 0]∧True) ⟨(by first|rfl|exact f3|simp[upd_apply,f3]),(by first|rfl|exact f9|simp[upd_apply,f9]),(by first|rfl|exact f10|simp[upd_apply,f10]),(by first|rfl|simp[upd_apply]),(by first|rfl|simp[upd_apply]),(by first|rfl|simp[upd_apply]),trivial⟩ ?_
 rintro f ⟨f3,f9,f10,f11,f12,f84,-⟩
 ((try simp (maxSteps:=3000000) (dsimp:=false) (disch:=first|omega|simp only[lnx];omega) only[↓ypre,ypost,↓reduceIte,reduceEqDiff,reduceAdd,reduceSub,reduceLeDiff,zz0,ynew,f3,f9,f10,f11,f12,f84,schV,od]);try simp only[yback])
 generalize hH10:AH.new H9 _=H10
 obtain⟨g10,p10,n10⟩:=new_facts hH10
 ((try simp (maxSteps:=3000000) (dsimp:=false) (disch:=first|omega|simp only[lnx];omega) only[↓ypre,ypost,↓reduceIte,reduceEqDiff,reduceAdd,reduceSub,reduceLeDiff,zz0,ynew,f3,f9,f10,f11,f12,f84,rdn_of g10]);try simp only[yback])
 refine i_IsCorrect (x:=D) (qd.pre p10) sD fun H11 p11=>?_
 rw[hcd]
 refine WO_cut (fun f:Fr=>f 3=.pointer (some ⟨H1.length,0,none⟩)∧f 9=.bool cb∧f 10=I64 0∧f 11=.bool cb∧f 12=I64 0∧f 13=.pointer (some ⟨H9.length,0,none⟩)∧f 14=I64 0∧f 89=.tuple #[.bool cb,I64 0]∧True) ⟨(by first|rfl|exact f3|simp[upd_apply,f3]),(by first|rfl|exact f9|simp[upd_apply,f9]),(by first|rfl|exact f10|simp[upd_apply,f10]),(by first|rfl|exact f11|simp[upd_apply,f11]),(by first|rfl|exact f12|simp[upd_apply,f12]),(by first|rfl|simp[upd_apply]),(by first|rfl|simp[upd_apply]),(by first|rfl|simp[upd_apply]),trivial⟩ ?_
 rintro f ⟨f3,f9,f10,f11,f12,f13,f14,f89,-⟩
 have g2:=pre_get ((p7.trans p8).trans (p9.trans (p10.trans p11))) g2
 ((try simp (maxSteps:=3000000) (dsimp:=false) (disch:=first|omega|simp only[lnx];omega) only[↓ypre,ypost,↓reduceIte,reduceEqDiff,reduceAdd,reduceSub,reduceLeDiff,zz0,ynew,f3,f9,f10,f11,f12,f13,f14,f89,rdn_of g2]);try simp only[yback])
 refine i_TensorOfScheme (x:=x) (hv1.pre (((p2.trans p3).trans (p4.trans (p5.trans p6))).trans ((p7.trans p8).trans (p9.trans (p10.trans p11))))) xx.l fun t1 H12 p12 qt1=>?_
 rw[ht1] at qt1 ⊢
 have qt1:=qt1.ints
 have ot1:isOne t1=true:=qt1.one
 refine WO_cut (fun f:Fr=>f 3=.pointer (some ⟨H1.length,0,none⟩)∧f 9=.bool cb∧f 10=I64 0∧f 11=.bool cb∧f 12=I64 0∧f 13=.pointer (some ⟨H9.length,0,none⟩)∧f 14=I64 0∧f 15=.bool cb∧f 16=I64 0∧f 94=.tuple #[tenV (tofX x) t1,I64 0]∧True) ⟨(by first|rfl|exact f3|simp[upd_apply,f3]),(by first|rfl|exact f9|simp[upd_apply,f9]),(by first|rfl|exact f10|simp[upd_apply,f10]),(by first|rfl|exact f11|simp[upd_apply,f11]),(by first|rfl|exact f12|simp[upd_apply,f12]),(by first|rfl|exact f13|simp[upd_apply,f13]),(by first|rfl|exact f14|simp[upd_apply,f14]),(by first|rfl|simp[upd_apply]),(by first|rfl|simp[upd_apply]),(by first|rfl|simp[upd_apply]),trivial⟩ ?_
 rintro f ⟨f3,f9,f10,f11,f12,f13,f14,f15,f16,f94,-⟩
 ((try simp (maxSteps:=3000000) (dsimp:=false) (disch:=first|omega|simp only[lnx];omega) only[↓ypre,ypost,↓reduceIte,reduceEqDiff,reduceAdd,reduceSub,reduceLeDiff,zz0,ynew,f3,f9,f10,f11,f12,f13,f14,f15,f16,f94,tenV,ot1]);try simp only[yback])
 generalize hH13:AH.new H12 _=H13
 obtain⟨g13,p13,n13⟩:=new_facts hH13
 have g10:=pre_get (p11.trans (p12.trans p13)) g10
 ((try simp (maxSteps:=3000000) (dsimp:=false) (disch:=first|omega|simp only[lnx];omega) only[↓ypre,ypost,↓reduceIte,reduceEqDiff,reduceAdd,reduceSub,reduceLeDiff,zz0,ynew,f3,f9,f10,f11,f12,f13,f14,f15,f16,f94,rdn_of g10]);try simp only[yback])
 refine i_TensorOfScheme (x:=D) (qd.pre ((p10.trans p11).trans (p12.trans p13))) sD fun t2 H14 p14 qt2=>?_
 rw[ht2] at qt2 ⊢
 have qt2:=qt2.ints
 have ot2:isOne t2=true:=qt2.one
 refine WO_cut (fun f:Fr=>f 3=.pointer (some ⟨H1.length,0,none⟩)∧f 9=.bool cb∧f 10=I64 0∧f 11=.bool cb∧f 12=I64 0∧f 13=.pointer (some ⟨H9.length,0,none⟩)∧f 14=I64 0∧f 15=.bool cb∧f 16=I64 0∧f 17=.pointer (some ⟨H12.length,0,none⟩)∧f 18=I64 0∧f 99=.tuple #[tenV (tofX x) t2,I64 0]∧True) ⟨(by first|rfl|exact f3|simp[upd_apply,f3]),(by first|rfl|exact f9|simp[upd_apply,f9]),(by first|rfl|exact f10|simp[upd_apply,f10]),(by first|rfl|exact f11|simp[upd_apply,f11]),(by first|rfl|exact f12|simp[upd_apply,f12]),(by first|rfl|exact f13|simp[upd_apply,f13]),(by first|rfl|exact f14|simp[upd_apply,f14]),(by first|rfl|exact f15|simp[upd_apply,f15]),(by first|rfl|exact f16|simp[upd_apply,f16]),(by first|rfl|simp[upd_apply]),(by first|rfl|simp[upd_apply]),(by first|rfl|simp[upd_apply]),trivial⟩ ?_
 rintro f ⟨f3,f9,f10,f11,f12,f13,f14,f15,f16,f17,f18,f99,-⟩
 ((try simp (maxSteps:=3000000) (dsimp:=false) (disch:=first|omega|simp only[lnx];omega) only[↓ypre,ypost,↓reduceIte,reduceEqDiff,reduceAdd,reduceSub,reduceLeDiff,zz0,ynew,f3,f9,f10,f11,f12,f13,f14,f15,f16,f17,f18,f99,tenV,ot2]);try simp only[yback])
 generalize hH15:AH.new H14 _=H15
 obtain⟨g15,p15,n15⟩:=new_facts hH15
 have g13:=pre_get (p14.trans p15) g13
 ((try simp (maxSteps:=3000000) (dsimp:=false) (disch:=first|omega|simp only[lnx];omega) only[↓ypre,ypost,↓reduceIte,reduceEqDiff,reduceAdd,reduceSub,reduceLeDiff,zz0,ynew,f3,f9,f10,f11,f12,f13,f14,f15,f16,f17,f18,f99,show decide ((0:Int)≠0)=false from rfl,show ((cb==cb) != true)=false by simp,rd1_of g13,rd1_of g15]);try simp only[yback])
 refine l_like (qt1.pre (p13.trans (p14.trans p15))) (qt2.pre p15) hsT ?_
 refine WO_cut (fun f:Fr=>f 3=.pointer (some ⟨H1.length,0,none⟩)∧f 9=.bool cb∧f 13=.pointer (some ⟨H9.length,0,none⟩)∧f 134=.bool false∧f 139=.bool true∧True) ⟨(by first|rfl|exact f3|simp[upd_apply,f3]),(by first|rfl|exact f9|simp[upd_apply,f9]),(by first|rfl|exact f13|simp[upd_apply,f13]),(by first|rfl|simp[upd_apply]),(by first|rfl|simp[upd_apply]),trivial⟩ ?_
 rintro f ⟨f3,f9,f13,f134,f139,-⟩
 ((try simp (maxSteps:=3000000) (dsimp:=false) (disch:=first|omega|simp only[lnx];omega) only[↓ypre,ypost,↓reduceIte,reduceEqDiff,reduceAdd,reduceSub,reduceLeDiff,zz0,ynew,f3,f9,f13,f134,f139,fillL,zrep,len_new]);try simp only[yback])
 generalize hA1:AH.new H15 _=A1
 obtain⟨ga1,pa1,na1⟩:=new_facts hA1
 generalize hA2:AH.new A1 _=A2
 obtain⟨ga2,pa2,na2⟩:=new_facts hA2
 have ga1:=pre_get pa2 ga1
 rw[na1] at ga2
 have g2:=pre_get ((p12.trans p13).trans (p14.trans p15)) g2
 obtain⟨N,M,K,en,em,ek⟩:=trX_nat gx.ok
 have zn:=zx.n
 have zm:=zx.m
 have zk:=zx.k
 have zp:=zx.p
 obtain⟨fA,hfA⟩:∃ fA:Nat→Nat→Int,fA=fun (i j:Nat)=>((i:Int)+2*j+1).tmod x.p:=⟨_,rfl⟩
 obtain⟨fB,hfB⟩:∃ fB:Nat→Nat→Int,fB=fun (i j:Nat)=>((i:Int)*j+j+1).tmod x.p:=⟨_,rfl⟩
 have pA0:=pa1.trans pa2
 refine WC_loop_inv (fun m f K1=>∃ (i:Nat) (kl:Nat) (fl:Bool) (BL:(Nat→Nat)) (csl:List Value),m=N-i∧i≤N∧f 3=.pointer (some ⟨H1.length,0,none⟩)∧f 9=.bool cb∧f 13=.pointer (some ⟨H9.length,0,none⟩)∧f 21=sl kl (matF fA M i).length∧f 22=.slice (some ⟨H15.length+1,0,none⟩) 0 1∧f 23=I64 i∧(H15<+:K1)∧(K1.get (H15.length+1)=some ⟨[],27,false,true⟩)∧((kl≠H15.length+1∧∀ i',i'<i→BL i'≠H15.length+1))∧(RowD H15.length K1 kl fl (matF fA M i) BL csl)∧(∀ j,j<(matF fA M i).length→BL j<K1.length)) ?_ (N-0) _ _ ⟨0,H15.length,true,(fun _=>0),[],rfl,by omega,(by first|rfl|exact f3|(simp[upd_apply];done)),(by first|rfl|exact f9|(simp[upd_apply];done)),(by first|rfl|exact f13|(simp[upd_apply];done)),(by first|rfl|simp[upd_apply]),(by first|rfl|simp[upd_apply]),(by first|rfl|simp[upd_apply]),pA0,ga2,⟨by omega,fun i' hi=>by omega⟩,⟨ga1,rfl,Nat.le_refl _,fun i hi=>by simp[matF] at hi,fun i j _ hj=>by simp[matF] at hj⟩,(fun j hj=>by simp[matF] at hj)⟩
 rintro m f K1 ⟨i,kl,fl,BL,csl,rfl,hi,f3,f9,f13,f21,f22,f23,pp,rR,kq,r,hB⟩
 by_cases hlt:(i:Int)<N
 case pos=>
  have hg:=pre_get pp g2
  ((try simp (maxSteps:=3000000) (dsimp:=false) (disch:=first|omega|simp only[lnx];omega) only[↓ypre,ypost,↓reduceIte,reduceEqDiff,reduceAdd,reduceSub,reduceLeDiff,zz0,ynew,f3,f9,f13,f21,f22,f23,rd1_of hg,en,decide_eq_true hlt,fillL,zrep]);try simp only[yback])
  generalize hB1:AH.new K1 _=B1
  obtain⟨gb1,pb1,nb1⟩:=new_facts hB1
  refine WC_loop_inv (fun m f K2=>∃ (j:Nat) (k2:Nat) (f2:Bool),m=M-j∧j≤M∧f 3=.pointer (some ⟨H1.length,0,none⟩)∧f 9=.bool cb∧f 13=.pointer (some ⟨H9.length,0,none⟩)∧f 21=sl kl (matF fA M i).length∧f 22=.slice (some ⟨H15.length+1,0,none⟩) 0 1∧f 23=I64 i∧f 24=sl k2 (gen j (fA i)).length∧f 25=I64 j∧(K1<+:K2)∧(K1.length≤k2)∧(Lst K2 k2 (gen j (fA i)) f2)) ?_ (M-0) _ _ ⟨0,K1.length,true,rfl,by omega,(by first|rfl|exact f3|(simp[upd_apply];done)),(by first|rfl|exact f9|(simp[upd_apply];done)),(by first|rfl|exact f13|(simp[upd_apply];done)),(by first|rfl|exact f21|(simp[upd_apply];done)),(by first|rfl|exact f22|(simp[upd_apply];done)),(by first|rfl|exact f23|(simp[upd_apply];done)),(by first|rfl|simp[upd_apply]),(by first|rfl|simp[upd_apply]),pb1,Nat.le_refl _,gb1⟩
  rintro m f K2 ⟨j,k2,f2,rfl,hj,f3,f9,f13,f21,f22,f23,f24,f25,pp2,hk2,q⟩
  have hg2:=pre_get (pp.trans pp2) g2
  by_cases hlt2:(j:Int)<M
  case pos=>
   have w1:IntKind.i64.wrap (2*(j:Int))=2*(j:Int):=wrap64_in (by omega) (by omega)
   have w2:IntKind.i64.wrap ((i:Int)+2*(j:Int))=(i:Int)+2*(j:Int):=wrap64_in (by omega) (by omega)
   have w3:IntKind.i64.wrap ((i:Int)+2*(j:Int)+1)=(i:Int)+2*(j:Int)+1:=wrap64_in (by omega) (by omega)
   have ef:((i:Int)+2*(j:Int)+1).tmod x.p=fA i j:=by rw[hfA]
   have lq:=get_lt q
   ((try simp (maxSteps:=3000000) (dsimp:=false) (disch:=first|omega|simp only[lnx];omega) only[↓ypre,ypost,↓reduceIte,reduceEqDiff,reduceAdd,reduceSub,reduceLeDiff,zz0,ynew,f3,f9,f13,f21,f22,f23,f24,f25,rd1_of hg2,em,decide_eq_true hlt2,w1,w2,w3,bin_rem (show x.p≠0 by omega),ef,fillL,zrep]);try simp only[yback])
   refine lst_app q (by rw[gen_len];omega) fun K9 l9 k9 q9=>?_
   rw[←gen_succ] at q9
   ((try simp (maxSteps:=3000000) (dsimp:=false) (disch:=first|omega|simp only[lnx];omega) only[↓ypre,ypost,↓reduceIte,reduceEqDiff,reduceAdd,reduceSub,reduceLeDiff,zz0,ynew,f3,f9,f13,f21,f22,f23,f24,f25,wrap64_in]);try simp only[yback])
   refine InvQ_go (M-(j+1)) (by omega) ⟨(j+1),(K2.length+1),false,rfl,by omega,(by first|rfl|exact f3|(simp only[upd_apply];rfl)|(show I64 _=_;congr 1;omega)),(by first|rfl|exact f9|(simp only[upd_apply];rfl)|(show I64 _=_;congr 1;omega)),(by first|rfl|exact f13|(simp only[upd_apply];rfl)|(show I64 _=_;congr 1;omega)),(by first|rfl|exact f21|(simp only[upd_apply];rfl)|(show I64 _=_;congr 1;omega)),(by first|rfl|exact f22|(simp only[upd_apply];rfl)|(show I64 _=_;congr 1;omega)),(by first|rfl|exact f23|(simp only[upd_apply];rfl)|(show I64 _=_;congr 1;omega)),(by rw[gen_succ];rfl),(by first|rfl|exact f25|(simp only[upd_apply];rfl)|(show I64 _=_;congr 1;omega)),(k9.pre pp2 hk2),(by have:=pre_len pp2;omega),q9⟩
  have ej:M=j:=by omega
  subst ej
  have lrR:=get_lt rR
  have rlow:=r.low
  have r2:=r.pre pp2
  have lq:=get_lt q
  have lr:=get_lt r.get
  have lp:=pre_len pp
  have lp2:=pre_len pp2
  ((try simp (maxSteps:=3000000) (dsimp:=false) (disch:=first|omega|simp only[lnx];omega) only[↓ypre,ypost,↓reduceIte,reduceEqDiff,reduceAdd,reduceSub,reduceLeDiff,zz0,ynew,f3,f9,f13,f21,f22,f23,f24,f25,rd1_of hg2,em,decide_eq_false hlt2,fillL,zrep,cellsL_sl,isOne_sl]);try simp only[yback])
  refine rowd_app r2 (by rw[matF_len];omega) (by omega) (by omega) (fun j hj=>by have:=hB j hj;omega) q fun K9 l9 k9 r9=>?_
  rw[←matF_next] at r9
  have hB2:∀ j',j'<(matF fA M i).length+1→(if j'<(matF fA M i).length then BL j' else k2)<K9.length:=fun j' hj=>by
   split
   ·rename_i hjr
    have:=hB j' hjr
    omega
   ·omega
  ((try simp (maxSteps:=3000000) (dsimp:=false) (disch:=first|omega|simp only[lnx];omega) only[↓ypre,ypost,↓reduceIte,reduceEqDiff,reduceAdd,reduceSub,reduceLeDiff,zz0,ynew,f3,f9,f13,f21,f22,f23,f24,f25,wrap64_in]);try simp only[yback])
  refine InvQ_go (N-(i+1)) (by omega) ⟨(i+1),(K2.length+1),false,_,_,rfl,by omega,(by first|rfl|exact f3|(simp only[upd_apply];rfl)|(show I64 _=_;congr 1;omega)),(by first|rfl|exact f9|(simp only[upd_apply];rfl)|(show I64 _=_;congr 1;omega)),(by first|rfl|exact f13|(simp only[upd_apply];rfl)|(show I64 _=_;congr 1;omega)),(by rw[matF_next];rfl),(by first|rfl|exact f22|(simp only[upd_apply];rfl)|(show I64 _=_;congr 1;omega)),(by first|rfl|exact f23|(simp only[upd_apply];rfl)|(show I64 _=_;congr 1;omega)),((k9.pre (pp.trans pp2) (by omega))),(k9.get (by omega) (pre_get pp2 rR)),⟨by omega,fun i' hi=>by rw[matF_len];split;exact kq.2 i' (by assumption);omega⟩,r9,(by rw[matF_next,List.length_append];exact hB2)⟩
 have ei:N=i:=by omega
 subst ei
 have hg:=pre_get pp g2
 rw[matF_len] at f21
 have rl0:=r
 ((try simp (maxSteps:=3000000) (dsimp:=false) (disch:=first|omega|simp only[lnx];omega) only[↓ypre,ypost,↓reduceIte,reduceEqDiff,reduceAdd,reduceSub,reduceLeDiff,zz0,ynew,f3,f9,f13,f21,f22,f23,rd1_of hg,en,decide_eq_false hlt]);try simp only[yback])
 refine WC_loop_inv (fun m f K3=>∃ (i:Nat) (kb:Nat) (fu:Bool) (B:(Nat→Nat)) (cs:List Value),m=M-i∧i≤M∧f 3=.pointer (some ⟨H1.length,0,none⟩)∧f 9=.bool cb∧f 13=.pointer (some ⟨H9.length,0,none⟩)∧f 22=sl kb (matF fB K i).length∧f 21=sl kl N∧f 26=I64 i∧(H15<+:K3)∧(RowD H15.length K3 kl fl (matF fA M N) BL csl)∧((kb≠kl∧∀ i,i<N→kb≠BL i))∧(RowD H15.length K3 kb fu (matF fB K i) B cs)∧(∀ j,j<(matF fB K i).length→B j<K3.length)) ?_ (M-0) _ _ ⟨0,H15.length+1,true,(fun _=>0),[],rfl,by omega,(by first|rfl|exact f3|(simp[upd_apply];done)),(by first|rfl|exact f9|(simp[upd_apply];done)),(by first|rfl|exact f13|(simp[upd_apply];done)),(by first|rfl|exact f22|(simp[upd_apply];done)),(by first|rfl|exact f21|(simp[upd_apply];done)),(by first|rfl|simp[upd_apply]),pp,rl0,⟨Ne.symm kq.1,fun i' hi=>Ne.symm (kq.2 i' hi)⟩,⟨rR,rfl,by omega,fun i hi=>by simp[matF] at hi,fun i j _ hj=>by simp[matF] at hj⟩,(fun j hj=>by simp[matF] at hj)⟩
 rintro m f K3 ⟨i,kb,fu,B,cs,rfl,hi,f3,f9,f13,f22,f21,f26,pp,rl,kq,r,hB⟩
 by_cases hlt:(i:Int)<M
 case pos=>
  have hg:=pre_get pp g2
  ((try simp (maxSteps:=3000000) (dsimp:=false) (disch:=first|omega|simp only[lnx];omega) only[↓ypre,ypost,↓reduceIte,reduceEqDiff,reduceAdd,reduceSub,reduceLeDiff,zz0,ynew,f3,f9,f13,f22,f21,f26,rd1_of hg,em,decide_eq_true hlt,fillL,zrep]);try simp only[yback])
  generalize hB1:AH.new K3 _=B1
  obtain⟨gb1,pb1,nb1⟩:=new_facts hB1
  refine WC_loop_inv (fun m f K4=>∃ (j:Nat) (k2:Nat) (f2:Bool),m=K-j∧j≤K∧f 3=.pointer (some ⟨H1.length,0,none⟩)∧f 9=.bool cb∧f 13=.pointer (some ⟨H9.length,0,none⟩)∧f 22=sl kb (matF fB K i).length∧f 21=sl kl N∧f 26=I64 i∧f 27=sl k2 (gen j (fB i)).length∧f 28=I64 j∧(K3<+:K4)∧(K3.length≤k2)∧(Lst K4 k2 (gen j (fB i)) f2)) ?_ (K-0) _ _ ⟨0,K3.length,true,rfl,by omega,(by first|rfl|exact f3|(simp[upd_apply];done)),(by first|rfl|exact f9|(simp[upd_apply];done)),(by first|rfl|exact f13|(simp[upd_apply];done)),(by first|rfl|exact f22|(simp[upd_apply];done)),(by first|rfl|exact f21|(simp[upd_apply];done)),(by first|rfl|exact f26|(simp[upd_apply];done)),(by first|rfl|simp[upd_apply]),(by first|rfl|simp[upd_apply]),pb1,Nat.le_refl _,gb1⟩
  rintro m f K4 ⟨j,k2,f2,rfl,hj,f3,f9,f13,f22,f21,f26,f27,f28,pp2,hk2,q⟩
  have hg2:=pre_get (pp.trans pp2) g2
  by_cases hlt2:(j:Int)<K
  case pos=>
   have ij:=mul_in (a:=(i:Int)) (b:=(j:Int)) (A:=3) (B:=3) (by omega) (by omega)
   have w1:IntKind.i64.wrap ((i:Int)*(j:Int))=(i:Int)*(j:Int):=wrap64_in (by omega) (by omega)
   have w2:IntKind.i64.wrap ((i:Int)*(j:Int)+(j:Int))=(i:Int)*(j:Int)+(j:Int):=wrap64_in (by omega) (by omega)
   have w3:IntKind.i64.wrap ((i:Int)*(j:Int)+(j:Int)+1)=(i:Int)*(j:Int)+(j:Int)+1:=wrap64_in (by omega) (by omega)
   have ef:((i:Int)*(j:Int)+(j:Int)+1).tmod x.p=fB i j:=by rw[hfB]
   have lq:=get_lt q
   ((try simp (maxSteps:=3000000) (dsimp:=false) (disch:=first|omega|simp only[lnx];omega) only[↓ypre,ypost,↓reduceIte,reduceEqDiff,reduceAdd,reduceSub,reduceLeDiff,zz0,ynew,f3,f9,f13,f22,f21,f26,f27,f28,rd1_of hg2,ek,decide_eq_true hlt2,w1,w2,w3,bin_rem (show x.p≠0 by omega),ef,fillL,zrep]);try simp only[yback])
   refine lst_app q (by rw[gen_len];omega) fun K9 l9 k9 q9=>?_
   rw[←gen_succ] at q9
   ((try simp (maxSteps:=3000000) (dsimp:=false) (disch:=first|omega|simp only[lnx];omega) only[↓ypre,ypost,↓reduceIte,reduceEqDiff,reduceAdd,reduceSub,reduceLeDiff,zz0,ynew,f3,f9,f13,f22,f21,f26,f27,f28,wrap64_in]);try simp only[yback])
   refine InvQ_go (K-(j+1)) (by omega) ⟨(j+1),(K4.length+1),false,rfl,by omega,(by first|rfl|exact f3|(simp only[upd_apply];rfl)|(show I64 _=_;congr 1;omega)),(by first|rfl|exact f9|(simp only[upd_apply];rfl)|(show I64 _=_;congr 1;omega)),(by first|rfl|exact f13|(simp only[upd_apply];rfl)|(show I64 _=_;congr 1;omega)),(by first|rfl|exact f22|(simp only[upd_apply];rfl)|(show I64 _=_;congr 1;omega)),(by first|rfl|exact f21|(simp only[upd_apply];rfl)|(show I64 _=_;congr 1;omega)),(by first|rfl|exact f26|(simp only[upd_apply];rfl)|(show I64 _=_;congr 1;omega)),(by rw[gen_succ];rfl),(by first|rfl|exact f28|(simp only[upd_apply];rfl)|(show I64 _=_;congr 1;omega)),(k9.pre pp2 hk2),(by have:=pre_len pp2;omega),q9⟩
  have ej:K=j:=by omega
  subst ej
  have lrR:=get_lt rl.get
  have rlow:=r.low
  have r2:=r.pre pp2
  have lq:=get_lt q
  have lr:=get_lt r.get
  have lp:=pre_len pp
  have lp2:=pre_len pp2
  ((try simp (maxSteps:=3000000) (dsimp:=false) (disch:=first|omega|simp only[lnx];omega) only[↓ypre,ypost,↓reduceIte,reduceEqDiff,reduceAdd,reduceSub,reduceLeDiff,zz0,ynew,f3,f9,f13,f22,f21,f26,f27,f28,rd1_of hg2,ek,decide_eq_false hlt2,fillL,zrep,cellsL_sl,isOne_sl]);try simp only[yback])
  refine rowd_app r2 (by rw[matF_len];omega) (by omega) (by omega) (fun j hj=>by have:=hB j hj;omega) q fun K9 l9 k9 r9=>?_
  rw[←matF_next] at r9
  have hB2:∀ j',j'<(matF fB K i).length+1→(if j'<(matF fB K i).length then B j' else k2)<K9.length:=fun j' hj=>by
   split
   ·rename_i hjr
    have:=hB j' hjr
    omega
   ·omega
  ((try simp (maxSteps:=3000000) (dsimp:=false) (disch:=first|omega|simp only[lnx];omega) only[↓ypre,ypost,↓reduceIte,reduceEqDiff,reduceAdd,reduceSub,reduceLeDiff,zz0,ynew,f3,f9,f13,f22,f21,f26,f27,f28,wrap64_in]);try simp only[yback])
  have rl2:=rl.pre pp2
  refine InvQ_go (M-(i+1)) (by omega) ⟨(i+1),(K4.length+1),false,_,_,rfl,by omega,(by first|rfl|exact f3|(simp only[upd_apply];rfl)|(show I64 _=_;congr 1;omega)),(by first|rfl|exact f9|(simp only[upd_apply];rfl)|(show I64 _=_;congr 1;omega)),(by first|rfl|exact f13|(simp only[upd_apply];rfl)|(show I64 _=_;congr 1;omega)),(by rw[matF_next];rfl),(by first|rfl|exact f21|(simp only[upd_apply];rfl)|(show I64 _=_;congr 1;omega)),(by first|rfl|exact f26|(simp only[upd_apply];rfl)|(show I64 _=_;congr 1;omega)),((k9.pre (pp.trans pp2) (by omega))),(rl2.kq k9 kq.1 (fun i' hi=>kq.2 i' (by rw[matF_len] at hi;exact hi))),⟨by have:=get_lt rl.get;omega,fun i' hi=>by obtain⟨-,-,⟨fz,q3⟩,-⟩:=rl.row i' (by rw[matF_len];exact hi);have:=get_lt q3;omega⟩,r9,(by rw[matF_next,List.length_append];exact hB2)⟩
 have ei:M=i:=by omega
 subst ei
 have hg:=pre_get pp g2
 rw[matF_len] at f22
 have ppB:=pp
 have hA:=rl.rows
 have hB':=r.rows
 rw[matF_len] at hA hB'
 have sA:SmallM (matF fA M N):=matF_small (by omega) (by omega)
 have sB:SmallM (matF fB K M):=matF_small (by omega) (by omega)
 have mc:mcX x (matF fA M N) (matF fB K M)=0:=top_mc gx en em ek (fun i j hi hj=>by rw[hfA];exact tmod_nn (by omega) (by omega)) (fun i j hi hj=>by rw[hfB];exact tmod_nn (by have:=Int.mul_nonneg (show 0≤(i:Int) by omega) (show 0≤(j:Int) by omega);show (0:Int)≤(i:Int)*j+j+1;omega) (by omega))
 generalize matF fA M N=Lm at *
 generalize matF fB K M=Rm at *
 ((try simp (maxSteps:=3000000) (dsimp:=false) (disch:=first|omega|simp only[lnx];omega) only[↓ypre,ypost,↓reduceIte,reduceEqDiff,reduceAdd,reduceSub,reduceLeDiff,zz0,ynew,f3,f9,f13,f22,f21,f26,rd1_of hg,em,decide_eq_false hlt]);try simp only[yback])
 have mcd:mcX D Lm Rm=0:=by rw[←mcX_eq gx gd exd];exact mc
 obtain⟨pc,pl⟩:=pp_len gx mc
 have pw:cb=true→(ppR x.p Lm Rm).1=mpF x Lm Rm:=fun hc=>by
  have h1:=(crR_0 gx).2.1 (by rw[hcb];exact hc)
  rw[mp_pp hv1 gx.ok mc h1]
 have mpx:mpR x Lm Rm=(mpF x Lm Rm,0):=by unfold mpR;rw[if_pos mc]
 have mpd:mpR D Lm Rm=(mpF x Lm Rm,0):=by rw[←mpR_eq gx gd exd];exact mpx
 have sml:=mpR_small x Lm Rm
 rw[mpx] at sml
 obtain⟨pr,hpr⟩:∃ pr,ppR x.p Lm Rm=(pr,0):=⟨_,Prod.ext rfl pc⟩
 rw[hpr] at pl pw
 have mde:=mpF_eq gx gd exd mc
 generalize mpF x Lm Rm=rows at *
 have sml:SmallM rows:=sml
 have sml1:=sml.1
 have g2:=pre_get ppB g2
 ((try simp (maxSteps:=3000000) (dsimp:=false) (disch:=first|omega|simp only[lnx];omega) only[↓ypre,ypost,↓reduceIte,reduceEqDiff,reduceAdd,reduceSub,reduceLeDiff,zz0,ynew,f3,f9,f13,f22,f21,f26,rdn_of g2]);try simp only[yback])
 refine i_MakeProduct (x:=x) (hv1.pre (((p2.trans (p3.trans p4)).trans ((p5.trans p6).trans (p7.trans p8))).trans (((p9.trans p10).trans (p11.trans p12)).trans ((p13.trans p14).trans (p15.trans ppB))))) xx.l hA sA hB' sB fun ma H16 p16 qa=>?_
 rw[mpx] at qa ⊢
 have qa:=qa.rows
 have lma:=qa.len
 refine WO_cut (fun f:Fr=>f 3=.pointer (some ⟨H1.length,0,none⟩)∧f 9=.bool cb∧f 13=.pointer (some ⟨H9.length,0,none⟩)∧f 21=sl kl N∧f 22=sl kb M∧f 205=.tuple #[ma,I64 0]∧True) ⟨(by first|rfl|exact f3|simp[upd_apply,f3]),(by first|rfl|exact f9|simp[upd_apply,f9]),(by first|rfl|exact f13|simp[upd_apply,f13]),(by first|rfl|exact f21|simp[upd_apply,f21]),(by first|rfl|exact f22|simp[upd_apply,f22]),(by first|rfl|simp[upd_apply]),trivial⟩ ?_
 rintro f ⟨f3,f9,f13,f21,f22,f205,-⟩
 have g10:=pre_get ((p14.trans p15).trans (ppB.trans p16)) g10
 ((try simp (maxSteps:=3000000) (dsimp:=false) (disch:=first|omega|simp only[lnx];omega) only[↓ypre,ypost,↓reduceIte,reduceEqDiff,reduceAdd,reduceSub,reduceLeDiff,zz0,ynew,f3,f9,f13,f21,f22,f205,rdn_of g10]);try simp only[yback])
 refine i_MakeProduct (x:=D) (qd.pre (((p10.trans p11).trans (p12.trans p13)).trans ((p14.trans p15).trans (ppB.trans p16)))) sD (Rows.pre p16 hA) sA (Rows.pre p16 hB') sB fun mb H17 p17 qb=>?_
 rw[mpd] at qb ⊢
 have qb:=qb.rows
 have lmb:=qb.len
 refine WO_cut (fun f:Fr=>f 3=.pointer (some ⟨H1.length,0,none⟩)∧f 9=.bool cb∧f 13=.pointer (some ⟨H9.length,0,none⟩)∧f 21=sl kl N∧f 22=sl kb M∧f 29=ma∧f 30=I64 0∧f 212=.tuple #[mb,I64 0]∧True) ⟨(by first|rfl|exact f3|simp[upd_apply,f3]),(by first|rfl|exact f9|simp[upd_apply,f9]),(by first|rfl|exact f13|simp[upd_apply,f13]),(by first|rfl|exact f21|simp[upd_apply,f21]),(by first|rfl|exact f22|simp[upd_apply,f22]),(by first|rfl|simp[upd_apply]),(by first|rfl|simp[upd_apply]),(by first|rfl|simp[upd_apply]),trivial⟩ ?_
 rintro f ⟨f3,f9,f13,f21,f22,f29,f30,f212,-⟩
 have g2:=pre_get (p16.trans p17) g2
 ((try simp (maxSteps:=3000000) (dsimp:=false) (disch:=first|omega|simp only[lnx];omega) only[↓ypre,ypost,↓reduceIte,reduceEqDiff,reduceAdd,reduceSub,reduceLeDiff,zz0,ynew,f3,f9,f13,f21,f22,f29,f30,f212,rd1_of g2]);try simp only[yback])
 refine i_PlainProduct (p:=x.p) (Rows.pre (p16.trans p17) hA) sA (Rows.pre (p16.trans p17) hB') sB fun mp H18 p18 qp=>?_
 rw[hpr] at qp ⊢
 have lmp:=qp.len
 have pl:pr.length=rows.length:=pl
 rw[show (((pr,(0:Int)).1.length:Nat):Int)=rows.length from by rw[←pl]] at lmp
 refine WO_cut (fun f:Fr=>f 9=.bool cb∧f 13=.pointer (some ⟨H9.length,0,none⟩)∧f 21=sl kl N∧f 22=sl kb M∧f 29=ma∧f 30=I64 0∧f 31=mb∧f 32=I64 0∧f 220=.tuple #[mp,I64 0]∧True) ⟨(by first|rfl|exact f9|simp[upd_apply,f9]),(by first|rfl|exact f13|simp[upd_apply,f13]),(by first|rfl|exact f21|simp[upd_apply,f21]),(by first|rfl|exact f22|simp[upd_apply,f22]),(by first|rfl|exact f29|simp[upd_apply,f29]),(by first|rfl|exact f30|simp[upd_apply,f30]),(by first|rfl|simp[upd_apply]),(by first|rfl|simp[upd_apply]),(by first|rfl|simp[upd_apply]),trivial⟩ ?_
 rintro f ⟨f9,f13,f21,f22,f29,f30,f31,f32,f220,-⟩
 ((try simp (maxSteps:=3000000) (dsimp:=false) (disch:=first|omega|simp only[lnx];omega) only[↓ypre,ypost,↓reduceIte,reduceEqDiff,reduceAdd,reduceSub,reduceLeDiff,zz0,ynew,f9,f13,f21,f22,f29,f30,f31,f32,f220,show decide ((0:Int)≠0)=false from rfl,lma,lmb,decide_eq_false (show ¬ (rows.length:Int)≠rows.length from fun h=>h rfl),lmp]);try simp only[yback])
 refine WC_loop_inv (fun m f K5=>∃ (i:Nat),m=rows.length-i∧i≤rows.length∧f 9=.bool cb∧f 13=.pointer (some ⟨H9.length,0,none⟩)∧f 21=sl kl N∧f 22=sl kb M∧f 29=ma∧f 31=mb∧f 33=mp∧f 35=I64 i∧K5=H18) ?_ (rows.length-0) _ _ ⟨0,rfl,by omega,(by first|rfl|exact f9|(simp[upd_apply];done)),(by first|rfl|exact f13|(simp[upd_apply];done)),(by first|rfl|exact f21|(simp[upd_apply];done)),(by first|rfl|exact f22|(simp[upd_apply];done)),(by first|rfl|exact f29|(simp[upd_apply];done)),(by first|rfl|exact f31|(simp[upd_apply];done)),(by first|rfl|simp[upd_apply]),(by first|rfl|simp[upd_apply]),rfl⟩
 rintro m f K5 ⟨i,rfl,hi,f9,f13,f21,f22,f29,f31,f33,f35,rfl⟩
 by_cases hlt:(i:Int)<rows.length
 case pos=>
  have hi:i<rows.length:=by omega
  obtain⟨na,oa,xa,ia,ra,ja⟩:=((Rows.pre (p17.trans p18) qa)).row hi
  obtain⟨nb,ob,xb,ib,rb,jb⟩:=((Rows.pre p18 qb)).row hi
  have ia:=ia .i64
  have ib:=ib .i64
  ((try simp (maxSteps:=3000000) (dsimp:=false) (disch:=first|omega|simp only[lnx];omega) only[↓ypre,ypost,↓reduceIte,reduceEqDiff,reduceAdd,reduceSub,reduceLeDiff,zz0,ynew,f9,f13,f21,f22,f29,f31,f33,f35,lma,decide_eq_true hlt,ia,ra,ib,rb]);try simp only[yback])
  refine l_like ja jb (sml.2.1 i hi) ?_
  cases cb with
  | false=>
   ((try simp (maxSteps:=3000000) (dsimp:=false) (disch:=first|omega|simp only[lnx];omega) only[↓ypre,ypost,↓reduceIte,reduceEqDiff,reduceAdd,reduceSub,reduceLeDiff,zz0,ynew,f9,f13,f21,f22,f29,f31,f33,f35,wrap64_in]);try simp only[yback])
   refine InvQ_go (rows.length-(i+1)) (by omega) ⟨(i+1),rfl,by omega,(by first|rfl|exact f9|(simp only[upd_apply];rfl)|(show I64 _=_;congr 1;omega)),(by first|rfl|exact f13|(simp only[upd_apply];rfl)|(show I64 _=_;congr 1;omega)),(by first|rfl|exact f21|(simp only[upd_apply];rfl)|(show I64 _=_;congr 1;omega)),(by first|rfl|exact f22|(simp only[upd_apply];rfl)|(show I64 _=_;congr 1;omega)),(by first|rfl|exact f29|(simp only[upd_apply];rfl)|(show I64 _=_;congr 1;omega)),(by first|rfl|exact f31|(simp only[upd_apply];rfl)|(show I64 _=_;congr 1;omega)),(by first|rfl|exact f33|(simp only[upd_apply];rfl)|(show I64 _=_;congr 1;omega)),(by first|rfl|exact f35|(simp only[upd_apply];rfl)|(show I64 _=_;congr 1;omega)),rfl⟩
  | true=>
   have ep:pr=rows:=pw rfl
   have qp2:=qp
   rw[ep] at qp2
   obtain⟨np,op,xp,ip,rp,jp⟩:=qp2.row hi
   have ip:=ip .i64
   ((try simp (maxSteps:=3000000) (dsimp:=false) (disch:=first|omega|simp only[lnx];omega) only[↓ypre,ypost,↓reduceIte,reduceEqDiff,reduceAdd,reduceSub,reduceLeDiff,zz0,ynew,f9,f13,f21,f22,f29,f31,f33,f35,ia,ra,ip,rp]);try simp only[yback])
   refine l_like ja jp (sml.2.1 i hi) ?_
   ((try simp (maxSteps:=3000000) (dsimp:=false) (disch:=first|omega|simp only[lnx];omega) only[↓ypre,ypost,↓reduceIte,reduceEqDiff,reduceAdd,reduceSub,reduceLeDiff,zz0,ynew,f9,f13,f21,f22,f29,f31,f33,f35,wrap64_in]);try simp only[yback])
   refine InvQ_go (rows.length-(i+1)) (by omega) ⟨(i+1),rfl,by omega,(by first|rfl|exact f9|(simp only[upd_apply];rfl)|(show I64 _=_;congr 1;omega)),(by first|rfl|exact f13|(simp only[upd_apply];rfl)|(show I64 _=_;congr 1;omega)),(by first|rfl|exact f21|(simp only[upd_apply];rfl)|(show I64 _=_;congr 1;omega)),(by first|rfl|exact f22|(simp only[upd_apply];rfl)|(show I64 _=_;congr 1;omega)),(by first|rfl|exact f29|(simp only[upd_apply];rfl)|(show I64 _=_;congr 1;omega)),(by first|rfl|exact f31|(simp only[upd_apply];rfl)|(show I64 _=_;congr 1;omega)),(by first|rfl|exact f33|(simp only[upd_apply];rfl)|(show I64 _=_;congr 1;omega)),(by first|rfl|exact f35|(simp only[upd_apply];rfl)|(show I64 _=_;congr 1;omega)),rfl⟩
 have g10:=pre_get (p17.trans p18) g10
 by_cases z0:(D.ps.length:Int)>0
 case neg=>
  ((try simp (maxSteps:=3000000) (dsimp:=false) (disch:=first|omega|simp only[lnx];omega) only[↓ypre,ypost,↓reduceIte,reduceEqDiff,reduceAdd,reduceSub,reduceLeDiff,zz0,ynew,f9,f13,f21,f22,f29,f31,f33,f35,lma,decide_eq_false hlt,rd1_of g10,vld,decide_eq_false z0]);try simp only[yback])
 have rse:rsR D true Lm Rm=(rows,0):=by rw[rsR_eq gd qd mcd (by omega),←mde]
 ((try simp (maxSteps:=3000000) (dsimp:=false) (disch:=first|omega|simp only[lnx];omega) only[↓ypre,ypost,↓reduceIte,reduceEqDiff,reduceAdd,reduceSub,reduceLeDiff,zz0,ynew,f9,f13,f21,f22,f29,f31,f33,f35,lma,decide_eq_false hlt,rd1_of g10,vld,decide_eq_true z0,rdn_of g10]);try simp only[yback])
 refine i_RunScheme (x:=D) (b:=true) (qd.pre (((p10.trans p11).trans (p12.trans (p13.trans p14))).trans ((p15.trans ppB).trans (p16.trans (p17.trans p18))))) sD (Rows.pre (p16.trans (p17.trans p18)) hA) sA (Rows.pre (p16.trans (p17.trans p18)) hB') sB fun mr H19 p19 qr=>?_
 rw[rse] at qr ⊢
 have qr:=qr.rows
 have lmr:=qr.len
 refine WO_cut (fun f:Fr=>f 29=ma∧f 286=.tuple #[mr,I64 0]∧True) ⟨(by first|rfl|exact f29|simp[upd_apply,f29]),(by first|rfl|simp[upd_apply]),trivial⟩ ?_
 rintro f ⟨f29,f286,-⟩
 ((try simp (maxSteps:=3000000) (dsimp:=false) (disch:=first|omega|simp only[lnx];omega) only[↓ypre,ypost,↓reduceIte,reduceEqDiff,reduceAdd,reduceSub,reduceLeDiff,zz0,ynew,f29,f286,show decide ((0:Int)≠0)=false from rfl,lmr,lma,decide_eq_false (show ¬ (rows.length:Int)≠rows.length from fun h=>h rfl)]);try simp only[yback])
 refine WC_loop_inv (fun m f K6=>∃ (i:Nat),m=rows.length-i∧i≤rows.length∧f 29=ma∧f 36=mr∧f 38=I64 i∧K6=H19) ?_ (rows.length-0) _ _ ⟨0,rfl,by omega,(by first|rfl|exact f29|(simp[upd_apply];done)),(by first|rfl|simp[upd_apply]),(by first|rfl|simp[upd_apply]),rfl⟩
 rintro m f K6 ⟨i,rfl,hi,f29,f36,f38,rfl⟩
 by_cases hlt:(i:Int)<rows.length
 case pos=>
  have hi:i<rows.length:=by omega
  obtain⟨na,oa,xa,ia,ra,ja⟩:=((Rows.pre (p17.trans (p18.trans p19)) qa)).row hi
  obtain⟨nb,ob,xb,ib,rb,jb⟩:=(qr).row hi
  have ia:=ia .i64
  have ib:=ib .i64
  ((try simp (maxSteps:=3000000) (dsimp:=false) (disch:=first|omega|simp only[lnx];omega) only[↓ypre,ypost,↓reduceIte,reduceEqDiff,reduceAdd,reduceSub,reduceLeDiff,zz0,ynew,f29,f36,f38,lma,decide_eq_true hlt,ia,ra,ib,rb]);try simp only[yback])
  refine l_like ja jb (sml.2.1 i hi) ?_
  ((try simp (maxSteps:=3000000) (dsimp:=false) (disch:=first|omega|simp only[lnx];omega) only[↓ypre,ypost,↓reduceIte,reduceEqDiff,reduceAdd,reduceSub,reduceLeDiff,zz0,ynew,f29,f36,f38,wrap64_in]);try simp only[yback])
  refine InvQ_go (rows.length-(i+1)) (by omega) ⟨(i+1),rfl,by omega,(by first|rfl|exact f29|(simp only[upd_apply];rfl)|(show I64 _=_;congr 1;omega)),(by first|rfl|exact f36|(simp only[upd_apply];rfl)|(show I64 _=_;congr 1;omega)),(by first|rfl|exact f38|(simp only[upd_apply];rfl)|(show I64 _=_;congr 1;omega)),rfl⟩
 ((try simp (maxSteps:=3000000) (dsimp:=false) (disch:=first|omega|simp only[lnx];omega) only[↓ypre,ypost,↓reduceIte,reduceEqDiff,reduceAdd,reduceSub,reduceLeDiff,zz0,ynew,f29,f36,f38,lma,decide_eq_false hlt]);try simp only[yback])
end Go.Proofs.Ytapafdpnmakekaa.X

set_option linter.unusedVariables false
set_option linter.unusedSimpArgs false
namespace Go.Proofs.Ytapafdpnmakekaa.X
open Go Go.RowKit Go.ChangeShapes Go.WideShapes Go.Deep
structure Adm (P:Program) (W:World) (γ:List G) (h:AH):Prop where
 rel:Rel P W.heap.size γ h W
 ro:∀ n b,h.get n=some b→b.ro=true
theorem Adm.nil (P:Program) (W:World):Adm P W [] [] where
 rel:={
  len:=rfl
  cell:=fun n b g h=>by simp[AH.get] at h
  rw:=fun n b g h=>by simp[AH.get] at h
  ro:=fun n b g h=>by simp[AH.get] at h
  inj:=fun n m bn bm g g' h=>by simp[AH.get] at h
  base:=Nat.le_refl _ }
 ro:=fun n b h=>by simp[AH.get] at h
theorem Adm.new {P:Program} {W:World} {γ:List G} {h:AH} (A:Adm P W γ h) {g:G} {cs:List Value} {e:TypeId} (hb:g.b<W.heap.size)
  (hc:∀ j v,cs[j]?=some v→isOne v=true∧∃ v',W.cell? ⟨g.b,g.o+j,none⟩=some v'∧VR γ v v'):Adm P W (γ++[g]) (h.new ⟨cs,e,true,false⟩):=by
 have hl:=A.rel.len
 have hp:γ<+:γ++[g]:=List.prefix_append _ _
 have old:∀ {n:Nat} {g':G},n<h.length→(γ++[g])[n]?=some g'→γ[n]?=some g':=fun hn hg=>by
  rw[List.getElem?_append_left (by omega)] at hg
  exact hg
 have new:∀ {g':G},(γ++[g])[h.length]?=some g'→g'=g:=fun hg=>by
  rw[←hl] at hg
  simpa using hg.symm
 refine⟨⟨by simp[len_new,hl],?_,?_,?_,?_,Nat.le_refl _⟩,?_⟩
 ·intro n b g' hb' hg' j v hv
  rcases get_new_cases hb' with hb'|⟨rfl,rfl⟩
  ·obtain⟨q1,v',q2,q3⟩:=A.rel.cell n b g' hb' (old (get_lt hb') hg') j v hv
   exact⟨q1,v',q2,q3.mono hp⟩
  ·obtain rfl:=new hg'
   obtain⟨q1,v',q2,q3⟩:=hc j v hv
   exact⟨q1,v',q2,q3.mono hp⟩
 ·intro n b g' hb' hg' hro
  rcases get_new_cases hb' with hb'|⟨rfl,rfl⟩
  ·rw[A.ro n b hb'] at hro
   cases hro
  ·cases hro
 ·intro n b g' hb' hg' hro
  rcases get_new_cases hb' with hb'|⟨rfl,rfl⟩
  ·exact A.rel.ro n b g' hb' (old (get_lt hb') hg') hro
  ·obtain rfl:=new hg'
   exact hb
 ·intro n m bn bm g1 g2 h1 h2 h3 h4 hro
  rcases get_new_cases h1 with hb'|⟨rfl,rfl⟩
  ·rw[A.ro n bn hb'] at hro
   cases hro
  ·cases hro
 ·intro n b hb'
  rcases get_new_cases hb' with hb'|⟨rfl,rfl⟩
  ·exact A.ro n b hb'
  ·rfl
section
variable {H:Type} {enc:TypeId×Value→H} {P:Program} {W:World}
theorem add_off (a:Addr) (ha:a.spot=none) (i:Nat):a.add i=⟨a.block,a.off+i,none⟩:=by
 unfold Addr.add
 split
 ·rename_i h0
  subst h0
  obtain⟨b,o,s⟩:=a
  simp at ha
  subst ha
  rfl
 ·rfl
def tyInt (P:Program) (t:TypeId):Bool:=match P.underlying t with
 | some (.int .i64)=>true
 | _=>false
def tySlice (P:Program) (t e:TypeId):Bool:=match P.underlying t with
 | some (.slice e')=>e'==e
 | _=>false
theorem tySlice_eq {t e:TypeId} (h:tySlice P t e=true):P.underlying t=some (.slice e):=by
 unfold tySlice at h
 split at h
 ·rename_i e' he
  have:e'=e:=by simpa using h
  rw[he,this]
 ·cases h
theorem stays_all (hl:laidOutB P=true) {W W':World} (bel:Below W.heap.size W W'):∀ {ts:List TypeId} {vs:List Value} {ds:List (DataW H)} {ps:List MemPlace},
  (∀ t∈ts,P.readableRec t=true∧t<P.types.size)→DataW.TrodAll enc P W 0 (fun _=>true) true ts vs ds ps→DataW.TrodAll enc P W' 0 (fun b=>decide (b<W.heap.size)) true ts vs ds ps
 | [],[],[],_,_,h=>h
 | _::_,_::_,_::_,_,ht,⟨p,q,h1,h2,e⟩=>by
  have hlt:∀ r∈p,r.block<W.heap.size:=by
   have hall:DataW.TrodAll enc P W 0 (fun _=>true) true [_] [_] [_] p:=trodAll_mk1 h1
   exact hall.lt
  refine⟨p,q,Go.WideElems.Trod_stays hl (ht _ (List.mem_cons.2 (.inl rfl))).1 (ht _ (List.mem_cons.2 (.inl rfl))).2 h1 (fun r hr=>bel.same (hlt r hr)) (fun r hr=>by simpa using hlt r hr),?_,e⟩
  exact stays_all hl bel (fun t ht'=>ht t (List.mem_cons.2 (.inr ht'))) h2
theorem calls_of_WF {S:XS} (hm:P.follows .mixedOrders=true) (hE:ESound P S.E) (hT:TSound P S.T) {g:FuncId} {args args':List Value} {γ:List G} {h:AH} {W:World} {Q:Value→AH→Prop}
  (A:Adm P W γ h) (hv:VRL γ args args') (hw:WF S g args h Q) :
  Calls P g args'.toArray W (fun e W'=>∃ v v' γ' h',e=.returned v'∧VR γ' v v'∧Q v h'∧Below W.heap.size W W'):=by
 obtain⟨k,v,h',h1,h2⟩:=hw
 have:=(xcall_sound hm hE hT k g args h v h' h1).2 W.heap.size γ W args' A.rel hv
 refine this.mono fun e W' ⟨γ',v',q1,q2,q3⟩=>⟨v,v',γ',h',q1,q2,h2,?_⟩
 refine⟨q3.os,q3.tape,q3.output,q3.size,fun b hb=>q3.frame b hb fun ⟨n,blk,g,o1,o2,o3,o4⟩=>?_⟩
 rw[A.ro n blk o1] at o3
 cases o3
end
section
variable {H:Type} {enc:TypeId×Value→H} {P:Program} {W:World}
theorem cells_of_slice {t e:TypeId} {v:Value} {r:Reach} {base:Nat} (ht:P.underlying t=some (.slice e)) (hval:Value.okWide P W r base t v):v.cells.toList=[v]:=by
 cases v with
 | agg cs=>simp[Value.okWide,ht,Cell.okWide,Cell.ok] at hval
 | _=>rfl
end
theorem u8_in {n:Int} (h:(Lit.int .u8 n).wf=true):0≤n∧n≤255:=by
 simp[Lit.wf,IntKind.min,IntKind.max,IntKind.signed,IntKind.bits] at h
 omega
def sideBy (P:Program):List Field→Nat→Nat→Bool
 | [],o,m=>o==m
 | f::fs,o,m=>f.offset==o&&sideBy P fs (o+P.cellsOf f.type) m
def flatK (P:Program) (k:IntKind):Nat→TypeId→Bool
 | 0,_=>false
 | f+1,t=>match P.underlying t with
  | some (.int k')=>decide (k'=k)&&P.cellsOf t==1
  | some (.array n e)=>flatK P k f e&&P.cellsOf t==n*P.cellsOf e
  | some (.struct fs)=>sideBy P fs.toList 0 (P.cellsOf t)&&fs.toList.all fun x=>flatK P k f x.type
  | _=>false
theorem sideBy_at {P:Program}:∀ {fs:List Field} {o m j:Nat},sideBy P fs o m=true→o≤j→j<m→∃ (i:Nat) (f:Field),fs[i]?=some f∧f.offset≤j∧j<f.offset+P.cellsOf f.type
 | [],o,m,j,h,h1,h2=>by
  simp only[sideBy,beq_iff_eq] at h
  omega
 | f::fs,o,m,j,h,h1,h2=>by
  simp only[sideBy,Bool.and_eq_true,beq_iff_eq] at h
  by_cases hj:j<o+P.cellsOf f.type
  ·exact⟨0,f,rfl,by omega,by omega⟩
  ·obtain⟨i,g,q1,q2,q3⟩:=sideBy_at h.2 (by omega) h2
   exact⟨i+1,g,by rw[List.getElem?_cons_succ];exact q1,q2,q3⟩
section
variable {H:Type} {enc:TypeId×Value→H} {P:Program} {W:World} {k:IntKind}
theorem flat_trod:∀ (f:Nat) (t:TypeId) (n:Nat) (cs:List Value) (x:DataW H×List MemPlace),flatK P k f t=true→DataW.trod enc P W 0 (fun _=>true) true n t cs=some x →
  cs.length=P.cellsOf t∧∀ (j:Nat) (v:Value),cs[j]?=some v→∃ m,v=.int k m∧(Lit.int k m).wf=true
 | 0,_,_,_,_,h,_=>by cases h
 | f+1,t,n,cs,x,h,hx=>by
  unfold flatK at h
  split at h
  ·rename_i k' ht
   simp only[Bool.and_eq_true,decide_eq_true_eq,beq_iff_eq] at h
   obtain⟨rfl,hc⟩:=h
   obtain⟨m,rfl,_,hw⟩:=DataW.trod_int ht hx
   refine⟨by simpa using hc.symm,fun j v hv=>?_⟩
   have:j=0:=by
    have:=(List.getElem?_eq_some_iff.1 hv).1
    simp at this
    exact this
   subst this
   simp at hv
   exact⟨m,hv.symm,hw⟩
  ·rename_i c e ht
   simp only[Bool.and_eq_true,beq_iff_eq] at h
   obtain⟨xs,m,_,_,hl,hxs,hall⟩:=DataW.trod_array ht hx
   refine⟨hl,fun j v hv=>?_⟩
   have hj:=(List.getElem?_eq_some_iff.1 hv).1
   rw[hl,h.2] at hj
   have hc:0<P.cellsOf e:=Nat.pos_of_ne_zero fun e0=>by rw[e0] at hj;simp at hj
   have hi:j / P.cellsOf e<c:=Nat.div_lt_of_lt_mul (by rw[Nat.mul_comm];exact hj)
   have hy:=hall _ hi
   rw[List.getElem?_eq_getElem (by omega)] at hy
   have hdm:=Nat.div_add_mod j (P.cellsOf e)
   rw[Nat.mul_comm] at hdm
   refine (flat_trod f e m _ _ h.1 hy).2 (j%P.cellsOf e) v ?_
   rw[List.getElem?_take,if_pos (Nat.mod_lt _ hc),List.getElem?_drop,hdm]
   exact hv
  ·rename_i fs ht
   simp only[Bool.and_eq_true] at h
   obtain⟨xs,m,_,_,hl,hxs,hall⟩:=DataW.trod_struct ht hx
   refine⟨hl,fun j v hv=>?_⟩
   have hj:=(List.getElem?_eq_some_iff.1 hv).1
   rw[hl] at hj
   obtain⟨i,g,q1,q2,q3⟩:=sideBy_at h.1 (Nat.zero_le _) hj
   have q1':fs[i]?=some g:=by simpa using q1
   have hy:=hall i g q1'
   have hi:i<xs.length:=by
    rw[hxs]
    exact (Array.getElem?_eq_some_iff.1 q1').1
   rw[List.getElem?_eq_getElem hi] at hy
   have hg:flatK P k f g.type=true:=List.all_eq_true.1 h.2 g (List.mem_of_getElem? q1)
   refine (flat_trod f g.type m _ _ hg hy).2 (j-g.offset) v ?_
   rw[List.getElem?_take,if_pos (by omega),List.getElem?_drop,show g.offset+(j-g.offset)=j by omega]
   exact hv
  ·cases h
theorem adm_elems2 {γ:List G} {h:AH} (A:Adm P W γ h) {t e:TypeId} {n w f:Nat} {cs:List Value} {x:DataW H×List MemPlace} (ht:P.underlying t=some (.slice e)) (hf:flatK P k f e=true)
  (hw:P.cellsOf e=w) (hw0:0<w) (hx:DataW.trod enc P W 0 (fun _=>true) true n t cs=some x) :
  ∃ v' v L γ' h',cs=[v']∧γ<+:γ'∧h<+:h'∧Adm P W γ' h'∧VR γ' v v'∧Els k w h' v L∧L.length≤maxLen∧(L=[]→∃ t,t≤2∧v=.slice none 0 t)∧∀ i,i<L.length→∀ j,j<w→(Lit.int k ((L.getD i []).getD j 0)).wf=true:=by
 rcases open_slice ht hx with⟨rfl,_⟩|⟨a,len,cap,m,n',D,Pl,rfl,hb,hl,hm,hmm,_,hcell⟩
 ·exact⟨_,.slice none 0 0,[],γ,h,rfl,List.prefix_refl _,List.prefix_refl _,A,.nils,.inl ⟨rfl,0,by omega,rfl⟩,Nat.zero_le _,fun _=>⟨0,by omega,rfl⟩,fun i hi=>by simp at hi⟩
 ·by_cases h0:len=0
  ·subst h0
   exact⟨_,.slice none 0 1,[],γ,h,rfl,List.prefix_refl _,List.prefix_refl _,A,.emp _ _,.inl ⟨rfl,1,by omega,rfl⟩,Nat.zero_le _,fun _=>⟨1,by omega,rfl⟩,fun i hi=>by simp at hi⟩
  ·have hmc:m=cap:=hmm
   have cell:∀ i,i<cap→∀ r,r<w→∃ z,W.cell? ((a.add (i*w)).add r)=some (.int k z)∧(Lit.int k z).wf=true:=fun i hi r hr=>by
    obtain⟨cs',h1,h2⟩:=hcell i (by omega)
    rw[hw] at h1
    obtain⟨_,hlen,hc⟩:=World.cells?_some h1
    obtain⟨_,hall⟩:=flat_trod f e n' cs' _ hf h2
    have hr':r<cs'.length:=by omega
    obtain⟨z,hz,hwf⟩:=hall r _ (List.getElem?_eq_getElem hr')
    refine⟨z,?_,hwf⟩
    rw[hc r hr,List.getElem?_eq_getElem hr',hz]
   obtain⟨z0,hz,_⟩:=cell 0 (by omega) 0 hw0
   rw[Nat.zero_mul] at hz
   have a0:a.add 0=a:=by simp[Addr.add]
   rw[a0,a0] at hz
   have hsp:a.spot=none:=by
    unfold World.cell? at hz
    split at hz
    ·split at hz
     ·cases hz
     ·rename_i hs
      simpa using hs
    ·cases hz
   have hbl:a.block<W.heap.size:=World.block_lt_of_cell? W _ hz
   have cell':∀ j,j<len*w→∃ z,W.cell? ⟨a.block,a.off+j,none⟩=some (.int k z)∧(Lit.int k z).wf=true:=fun j hj=>by
    have hi:j / w<len:=Nat.div_lt_of_lt_mul (by rw[Nat.mul_comm];exact hj)
    obtain⟨z,q1,q2⟩:=cell (j / w) (by omega) (j%w) (Nat.mod_lt _ hw0)
    refine⟨z,?_,q2⟩
    rw[add_off a hsp,add_off _ rfl] at q1
    have hdm:=Nat.div_add_mod j w
    rw[Nat.mul_comm] at hdm
    rw[show a.off+j=a.off+j / w*w+j%w by omega]
    exact q1
   obtain⟨N,hN⟩:∃ N:Nat→Int,∀ j,j<len*w→W.cell? ⟨a.block,a.off+j,none⟩=some (.int k (N j))∧(Lit.int k (N j)).wf=true:=by
    refine⟨fun j=>if hj:j<len*w then (cell' j hj).choose else 0,fun j hj=>?_⟩
    simp only[dif_pos hj]
    exact (cell' j hj).choose_spec
   let L:List (List Int):=(List.range len).map fun i=>(List.range w).map fun r=>N (i*w+r)
   have hLl:L.length=len:=by simp[L]
   have hLg:∀ i,i<len→L.getD i []=(List.range w).map fun r=>N (i*w+r):=fun i hi=>by simp[L,List.getD_eq_getElem?_getD,List.getElem?_map,List.getElem?_range hi]
   let C:List Value:=cel k ((List.range (len*w)).map N)
   have hCl:C.length=len*w:=by simp[C,cel_len]
   refine⟨_,.slice (some ⟨h.length,0,none⟩) L.length w,L,γ++[⟨a.block,a.off,cap*w⟩],h.new ⟨C,e,true,false⟩,rfl,List.prefix_append _ _,pre_new (List.prefix_refl _),?_,?_,
    .inr ⟨h.length,0,_,rfl,get_new_same,fun i hi=>?_⟩,by rw[hLl];omega,fun hL=>absurd hLl (by rw[hL];exact fun e=>h0 (by simpa using e.symm)),fun i hi j hj=>?_⟩
   ·refine A.new hbl fun j v hv=>?_
    have hj:j<len*w:=by rw[←hCl];exact (List.getElem?_eq_some_iff.1 hv).1
    have hv':C[j]?=some (.int k (N j)):=by simp[C,cel,hj]
    rw[hv'] at hv
    obtain rfl:=Option.some.inj hv
    exact⟨rfl,_,(hN j hj).1,.int _ _⟩
   ·have hcw:len*w≤cap*w:=Nat.mul_le_mul_right _ hl
    have:=VR.slc (γ:=γ++[⟨a.block,a.off,cap*w⟩]) h.length 0 L.length w ⟨a.block,a.off,cap*w⟩ (by rw[←A.rel.len];simp) hw0 (by rw[hLl];simp only;omega)
    have e1:(some a:Option Addr)=some ⟨a.block,a.off+0,none⟩:=by
     obtain⟨b,o,s⟩:=a
     simp at hsp
     subst hsp
     rfl
    rw[e1]
    have e2:(cap*w-0) / w=cap:=by rw[Nat.sub_zero];exact Nat.mul_div_cancel _ hw0
    simp only[e2,hLl] at this
    rw[hLl]
    exact this
   ·rw[hLl] at hi
    have hr:i*w+w≤len*w:=mul_row hi
    refine⟨by simp only[hCl];omega,?_⟩
    rw[hLg i hi]
    simp only[C,cel_drop,cel_take,Nat.zero_add]
    congr 1
    refine List.ext_getElem? fun r=>?_
    rw[List.getElem?_take,List.getElem?_drop,List.getElem?_map,List.getElem?_map]
    by_cases hr':r<w
    ·rw[if_pos hr',List.getElem?_range hr',List.getElem?_range (by omega)]
     rfl
    ·rw[if_neg hr',List.getElem?_eq_none (by simp;omega)]
     rfl
   ·rw[hLl] at hi
    have hr:i*w+w≤len*w:=mul_row hi
    rw[hLg i hi]
    have:((List.range w).map fun r=>N (i*w+r)).getD j 0=N (i*w+j):=by simp[List.getD_eq_getElem?_getD,List.getElem?_map,List.getElem?_range hj]
    rw[this]
    exact (hN _ (by omega)).2
theorem adm_elems {γ:List G} {h:AH} (A:Adm P W γ h) {t e:TypeId} {n w f:Nat} {cs:List Value} {x:DataW H×List MemPlace} (ht:P.underlying t=some (.slice e)) (hf:flatK P k f e=true)
  (hw:P.cellsOf e=w) (hw0:0<w) (hx:DataW.trod enc P W 0 (fun _=>true) true n t cs=some x) :
  ∃ v' v L γ' h',cs=[v']∧γ<+:γ'∧h<+:h'∧Adm P W γ' h'∧VR γ' v v'∧Els k w h' v L∧L.length≤maxLen∧∀ i,i<L.length→∀ j,j<w→(Lit.int k ((L.getD i []).getD j 0)).wf=true:=by
 obtain⟨v',v,L,γ',h',e1,q1,q2,q3,q4,q5,q6,_,q7⟩:=adm_elems2 A ht hf hw hw0 hx
 exact⟨v',v,L,γ',h',e1,q1,q2,q3,q4,q5,q6,q7⟩
end
section
variable {H:Type} {enc:TypeId×Value→H} {P:Program} {W:World}
def isByteS (P:Program) (t e:TypeId):Bool:=tySlice P t e&&flatK P .u8 1 e&&P.cellsOf e==1
theorem adm_code {γ:List G} {h:AH} (A:Adm P W γ h) {t:TypeId} (e:TypeId) (hk:isByteS P t e=true) {v:Value} {d:DataW H} {ps:List MemPlace} {r:Reach} {base:Nat} (hval:Value.okWide P W r base t v)
  (hx:DataW.Trod enc P W 0 (fun _=>true) true t v d ps) :
  ∃ L u γ' h',γ<+:γ'∧h<+:h'∧Adm P W γ' h'∧VR γ' u v∧Els .u8 1 h' u L∧Byt 1 L:=by
 simp only[isByteS,Bool.and_eq_true,beq_iff_eq] at hk
 obtain⟨⟨k1,k2⟩,k3⟩:=hk
 obtain⟨n,hx⟩:=hx
 obtain⟨v',u,L,γ',h',e1,q1,q2,q3,q4,q5,q6,q7⟩:=adm_elems A (tySlice_eq k1) k2 k3 (by decide) hx
 rw[cells_of_slice (tySlice_eq k1) hval] at e1
 have e1:v=v':=by simpa using e1
 subst e1
 exact⟨L,u,γ',h',q1,q2,q3,q4,q5,fun i hi j hj=>u8_in (q7 i hi j hj)⟩
end
end Go.Proofs.Ytapafdpnmakekaa.X

namespace Go.Proofs.Ytapafdpnmakekaa.fnTop
open Go Go.ChangeShapes Go.WideShapes Go.ChangeAt Go.RowKit Go.Proofs.Ytapafdpnmakekaa.X
set_option linter.unusedVariables false
theorem own:ownKnob Try.prog.godebug=none:=by kernel_rfl
theorem laid:laidOutB Try.prog=true:=by kernel_rfl
theorem shapeY:isByteS Try.prog 22 5=true:=by kernel_rfl
theorem readable0:Try.prog.readableRec 22=true:=by kernel_rfl
theorem intable0:22<Try.prog.types.size:=of_decide_eq_true (by kernel_rfl)
theorem isbool:Try.prog.underlying 4=some .bool:=by kernel_rfl
theorem isint:Try.prog.underlying 2=some (.int .i64):=by kernel_rfl
set_option maxRecDepth 100000 in
theorem lifted (os:Os) (started:os.Started) (H:Type) (enc:TypeId×Value→H) :
  ReturnsInHanded {} Try.checked os 3 .any (Rows.fnTopSpec.pre6 enc Try.prog Try.f3 Rows.fnTopRow.domain false) (Rows.fnTopSpec.post enc Try.prog Try.f3 false true false false):=by
 refine returnsInHanded_of_change_sized (C:=Try.checked) own started (by kernel_rfl) Try.func3
  (ChangeSpec.witness6 (enc:=enc) (C:=Try.checked) false ⟨#[],#[.slice none 0 0],[]⟩ 8 (by kernel_rfl) (by kernel_rfl) (by kernel_rfl) (by kernel_rfl)) ?_
 intro W base args ds gs before hval0 hW hcnd hsz0 _
 have hval:∀ (j:Nat) t v,Try.f3.params[j]?=some t→args[j]?=some v→Value.okWide Try.prog W .any base t v:=hval0
 have hW':=hW
 obtain⟨p,q,hA0,hV,rfl,hfz,hnd⟩:=hW
 have hA:DataW.TrodAll enc Try.prog W 0 (fun _=>true) true Try.f3.params.toList args.toList ds p:=hA0
 rw[Try.params3] at hA hval
 obtain⟨v0,vs0,d0,ds0,p0,q0,hargs0,rfl,rfl,h0,r0⟩:=trodAll_cons hA
 obtain⟨rfl,rfl,rfl⟩:=trodAll_nil r0
 obtain rfl:args=#[v0]:=by cases args;simp_all
 obtain⟨rfl,rfl⟩:=trodVars_none hV
 obtain⟨ns0,u0,γ0,g0,pg0,ph0,A0,hv0,hi0,hl0⟩:=adm_code (Adm.nil Try.prog W) 5 shapeY (hval 0 _ v0 rfl rfl) h0
 have hi0':=hi0
 have key:=law_Top hi0' hl0
 refine (calls_of_WF (S:=S) orders esound tsound A0 (VRL.cons hv0 (VRL.nil _)) key).mono fun e W' ⟨v,u,γ1,h1,he,hvr,hb,bel⟩=>?_
 subst hb
 obtain rfl:=hvr.bool_inv
 subst he
 have st:=stays_all laid bel (ts:=[22]) (fun t ht=>by
  simp only[List.mem_cons,List.not_mem_nil,or_false] at ht
  rw[ht]
  exact⟨readable0,intable0⟩) hA
 exact⟨_,rfl,_,_,_,[],_,[],hW',trodAll_mk1 (shut_bool isbool _),st,rfl,bel.frame _,fun h=>by cases h⟩
theorem j0:Program.unfollowed Try.pinned.checked.prog 3=true:=by kernel_rfl
theorem j1:(Rows.fnTopRow.inPlace==Program.inPlace Try.pinned.checked.prog 3)=true:=by kernel_rfl
theorem j2:(Rows.fnTopRow.unfollowed==Program.unfollowed Try.pinned.checked.prog 3)=true:=by
 rw[j0]
 rfl
theorem j3:(Rows.fnTopRow.recurses==Program.recurses Try.pinned.checked.prog 3)=true:=by
 unfold Program.recurses
 rw[j0]
 rfl
theorem j4:(Rows.fnTopRow.named==Program.varsNamed Try.pinned.checked.prog 3)=true:=by kernel_rfl
theorem closed:joinedFacts Try.pinned.checked.prog 3 Try.f3 Rows.fnTopSpec Rows.fnTopRow=true:=by
 unfold joinedFacts
 rw[j1,j2,j3,j4]
 kernel_rfl
theorem over:Rows.fnTopRow.holds Try.pinned (OpenSpec.ofChange Rows.fnTopSpec):=
 OpenClaim.holds_of_wide 3 Try.f3 rfl rfl rfl rfl rfl rfl rfl ⟨rfl,rfl,rfl,rfl,rfl⟩ rfl rfl rfl rfl rfl (by kernel_rfl) Try.func3 closed
  (of_decide_eq_true (by kernel_rfl)) (by unfold Func.isWrapper;first|(rw[if_pos (by decide +kernel)];kernel_rfl)|(rw[if_neg (by decide +kernel)];exact⟨rfl,rfl⟩))
  (fun os started H enc _=>lifted os started H enc)
end Go.Proofs.Ytapafdpnmakekaa.fnTop
namespace Go.Proofs.Ytapafdpnmakekaa
theorem fnTop_holds:Rows.FnTopSaid:=fnTop.over
end Go.Proofs.Ytapafdpnmakekaa
