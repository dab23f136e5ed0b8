/- Texts of one claim, put together by merge.py: XCG, XA2, XA3, XA5, XHRE. -/
import Derived.Test.YtigpfopobpoamaaGreatRE13
import Derived.Test.YtigpfopobpoamaaGreatRE8
import Derived.Test.YtigpfopobpoamaaGreatRows
import Derived.ProofKit
import Derived.OpenShut
import Derived.ShutString
import Derived.ChangeOld
import Derived.Below
import Derived.SizedLaws
set_option linter.unusedVariables false
set_option linter.unusedSimpArgs false
set_option maxRecDepth 20000
set_option maxHeartbeats 4000000
namespace Go.Proofs.YtigpfopobpoamaaGreat.X
open Go Go.RowKit
open Nat (reduceEqDiff reduceAdd reduceSub reduceLeDiff)
theorem law_Reductions {h:AH} {cv:Value} {code:List (List Int)} (c:Els .u8 1 h cv code) (b:Byt 1 code):WF S1 3 [cv] h (fun v _=>v=.bool true):=by
 refine WF_fn (fn:=c3) rfl rfl ?_
 dsimp only[c3,oO,oM,oS,oG,oK,oE,oL,oF,oX,oN]
 ((try simp (maxSteps:=3000000) (dsimp:=false) (disch:=first|omega|simp only[lnx];omega) only[↓ypre,ypost,↓reduceIte,reduceEqDiff,reduceAdd,reduceSub,reduceLeDiff,zz0,ynew]);try simp only[yback])
 refine up (l_big c ?_)
 by_cases hbig:(code.length:Int)>4096
 ·((try simp (maxSteps:=3000000) (dsimp:=false) (disch:=first|omega|simp only[lnx];omega) only[↓ypre,ypost,↓reduceIte,reduceEqDiff,reduceAdd,reduceSub,reduceLeDiff,zz0,ynew,decide_eq_true hbig]);try simp only[yback])
 ((try simp (maxSteps:=3000000) (dsimp:=false) (disch:=first|omega|simp only[lnx];omega) only[↓ypre,ypost,↓reduceIte,reduceEqDiff,reduceAdd,reduceSub,reduceLeDiff,zz0,ynew,decide_eq_false hbig]);try simp only[yback])
 have c:Cod h cv code:=⟨c,b,by omega⟩
 refine up (s_DrawReduceScheme c fun x v1 H1 p1 hv1 sx=>?_)
 have o1:isOne v1=true:=hv1.one
 have vl1:=hv1.1.len
 have hx1:=(⟨hv1.1.widL,hv1.2⟩:Wid 27 x.ps∧Byt 27 x.ps)
 refine WO_cut (fun f:Fr=>f 0=cv∧f 51=schV x v1∧True) ⟨(by first|rfl|simp[upd_apply]),(by first|rfl|simp[upd_apply]),trivial⟩ ?_
 rintro f ⟨f0,f51,-⟩
 ((try simp (maxSteps:=3000000) (dsimp:=false) (disch:=first|omega|simp only[lnx];omega) only[↓ypre,ypost,↓reduceIte,reduceEqDiff,reduceAdd,reduceSub,reduceLeDiff,zz0,ynew,f0,f51,schV,o1]);try simp only[yback])
 generalize hH2:AH.new H1 _=H2
 obtain⟨g2,p2,n2⟩:=new_facts hH2
 ((try simp (maxSteps:=3000000) (dsimp:=false) (disch:=first|omega|simp only[lnx];omega) only[↓ypre,ypost,↓reduceIte,reduceEqDiff,reduceAdd,reduceSub,reduceLeDiff,zz0,ynew,f0,f51,rdn_of g2]);try simp only[yback])
 refine up (i_ReduceScheme (x:=x) (hv1.pre p2) sx fun w1 H3 p3 kw1 nkw1=>?_)
 have sF:=rdR_small hx1
 generalize hF:rdR x=F at kw1 sF
 have qw1:=kw1.now
 have ow1:isOne w1=true:=nkw1.one
 have vlw1:=qw1.1.len
 refine WO_cut (fun f:Fr=>f 0=cv∧f 3=.pointer (some ⟨H1.length,0,none⟩)∧f 54=.tuple #[schV F.1 w1,I64 F.2]∧True) ⟨(by first|rfl|exact f0|simp[upd_apply,f0]),(by first|rfl|simp[upd_apply]),(by first|rfl|simp[upd_apply]),trivial⟩ ?_
 rintro f ⟨f0,f3,f54,-⟩
 ((try simp (maxSteps:=3000000) (dsimp:=false) (disch:=first|omega|simp only[lnx];omega) only[↓ypre,ypost,↓reduceIte,reduceEqDiff,reduceAdd,reduceSub,reduceLeDiff,zz0,ynew,f0,f3,f54,schV,ow1]);try simp only[yback])
 generalize hH4:AH.new H3 _=H4
 obtain⟨g4,p4,n4⟩:=new_facts hH4
 have g2:=pre_get (p3.trans p4) g2
 ((try simp (maxSteps:=3000000) (dsimp:=false) (disch:=first|omega|simp only[lnx];omega) only[↓ypre,ypost,↓reduceIte,reduceEqDiff,reduceAdd,reduceSub,reduceLeDiff,zz0,ynew,f0,f3,f54,rdn_of g2]);try simp only[yback])
 refine up (s_ReduceScheme (x:=x) (hv1.pre (p2.trans (p3.trans p4))) sx fun w2 H5 p5 kw2=>?_)
 rw[hF] at kw2 ⊢
 have qw2:=kw2.now
 have ow2:isOne w2=true:=qw2.one
 have vlw2:=qw2.1.len
 refine WO_cut (fun f:Fr=>f 0=cv∧f 3=.pointer (some ⟨H1.length,0,none⟩)∧f 4=.pointer (some ⟨H3.length,0,none⟩)∧f 5=I64 F.2∧f 59=.tuple #[schV F.1 w2,I64 F.2]∧True) ⟨(by first|rfl|exact f0|simp[upd_apply,f0]),(by first|rfl|exact f3|simp[upd_apply,f3]),(by first|rfl|simp[upd_apply]),(by first|rfl|simp[upd_apply]),(by first|rfl|simp[upd_apply]),trivial⟩ ?_
 rintro f ⟨f0,f3,f4,f5,f59,-⟩
 ((try simp (maxSteps:=3000000) (dsimp:=false) (disch:=first|omega|simp only[lnx];omega) only[↓ypre,ypost,↓reduceIte,reduceEqDiff,reduceAdd,reduceSub,reduceLeDiff,zz0,ynew,f0,f3,f4,f5,f59,schV,ow2]);try simp only[yback])
 generalize hH6:AH.new H5 _=H6
 obtain⟨g6,p6,n6⟩:=new_facts hH6
 have g4:=pre_get (p5.trans p6) g4
 ((try simp (maxSteps:=3000000) (dsimp:=false) (disch:=first|omega|simp only[lnx];omega) only[↓ypre,ypost,↓reduceIte,reduceEqDiff,reduceAdd,reduceSub,reduceLeDiff,zz0,ynew,f0,f3,f4,f5,f59,decide_eq_false (show ¬ (F.2)≠(F.2) from fun h=>h rfl),rdn_of g4,rdn_of g6]);try simp only[yback])
 refine up (l_schemes5 (x:=F.1) (qw1.pre (p4.trans (p5.trans p6))) (qw2.pre p6) sF fun H7 p7=>?_)
 refine WO_cut (fun f:Fr=>f 0=cv∧f 3=.pointer (some ⟨H1.length,0,none⟩)∧f 4=.pointer (some ⟨H3.length,0,none⟩)∧f 5=I64 F.2∧f 65=.bool false∧f 68=.bool true∧True) ⟨(by first|rfl|exact f0|simp[upd_apply,f0]),(by first|rfl|exact f3|simp[upd_apply,f3]),(by first|rfl|exact f4|simp[upd_apply,f4]),(by first|rfl|exact f5|simp[upd_apply,f5]),(by first|rfl|simp[upd_apply]),(by first|rfl|simp[upd_apply]),trivial⟩ ?_
 rintro f ⟨f0,f3,f4,f5,f65,f68,-⟩
 refine WO_join2 (fun f h'=>(f 0=cv)∧H7<+:h') ?_ ?_
 ·skip
  by_cases z1:F.2=0
  case neg=>
   ((try simp (maxSteps:=3000000) (dsimp:=false) (disch:=first|omega|simp only[lnx];omega) only[↓ypre,ypost,↓reduceIte,reduceEqDiff,reduceAdd,reduceSub,reduceLeDiff,zz0,ynew,f0,f3,f4,f5,f65,f68,decide_eq_false z1]);try simp only[yback])
   rw[JnQ_n]
   exact⟨(by first|rfl|exact f0|(simp[upd_apply,f0];done)),List.prefix_refl _⟩
  obtain⟨gx,eF⟩:=rdR_of hx1 (by rw[hF];exact z1)
  rw[hF] at eF
  have eF1:F.1=redX x:=by rw[eF]
  obtain⟨gF,es,lF⟩:=redX_ok gx
  have ag:=rdR_again gx
  rw[←eF1] at gF es lF ag
  have es:=heR_true gx gF es
  have lF:¬ (F.1.ps.length:Int)>x.ps.length:=by omega
  have g2:=pre_get (p5.trans (p6.trans p7)) g2
  have g4:=pre_get p7 g4
  ((try simp (maxSteps:=3000000) (dsimp:=false) (disch:=first|omega|simp only[lnx];omega) only[↓ypre,ypost,↓reduceIte,reduceEqDiff,reduceAdd,reduceSub,reduceLeDiff,zz0,ynew,f0,f3,f4,f5,f65,f68,decide_eq_true z1,rdn_of g2,rdn_of g4]);try simp only[yback])
  refine up (i_HaveEqualSums (x:=x) (y:=F.1) (hv1.pre ((p2.trans (p3.trans p4)).trans (p5.trans (p6.trans p7)))) sx (qw1.pre ((p4.trans p5).trans (p6.trans p7))) sF fun H8 p8=>?_)
  rw[es]
  refine WO_cut (fun f:Fr=>f 0=cv∧f 3=.pointer (some ⟨H1.length,0,none⟩)∧f 4=.pointer (some ⟨H3.length,0,none⟩)∧f 76=.tuple #[.bool true,I64 0]∧True) ⟨(by first|rfl|exact f0|simp[upd_apply,f0]),(by first|rfl|exact f3|simp[upd_apply,f3]),(by first|rfl|exact f4|simp[upd_apply,f4]),(by first|rfl|simp[upd_apply]),trivial⟩ ?_
  rintro f ⟨f0,f3,f4,f76,-⟩
  have g4:=pre_get p8 g4
  ((try simp (maxSteps:=3000000) (dsimp:=false) (disch:=first|omega|simp only[lnx];omega) only[↓ypre,ypost,↓reduceIte,reduceEqDiff,reduceAdd,reduceSub,reduceLeDiff,zz0,ynew,f0,f3,f4,f76,rdn_of g4]);try simp only[yback])
  refine up (i_ReduceScheme (x:=F.1) (qw1.pre ((p4.trans p5).trans (p6.trans (p7.trans p8)))) sF fun w3 H9 p9 kw3 nkw3=>?_)
  rw[ag] at kw3 ⊢
  have qw3:=kw3.now
  have ow3:isOne w3=true:=nkw3.one
  have vlw3:=qw3.1.len
  refine WO_cut (fun f:Fr=>f 0=cv∧f 3=.pointer (some ⟨H1.length,0,none⟩)∧f 4=.pointer (some ⟨H3.length,0,none⟩)∧f 8=.bool true∧f 9=I64 0∧f 81=.tuple #[schV F.1 w3,I64 0]∧True) ⟨(by first|rfl|exact f0|simp[upd_apply,f0]),(by first|rfl|exact f3|simp[upd_apply,f3]),(by first|rfl|exact f4|simp[upd_apply,f4]),(by first|rfl|simp[upd_apply]),(by first|rfl|simp[upd_apply]),(by first|rfl|simp[upd_apply]),trivial⟩ ?_
  rintro f ⟨f0,f3,f4,f8,f9,f81,-⟩
  ((try simp (maxSteps:=3000000) (dsimp:=false) (disch:=first|omega|simp only[lnx];omega) only[↓ypre,ypost,↓reduceIte,reduceEqDiff,reduceAdd,reduceSub,reduceLeDiff,zz0,ynew,f0,f3,f4,f8,f9,f81,schV,ow3]);try simp only[yback])
  generalize hH10:AH.new H9 _=H10
  obtain⟨g10,p10,n10⟩:=new_facts hH10
  have g4:=pre_get (p9.trans p10) g4
  ((try simp (maxSteps:=3000000) (dsimp:=false) (disch:=first|omega|simp only[lnx];omega) only[↓ypre,ypost,↓reduceIte,reduceEqDiff,reduceAdd,reduceSub,reduceLeDiff,zz0,ynew,f0,f3,f4,f8,f9,f81,show decide ((0:Int)≠0)=false from rfl,rdn_of g10,rdn_of g4]);try simp only[yback])
  refine up (l_schemes5 (x:=F.1) (qw3.pre p10) (qw1.pre ((p4.trans (p5.trans p6)).trans ((p7.trans p8).trans (p9.trans p10)))) sF fun H11 p11=>?_)
  refine WO_cut (fun f:Fr=>f 0=cv∧f 3=.pointer (some ⟨H1.length,0,none⟩)∧f 4=.pointer (some ⟨H3.length,0,none⟩)∧f 94=.bool false∧f 97=.bool true∧True) ⟨(by first|rfl|exact f0|simp[upd_apply,f0]),(by first|rfl|exact f3|simp[upd_apply,f3]),(by first|rfl|exact f4|simp[upd_apply,f4]),(by first|rfl|simp[upd_apply]),(by first|rfl|simp[upd_apply]),trivial⟩ ?_
  rintro f ⟨f0,f3,f4,f94,f97,-⟩
  have g4:=pre_get p11 g4
  have g2:=pre_get ((p8.trans p9).trans (p10.trans p11)) g2
  ((try simp (maxSteps:=3000000) (dsimp:=false) (disch:=first|omega|simp only[lnx];omega) only[↓ypre,ypost,↓reduceIte,reduceEqDiff,reduceAdd,reduceSub,reduceLeDiff,zz0,ynew,f0,f3,f4,f94,f97,rd1_of g4,vlw1,rd1_of g2,vl1,decide_eq_false lF]);try simp only[yback])
  rw[JnQ_n]
  exact⟨(by first|rfl|exact f0|(simp[upd_apply,f0];done)),((p8.trans p9).trans (p10.trans p11))⟩
 rintro f HX12 ⟨f0,pX12⟩
 ((try simp (maxSteps:=3000000) (dsimp:=false) (disch:=first|omega|simp only[lnx];omega) only[↓ypre,ypost,↓reduceIte,reduceEqDiff,reduceAdd,reduceSub,reduceLeDiff,zz0,ynew,f0]);try simp only[yback])
 refine up (s_DrawSplitProduct (c.pre (((p1.trans p2).trans (p3.trans p4)).trans ((p5.trans p6).trans (p7.trans pX12)))) fun u v2 i r fo H13 p13 hv2 xu nk2 bf=>?_)
 have o2:isOne v2=true:=nk2.one
 have vl2:=hv2.1.len
 have hx2:=(⟨hv2.1.widL,hv2.2⟩:Wid 27 u.ps∧Byt 27 u.ps)
 have F9:=bf.1
 have tF:(cel .u8 fo).take 9=cel .u8 fo:=List.take_of_length_le (by rw[cel_len,F9];exact Nat.le_refl _)
 refine WO_cut (fun f:Fr=>f 0=cv∧f 111=.tuple #[schV u v2,I64 i,I64 r,aggV .u8 fo]∧True) ⟨(by first|rfl|exact f0|simp[upd_apply,f0]),(by first|rfl|simp[upd_apply]),trivial⟩ ?_
 rintro f ⟨f0,f111,-⟩
 ((try simp (maxSteps:=3000000) (dsimp:=false) (disch:=first|omega|simp only[lnx];omega) only[↓ypre,ypost,↓reduceIte,reduceEqDiff,reduceAdd,reduceSub,reduceLeDiff,zz0,ynew,f0,f111,schV,o2,aggV,cellsL_cel,cel_all,cel_len,F9,tF,List.append_nil]);try simp only[yback])
 simp only[len_new]
 generalize hH14:AH.new H13 _=H14
 obtain⟨g14,p14,n14⟩:=new_facts hH14
 generalize hH15:AH.new H14 _=H15
 obtain⟨g15,p15,n15⟩:=new_facts hH15
 rw[n14] at g15
 have g14:=pre_get p15 g14
 ((try simp (maxSteps:=3000000) (dsimp:=false) (disch:=first|omega|simp only[lnx];omega) only[↓ypre,ypost,↓reduceIte,reduceEqDiff,reduceAdd,reduceSub,reduceLeDiff,zz0,ynew,f0,f111,wr_of g15,splice_eq,rdn_of g14,aggV,cellsL_cel,cel_all,cel_len,F9,tF,List.append_nil]);try simp only[yback])
 generalize hH16:AH.put H15 _ _=H16
 obtain⟨q16,l16,o16,u16⟩:=put_facts hH16
 have g15:=o16 (get_lt g15)
 have g14:=q16 H13.length _ (by omega) g14
 have p16:H13<+:H16:=hH16▸pre_put (p14.trans p15) (by omega)
 ((try simp (maxSteps:=3000000) (dsimp:=false) (disch:=first|omega|simp only[lnx];omega) only[↓ypre,ypost,↓reduceIte,reduceEqDiff,reduceAdd,reduceSub,reduceLeDiff,zz0,ynew,f0,f111,rdn_of g14,cel_len,F9,tF,rdn_of g15]);try simp only[yback])
 refine up (i_SplitProduct (x:=u) (i:=i) (f0:=r) (F:=fo) (hv2.pre p16) nk2 xu.l bf fun u1 H17 p17 ku1 nku1=>?_)
 have sG:=spR_small (i:=i) (f:=r) hx2 bf
 generalize hG:spR u i r fo=G at ku1 sG
 have qu1:=ku1.now
 have ou1:isOne u1=true:=nku1.one
 have vlu1:=qu1.1.len
 refine WO_cut (fun f:Fr=>f 0=cv∧f 12=.pointer (some ⟨H13.length,0,none⟩)∧f 13=I64 i∧f 14=I64 r∧f 15=.pointer (some ⟨(H13.length+1),0,none⟩)∧f 121=.tuple #[schV G.1 u1,I64 G.2]∧True) ⟨(by first|rfl|exact f0|simp[upd_apply,f0]),(by first|rfl|simp[upd_apply]),(by first|rfl|simp[upd_apply]),(by first|rfl|simp[upd_apply]),(by first|rfl|simp[upd_apply]),(by first|rfl|simp[upd_apply]),trivial⟩ ?_
 rintro f ⟨f0,f12,f13,f14,f15,f121,-⟩
 ((try simp (maxSteps:=3000000) (dsimp:=false) (disch:=first|omega|simp only[lnx];omega) only[↓ypre,ypost,↓reduceIte,reduceEqDiff,reduceAdd,reduceSub,reduceLeDiff,zz0,ynew,f0,f12,f13,f14,f15,f121,schV,ou1]);try simp only[yback])
 generalize hH18:AH.new H17 _=H18
 obtain⟨g18,p18,n18⟩:=new_facts hH18
 have g14:=pre_get (p17.trans p18) g14
 have g15:=pre_get (p17.trans p18) g15
 ((try simp (maxSteps:=3000000) (dsimp:=false) (disch:=first|omega|simp only[lnx];omega) only[↓ypre,ypost,↓reduceIte,reduceEqDiff,reduceAdd,reduceSub,reduceLeDiff,zz0,ynew,f0,f12,f13,f14,f15,f121,rdn_of g14,cel_len,F9,tF,rdn_of g15]);try simp only[yback])
 refine up (s_SplitProduct (x:=u) (i:=i) (f0:=r) (F:=fo) (hv2.pre (p16.trans (p17.trans p18))) xu.l bf fun u2 H19 p19 ku2=>?_)
 rw[hG] at ku2 ⊢
 have qu2:=ku2.now
 have ou2:isOne u2=true:=qu2.one
 have vlu2:=qu2.1.len
 refine WO_cut (fun f:Fr=>f 0=cv∧f 12=.pointer (some ⟨H13.length,0,none⟩)∧f 16=.pointer (some ⟨H17.length,0,none⟩)∧f 17=I64 G.2∧f 129=.tuple #[schV G.1 u2,I64 G.2]∧True) ⟨(by first|rfl|exact f0|simp[upd_apply,f0]),(by first|rfl|exact f12|simp[upd_apply,f12]),(by first|rfl|simp[upd_apply]),(by first|rfl|simp[upd_apply]),(by first|rfl|simp[upd_apply]),trivial⟩ ?_
 rintro f ⟨f0,f12,f16,f17,f129,-⟩
 ((try simp (maxSteps:=3000000) (dsimp:=false) (disch:=first|omega|simp only[lnx];omega) only[↓ypre,ypost,↓reduceIte,reduceEqDiff,reduceAdd,reduceSub,reduceLeDiff,zz0,ynew,f0,f12,f16,f17,f129,schV,ou2]);try simp only[yback])
 generalize hH20:AH.new H19 _=H20
 obtain⟨g20,p20,n20⟩:=new_facts hH20
 have g18:=pre_get (p19.trans p20) g18
 ((try simp (maxSteps:=3000000) (dsimp:=false) (disch:=first|omega|simp only[lnx];omega) only[↓ypre,ypost,↓reduceIte,reduceEqDiff,reduceAdd,reduceSub,reduceLeDiff,zz0,ynew,f0,f12,f16,f17,f129,decide_eq_false (show ¬ (G.2)≠(G.2) from fun h=>h rfl),rdn_of g18,rdn_of g20]);try simp only[yback])
 refine up (l_schemes5 (x:=G.1) (qu1.pre (p18.trans (p19.trans p20))) (qu2.pre p20) sG fun H21 p21=>?_)
 refine WO_cut (fun f:Fr=>f 0=cv∧f 12=.pointer (some ⟨H13.length,0,none⟩)∧f 16=.pointer (some ⟨H17.length,0,none⟩)∧f 17=I64 G.2∧f 135=.bool false∧f 138=.bool true∧True) ⟨(by first|rfl|exact f0|simp[upd_apply,f0]),(by first|rfl|exact f12|simp[upd_apply,f12]),(by first|rfl|exact f16|simp[upd_apply,f16]),(by first|rfl|exact f17|simp[upd_apply,f17]),(by first|rfl|simp[upd_apply]),(by first|rfl|simp[upd_apply]),trivial⟩ ?_
 rintro f ⟨f0,f12,f16,f17,f135,f138,-⟩
 refine WO_join2 (fun f h'=>(f 0=cv)∧H21<+:h') ?_ ?_
 ·skip
  by_cases z2:G.2=0
  case neg=>
   ((try simp (maxSteps:=3000000) (dsimp:=false) (disch:=first|omega|simp only[lnx];omega) only[↓ypre,ypost,↓reduceIte,reduceEqDiff,reduceAdd,reduceSub,reduceLeDiff,zz0,ynew,f0,f12,f16,f17,f135,f138,decide_eq_false z2]);try simp only[yback])
   rw[JnQ_n]
   exact⟨(by first|rfl|exact f0|(simp[upd_apply,f0];done)),List.prefix_refl _⟩
  obtain⟨gu,gG,eu,lG⟩:=spR_of (i:=i) (f:=r) hx2 bf (by rw[hG];exact z2)
  rw[hG] at gG eu lG
  have eu:=heR_true gu gG eu
  have bu:=(isX_sz gu.ok).2
  have wu:IntKind.i64.wrap ((u.ps.length:Int)+1)=(u.ps.length:Int)+1:=wrap64_in (by omega) (by omega)
  have lG:(G.1.ps.length:Int)=(u.ps.length:Int)+1:=by omega
  have g14:=pre_get (p19.trans (p20.trans p21)) g14
  have g18:=pre_get p21 g18
  ((try simp (maxSteps:=3000000) (dsimp:=false) (disch:=first|omega|simp only[lnx];omega) only[↓ypre,ypost,↓reduceIte,reduceEqDiff,reduceAdd,reduceSub,reduceLeDiff,zz0,ynew,f0,f12,f16,f17,f135,f138,decide_eq_true z2,rdn_of g14,rdn_of g18]);try simp only[yback])
  refine up (i_HaveEqualSums (x:=u) (y:=G.1) (hv2.pre ((p16.trans (p17.trans p18)).trans (p19.trans (p20.trans p21)))) xu.l (qu1.pre ((p18.trans p19).trans (p20.trans p21))) sG fun H22 p22=>?_)
  rw[eu]
  refine WO_cut (fun f:Fr=>f 0=cv∧f 12=.pointer (some ⟨H13.length,0,none⟩)∧f 16=.pointer (some ⟨H17.length,0,none⟩)∧f 146=.tuple #[.bool true,I64 0]∧True) ⟨(by first|rfl|exact f0|simp[upd_apply,f0]),(by first|rfl|exact f12|simp[upd_apply,f12]),(by first|rfl|exact f16|simp[upd_apply,f16]),(by first|rfl|simp[upd_apply]),trivial⟩ ?_
  rintro f ⟨f0,f12,f16,f146,-⟩
  have g18:=pre_get p22 g18
  have g14:=pre_get p22 g14
  ((try simp (maxSteps:=3000000) (dsimp:=false) (disch:=first|omega|simp only[lnx];omega) only[↓ypre,ypost,↓reduceIte,reduceEqDiff,reduceAdd,reduceSub,reduceLeDiff,zz0,ynew,f0,f12,f16,f146,show decide ((0:Int)≠0)=false from rfl,rd1_of g18,vlu1,rd1_of g14,vl2,wu,decide_eq_false (show ¬ (G.1.ps.length:Int)≠(u.ps.length:Int)+1 from fun h=>h lG)]);try simp only[yback])
  rw[JnQ_n]
  exact⟨(by first|rfl|exact f0|(simp[upd_apply,f0];done)),p22⟩
 rintro f HX23 ⟨f0,pX23⟩
 ((try simp (maxSteps:=3000000) (dsimp:=false) (disch:=first|omega|simp only[lnx];omega) only[↓ypre,ypost,↓reduceIte,reduceEqDiff,reduceAdd,reduceSub,reduceLeDiff,zz0,ynew,f0]);try simp only[yback])
 refine up (s_DrawPlusMove (c.pre ((((p1.trans p2).trans (p3.trans p4)).trans ((p5.trans p6).trans (p7.trans pX12))).trans (((p13.trans p16).trans (p17.trans p18)).trans ((p19.trans p20).trans (p21.trans pX23))))) fun z v3 j k H24 p24 hv3 xz nk3=>?_)
 have o3:isOne v3=true:=nk3.one
 have vl3:=hv3.1.len
 have hx3:=(⟨hv3.1.widL,hv3.2⟩:Wid 27 z.ps∧Byt 27 z.ps)
 refine WO_cut (fun f:Fr=>f 0=cv∧f 167=.tuple #[schV z v3,I64 j,I64 k]∧True) ⟨(by first|rfl|exact f0|simp[upd_apply,f0]),(by first|rfl|simp[upd_apply]),trivial⟩ ?_
 rintro f ⟨f0,f167,-⟩
 ((try simp (maxSteps:=3000000) (dsimp:=false) (disch:=first|omega|simp only[lnx];omega) only[↓ypre,ypost,↓reduceIte,reduceEqDiff,reduceAdd,reduceSub,reduceLeDiff,zz0,ynew,f0,f167,schV,o3]);try simp only[yback])
 generalize hH25:AH.new H24 _=H25
 obtain⟨g25,p25,n25⟩:=new_facts hH25
 ((try simp (maxSteps:=3000000) (dsimp:=false) (disch:=first|omega|simp only[lnx];omega) only[↓ypre,ypost,↓reduceIte,reduceEqDiff,reduceAdd,reduceSub,reduceLeDiff,zz0,ynew,f0,f167,rdn_of g25]);try simp only[yback])
 refine up (i_PlusMove (x:=z) (i:=j) (k:=k) (hv3.pre p25) nk3 xz.l fun t1 H26 p26 kt1 nkt1=>?_)
 have sD:=pmR_small (i:=j) (k:=k) hx3
 generalize hD:pmR z j k=D at kt1 sD
 have qt1:=kt1.now
 have ot1:isOne t1=true:=nkt1.one
 have vlt1:=qt1.1.len
 refine WO_cut (fun f:Fr=>f 0=cv∧f 22=.pointer (some ⟨H24.length,0,none⟩)∧f 23=I64 j∧f 24=I64 k∧f 175=.tuple #[schV D.1 t1,I64 D.2]∧True) ⟨(by first|rfl|exact f0|simp[upd_apply,f0]),(by first|rfl|simp[upd_apply]),(by first|rfl|simp[upd_apply]),(by first|rfl|simp[upd_apply]),(by first|rfl|simp[upd_apply]),trivial⟩ ?_
 rintro f ⟨f0,f22,f23,f24,f175,-⟩
 ((try simp (maxSteps:=3000000) (dsimp:=false) (disch:=first|omega|simp only[lnx];omega) only[↓ypre,ypost,↓reduceIte,reduceEqDiff,reduceAdd,reduceSub,reduceLeDiff,zz0,ynew,f0,f22,f23,f24,f175,schV,ot1]);try simp only[yback])
 generalize hH27:AH.new H26 _=H27
 obtain⟨g27,p27,n27⟩:=new_facts hH27
 have g25:=pre_get (p26.trans p27) g25
 ((try simp (maxSteps:=3000000) (dsimp:=false) (disch:=first|omega|simp only[lnx];omega) only[↓ypre,ypost,↓reduceIte,reduceEqDiff,reduceAdd,reduceSub,reduceLeDiff,zz0,ynew,f0,f22,f23,f24,f175,rdn_of g25]);try simp only[yback])
 refine up (s_PlusMove (x:=z) (i:=j) (k:=k) (hv3.pre (p25.trans (p26.trans p27))) xz.l fun t2 H28 p28 kt2=>?_)
 rw[hD] at kt2 ⊢
 have qt2:=kt2.now
 have ot2:isOne t2=true:=qt2.one
 have vlt2:=qt2.1.len
 refine WO_cut (fun f:Fr=>f 0=cv∧f 22=.pointer (some ⟨H24.length,0,none⟩)∧f 25=.pointer (some ⟨H26.length,0,none⟩)∧f 26=I64 D.2∧f 182=.tuple #[schV D.1 t2,I64 D.2]∧True) ⟨(by first|rfl|exact f0|simp[upd_apply,f0]),(by first|rfl|exact f22|simp[upd_apply,f22]),(by first|rfl|simp[upd_apply]),(by first|rfl|simp[upd_apply]),(by first|rfl|simp[upd_apply]),trivial⟩ ?_
 rintro f ⟨f0,f22,f25,f26,f182,-⟩
 ((try simp (maxSteps:=3000000) (dsimp:=false) (disch:=first|omega|simp only[lnx];omega) only[↓ypre,ypost,↓reduceIte,reduceEqDiff,reduceAdd,reduceSub,reduceLeDiff,zz0,ynew,f0,f22,f25,f26,f182,schV,ot2]);try simp only[yback])
 generalize hH29:AH.new H28 _=H29
 obtain⟨g29,p29,n29⟩:=new_facts hH29
 have g27:=pre_get (p28.trans p29) g27
 ((try simp (maxSteps:=3000000) (dsimp:=false) (disch:=first|omega|simp only[lnx];omega) only[↓ypre,ypost,↓reduceIte,reduceEqDiff,reduceAdd,reduceSub,reduceLeDiff,zz0,ynew,f0,f22,f25,f26,f182,decide_eq_false (show ¬ (D.2)≠(D.2) from fun h=>h rfl),rdn_of g27,rdn_of g29]);try simp only[yback])
 refine up (l_schemes5 (x:=D.1) (qt1.pre (p27.trans (p28.trans p29))) (qt2.pre p29) sD fun H30 p30=>?_)
 refine WO_cut (fun f:Fr=>f 0=cv∧f 22=.pointer (some ⟨H24.length,0,none⟩)∧f 25=.pointer (some ⟨H26.length,0,none⟩)∧f 26=I64 D.2∧f 188=.bool false∧f 191=.bool true∧True) ⟨(by first|rfl|exact f0|simp[upd_apply,f0]),(by first|rfl|exact f22|simp[upd_apply,f22]),(by first|rfl|exact f25|simp[upd_apply,f25]),(by first|rfl|exact f26|simp[upd_apply,f26]),(by first|rfl|simp[upd_apply]),(by first|rfl|simp[upd_apply]),trivial⟩ ?_
 rintro f ⟨f0,f22,f25,f26,f188,f191,-⟩
 refine WO_join2 (fun f h'=>(f 0=cv)∧H30<+:h') ?_ ?_
 ·skip
  by_cases z3:D.2=0
  case neg=>
   ((try simp (maxSteps:=3000000) (dsimp:=false) (disch:=first|omega|simp only[lnx];omega) only[↓ypre,ypost,↓reduceIte,reduceEqDiff,reduceAdd,reduceSub,reduceLeDiff,zz0,ynew,f0,f22,f25,f26,f188,f191,decide_eq_false z3]);try simp only[yback])
   rw[JnQ_n]
   exact⟨(by first|rfl|exact f0|(simp[upd_apply,f0];done)),List.prefix_refl _⟩
  obtain⟨gz,gD,ez⟩:=pmR_of (i:=j) (k:=k) hx3 (by rw[hD];exact z3)
  rw[hD] at gD ez
  have ez:=heR_true gz gD ez
  have g25:=pre_get (p28.trans (p29.trans p30)) g25
  have g27:=pre_get p30 g27
  ((try simp (maxSteps:=3000000) (dsimp:=false) (disch:=first|omega|simp only[lnx];omega) only[↓ypre,ypost,↓reduceIte,reduceEqDiff,reduceAdd,reduceSub,reduceLeDiff,zz0,ynew,f0,f22,f25,f26,f188,f191,decide_eq_true z3,rdn_of g25,rdn_of g27]);try simp only[yback])
  refine up (i_HaveEqualSums (x:=z) (y:=D.1) (hv3.pre ((p25.trans (p26.trans p27)).trans (p28.trans (p29.trans p30)))) xz.l (qt1.pre ((p27.trans p28).trans (p29.trans p30))) sD fun H31 p31=>?_)
  rw[ez]
  refine WO_cut (fun f:Fr=>f 0=cv∧f 199=.tuple #[.bool true,I64 0]∧True) ⟨(by first|rfl|exact f0|simp[upd_apply,f0]),(by first|rfl|simp[upd_apply]),trivial⟩ ?_
  rintro f ⟨f0,f199,-⟩
  ((try simp (maxSteps:=3000000) (dsimp:=false) (disch:=first|omega|simp only[lnx];omega) only[↓ypre,ypost,↓reduceIte,reduceEqDiff,reduceAdd,reduceSub,reduceLeDiff,zz0,ynew,f0,f199,show decide ((0:Int)≠0)=false from rfl]);try simp only[yback])
  rw[JnQ_n]
  exact⟨(by first|rfl|exact f0|(simp[upd_apply,f0];done)),p31⟩
 rintro f HX32 ⟨f0,pX32⟩
 ((try simp (maxSteps:=3000000) (dsimp:=false) (disch:=first|omega|simp only[lnx];omega) only[↓ypre,ypost,↓reduceIte,reduceEqDiff,reduceAdd,reduceSub,reduceLeDiff,zz0,ynew,f0]);try simp only[yback])
 refine up (s_DrawAreEqualSchemes (c.pre ((((p1.trans (p2.trans p3)).trans (p4.trans (p5.trans p6))).trans ((p7.trans (pX12.trans p13)).trans (p16.trans (p17.trans p18)))).trans (((p19.trans (p20.trans p21)).trans (pX23.trans (p24.trans p25))).trans ((p26.trans (p27.trans p28)).trans (p29.trans (p30.trans pX32)))))) fun a b v4 v5 H33 p33 hv4 sa hv5 sb=>?_)
 have o4:isOne v4=true:=hv4.one
 have vl4:=hv4.1.len
 have o5:isOne v5=true:=hv5.one
 have vl5:=hv5.1.len
 have aeh:=aeR_he (x:=a) (y:=b) ⟨hv4.1.widL,hv4.2⟩ ⟨hv5.1.widL,hv5.2⟩
 obtain⟨eb,ec,hE⟩:∃ eb ec,aeR a b=(eb,ec):=⟨_,_,rfl⟩
 obtain⟨hb,hc,hS⟩:∃ hb hc,heR a b=(hb,hc):=⟨_,_,rfl⟩
 rw[hE,hS] at aeh
 refine WO_cut (fun f:Fr=>f 0=cv∧f 210=.tuple #[schV a v4,schV b v5]∧True) ⟨(by first|rfl|exact f0|simp[upd_apply,f0]),(by first|rfl|simp[upd_apply]),trivial⟩ ?_
 rintro f ⟨f0,f210,-⟩
 ((try simp (maxSteps:=3000000) (dsimp:=false) (disch:=first|omega|simp only[lnx];omega) only[↓ypre,ypost,↓reduceIte,reduceEqDiff,reduceAdd,reduceSub,reduceLeDiff,zz0,ynew,f0,f210,schV,o4,o5]);try simp only[yback])
 simp only[len_new]
 generalize hH34:AH.new H33 _=H34
 obtain⟨g34,p34,n34⟩:=new_facts hH34
 generalize hH35:AH.new H34 _=H35
 obtain⟨g35,p35,n35⟩:=new_facts hH35
 rw[n34] at g35
 have g34:=pre_get p35 g34
 ((try simp (maxSteps:=3000000) (dsimp:=false) (disch:=first|omega|simp only[lnx];omega) only[↓ypre,ypost,↓reduceIte,reduceEqDiff,reduceAdd,reduceSub,reduceLeDiff,zz0,ynew,f0,f210,wr_of g35,splice_eq,rdn_of g34]);try simp only[yback])
 generalize hH36:AH.put H35 _ _=H36
 obtain⟨q36,l36,o36,u36⟩:=put_facts hH36
 have g35:=o36 (get_lt g35)
 have g34:=q36 H33.length _ (by omega) g34
 have p36:H33<+:H36:=hH36▸pre_put (p34.trans p35) (by omega)
 ((try simp (maxSteps:=3000000) (dsimp:=false) (disch:=first|omega|simp only[lnx];omega) only[↓ypre,ypost,↓reduceIte,reduceEqDiff,reduceAdd,reduceSub,reduceLeDiff,zz0,ynew,f0,f210,rdn_of g34,rdn_of g35]);try simp only[yback])
 refine i_AreEqualSchemes (x:=a) (y:=b) (hv4.pre p36) sa (hv5.pre p36) sb fun H37 p37=>?_
 rw[hE]
 refine WO_cut (fun f:Fr=>f 0=cv∧f 31=.pointer (some ⟨H33.length,0,none⟩)∧f 32=.pointer (some ⟨(H33.length+1),0,none⟩)∧f 216=.tuple #[.bool eb,I64 ec]∧True) ⟨(by first|rfl|exact f0|simp[upd_apply,f0]),(by first|rfl|simp[upd_apply]),(by first|rfl|simp[upd_apply]),(by first|rfl|simp[upd_apply]),trivial⟩ ?_
 rintro f ⟨f0,f31,f32,f216,-⟩
 have g34:=pre_get p37 g34
 have g35:=pre_get p37 g35
 ((try simp (maxSteps:=3000000) (dsimp:=false) (disch:=first|omega|simp only[lnx];omega) only[↓ypre,ypost,↓reduceIte,reduceEqDiff,reduceAdd,reduceSub,reduceLeDiff,zz0,ynew,f0,f31,f32,f216,rdn_of g34,rdn_of g35]);try simp only[yback])
 refine up (s_AreEqualSchemes (x:=a) (y:=b) (hv4.pre (p36.trans p37)) sa (hv5.pre (p36.trans p37)) sb fun H38 p38=>?_)
 rw[hE]
 refine WO_cut (fun f:Fr=>f 0=cv∧f 31=.pointer (some ⟨H33.length,0,none⟩)∧f 32=.pointer (some ⟨(H33.length+1),0,none⟩)∧f 33=.bool eb∧f 34=I64 ec∧f 222=.tuple #[.bool eb,I64 ec]∧True) ⟨(by first|rfl|exact f0|simp[upd_apply,f0]),(by first|rfl|exact f31|simp[upd_apply,f31]),(by first|rfl|exact f32|simp[upd_apply,f32]),(by first|rfl|simp[upd_apply]),(by first|rfl|simp[upd_apply]),(by first|rfl|simp[upd_apply]),trivial⟩ ?_
 rintro f ⟨f0,f31,f32,f33,f34,f222,-⟩
 have g34:=pre_get p38 g34
 have g35:=pre_get p38 g35
 ((try simp (maxSteps:=3000000) (dsimp:=false) (disch:=first|omega|simp only[lnx];omega) only[↓ypre,ypost,↓reduceIte,reduceEqDiff,reduceAdd,reduceSub,reduceLeDiff,zz0,ynew,f0,f31,f32,f33,f34,f222,rdn_of g34,rdn_of g35]);try simp only[yback])
 refine up (i_HaveEqualSums (x:=a) (y:=b) (hv4.pre (p36.trans (p37.trans p38))) sa (hv5.pre (p36.trans (p37.trans p38))) sb fun H39 p39=>?_)
 rw[hS]
 refine WO_cut (fun f:Fr=>f 0=cv∧f 31=.pointer (some ⟨H33.length,0,none⟩)∧f 32=.pointer (some ⟨(H33.length+1),0,none⟩)∧f 33=.bool eb∧f 34=I64 ec∧f 35=.bool eb∧f 36=I64 ec∧f 228=.tuple #[.bool hb,I64 hc]∧True) ⟨(by first|rfl|exact f0|simp[upd_apply,f0]),(by first|rfl|exact f31|simp[upd_apply,f31]),(by first|rfl|exact f32|simp[upd_apply,f32]),(by first|rfl|exact f33|simp[upd_apply,f33]),(by first|rfl|exact f34|simp[upd_apply,f34]),(by first|rfl|simp[upd_apply]),(by first|rfl|simp[upd_apply]),(by first|rfl|simp[upd_apply]),trivial⟩ ?_
 rintro f ⟨f0,f31,f32,f33,f34,f35,f36,f228,-⟩
 have g34:=pre_get p39 g34
 have g35:=pre_get p39 g35
 ((try simp (maxSteps:=3000000) (dsimp:=false) (disch:=first|omega|simp only[lnx];omega) only[↓ypre,ypost,↓reduceIte,reduceEqDiff,reduceAdd,reduceSub,reduceLeDiff,zz0,ynew,f0,f31,f32,f33,f34,f35,f36,f228,rdn_of g34,rdn_of g35]);try simp only[yback])
 refine up (s_HaveEqualSums (x:=a) (y:=b) (hv4.pre ((p36.trans p37).trans (p38.trans p39))) sa (hv5.pre ((p36.trans p37).trans (p38.trans p39))) sb fun H40 p40=>?_)
 rw[hS]
 refine WO_cut (fun f:Fr=>f 0=cv∧f 33=.bool eb∧f 34=I64 ec∧f 35=.bool eb∧f 36=I64 ec∧f 37=.bool hb∧f 38=I64 hc∧f 234=.tuple #[.bool hb,I64 hc]∧True) ⟨(by first|rfl|exact f0|simp[upd_apply,f0]),(by first|rfl|exact f33|simp[upd_apply,f33]),(by first|rfl|exact f34|simp[upd_apply,f34]),(by first|rfl|exact f35|simp[upd_apply,f35]),(by first|rfl|exact f36|simp[upd_apply,f36]),(by first|rfl|simp[upd_apply]),(by first|rfl|simp[upd_apply]),(by first|rfl|simp[upd_apply]),trivial⟩ ?_
 rintro f ⟨f0,f33,f34,f35,f36,f37,f38,f234,-⟩
 refine WO_join0 (fun f h'=>(f 0=cv)∧H40<+:h') ?_ ?_
 ·skip
  cases eb with
  | false=>
   ((try simp (maxSteps:=3000000) (dsimp:=false) (disch:=first|omega|simp only[lnx];omega) only[↓ypre,ypost,↓reduceIte,reduceEqDiff,reduceAdd,reduceSub,reduceLeDiff,zz0,ynew,f0,f33,f34,f35,f36,f37,f38,f234,decide_eq_false (show ¬ (ec)≠(ec) from fun h=>h rfl),show ((false==false) != true)=false from rfl,decide_eq_false (show ¬ (hc)≠(hc) from fun h=>h rfl),show ((hb==hb) != true)=false by simp]);try simp only[yback])
   rw[JnQ_n]
   exact⟨(by first|rfl|exact f0|(simp[upd_apply,f0];done)),List.prefix_refl _⟩
  | true=>
   obtain rfl:hb=true:=aeh rfl
   ((try simp (maxSteps:=3000000) (dsimp:=false) (disch:=first|omega|simp only[lnx];omega) only[↓ypre,ypost,↓reduceIte,reduceEqDiff,reduceAdd,reduceSub,reduceLeDiff,zz0,ynew,f0,f33,f34,f35,f36,f37,f38,f234,decide_eq_false (show ¬ (ec)≠(ec) from fun h=>h rfl),show ((true==true) != true)=false from rfl,decide_eq_false (show ¬ (hc)≠(hc) from fun h=>h rfl)]);try simp only[yback])
   rw[JnQ_n]
   exact⟨(by first|rfl|exact f0|(simp[upd_apply,f0];done)),List.prefix_refl _⟩
 rintro f HX41 ⟨f0,pX41⟩
 ((try simp (maxSteps:=3000000) (dsimp:=false) (disch:=first|omega|simp only[lnx];omega) only[↓ypre,ypost,↓reduceIte,reduceEqDiff,reduceAdd,reduceSub,reduceLeDiff,zz0,ynew,f0]);try simp only[yback])
 refine up (s_DrawNormalProducts (c.pre ((((p1.trans (p2.trans p3)).trans ((p4.trans p5).trans (p6.trans p7))).trans (((pX12.trans p13).trans (p16.trans p17)).trans ((p18.trans p19).trans (p20.trans p21)))).trans ((((pX23.trans p24).trans (p25.trans p26)).trans ((p27.trans p28).trans (p29.trans p30))).trans (((pX32.trans p33).trans (p36.trans p37)).trans ((p38.trans p39).trans (p40.trans pX41)))))) fun t v6 H42 p42 hv6 st=>?_)
 have o6:isOne v6=true:=hv6.one
 have vl6:=hv6.1.len
 have hx6:=(⟨hv6.1.widL,hv6.2⟩:Wid 27 t.ps∧Byt 27 t.ps)
 refine WO_cut (fun f:Fr=>f 263=schV t v6∧True) ⟨(by first|rfl|simp[upd_apply]),trivial⟩ ?_
 rintro f ⟨f263,-⟩
 ((try simp (maxSteps:=3000000) (dsimp:=false) (disch:=first|omega|simp only[lnx];omega) only[↓ypre,ypost,↓reduceIte,reduceEqDiff,reduceAdd,reduceSub,reduceLeDiff,zz0,ynew,f263,schV,o6]);try simp only[yback])
 generalize hH43:AH.new H42 _=H43
 obtain⟨g43,p43,n43⟩:=new_facts hH43
 ((try simp (maxSteps:=3000000) (dsimp:=false) (disch:=first|omega|simp only[lnx];omega) only[↓ypre,ypost,↓reduceIte,reduceEqDiff,reduceAdd,reduceSub,reduceLeDiff,zz0,ynew,f263,rdn_of g43]);try simp only[yback])
 refine up (i_NormalProducts (x:=t) (hv6.pre p43) st fun n1 H44 p44 kn1 nkn1=>?_)
 have sM:=nmR_small hx6
 generalize hM:nmR t=M at kn1 sM
 have qn1:=kn1.now
 have on1:isOne n1=true:=nkn1.one
 have vln1:=qn1.1.len
 refine WO_cut (fun f:Fr=>f 41=.pointer (some ⟨H42.length,0,none⟩)∧f 266=.tuple #[schV M.1 n1,I64 M.2]∧True) ⟨(by first|rfl|simp[upd_apply]),(by first|rfl|simp[upd_apply]),trivial⟩ ?_
 rintro f ⟨f41,f266,-⟩
 ((try simp (maxSteps:=3000000) (dsimp:=false) (disch:=first|omega|simp only[lnx];omega) only[↓ypre,ypost,↓reduceIte,reduceEqDiff,reduceAdd,reduceSub,reduceLeDiff,zz0,ynew,f41,f266,schV,on1]);try simp only[yback])
 generalize hH45:AH.new H44 _=H45
 obtain⟨g45,p45,n45⟩:=new_facts hH45
 have g43:=pre_get (p44.trans p45) g43
 ((try simp (maxSteps:=3000000) (dsimp:=false) (disch:=first|omega|simp only[lnx];omega) only[↓ypre,ypost,↓reduceIte,reduceEqDiff,reduceAdd,reduceSub,reduceLeDiff,zz0,ynew,f41,f266,rdn_of g43]);try simp only[yback])
 refine up (s_NormalProducts (x:=t) (hv6.pre (p43.trans (p44.trans p45))) st fun n2 H46 p46 kn2=>?_)
 rw[hM] at kn2 ⊢
 have qn2:=kn2.now
 have on2:isOne n2=true:=qn2.one
 have vln2:=qn2.1.len
 refine WO_cut (fun f:Fr=>f 41=.pointer (some ⟨H42.length,0,none⟩)∧f 42=.pointer (some ⟨H44.length,0,none⟩)∧f 43=I64 M.2∧f 271=.tuple #[schV M.1 n2,I64 M.2]∧True) ⟨(by first|rfl|exact f41|simp[upd_apply,f41]),(by first|rfl|simp[upd_apply]),(by first|rfl|simp[upd_apply]),(by first|rfl|simp[upd_apply]),trivial⟩ ?_
 rintro f ⟨f41,f42,f43,f271,-⟩
 ((try simp (maxSteps:=3000000) (dsimp:=false) (disch:=first|omega|simp only[lnx];omega) only[↓ypre,ypost,↓reduceIte,reduceEqDiff,reduceAdd,reduceSub,reduceLeDiff,zz0,ynew,f41,f42,f43,f271,schV,on2]);try simp only[yback])
 generalize hH47:AH.new H46 _=H47
 obtain⟨g47,p47,n47⟩:=new_facts hH47
 have g45:=pre_get (p46.trans p47) g45
 ((try simp (maxSteps:=3000000) (dsimp:=false) (disch:=first|omega|simp only[lnx];omega) only[↓ypre,ypost,↓reduceIte,reduceEqDiff,reduceAdd,reduceSub,reduceLeDiff,zz0,ynew,f41,f42,f43,f271,decide_eq_false (show ¬ (M.2)≠(M.2) from fun h=>h rfl),rdn_of g45,rdn_of g47]);try simp only[yback])
 refine up (l_schemes5 (x:=M.1) (qn1.pre (p45.trans (p46.trans p47))) (qn2.pre p47) sM fun H48 p48=>?_)
 refine WO_cut (fun f:Fr=>f 41=.pointer (some ⟨H42.length,0,none⟩)∧f 42=.pointer (some ⟨H44.length,0,none⟩)∧f 43=I64 M.2∧f 277=.bool false∧f 280=.bool true∧True) ⟨(by first|rfl|exact f41|simp[upd_apply,f41]),(by first|rfl|exact f42|simp[upd_apply,f42]),(by first|rfl|exact f43|simp[upd_apply,f43]),(by first|rfl|simp[upd_apply]),(by first|rfl|simp[upd_apply]),trivial⟩ ?_
 rintro f ⟨f41,f42,f43,f277,f280,-⟩
 by_cases z4:M.2=0
 case neg=>
  ((try simp (maxSteps:=3000000) (dsimp:=false) (disch:=first|omega|simp only[lnx];omega) only[↓ypre,ypost,↓reduceIte,reduceEqDiff,reduceAdd,reduceSub,reduceLeDiff,zz0,ynew,f41,f42,f43,f277,f280,decide_eq_false z4]);try simp only[yback])
 obtain⟨gt,eM⟩:=nmR_of hx6 (by rw[hM];exact z4)
 rw[hM] at eM
 have eM1:M.1=wps t (nrms t.p t.ps):=by rw[eM]
 have en:=aeR_nm gt
 rw[←eM1] at en
 have g43:=pre_get (p46.trans (p47.trans p48)) g43
 have g45:=pre_get p48 g45
 ((try simp (maxSteps:=3000000) (dsimp:=false) (disch:=first|omega|simp only[lnx];omega) only[↓ypre,ypost,↓reduceIte,reduceEqDiff,reduceAdd,reduceSub,reduceLeDiff,zz0,ynew,f41,f42,f43,f277,f280,decide_eq_true z4,rdn_of g43,rdn_of g45]);try simp only[yback])
 refine i_AreEqualSchemes (x:=t) (y:=M.1) (hv6.pre ((p43.trans (p44.trans p45)).trans (p46.trans (p47.trans p48)))) st (qn1.pre ((p45.trans p46).trans (p47.trans p48))) sM fun H49 p49=>?_
 rw[en]
 refine WO_cut (fun f:Fr=>f 288=.tuple #[.bool true,I64 0]∧True) ⟨(by first|rfl|simp[upd_apply]),trivial⟩ ?_
 rintro f ⟨f288,-⟩
 ((try simp (maxSteps:=3000000) (dsimp:=false) (disch:=first|omega|simp only[lnx];omega) only[↓ypre,ypost,↓reduceIte,reduceEqDiff,reduceAdd,reduceSub,reduceLeDiff,zz0,ynew,f288,show decide ((0:Int)≠0)=false from rfl]);try simp only[yback])
end Go.Proofs.YtigpfopobpoamaaGreat.X

set_option linter.unusedVariables false
set_option linter.unusedSimpArgs false
namespace Go.Proofs.YtigpfopobpoamaaGreat.X
open Go Go.RowKit Go.ChangeShapes Go.WideShapes Go.Deep
section
variable {H:Type} {enc:TypeId×Value→H} {P:Program} {W:World}
theorem cells_of_slice {t e:TypeId} {v:Value} {r:Reach} {base:Nat} (ht:P.underlying t=some (.slice e)) (hval:Value.okWide P W r base t v):v.cells.toList=[v]:=by
 cases v with
 | agg cs=>simp[Value.okWide,ht,Cell.okWide,Cell.ok] at hval
 | _=>rfl
end
theorem u8_in {n:Int} (h:(Lit.int .u8 n).wf=true):0≤n∧n≤255:=by
 simp[Lit.wf,IntKind.min,IntKind.max,IntKind.signed,IntKind.bits] at h
 omega
def sideBy (P:Program):List Field→Nat→Nat→Bool
 | [],o,m=>o==m
 | f::fs,o,m=>f.offset==o&&sideBy P fs (o+P.cellsOf f.type) m
def flatK (P:Program) (k:IntKind):Nat→TypeId→Bool
 | 0,_=>false
 | f+1,t=>match P.underlying t with
  | some (.int k')=>decide (k'=k)&&P.cellsOf t==1
  | some (.array n e)=>flatK P k f e&&P.cellsOf t==n*P.cellsOf e
  | some (.struct fs)=>sideBy P fs.toList 0 (P.cellsOf t)&&fs.toList.all fun x=>flatK P k f x.type
  | _=>false
theorem sideBy_at {P:Program}:∀ {fs:List Field} {o m j:Nat},sideBy P fs o m=true→o≤j→j<m→∃ (i:Nat) (f:Field),fs[i]?=some f∧f.offset≤j∧j<f.offset+P.cellsOf f.type
 | [],o,m,j,h,h1,h2=>by
  simp only[sideBy,beq_iff_eq] at h
  omega
 | f::fs,o,m,j,h,h1,h2=>by
  simp only[sideBy,Bool.and_eq_true,beq_iff_eq] at h
  by_cases hj:j<o+P.cellsOf f.type
  ·exact⟨0,f,rfl,by omega,by omega⟩
  ·obtain⟨i,g,q1,q2,q3⟩:=sideBy_at h.2 (by omega) h2
   exact⟨i+1,g,by rw[List.getElem?_cons_succ];exact q1,q2,q3⟩
section
variable {H:Type} {enc:TypeId×Value→H} {P:Program} {W:World} {k:IntKind}
theorem flat_trod:∀ (f:Nat) (t:TypeId) (n:Nat) (cs:List Value) (x:DataW H×List MemPlace),flatK P k f t=true→DataW.trod enc P W 0 (fun _=>true) true n t cs=some x →
  cs.length=P.cellsOf t∧∀ (j:Nat) (v:Value),cs[j]?=some v→∃ m,v=.int k m∧(Lit.int k m).wf=true
 | 0,_,_,_,_,h,_=>by cases h
 | f+1,t,n,cs,x,h,hx=>by
  unfold flatK at h
  split at h
  ·rename_i k' ht
   simp only[Bool.and_eq_true,decide_eq_true_eq,beq_iff_eq] at h
   obtain⟨rfl,hc⟩:=h
   obtain⟨m,rfl,_,hw⟩:=DataW.trod_int ht hx
   refine⟨by simpa using hc.symm,fun j v hv=>?_⟩
   have:j=0:=by
    have:=(List.getElem?_eq_some_iff.1 hv).1
    simp at this
    exact this
   subst this
   simp at hv
   exact⟨m,hv.symm,hw⟩
  ·rename_i c e ht
   simp only[Bool.and_eq_true,beq_iff_eq] at h
   obtain⟨xs,m,_,_,hl,hxs,hall⟩:=DataW.trod_array ht hx
   refine⟨hl,fun j v hv=>?_⟩
   have hj:=(List.getElem?_eq_some_iff.1 hv).1
   rw[hl,h.2] at hj
   have hc:0<P.cellsOf e:=Nat.pos_of_ne_zero fun e0=>by rw[e0] at hj;simp at hj
   have hi:j / P.cellsOf e<c:=Nat.div_lt_of_lt_mul (by rw[Nat.mul_comm];exact hj)
   have hy:=hall _ hi
   rw[List.getElem?_eq_getElem (by omega)] at hy
   have hdm:=Nat.div_add_mod j (P.cellsOf e)
   rw[Nat.mul_comm] at hdm
   refine (flat_trod f e m _ _ h.1 hy).2 (j%P.cellsOf e) v ?_
   rw[List.getElem?_take,if_pos (Nat.mod_lt _ hc),List.getElem?_drop,hdm]
   exact hv
  ·rename_i fs ht
   simp only[Bool.and_eq_true] at h
   obtain⟨xs,m,_,_,hl,hxs,hall⟩:=DataW.trod_struct ht hx
   refine⟨hl,fun j v hv=>?_⟩
   have hj:=(List.getElem?_eq_some_iff.1 hv).1
   rw[hl] at hj
   obtain⟨i,g,q1,q2,q3⟩:=sideBy_at h.1 (Nat.zero_le _) hj
   have q1':fs[i]?=some g:=by simpa using q1
   have hy:=hall i g q1'
   have hi:i<xs.length:=by
    rw[hxs]
    exact (Array.getElem?_eq_some_iff.1 q1').1
   rw[List.getElem?_eq_getElem hi] at hy
   have hg:flatK P k f g.type=true:=List.all_eq_true.1 h.2 g (List.mem_of_getElem? q1)
   refine (flat_trod f g.type m _ _ hg hy).2 (j-g.offset) v ?_
   rw[List.getElem?_take,if_pos (by omega),List.getElem?_drop,show g.offset+(j-g.offset)=j by omega]
   exact hv
  ·cases h
def ArgS (w:Nat) (v:Value) (L:List (List Int)):Prop:=((v=.slice none 0 0∨v=.slice none 0 3)∧L=[])∨L≠[]∧∃ b,v=.slice (some ⟨b,0,none⟩) L.length w
theorem adm_elems2 {γ:List G} {h:AH} (A:Adm P W γ h) {t e:TypeId} {n w f:Nat} {cs:List Value} {x:DataW H×List MemPlace} (ht:P.underlying t=some (.slice e)) (hf:flatK P k f e=true)
  (hw:P.cellsOf e=w) (hw0:0<w) (hx:DataW.trod enc P W 0 (fun _=>true) true n t cs=some x) :
  ∃ v' v L γ' h',cs=[v']∧γ<+:γ'∧h<+:h'∧Adm P W γ' h'∧VR γ' v v'∧Els k w h' v L∧L.length≤maxLen∧ArgS w v L∧∀ i,i<L.length→∀ j,j<w→(Lit.int k ((L.getD i []).getD j 0)).wf=true:=by
 rcases open_slice ht hx with⟨rfl,_⟩|⟨a,len,cap,m,n',D,Pl,rfl,hb,hl,hm,hmm,_,hcell⟩
 ·exact⟨_,.slice none 0 0,[],γ,h,rfl,List.prefix_refl _,List.prefix_refl _,A,.nils,.inl ⟨rfl,0,by omega,rfl⟩,Nat.zero_le _,.inl ⟨.inl rfl,rfl⟩,fun i hi=>by simp at hi⟩
 ·by_cases h0:len=0
  ·subst h0
   exact⟨_,.slice none 0 3,[],γ,h,rfl,List.prefix_refl _,List.prefix_refl _,A,.empn _ _,.inl ⟨rfl,3,by omega,rfl⟩,Nat.zero_le _,.inl ⟨.inr rfl,rfl⟩,fun i hi=>by simp at hi⟩
  ·have hmc:m=cap:=hmm
   have cell:∀ i,i<cap→∀ r,r<w→∃ z,W.cell? ((a.add (i*w)).add r)=some (.int k z)∧(Lit.int k z).wf=true:=fun i hi r hr=>by
    obtain⟨cs',h1,h2⟩:=hcell i (by omega)
    rw[hw] at h1
    obtain⟨_,hlen,hc⟩:=World.cells?_some h1
    obtain⟨_,hall⟩:=flat_trod f e n' cs' _ hf h2
    have hr':r<cs'.length:=by omega
    obtain⟨z,hz,hwf⟩:=hall r _ (List.getElem?_eq_getElem hr')
    refine⟨z,?_,hwf⟩
    rw[hc r hr,List.getElem?_eq_getElem hr',hz]
   obtain⟨z0,hz,_⟩:=cell 0 (by omega) 0 hw0
   rw[Nat.zero_mul] at hz
   have a0:a.add 0=a:=by simp[Addr.add]
   rw[a0,a0] at hz
   have hsp:a.spot=none:=by
    unfold World.cell? at hz
    split at hz
    ·split at hz
     ·cases hz
     ·rename_i hs
      simpa using hs
    ·cases hz
   have hbl:a.block<W.heap.size:=World.block_lt_of_cell? W _ hz
   have cell':∀ j,j<len*w→∃ z,W.cell? ⟨a.block,a.off+j,none⟩=some (.int k z)∧(Lit.int k z).wf=true:=fun j hj=>by
    have hi:j / w<len:=Nat.div_lt_of_lt_mul (by rw[Nat.mul_comm];exact hj)
    obtain⟨z,q1,q2⟩:=cell (j / w) (by omega) (j%w) (Nat.mod_lt _ hw0)
    refine⟨z,?_,q2⟩
    rw[add_off a hsp,add_off _ rfl] at q1
    have hdm:=Nat.div_add_mod j w
    rw[Nat.mul_comm] at hdm
    rw[show a.off+j=a.off+j / w*w+j%w by omega]
    exact q1
   obtain⟨N,hN⟩:∃ N:Nat→Int,∀ j,j<len*w→W.cell? ⟨a.block,a.off+j,none⟩=some (.int k (N j))∧(Lit.int k (N j)).wf=true:=by
    refine⟨fun j=>if hj:j<len*w then (cell' j hj).choose else 0,fun j hj=>?_⟩
    simp only[dif_pos hj]
    exact (cell' j hj).choose_spec
   let L:List (List Int):=(List.range len).map fun i=>(List.range w).map fun r=>N (i*w+r)
   have hLl:L.length=len:=by simp[L]
   have hLg:∀ i,i<len→L.getD i []=(List.range w).map fun r=>N (i*w+r):=fun i hi=>by simp[L,List.getD_eq_getElem?_getD,List.getElem?_map,List.getElem?_range hi]
   let C:List Value:=cel k ((List.range (len*w)).map N)
   have hCl:C.length=len*w:=by simp[C,cel_len]
   refine⟨_,.slice (some ⟨h.length,0,none⟩) L.length w,L,γ++[⟨a.block,a.off,cap*w⟩],h.new ⟨C,e,true,false⟩,rfl,List.prefix_append _ _,pre_new (List.prefix_refl _),?_,?_,
    .inr ⟨h.length,0,_,rfl,get_new_same,fun i hi=>?_⟩,by rw[hLl];omega,.inr ⟨fun hL=>absurd hLl (by rw[hL];exact fun e=>h0 (by simpa using e.symm)),_,rfl⟩,fun i hi j hj=>?_⟩
   ·refine A.new hbl fun j v hv=>?_
    have hj:j<len*w:=by rw[←hCl];exact (List.getElem?_eq_some_iff.1 hv).1
    have hv':C[j]?=some (.int k (N j)):=by simp[C,cel,hj]
    rw[hv'] at hv
    obtain rfl:=Option.some.inj hv
    exact⟨rfl,_,(hN j hj).1,.int _ _⟩
   ·have hcw:len*w≤cap*w:=Nat.mul_le_mul_right _ hl
    have:=VR.slc (γ:=γ++[⟨a.block,a.off,cap*w⟩]) h.length 0 L.length w ⟨a.block,a.off,cap*w⟩ (by rw[←A.rel.len];simp) hw0 (by rw[hLl];simp only;omega)
    have e1:(some a:Option Addr)=some ⟨a.block,a.off+0,none⟩:=by
     obtain⟨b,o,s⟩:=a
     simp at hsp
     subst hsp
     rfl
    rw[e1]
    have e2:(cap*w-0) / w=cap:=by rw[Nat.sub_zero];exact Nat.mul_div_cancel _ hw0
    simp only[e2,hLl] at this
    rw[hLl]
    exact this
   ·rw[hLl] at hi
    have hr:i*w+w≤len*w:=mul_row hi
    refine⟨by simp only[hCl];omega,?_⟩
    rw[hLg i hi]
    simp only[C,cel_drop,cel_take,Nat.zero_add]
    congr 1
    refine List.ext_getElem? fun r=>?_
    rw[List.getElem?_take,List.getElem?_drop,List.getElem?_map,List.getElem?_map]
    by_cases hr':r<w
    ·rw[if_pos hr',List.getElem?_range hr',List.getElem?_range (by omega)]
     rfl
    ·rw[if_neg hr',List.getElem?_eq_none (by simp;omega)]
     rfl
   ·rw[hLl] at hi
    have hr:i*w+w≤len*w:=mul_row hi
    rw[hLg i hi]
    have:((List.range w).map fun r=>N (i*w+r)).getD j 0=N (i*w+j):=by simp[List.getD_eq_getElem?_getD,List.getElem?_map,List.getElem?_range hj]
    rw[this]
    exact (hN _ (by omega)).2
theorem adm_elems {γ:List G} {h:AH} (A:Adm P W γ h) {t e:TypeId} {n w f:Nat} {cs:List Value} {x:DataW H×List MemPlace} (ht:P.underlying t=some (.slice e)) (hf:flatK P k f e=true)
  (hw:P.cellsOf e=w) (hw0:0<w) (hx:DataW.trod enc P W 0 (fun _=>true) true n t cs=some x) :
  ∃ v' v L γ' h',cs=[v']∧γ<+:γ'∧h<+:h'∧Adm P W γ' h'∧VR γ' v v'∧Els k w h' v L∧L.length≤maxLen∧∀ i,i<L.length→∀ j,j<w→(Lit.int k ((L.getD i []).getD j 0)).wf=true:=by
 obtain⟨v',v,L,γ',h',e1,q1,q2,q3,q4,q5,q6,_,q7⟩:=adm_elems2 A ht hf hw hw0 hx
 exact⟨v',v,L,γ',h',e1,q1,q2,q3,q4,q5,q6,q7⟩
end
section
variable {H:Type} {enc:TypeId×Value→H} {P:Program} {W:World}
def isByteS (P:Program) (t e:TypeId):Bool:=tySlice P t e&&flatK P .u8 1 e&&P.cellsOf e==1
theorem adm_code {γ:List G} {h:AH} (A:Adm P W γ h) {t:TypeId} (e:TypeId) (hk:isByteS P t e=true) {v:Value} {d:DataW H} {ps:List MemPlace} {r:Reach} {base:Nat} (hval:Value.okWide P W r base t v)
  (hx:DataW.Trod enc P W 0 (fun _=>true) true t v d ps) :
  ∃ L u γ' h',γ<+:γ'∧h<+:h'∧Adm P W γ' h'∧VR γ' u v∧Els .u8 1 h' u L∧Byt 1 L:=by
 simp only[isByteS,Bool.and_eq_true,beq_iff_eq] at hk
 obtain⟨⟨k1,k2⟩,k3⟩:=hk
 obtain⟨n,hx⟩:=hx
 obtain⟨v',u,L,γ',h',e1,q1,q2,q3,q4,q5,q6,q7⟩:=adm_elems A (tySlice_eq k1) k2 k3 (by decide) hx
 rw[cells_of_slice (tySlice_eq k1) hval] at e1
 have e1:v=v':=by simpa using e1
 subst e1
 exact⟨L,u,γ',h',q1,q2,q3,q4,q5,fun i hi j hj=>u8_in (q7 i hi j hj)⟩
end
end Go.Proofs.YtigpfopobpoamaaGreat.X

namespace Go.Proofs.YtigpfopobpoamaaGreat.fnReductions
open Go Go.ChangeShapes Go.WideShapes Go.ChangeAt Go.RowKit Go.Proofs.YtigpfopobpoamaaGreat.X
set_option linter.unusedVariables false
theorem own:ownKnob Tryz.prog.godebug=none:=by kernel_rfl
theorem laid:laidOutB Tryz.prog=true:=by kernel_rfl
theorem shapeY:isByteS Tryz.prog 22 5=true:=by kernel_rfl
theorem readable0:Tryz.prog.readableRec 22=true:=by kernel_rfl
theorem intable0:22<Tryz.prog.types.size:=of_decide_eq_true (by kernel_rfl)
theorem isbool:Tryz.prog.underlying 4=some .bool:=by kernel_rfl
theorem isint:Tryz.prog.underlying 2=some (.int .i64):=by kernel_rfl
set_option maxRecDepth 100000 in
theorem lifted (os:Os) (started:os.Started) (H:Type) (enc:TypeId×Value→H) :
  ReturnsInHanded {} Tryz.checked os 3 .any (Rows.fnReductionsSpec.pre6 enc Tryz.prog Tryz.f3 Rows.fnReductionsRow.domain false) (Rows.fnReductionsSpec.post enc Tryz.prog Tryz.f3 false true false false):=by
 refine returnsInHanded_of_change_sized (C:=Tryz.checked) own started (by kernel_rfl) Tryz.func3
  (ChangeSpec.witness6 (enc:=enc) (C:=Tryz.checked) false ⟨#[],#[.slice none 0 0],[]⟩ 8 (by kernel_rfl) (by kernel_rfl) (by kernel_rfl) (by kernel_rfl)) ?_
 intro W base args ds gs before hval0 hW hcnd hsz0 _
 have hval:∀ (j:Nat) t v,Tryz.f3.params[j]?=some t→args[j]?=some v→Value.okWide Tryz.prog W .any base t v:=hval0
 have hW':=hW
 obtain⟨p,q,hA0,hV,rfl,hfz,hnd⟩:=hW
 have hA:DataW.TrodAll enc Tryz.prog W 0 (fun _=>true) true Tryz.f3.params.toList args.toList ds p:=hA0
 rw[Tryz.params3] at hA hval
 obtain⟨v0,vs0,d0,ds0,p0,q0,hargs0,rfl,rfl,h0,r0⟩:=trodAll_cons hA
 obtain⟨rfl,rfl,rfl⟩:=trodAll_nil r0
 obtain rfl:args=#[v0]:=by cases args;simp_all
 obtain⟨rfl,rfl⟩:=trodVars_none hV
 obtain⟨ns0,u0,γ0,g0,pg0,ph0,A0,hv0,hi0,hl0⟩:=adm_code (Adm.nil Tryz.prog W) 5 shapeY (hval 0 _ v0 rfl rfl) h0
 have hi0':=hi0
 have key:=law_Reductions hi0' hl0
 refine (calls_of_WF (S:=S1) orders esound1 tsound A0 (VRL.cons hv0 (VRL.nil _)) key).mono fun e W' ⟨v,u,γ1,h1,he,hvr,hb,bel⟩=>?_
 subst hb
 obtain rfl:=hvr.bool_inv
 subst he
 have st:=stays_all laid bel (ts:=[22]) (fun t ht=>by
  simp only[List.mem_cons,List.not_mem_nil,or_false] at ht
  rw[ht]
  exact⟨readable0,intable0⟩) hA
 exact⟨_,rfl,_,_,_,[],_,[],hW',trodAll_mk1 (shut_bool isbool _),st,rfl,bel.frame _,fun h=>by cases h⟩
theorem j0:Program.unfollowed Tryz.pinned.checked.prog 3=true:=by kernel_rfl
theorem j1:(Rows.fnReductionsRow.inPlace==Program.inPlace Tryz.pinned.checked.prog 3)=true:=by kernel_rfl
theorem j2:(Rows.fnReductionsRow.unfollowed==Program.unfollowed Tryz.pinned.checked.prog 3)=true:=by
 rw[j0]
 rfl
theorem j3:(Rows.fnReductionsRow.recurses==Program.recurses Tryz.pinned.checked.prog 3)=true:=by
 unfold Program.recurses
 rw[j0]
 rfl
theorem j4:(Rows.fnReductionsRow.named==Program.varsNamed Tryz.pinned.checked.prog 3)=true:=by kernel_rfl
theorem closed:joinedFacts Tryz.pinned.checked.prog 3 Tryz.f3 Rows.fnReductionsSpec Rows.fnReductionsRow=true:=by
 unfold joinedFacts
 rw[j1,j2,j3,j4]
 kernel_rfl
theorem over:Rows.fnReductionsRow.holds Tryz.pinned (OpenSpec.ofChange Rows.fnReductionsSpec):=
 OpenClaim.holds_of_wide 3 Tryz.f3 rfl rfl rfl rfl rfl rfl rfl ⟨rfl,rfl,rfl,rfl,rfl⟩ rfl rfl rfl rfl rfl (by kernel_rfl) Tryz.func3 closed
  (of_decide_eq_true (by kernel_rfl)) (by unfold Func.isWrapper;first|(rw[if_pos (by decide +kernel)];kernel_rfl)|(rw[if_neg (by decide +kernel)];exact⟨rfl,rfl⟩))
  (fun os started H enc _=>lifted os started H enc)
end Go.Proofs.YtigpfopobpoamaaGreat.fnReductions
namespace Go.Proofs.YtigpfopobpoamaaGreat
theorem fnReductions_holds:Rows.FnReductionsSaid:=fnReductions.over
end Go.Proofs.YtigpfopobpoamaaGreat
