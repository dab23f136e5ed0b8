/- Texts of one claim, put together by merge.py: XBK, XBO, XBP, XBQ, XBD, XBE, XDE, XF36, XM1, XDH, XBF, XP5, XU6, XU7, XW2, XW3, XW4, XM4, XDP, XMC, XBL, XArgs, XA3, XS8, XS9, XS10, XS11, XS12, XS13, XS14, XS15, XM7, XDS, XM8, XZ9, XDT, XBR, XBS. -/
import Derived.Test.YtapafdpnmakekaaPA13
import Derived.Test.YtapafdpnmakekaaPA11
import Derived.Test.YtapafdpnmakekaaPA10
import Derived.Test.YtapafdpnmakekaaPA8
import Derived.Test.YtapafdpnmakekaaPA12
import Derived.Test.YtapafdpnmakekaaPA9
import Derived.Test.YtapafdpnmakekaaPA3
import Derived.Deep.Slices
import Derived.WideKeyArgs
import Derived.ChangeOld
import Derived.ChangeArms
import Derived.OpenShut
set_option linter.unusedVariables false
set_option linter.unusedSimpArgs false
set_option maxRecDepth 20000
set_option maxHeartbeats 4000000
namespace Go.Proofs.Ytapafdpnmakekaa.X
open Go Go.RowKit
open Nat (reduceEqDiff reduceAdd reduceSub reduceLeDiff)
theorem OwnP.pre {lo:Nat} {h h':AH} {w:Value} {L:List (List Int)} (o:OwnP lo h w L) (p:h<+:h'):OwnP lo h' w L:=by
 obtain⟨hw,o|⟨kb,fu,h1,h2,h3⟩⟩:=o
 ·exact⟨hw,.inl o⟩
 ·exact⟨hw,.inr ⟨kb,fu,h1,h2,pre_get p h3⟩⟩
theorem OwnP.low {lo lo':Nat} {h:AH} {w:Value} {L:List (List Int)} (o:OwnP lo h w L) (hl:lo'≤lo):OwnP lo' h w L:=by
 obtain⟨hw,o|⟨kb,fu,h1,h2,h3⟩⟩:=o
 ·exact⟨hw,.inl o⟩
 ·exact⟨hw,.inr ⟨kb,fu,h1,by omega,h3⟩⟩
theorem OwnP.prods {lo:Nat} {h:AH} {w:Value} {L:List (List Int)} (o:OwnP lo h w L) (b:Byt 27 L):Prods h w L:=⟨o.inE.rd,b⟩
theorem i_reduceOnce {x:Sch} {w:Value} {L:List (List Int)} {h:AH} {Q:Value→AH→Prop} (n:NL x L) (hv:Prods h w L)
  (hQ:∀ i k m w' h',h<+:h'→IsPair x.p L i k m→OwnP h.length h' w' (jn x.p L i k m)→Q (.tuple #[w',.bool true]) h')
  (hN:∀ h',h<+:h'→NoPair x.p L→Q (.tuple #[w,.bool false]) h'):WF S 160 [I64 x.p,w] h Q:=by
 refine WF_fn (fn:=c160) rfl rfl ?_
 dsimp only[c160,oO,oM,oS,oG,oK,oE,oL,oF,oX,oN]
 obtain⟨hs,h30,hall⟩:=n.g.parts
 have hP:isP x.p=true:=szX_isP hs
 have h30:L.length≤30:=h30
 have vl:=hv.1.len
 ((try simp (maxSteps:=3000000) (dsimp:=false) (disch:=first|omega|simp only[lnx];omega) only[↓ypre,ypost,↓reduceIte,reduceEqDiff,reduceAdd,reduceSub,reduceLeDiff,zz0,ynew,vl]);try simp only[yback])
 refine WC_loop_inv (fun m f K1=>∃ (i:Nat),m=L.length-i∧i≤L.length∧f 0=I64 x.p∧f 1=w∧f 11=w∧f 12=I64 L.length∧f 13=I64 i∧(h<+:K1)∧((∀ i' k',i'<i→i'<k'→k'<L.length→mrg x.p (L.getD i' []) (L.getD k' [])=none))) ?_ (L.length-0) _ _ ⟨0,rfl,by omega,(by first|rfl|simp[upd_apply]),(by first|rfl|simp[upd_apply]),(by first|rfl|simp[upd_apply]),(by first|rfl|simp[upd_apply]),(by first|rfl|simp[upd_apply]),List.prefix_refl _,(fun _ _ h=>absurd h (Nat.not_lt_zero _))⟩
 rintro m f K1 ⟨i,rfl,hi,f0,f1,f11,f12,f13,pp,no⟩
 by_cases hi':(i:Int)<L.length
 ·have hi:i<L.length:=by omega
  obtain⟨nn,off,ix,rd⟩:=((hv.pre pp).1).at hi
  have pi:Pr x.p (L.getD i []):=n.g.pr (gd_mem hi)
  have a27:=pi.bb.1
  have ra:AH.rdn K1 nn off 27=some (cel .u8 (L.getD i [])):=by
   have:=rd.1 0 27 (by omega)
   rwa [Nat.add_zero,List.drop_zero,List.take_of_length_le (by omega)] at this
  have ta:(cel .u8 (L.getD i [])).take 27=cel .u8 (L.getD i []):=List.take_of_length_le (by rw[cel_len,a27];exact Nat.le_refl _)
  have q1:(i:Int)+1=((i+1:Nat):Int):=by push_cast;rfl
  have wi:IntKind.i64.wrap ((i:Int)+1)=((i+1:Nat):Int):=by rw[wrap64_in (by omega) (by omega),q1]
  ((try simp (maxSteps:=3000000) (dsimp:=false) (disch:=first|omega|simp only[lnx];omega) only[↓ypre,ypost,↓reduceIte,reduceEqDiff,reduceAdd,reduceSub,reduceLeDiff,zz0,ynew,f0,f1,f11,f12,f13,decide_eq_true hi',ix,ra,cel_all,cel_len,a27,sp27z a27,zrep27,splice_27 a27,wi]);try simp only[yback])
  generalize hJ1:AH.new K1 _=J1
  obtain⟨b1,s1,m1⟩:=new_facts hJ1
  refine WC_loop_inv (fun m f K2=>∃ (k:Nat),m=L.length-k∧k≤L.length∧f 0=I64 x.p∧f 1=w∧f 6=I64 i∧f 7=.pointer (some ⟨K1.length,0,none⟩)∧f 8=I64 k∧f 11=w∧f 12=I64 L.length∧f 13=I64 i∧(J1<+:K2)∧(i<k)∧((∀ k',i<k'→k'<k→mrg x.p (L.getD i []) (L.getD k' [])=none))) ?_ (L.length-(i+1)) _ _ ⟨(i+1),rfl,by omega,(by first|rfl|exact f0|(simp[upd_apply];done)),(by first|rfl|exact f1|(simp[upd_apply];done)),(by first|rfl|simp[upd_apply]),(by first|rfl|simp[upd_apply]),(by first|rfl|simp[upd_apply]),(by first|rfl|exact f11|(simp[upd_apply];done)),(by first|rfl|exact f12|(simp[upd_apply];done)),(by first|rfl|exact f13|(simp[upd_apply];done)),List.prefix_refl _,(by omega),(fun k' h1 h2=>by omega)⟩
  rintro m f K2 ⟨k,rfl,hk,f0,f1,f6,f7,f8,f11,f12,f13,pp2,ik,no2⟩
  have pp3:=pp.trans (s1.trans pp2)
  by_cases hk':(k:Int)<L.length
  ·have hk:k<L.length:=by omega
   obtain⟨nk,ok,ixk,rdk⟩:=((hv.pre pp3).1).at hk
   have pk:Pr x.p (L.getD k []):=n.g.pr (gd_mem hk)
   have b27:=pk.bb.1
   have rk:AH.rdn K2 nk ok 27=some (cel .u8 (L.getD k [])):=by
    have:=rdk.1 0 27 (by omega)
    rwa [Nat.add_zero,List.drop_zero,List.take_of_length_le (by omega)] at this
   ((try simp (maxSteps:=3000000) (dsimp:=false) (disch:=first|omega|simp only[lnx];omega) only[↓ypre,ypost,↓reduceIte,reduceEqDiff,reduceAdd,reduceSub,reduceLeDiff,zz0,ynew,f0,f1,f6,f7,f8,f11,f12,f13,vl,decide_eq_true hk',rdn_of (pre_get pp2 b1),cel_len,a27,ta,ixk,rk]);try simp only[yback])
   refine i_merged hP pi pk (fun m K3 p3 hm=>?_) (fun K3 p3 hm=>?_)
   ·have ipair:IsPair x.p L i k m:=⟨ik,hk,hm,fun i' k' h1 h2 h3=>by
     rcases h3 with h3|⟨rfl,h3⟩
     ·exact no i' k' h3 h1 h2
     ·exact no2 k' h1 h3⟩
    obtain⟨mb,mo,mz⟩:=pair_m n ipair
    have m27:=mb.1
    have tm27:(cel .u8 m).take 27=cel .u8 m:=List.take_of_length_le (by rw[cel_len,m27];exact Nat.le_refl _)
    ((try simp (maxSteps:=3000000) (dsimp:=false) (disch:=first|omega|simp only[lnx];omega) only[↓ypre,ypost,↓reduceIte,reduceEqDiff,reduceAdd,reduceSub,reduceLeDiff,zz0,ynew,f0,f1,f6,f7,f8,f11,f12,f13,aggV,cellsL_cel,cel_len,m27,cel_all]);try simp only[yback])
    generalize hJ2:AH.new K3 _=J2
    obtain⟨b2,s2,m2⟩:=new_facts hJ2
    have pp4:=pp3.trans (p3.trans s2)
    refine i_withoutAt ((hv.pre pp4).1) hk (by omega) fun w1 K4 p4 o4=>?_
    ((try simp (maxSteps:=3000000) (dsimp:=false) (disch:=first|omega|simp only[lnx];omega) only[↓ypre,ypost,↓reduceIte,reduceEqDiff,reduceAdd,reduceSub,reduceLeDiff,zz0,ynew,f0,f1,f6,f7,f8,f11,f12,f13,rdn_of (pre_get p4 b2),cel_len,m27,tm27]);try simp only[yback])
    refine i_hasZero mb fun K5 p5=>?_
    have lr:=rmv_len hk
    have l4:=pre_len pp4
    have o5:=o4.pre p5
    have bR:Byt 27 (rmv L k):=(byt_iff o5.1).2 fun q hq=>(hall q (rmv_mem hq)).1
    cases hz:hasZ m with
    | true=>
     ((try simp (maxSteps:=3000000) (dsimp:=false) (disch:=first|omega|simp only[lnx];omega) only[↓ypre,ypost,↓reduceIte,reduceEqDiff,reduceAdd,reduceSub,reduceLeDiff,zz0,ynew,f0,f1,f6,f7,f8,f11,f12,f13]);try simp only[yback])
     refine i_withoutAt (L:=rmv L k) o5.inE.rd (by omega) (by omega) fun w2 K6 p6 o6=>?_
     ((try simp (maxSteps:=3000000) (dsimp:=false) (disch:=first|omega|simp only[lnx];omega) only[↓ypre,ypost,↓reduceIte,reduceEqDiff,reduceAdd,reduceSub,reduceLeDiff,zz0,ynew,f0,f1,f6,f7,f8,f11,f12,f13]);try simp only[yback])
     refine hQ i k m w2 K6 (pp4.trans (p4.trans (p5.trans p6))) ipair ?_
     unfold jn
     rw[if_pos hz]
     exact o6.low (by have:=pre_len p4;have:=pre_len p5;omega)
    | false=>
     have pm:=Pr.of mb (mz hz)
     ((try simp (maxSteps:=3000000) (dsimp:=false) (disch:=first|omega|simp only[lnx];omega) only[↓ypre,ypost,↓reduceIte,reduceEqDiff,reduceAdd,reduceSub,reduceLeDiff,zz0,ynew,f0,f1,f6,f7,f8,f11,f12,f13,rdn_of (pre_get (p4.trans p5) b2),cel_len,m27,tm27]);try simp only[yback])
     refine i_normal hP pm fun K6 p6=>?_
     obtain⟨wR,⟨-,e0⟩|⟨kb,fu,rfl,hkb,gkb⟩⟩:=o5.pre p6
     ·have:=congrArg List.length e0
      simp only[List.length_nil] at this
      omega
     have n27:=(nrm_Pr hP pm).bb.1
     have ie:ixsV 27 (.slice (some ⟨kb,0,none⟩) (rmv L k).length 27) (I64 i)=some (.pointer (some ⟨kb,i*27,none⟩)):=by
      rw[ixsV_some,if_pos (by omega),Int.toNat_natCast,Nat.zero_add]
     have sf:=splice_flat (k:=.u8) n27 wR (j:=i) (by omega)
     have fl:=flat_len wR
     have w3:AH.wr K6 kb (i*27) (cel .u8 (nrm x.p m))=_:=wr_of gkb
     simp only[cel_len,n27,fl,sf] at w3
     rw[if_pos ⟨trivial,by omega⟩] at w3
     ((try simp (maxSteps:=3000000) (dsimp:=false) (disch:=first|omega|simp only[lnx];omega) only[↓ypre,ypost,↓reduceIte,reduceEqDiff,reduceAdd,reduceSub,reduceLeDiff,zz0,ynew,f0,f1,f6,f7,f8,f11,f12,f13,aggV,cellsL_cel,cel_len,n27,cel_all,ie,w3]);try simp only[yback])
     have P6:=pp4.trans (p4.trans (p5.trans p6))
     refine hQ i k m _ _ (pre_put P6 (by omega)) ipair ?_
     unfold jn
     rw[if_neg (by rw[hz];decide)]
     exact⟨wid_set wR n27,.inr ⟨kb,fu,by rw[List.length_set],by omega,get_put_same (get_lt gkb)⟩⟩
   ·((try simp (maxSteps:=3000000) (dsimp:=false) (disch:=first|omega|simp only[lnx];omega) only[↓ypre,ypost,↓reduceIte,reduceEqDiff,reduceAdd,reduceSub,reduceLeDiff,zz0,ynew,f0,f1,f6,f7,f8,f11,f12,f13,aggV,cellsL_cel,cel_len,List.length_replicate,cel_all,wrap64_in]);try simp only[yback])
    refine InvQ_go (L.length-(k+1)) (by omega) ⟨(k+1),rfl,by omega,(by first|rfl|exact f0|(simp only[upd_apply];rfl)|(show I64 _=_;congr 1;omega)),(by first|rfl|exact f1|(simp only[upd_apply];rfl)|(show I64 _=_;congr 1;omega)),(by first|rfl|exact f6|(simp only[upd_apply];rfl)|(show I64 _=_;congr 1;omega)),(by first|rfl|exact f7|(simp only[upd_apply];rfl)|(show I64 _=_;congr 1;omega)),(by first|rfl|exact f8|(simp only[upd_apply];rfl)|(show I64 _=_;congr 1;omega)),(by first|rfl|exact f11|(simp only[upd_apply];rfl)|(show I64 _=_;congr 1;omega)),(by first|rfl|exact f12|(simp only[upd_apply];rfl)|(show I64 _=_;congr 1;omega)),(by first|rfl|exact f13|(simp only[upd_apply];rfl)|(show I64 _=_;congr 1;omega)),(pp2.trans (p3.trans (pre_new (List.prefix_refl _)))),(by omega),?_⟩
    intro k' h1 h2
    by_cases h3:k'<k
    ·exact no2 k' h1 h3
    ·have:k'=k:=by omega
     rw[this]
     exact hm
  ·skip
   ((try simp (maxSteps:=3000000) (dsimp:=false) (disch:=first|omega|simp only[lnx];omega) only[↓ypre,ypost,↓reduceIte,reduceEqDiff,reduceAdd,reduceSub,reduceLeDiff,zz0,ynew,f0,f1,f6,f7,f8,f11,f12,f13,vl,decide_eq_false hk',wrap64_in]);try simp only[yback])
   refine InvQ_go (L.length-(i+1)) (by omega) ⟨(i+1),rfl,by omega,(by first|rfl|exact f0|(simp only[upd_apply];rfl)|(show I64 _=_;congr 1;omega)),(by first|rfl|exact f1|(simp only[upd_apply];rfl)|(show I64 _=_;congr 1;omega)),(by first|rfl|exact f11|(simp only[upd_apply];rfl)|(show I64 _=_;congr 1;omega)),(by first|rfl|exact f12|(simp only[upd_apply];rfl)|(show I64 _=_;congr 1;omega)),(by first|rfl|exact f13|(simp only[upd_apply];rfl)|(show I64 _=_;congr 1;omega)),pp3,?_⟩
   intro i' k' h1 h2 h3
   by_cases h4:i'<i
   ·exact no i' k' h4 h2 h3
   ·have:i'=i:=by omega
    subst this
    exact no2 k' h2 (by omega)
 ·skip
  ((try simp (maxSteps:=3000000) (dsimp:=false) (disch:=first|omega|simp only[lnx];omega) only[↓ypre,ypost,↓reduceIte,reduceEqDiff,reduceAdd,reduceSub,reduceLeDiff,zz0,ynew,f0,f1,f11,f12,f13,decide_eq_false hi']);try simp only[yback])
  exact hN _ pp fun i' k' h1 h2=>no i' k' (by omega) h1 h2
noncomputable def rdR (x:Sch):Sch×Int:=if isX x=true then (redX x,0) else (zeroS,1)
theorem i_ReduceScheme {x:Sch} {v:Value} {h:AH} {Q:Value→AH→Prop} (hv:Prods h v x.ps) (hl:SmallX x.ps)
  (hQ:∀ w h',h<+:h'→KN h.length h' (fun h2=>Prods h2 w (rdR x).1.ps)→NK w→Q (.tuple #[schV (rdR x).1 w,I64 (rdR x).2]) h'):WF S 18 [schV x v] h Q:=by
 refine WF_fn (fn:=c18) rfl rfl ?_
 dsimp only[c18,oO,oM,oS,oG,oK,oE,oL,oF,oX,oN]
 have o1:=hv.one
 have nz:NK (.slice none 0 0):=.inl (.inl rfl)
 ((try simp (maxSteps:=3000000) (dsimp:=false) (disch:=first|omega|simp only[lnx];omega) only[↓ypre,ypost,↓reduceIte,reduceEqDiff,reduceAdd,reduceSub,reduceLeDiff,zz0,ynew,schV,o1]);try simp only[yback])
 generalize hH1:AH.new h _=H1
 obtain⟨hb1,p1,n1⟩:=new_facts hH1
 generalize hH2:AH.new H1 _=H2
 obtain⟨hb2,p2,n2⟩:=new_facts hH2
 have g1:=pre_get p2 hb1
 ((try simp (maxSteps:=3000000) (dsimp:=false) (disch:=first|omega|simp only[lnx];omega) only[↓ypre,ypost,↓reduceIte,reduceEqDiff,reduceAdd,reduceSub,reduceLeDiff,zz0,ynew,rdn_of g1]);try simp only[yback])
 refine i_IsScheme (x:=x) (hv.pre (p1.trans p2)) hl fun H3 p3=>?_
 have g1:=pre_get p3 g1
 have g2:=pre_get p3 hb2
 have l2:=get_lt g2
 have P3:=p1.trans (p2.trans p3)
 have q3:=pre_len p3
 unfold rdR at hQ
 cases hx:isX x with
 | false=>
  rw[hx] at hQ
  ((try simp (maxSteps:=3000000) (dsimp:=false) (disch:=first|omega|simp only[lnx];omega) only[↓ypre,ypost,↓reduceIte,reduceEqDiff,reduceAdd,reduceSub,reduceLeDiff,zz0,ynew,fillL,wr_of g2,splice_eq,rdn_put_same]);try simp only[yback])
  exact hQ _ _ (pre_put P3 (by omega)) zeroS_kn nz
 | true=>
 rw[hx] at hQ
 simp only[if_true] at hQ
 have g:=GX.of' hv hx
 ((try simp (maxSteps:=3000000) (dsimp:=false) (disch:=first|omega|simp only[lnx];omega) only[↓ypre,ypost,↓reduceIte,reduceEqDiff,reduceAdd,reduceSub,reduceLeDiff,zz0,ynew,rdn_of g1]);try simp only[yback])
 refine i_normals (x:=x) g (hv.pre P3) fun w0 H4 p4 o4=>?_
 have g1:=pre_get p4 g1
 have g2:=pre_get p4 g2
 obtain⟨nl,-⟩:=nrms_NL g
 refine WO_cut (fun f:Fr=>f 1=.pointer (some ⟨h.length,0,none⟩)∧f 2=.pointer (some ⟨H1.length,0,none⟩)∧f 11=schV (wps x (nrms x.p x.ps)) w0∧True) ⟨(by first|rfl|simp[upd_apply]),(by first|rfl|simp[upd_apply]),(by first|rfl|simp[upd_apply]),trivial⟩ ?_
 rintro f ⟨f1,f2,f11,-⟩
 have w4:([I64 x.p,I64 x.n,I64 x.m,I64 x.k,w0]:List Value)[4]?=some w0:=rfl
 ((try simp (maxSteps:=3000000) (dsimp:=false) (disch:=first|omega|simp only[lnx];omega) only[↓ypre,ypost,↓reduceIte,reduceEqDiff,reduceAdd,reduceSub,reduceLeDiff,zz0,ynew,f1,f2,f11,schV]);try simp only[yback])
 refine WC_loop_inv (fun m f K=>∃ (L:List (List Int)) (vv:Value) (ag:Bool),m=(if ag=true then L.length+1 else 0)∧f 1=.pointer (some ⟨h.length,0,none⟩)∧f 2=.pointer (some ⟨H1.length,0,none⟩)∧f 4=vv∧f 5=.bool ag∧H4<+:K∧OwnP H3.length K vv L∧NL x L∧Red x.p L (redL x.p (nrms x.p x.ps))∧(ag=false→L=redL x.p (nrms x.p x.ps))) ?_ ((nrms x.p x.ps).length+1) _ _ ⟨nrms x.p x.ps,w0,true,rfl,f1,f2,rfl,rfl,List.prefix_refl _,o4,nl,redL_red,fun h=>by cases h⟩
 rintro m f K ⟨L,vv,ag,rfl,f1,f2,f4,f5,pp,oL,nL,rL,eL⟩
 have gK1:=pre_get pp g1
 have gK2:=pre_get pp g2
 have P4:=P3.trans (p4.trans pp)
 cases ag with
 | true=>
  ((try simp (maxSteps:=3000000) (dsimp:=false) (disch:=first|omega|simp only[lnx];omega) only[↓ypre,ypost,↓reduceIte,reduceEqDiff,reduceAdd,reduceSub,reduceLeDiff,zz0,ynew,f1,f2,f4,f5,rd1_of gK1]);try simp only[yback])
  refine i_reduceOnce nL (oL.prods nL.g.b) (fun i k m' w' K2 p5 ip o5=>?_) (fun K2 p5 np=>?_)
  ·have hln:=jn_len (p:=x.p) (m:=m') ip.kl ip.ik
   ((try simp (maxSteps:=3000000) (dsimp:=false) (disch:=first|omega|simp only[lnx];omega) only[↓ypre,ypost,↓reduceIte,reduceEqDiff,reduceAdd,reduceSub,reduceLeDiff,zz0,ynew,f1,f2,f4,f5]);try simp only[yback])
   refine InvQ_go ((jn x.p L i k m').length+1) (by omega) ⟨jn x.p L i k m',w',true,rfl,f1,f2,rfl,rfl,pp.trans p5,o5.low (by have:=pre_len (p4.trans pp);omega),(jn_NL nL ip).1,rL.next ip,fun h=>by cases h⟩
  ·((try simp (maxSteps:=3000000) (dsimp:=false) (disch:=first|omega|simp only[lnx];omega) only[↓ypre,ypost,↓reduceIte,reduceEqDiff,reduceAdd,reduceSub,reduceLeDiff,zz0,ynew,f1,f2,f4,f5]);try simp only[yback])
   refine InvQ_go 0 (by omega) ⟨L,vv,false,rfl,f1,f2,rfl,rfl,pp.trans p5,oL.pre p5,nL,rL,fun _=>(rL.end np).symm⟩
 | false=>
  have eR:=eL rfl
  subst eR
  ((try simp (maxSteps:=3000000) (dsimp:=false) (disch:=first|omega|simp only[lnx];omega) only[↓ypre,ypost,↓reduceIte,reduceEqDiff,reduceAdd,reduceSub,reduceLeDiff,zz0,ynew,f1,f2,f4,f5,rdn_of gK1]);try simp only[yback])
  refine i_with (x:=x) (L:=redL x.p (nrms x.p x.ps)) (v:=v) o1 oL.nk.one oL.nk.cells fun K2 p5=>?_
  have gK2:=pre_get p5 gK2
  have l2:=get_lt gK2
  have kn:=(oL.pre p5).kN (lo':=H2.length) nL.g.b q3
  ((try simp (maxSteps:=3000000) (dsimp:=false) (disch:=first|omega|simp only[lnx];omega) only[↓ypre,ypost,↓reduceIte,reduceEqDiff,reduceAdd,reduceSub,reduceLeDiff,zz0,ynew,f1,f2,f4,f5,schV,oL.nk.one,wr_of gK2,splice_eq,rdn_put_same]);try simp only[yback])
  exact hQ vv _ (pre_put (P4.trans p5) (by omega)) ((KN.put kn (by omega)).mono (by omega)) oL.nk
theorem s_l03AllNormal {x:Sch} {v:Value} {h:AH} {Q:Value→AH→Prop} (g:GX x) (hv:Prods h v x.ps) (hQ:∀ w h',h<+:h'→KN h.length h' (fun h2=>Prods h2 w (nrms x.p x.ps))→Q (schV (wps x (nrms x.p x.ps)) w) h'):WF S 317 [schV x v] h Q:=by
 refine WF_fn (fn:=c317) rfl rfl ?_
 dsimp only[c317,oO,oM,oS,oG,oK,oE,oL,oF,oX,oN]
 have o1:=hv.one
 obtain⟨hs,h30,hall⟩:=g.parts
 have hP:=szX_isP hs
 ((try simp (maxSteps:=3000000) (dsimp:=false) (disch:=first|omega|simp only[lnx];omega) only[↓ypre,ypost,↓reduceIte,reduceEqDiff,reduceAdd,reduceSub,reduceLeDiff,zz0,ynew,schV,o1]);try simp only[yback])
 generalize hH1:AH.new h _=H1
 obtain⟨hb1,p1,n1⟩:=new_facts hH1
 generalize hH2:AH.new H1 _=H2
 obtain⟨hb2,p2,n2⟩:=new_facts hH2
 have g1:=pre_get p2 hb1
 ((try simp (maxSteps:=3000000) (dsimp:=false) (disch:=first|omega|simp only[lnx];omega) only[↓ypre,ypost,↓reduceIte,reduceEqDiff,reduceAdd,reduceSub,reduceLeDiff,zz0,ynew,rdn_of g1]);try simp only[yback])
 refine s_l01Empty (x:=x) o1 fun H3 p3=>?_
 ((try simp (maxSteps:=3000000) (dsimp:=false) (disch:=first|omega|simp only[lnx];omega) only[↓ypre,ypost,↓reduceIte,reduceEqDiff,reduceAdd,reduceSub,reduceLeDiff,zz0,ynew,schV]);try simp only[yback])
 generalize hH4:AH.new H3 _=H4
 obtain⟨hb4,p4,n4⟩:=new_facts hH4
 have g1:=pre_get p3 g1
 have g2:=pre_get p3 hb2
 have q3:=pre_len p3
 have P3:h<+:H3:=p1.trans (p2.trans p3)
 have w0:WayZ H4.length H4.length H4.length H4 (.slice none 0 2) (nrms x.p (x.ps.take 0)):=⟨fun r hr=>by simp[nrms] at hr,.inl ⟨rfl,rfl⟩⟩
 have elen:=hv.1.len
 refine WC_loop_inv (fun m f K1=>∃ (i:Nat) (sv:Value),m=x.ps.length-i∧i≤x.ps.length∧f 1=.pointer (some ⟨h.length,0,none⟩)∧f 2=.pointer (some ⟨H1.length,0,none⟩)∧f 3=.pointer (some ⟨H3.length,0,none⟩)∧f 4=I64 i∧(H3<+:K1)∧(H4.length≤K1.length)∧(OwnB K1 H3.length [I64 x.p,I64 x.n,I64 x.m,I64 x.k,sv] true)∧(WayZ H4.length H4.length H4.length K1 sv (nrms x.p (x.ps.take i)))) ?_ (x.ps.length-0) _ _ ⟨0,.slice none 0 2,rfl,by omega,(by first|rfl|simp[upd_apply]),(by first|rfl|simp[upd_apply]),(by first|rfl|simp[upd_apply]),(by first|rfl|simp[upd_apply]),p4,Nat.le_refl _,⟨_,hb4⟩,w0⟩
 rintro m f K1 ⟨i,sv,rfl,hi,f1,f2,f3,f4,pp,l1,g5,ww⟩
 obtain⟨e5,g5⟩:=g5
 have gx:=pre_get pp g1
 by_cases hlt:(i:Int)<x.ps.length
 ·have hi:i<x.ps.length:=by omega
  obtain⟨nn,off,ix,rd⟩:=((hv.pre (P3.trans pp)).1).at hi
  have prq:=g.pr (gd_mem hi)
  have q27:=prq.bb.1
  have r27:AH.rdn K1 nn off 27=some (cel .u8 (x.ps.getD i [])):=by
   have:=rd.1 0 27 (by omega)
   rwa [Nat.add_zero,List.drop_zero,List.take_of_length_le (by omega)] at this
  ((try simp (maxSteps:=3000000) (dsimp:=false) (disch:=first|omega|simp only[lnx];omega) only[↓ypre,ypost,↓reduceIte,reduceEqDiff,reduceAdd,reduceSub,reduceLeDiff,zz0,ynew,f1,f2,f3,f4,rd1_of gx,elen,decide_eq_true hlt,rd1_of g5,ix,r27]);try simp only[yback])
  refine s_l03Normal hP prq fun K2 s2=>⟨s2,?_⟩
  have n27:=(nrm_Pr hP prq).bb.1
  have L5:=pre_len s2
  have g55:=pre_get s2 g5
  have ln:(nrms x.p (x.ps.take i)).length=i:=by unfold nrms;rw[List.length_map,List.length_take];omega
  ((try simp (maxSteps:=3000000) (dsimp:=false) (disch:=first|omega|simp only[lnx];omega) only[↓ypre,ypost,↓reduceIte,reduceEqDiff,reduceAdd,reduceSub,reduceLeDiff,zz0,ynew,f1,f2,f3,f4,aggV,cellsL_cel,cel_len,n27,zrep27,sp27z n27,fillL,cel_all,List.append_nil,List.length_replicate]);try simp only[yback])
  refine (ww.pre s2).app (q:=nrm x.p (x.ps.getD i [])) n27 (by omega) (by omega) (by omega) fun sv' H' l' pre' keep' w'=>?_
  have g6:=keep' _ _ (.inl (by omega)) g55
  have lt6:=get_lt g6
  ((try simp (maxSteps:=3000000) (dsimp:=false) (disch:=first|omega|simp only[lnx];omega) only[↓ypre,ypost,↓reduceIte,reduceEqDiff,reduceAdd,reduceSub,reduceLeDiff,zz0,ynew,f1,f2,f3,f4,w'.one,w'.cells,wr_of g6,splice_eq,wrap64_in]);try simp only[yback])
  rw[←nrms_next hi] at w'
  refine InvQ_go (x.ps.length-(i+1)) (by omega) ⟨(i+1),sv',rfl,by omega,(by first|rfl|exact f1|(simp only[upd_apply];rfl)|(show I64 _=_;congr 1;omega)),(by first|rfl|exact f2|(simp only[upd_apply];rfl)|(show I64 _=_;congr 1;omega)),(by first|rfl|exact f3|(simp only[upd_apply];rfl)|(show I64 _=_;congr 1;omega)),(by first|rfl|exact f4|(simp only[upd_apply];rfl)|(show I64 _=_;congr 1;omega)),(pre_put (pre' _ (by omega) (pp.trans s2)) (Nat.le_refl _)),(by rw[len_put];omega),⟨_,get_put_same lt6⟩,(w'.putz (by omega))⟩
 ·have ei:i=x.ps.length:=by omega
  subst ei
  rw[List.take_length] at ww
  have g2:=pre_get pp g2
  have lt2:=get_lt g2
  have q1:=pre_len pp
  have bl:Byt 27 (nrms x.p x.ps):=(nrms_NL g).1.g.b
  ((try simp (maxSteps:=3000000) (dsimp:=false) (disch:=first|omega|simp only[lnx];omega) only[↓ypre,ypost,↓reduceIte,reduceEqDiff,reduceAdd,reduceSub,reduceLeDiff,zz0,ynew,f1,f2,f3,f4,rd1_of gx,elen,decide_eq_false hlt,rdn_of g5,wr_of g2,splice_eq,rdn_put_same,ww.one]);try simp only[yback])
  exact hQ sv _ (pre_put (P3.trans pp) (by omega)) ((ww.putz (by omega)).kN bl (by omega))
theorem gx_told {x:Sch} {L:List (List Int)} {m:List Int} {i k:Nat} (n:NL x L) (hp:IsPair x.p L i k m):GX (wps x (toldL ((rmv L k).set i m))):=by
 obtain⟨h1,h2,h3⟩:=n.g.parts
 obtain⟨mb,mo,mz⟩:=pair_m n hp
 have h2:L.length≤30:=h2
 have ll:=toldL_len (L:=(rmv L k).set i m)
 rw[List.length_set,rmv_len hp.kl] at ll
 refine GX.of h1 (by omega) fun q hq=>?_
 have hq:=List.mem_filter.1 hq
 rcases List.mem_or_eq_of_mem_set hq.1 with h|rfl
 ·exact h3 q (rmv_mem h)
 ·exact⟨mb,mz (by simpa using hq.2)⟩
theorem s_l03Step {x:Sch} {v:Value} {h:AH} {Q:Value→AH→Prop} (n:NL x x.ps) (hv:Prods h v x.ps)
  (hQ:∀ i k m w' h',h<+:h'→IsPair x.p x.ps i k m→KN h.length h' (fun h2=>Prods h2 w' (jn x.p x.ps i k m))→Q (.tuple #[schV (wps x (jn x.p x.ps i k m)) w',.bool true]) h')
  (hN:∀ h',h<+:h'→NoPair x.p x.ps→Q (.tuple #[schV x v,.bool false]) h'):WF S 318 [schV x v] h Q:=by
 refine WF_fn (fn:=c318) rfl rfl ?_
 dsimp only[c318,oO,oM,oS,oG,oK,oE,oL,oF,oX,oN]
 have o1:=hv.one
 obtain⟨hs,h30,hall⟩:=n.g.parts
 have hP:isP x.p=true:=szX_isP hs
 have h30:x.ps.length≤30:=h30
 have vl:=hv.1.len
 ((try simp (maxSteps:=3000000) (dsimp:=false) (disch:=first|omega|simp only[lnx];omega) only[↓ypre,ypost,↓reduceIte,reduceEqDiff,reduceAdd,reduceSub,reduceLeDiff,zz0,ynew,schV,o1]);try simp only[yback])
 generalize hH1:AH.new h _=H1
 obtain⟨hb1,p1,n1⟩:=new_facts hH1
 generalize hH2:AH.new H1 _=H2
 obtain⟨hb2,p2,n2⟩:=new_facts hH2
 have g1:=pre_get p2 hb1
 have P2:=p1.trans p2
 refine WC_loop_inv (fun m f K1=>∃ (i:Nat),m=x.ps.length-i∧i≤x.ps.length∧f 1=.pointer (some ⟨h.length,0,none⟩)∧f 2=.pointer (some ⟨H1.length,0,none⟩)∧f 4=I64 i∧(H2<+:K1)∧((∀ i' k',i'<i→i'<k'→k'<x.ps.length→mrg x.p (x.ps.getD i' []) (x.ps.getD k' [])=none))) ?_ (x.ps.length-0) _ _ ⟨0,rfl,by omega,(by first|rfl|simp[upd_apply]),(by first|rfl|simp[upd_apply]),(by first|rfl|simp[upd_apply]),List.prefix_refl _,(fun _ _ h=>absurd h (Nat.not_lt_zero _))⟩
 rintro m f K1 ⟨i,rfl,hi,f1,f2,f4,pp,no⟩
 have gx:=pre_get pp g1
 by_cases hi':(i:Int)<x.ps.length
 ·have hi:i<x.ps.length:=by omega
  have pi:Pr x.p (x.ps.getD i []):=n.g.pr (gd_mem hi)
  have a27:=pi.bb.1
  have q1:(i:Int)+1=((i+1:Nat):Int):=by push_cast;rfl
  have wi:IntKind.i64.wrap ((i:Int)+1)=((i+1:Nat):Int):=by rw[wrap64_in (by omega) (by omega),q1]
  ((try simp (maxSteps:=3000000) (dsimp:=false) (disch:=first|omega|simp only[lnx];omega) only[↓ypre,ypost,↓reduceIte,reduceEqDiff,reduceAdd,reduceSub,reduceLeDiff,zz0,ynew,f1,f2,f4,rd1_of gx,vl,decide_eq_true hi',wi]);try simp only[yback])
  refine WC_loop_inv (fun m f K2=>∃ (k:Nat),m=x.ps.length-k∧k≤x.ps.length∧f 1=.pointer (some ⟨h.length,0,none⟩)∧f 2=.pointer (some ⟨H1.length,0,none⟩)∧f 4=I64 i∧f 5=I64 k∧(K1<+:K2)∧(i<k)∧((∀ k',i<k'→k'<k→mrg x.p (x.ps.getD i []) (x.ps.getD k' [])=none))) ?_ (x.ps.length-(i+1)) _ _ ⟨(i+1),rfl,by omega,(by first|rfl|exact f1|(simp[upd_apply];done)),(by first|rfl|exact f2|(simp[upd_apply];done)),(by first|rfl|exact f4|(simp[upd_apply];done)),(by first|rfl|simp[upd_apply]),List.prefix_refl _,(by omega),(fun k' h1 h2=>by omega)⟩
  rintro m f K2 ⟨k,rfl,hk,f1,f2,f4,f5,pp2,ik,no2⟩
  have gx2:=pre_get pp2 gx
  have pp3:=P2.trans (pp.trans pp2)
  by_cases hk':(k:Int)<x.ps.length
  ·have hk:k<x.ps.length:=by omega
   obtain⟨nn,off,ix,rd⟩:=((hv.pre pp3).1).at hi
   obtain⟨nk,ok,ixk,rdk⟩:=((hv.pre pp3).1).at hk
   have pk:Pr x.p (x.ps.getD k []):=n.g.pr (gd_mem hk)
   have b27:=pk.bb.1
   have ra:AH.rdn K2 nn off 27=some (cel .u8 (x.ps.getD i [])):=by
    have:=rd.1 0 27 (by omega)
    rwa [Nat.add_zero,List.drop_zero,List.take_of_length_le (by omega)] at this
   have rk:AH.rdn K2 nk ok 27=some (cel .u8 (x.ps.getD k [])):=by
    have:=rdk.1 0 27 (by omega)
    rwa [Nat.add_zero,List.drop_zero,List.take_of_length_le (by omega)] at this
   ((try simp (maxSteps:=3000000) (dsimp:=false) (disch:=first|omega|simp only[lnx];omega) only[↓ypre,ypost,↓reduceIte,reduceEqDiff,reduceAdd,reduceSub,reduceLeDiff,zz0,ynew,f1,f2,f4,f5,rd1_of gx2,vl,decide_eq_true hk',ix,ra,ixk,rk]);try simp only[yback])
   refine s_l03Join hP pi pk (fun m K3 p3 hm=>?_) (fun K3 p3 hm=>?_)
   ·have ipair:IsPair x.p x.ps i k m:=⟨ik,hk,hm,fun i' k' h1 h2 h3=>by
     rcases h3 with h3|⟨rfl,h3⟩
     ·exact no i' k' h3 h1 h2
     ·exact no2 k' h1 h3⟩
    obtain⟨mb,mo,mz⟩:=pair_m n ipair
    have m27:=mb.1
    have tm27:(cel .u8 m).take 27=cel .u8 m:=List.take_of_length_le (by rw[cel_len,m27];exact Nat.le_refl _)
    ((try simp (maxSteps:=3000000) (dsimp:=false) (disch:=first|omega|simp only[lnx];omega) only[↓ypre,ypost,↓reduceIte,reduceEqDiff,reduceAdd,reduceSub,reduceLeDiff,zz0,ynew,f1,f2,f4,f5,aggV,cellsL_cel,cel_len,m27,cel_all]);try simp only[yback])
    generalize hJ2:AH.new K3 _=J2
    obtain⟨b2,s2,m2⟩:=new_facts hJ2
    have gx3:=pre_get (p3.trans s2) gx2
    have pp4:=pp3.trans (p3.trans s2)
    have hvJ:=(hv.pre pp4).1
    have w27:Wid 27 x.ps:=hvJ.widL
    obtain⟨b,off',rfl,hrd⟩:=hvJ.rdAll (by omega)
    have s1:slcV 27 (.slice (some ⟨b,off',none⟩) x.ps.length 27) none (some (I64 k))=some (.slice (some ⟨b,off',none⟩) k 27):=by
     simp only[slcV,boundV]
     rw[if_pos ⟨trivial,by omega,by omega,by omega⟩]
     simp
    obtain⟨w2,s3,e2⟩:∃ w2,slcV 27 (.slice (some ⟨b,off',none⟩) x.ps.length 27) (some (I64 ((k+1:Nat):Int))) none=some w2∧RdE J2 w2 (x.ps.drop (k+1)):=by
     by_cases h1:k+1<x.ps.length
     ·refine⟨.slice (some ⟨b,off'+(k+1)*27,none⟩) (x.ps.length-(k+1)) 27,?_,.inr ⟨b,off'+(k+1)*27,by rw[List.length_drop],?_⟩⟩
      ·simp only[slcV,boundV]
       rw[if_pos ⟨trivial,by omega,by omega,by omega⟩,Int.toNat_natCast,show ((x.ps.length:Int)-((k+1:Nat):Int)).toNat=x.ps.length-(k+1) by omega]
      ·have:=rdn_sub w27 hrd (j:=k+1) (m:=x.ps.length-(k+1)) (by omega)
       rw[List.take_of_length_le (by rw[List.length_drop];exact Nat.le_refl _)] at this
       rw[List.length_drop]
       exact this
     ·refine⟨.slice none 0 1,?_,.inl ⟨List.drop_of_length_le (by omega),1,rfl⟩⟩
      simp only[slcV,boundV]
      rw[if_neg (fun x=>by have:=x.2.2.1;omega),if_neg (fun x=>by have:=x.2.1;cases this),if_pos ⟨trivial,by omega,by omega,by omega⟩]
    have lt:(x.ps.take k).length=k:=by rw[List.length_take];omega
    have e1:RdE J2 (.slice (some ⟨b,off',none⟩) k 27) (x.ps.take k):=by
     have:=rdn_sub w27 hrd (j:=0) (m:=k) (by omega)
     rw[Nat.zero_mul,Nat.add_zero,List.drop_zero] at this
     exact .inr ⟨b,off',by rw[lt],by rw[lt];exact this⟩
    have q1:(k:Int)+1=((k+1:Nat):Int):=by push_cast;rfl
    have wk:IntKind.i64.wrap ((k:Int)+1)=((k+1:Nat):Int):=by rw[wrap64_in (by omega) (by omega),q1]
    generalize hJ3:AH.new J2 _=J3
    obtain⟨b3,s3',m3⟩:=new_facts hJ3
    have o2:OwnP J2.length J3 (.slice (some ⟨J2.length,0,none⟩) 0 27) []:=⟨fun q hq=>by simp at hq,.inr ⟨_,true,rfl,Nat.le_refl _,b3⟩⟩
    ((try simp (maxSteps:=3000000) (dsimp:=false) (disch:=first|omega|simp only[lnx];omega) only[↓ypre,ypost,↓reduceIte,reduceEqDiff,reduceAdd,reduceSub,reduceLeDiff,zz0,ynew,f1,f2,f4,f5,rd1_of (pre_get s3' gx3),omapF_none,omapF_some,s1]);try simp only[yback])
    refine o2.appR (e1.pre s3') (fun q hq=>w27 q (List.mem_of_mem_take hq)) (by rw[lt];simp only[List.length_nil];omega) (pre_len s3') fun sv1 J3b p5' o3=>?_
    have p5:J2<+:J3b:=p5' _ (Nat.le_refl _) s3'
    rw[List.nil_append] at o3
    have gx3:=pre_get p5 gx3
    ((try simp (maxSteps:=3000000) (dsimp:=false) (disch:=first|omega|simp only[lnx];omega) only[↓ypre,ypost,↓reduceIte,reduceEqDiff,reduceAdd,reduceSub,reduceLeDiff,zz0,ynew,f1,f2,f4,f5,rd1_of gx3,wk,omapF_none,omapF_some,s3]);try simp only[yback])
    refine o3.appR (e2.pre p5) (fun q hq=>w27 q (List.mem_of_mem_drop hq)) (by rw[lt,List.length_drop];omega) (pre_len p5) fun sv2 J4 p6' o4=>?_
    have p6:J2<+:J4:=p6' _ (Nat.le_refl _) p5
    have o4:OwnP J2.length J4 sv2 (rmv x.ps k):=o4
    have lr:=rmv_len hk
    have bR:Byt 27 (rmv x.ps k):=(byt_iff o4.1).2 fun q hq=>(hall q (rmv_mem hq)).1
    obtain⟨wR,⟨-,e0⟩|⟨kb,fu,rfl,hkb,gkb⟩⟩:=o4
    ·have:=congrArg List.length e0
     simp only[List.length_nil] at this
     omega
    have ie:ixsV 27 (.slice (some ⟨kb,0,none⟩) (rmv x.ps k).length 27) (I64 i)=some (.pointer (some ⟨kb,i*27,none⟩)):=by
     rw[ixsV_some,if_pos (by omega),Int.toNat_natCast,Nat.zero_add]
    have sf:=splice_flat (k:=.u8) m27 wR (j:=i) (by omega)
    have fl:=flat_len wR
    have w3:AH.wr J4 kb (i*27) (cel .u8 m)=_:=wr_of gkb
    simp only[cel_len,m27,fl,sf] at w3
    rw[if_pos ⟨trivial,by omega⟩] at w3
    have b24:=pre_get p6 b2
    ((try simp (maxSteps:=3000000) (dsimp:=false) (disch:=first|omega|simp only[lnx];omega) only[↓ypre,ypost,↓reduceIte,reduceEqDiff,reduceAdd,reduceSub,reduceLeDiff,zz0,ynew,f1,f2,f4,f5,rdn_of b24,cel_len,m27,tm27,cel_all,ie,w3]);try simp only[yback])
    generalize hJ5:AH.put J4 _ _=J5
    have lkb:=get_lt gkb
    have P5:J2<+:J5:=by rw[←hJ5];exact pre_put p6 hkb
    have o5:OwnP J2.length J5 (.slice (some ⟨kb,0,none⟩) (rmv x.ps k).length 27) ((rmv x.ps k).set i m):=⟨wid_set wR m27,.inr ⟨kb,fu,by rw[List.length_set],hkb,by rw[←hJ5];exact get_put_same lkb⟩⟩
    have gx5:=pre_get P5 (pre_get s2 (pre_get p3 gx2))
    have gr5:=pre_get P5 (pre_get s2 (pre_get p3 (pre_get pp2 (pre_get pp hb2))))
    ((try simp (maxSteps:=3000000) (dsimp:=false) (disch:=first|omega|simp only[lnx];omega) only[↓ypre,ypost,↓reduceIte,reduceEqDiff,reduceAdd,reduceSub,reduceLeDiff,zz0,ynew,f1,f2,f4,f5,rdn_of gx5]);try simp only[yback])
    refine s_l03Told (x:=x) rfl (o5.prods (byt_setq bR mb)) (by rw[List.length_set];omega) fun w4 J6 p7 k6=>?_
    ((try simp (maxSteps:=3000000) (dsimp:=false) (disch:=first|omega|simp only[lnx];omega) only[↓ypre,ypost,↓reduceIte,reduceEqDiff,reduceAdd,reduceSub,reduceLeDiff,zz0,ynew,f1,f2,f4,f5]);try simp only[yback])
    refine s_l03AllNormal (x:=wps x (toldL ((rmv x.ps k).set i m))) (gx_told n ipair) k6.now fun w5 J7 p8 k7=>?_
    have gr7:=pre_get (p7.trans p8) gr5
    have lr7:=get_lt gr7
    have k7:KN J6.length J7 (fun h2=>Prods h2 w5 (jn x.p x.ps i k m)):=by rw[←told_jn n ipair];exact k7
    have et:wps (wps x (toldL ((rmv x.ps k).set i m))) (nrms x.p (toldL ((rmv x.ps k).set i m)))=wps x (jn x.p x.ps i k m):=by rw[told_jn n ipair]
    have q57:H2.length≤J6.length:=by have:=pre_len (pp.trans (pp2.trans (p3.trans (s2.trans (P5.trans p7)))));omega
    ((try simp (maxSteps:=3000000) (dsimp:=false) (disch:=first|omega|simp only[lnx];omega) only[↓ypre,ypost,↓reduceIte,reduceEqDiff,reduceAdd,reduceSub,reduceLeDiff,zz0,ynew,f1,f2,f4,f5,schV,k7.now.one,wr_of gr7,splice_eq,rdn_put_same]);try simp only[yback])
    exact hQ i k m w5 _ (pre_put (pp4.trans (P5.trans (p7.trans p8))) (by omega)) ipair ((KN.put k7 (by omega)).mono (by omega))
   ·((try simp (maxSteps:=3000000) (dsimp:=false) (disch:=first|omega|simp only[lnx];omega) only[↓ypre,ypost,↓reduceIte,reduceEqDiff,reduceAdd,reduceSub,reduceLeDiff,zz0,ynew,f1,f2,f4,f5,aggV,cellsL_cel,cel_len,List.length_replicate,cel_all,wrap64_in]);try simp only[yback])
    refine InvQ_go (x.ps.length-(k+1)) (by omega) ⟨(k+1),rfl,by omega,(by first|rfl|exact f1|(simp only[upd_apply];rfl)|(show I64 _=_;congr 1;omega)),(by first|rfl|exact f2|(simp only[upd_apply];rfl)|(show I64 _=_;congr 1;omega)),(by first|rfl|exact f4|(simp only[upd_apply];rfl)|(show I64 _=_;congr 1;omega)),(by first|rfl|exact f5|(simp only[upd_apply];rfl)|(show I64 _=_;congr 1;omega)),(pp2.trans (p3.trans (pre_new (List.prefix_refl _)))),(by omega),?_⟩
    intro k' h1 h2
    by_cases h3:k'<k
    ·exact no2 k' h1 h3
    ·have:k'=k:=by omega
     rw[this]
     exact hm
  ·skip
   ((try simp (maxSteps:=3000000) (dsimp:=false) (disch:=first|omega|simp only[lnx];omega) only[↓ypre,ypost,↓reduceIte,reduceEqDiff,reduceAdd,reduceSub,reduceLeDiff,zz0,ynew,f1,f2,f4,f5,rd1_of gx2,vl,decide_eq_false hk',wrap64_in]);try simp only[yback])
   refine InvQ_go (x.ps.length-(i+1)) (by omega) ⟨(i+1),rfl,by omega,(by first|rfl|exact f1|(simp only[upd_apply];rfl)|(show I64 _=_;congr 1;omega)),(by first|rfl|exact f2|(simp only[upd_apply];rfl)|(show I64 _=_;congr 1;omega)),(by first|rfl|exact f4|(simp only[upd_apply];rfl)|(show I64 _=_;congr 1;omega)),(pp.trans pp2),?_⟩
   intro i' k' h1 h2 h3
   by_cases h4:i'<i
   ·exact no i' k' h4 h2 h3
   ·have:i'=i:=by omega
    subst this
    exact no2 k' h2 (by omega)
 ·skip
  have gr:=pre_get pp hb2
  have lr:=get_lt gr
  ((try simp (maxSteps:=3000000) (dsimp:=false) (disch:=first|omega|simp only[lnx];omega) only[↓ypre,ypost,↓reduceIte,reduceEqDiff,reduceAdd,reduceSub,reduceLeDiff,zz0,ynew,f1,f2,f4,rd1_of gx,vl,decide_eq_false hi',rdn_of gx,wr_of gr,splice_eq,rdn_put_same,o1]);try simp only[yback])
  exact hN _ (pre_put (P2.trans pp) (by omega)) fun i' k' h1 h2=>no i' k' (by omega) h1 h2
theorem s_l03Reduce {x:Sch} {v:Value} {h:AH} {Q:Value→AH→Prop} (g:GX x) (hv:Prods h v x.ps) (hQ:∀ w h',h<+:h'→KN h.length h' (fun h2=>Prods h2 w (redX x).ps)→Q (schV (redX x) w) h'):WF S 259 [schV x v] h Q:=by
 refine WF_fn (fn:=c259) rfl rfl ?_
 dsimp only[c259,oO,oM,oS,oG,oK,oE,oL,oF,oX,oN]
 have o1:=hv.one
 ((try simp (maxSteps:=3000000) (dsimp:=false) (disch:=first|omega|simp only[lnx];omega) only[↓ypre,ypost,↓reduceIte,reduceEqDiff,reduceAdd,reduceSub,reduceLeDiff,zz0,ynew,schV,o1]);try simp only[yback])
 generalize hH1:AH.new h _=H1
 obtain⟨hb1,p1,n1⟩:=new_facts hH1
 generalize hH2:AH.new H1 _=H2
 obtain⟨hb2,p2,n2⟩:=new_facts hH2
 have g1:=pre_get p2 hb1
 ((try simp (maxSteps:=3000000) (dsimp:=false) (disch:=first|omega|simp only[lnx];omega) only[↓ypre,ypost,↓reduceIte,reduceEqDiff,reduceAdd,reduceSub,reduceLeDiff,zz0,ynew,rdn_of g1]);try simp only[yback])
 refine s_l03AllNormal (x:=x) g (hv.pre (p1.trans p2)) fun w0 H3 p3 k3=>?_
 obtain⟨nl,-⟩:=nrms_NL g
 ((try simp (maxSteps:=3000000) (dsimp:=false) (disch:=first|omega|simp only[lnx];omega) only[↓ypre,ypost,↓reduceIte,reduceEqDiff,reduceAdd,reduceSub,reduceLeDiff,zz0,ynew,schV,k3.now.one]);try simp only[yback])
 generalize hH4:AH.new H3 _=H4
 obtain⟨hb4,p4,n4⟩:=new_facts hH4
 have g2:=pre_get p3 hb2
 have q3:=pre_len p3
 have P3:h<+:H3:=p1.trans (p2.trans p3)
 have kx:KX H2.length H3.length H4 fun h2=>Prods h2 w0 (nrms x.p x.ps):=by rw[←hH4];exact KX.new (k3.mono (Nat.le_refl _)) rfl
 refine WC_loop_inv (fun m f K=>∃ (L:List (List Int)) (vv:Value) (ag:Bool),m=(if ag=true then L.length+1 else 0)∧f 2=.pointer (some ⟨H1.length,0,none⟩)∧f 3=.pointer (some ⟨H3.length,0,none⟩)∧f 4=.bool ag∧H3<+:K∧H4.length≤K.length∧OwnB K H3.length [I64 x.p,I64 x.n,I64 x.m,I64 x.k,vv] true∧KX H2.length H3.length K (fun h2=>Prods h2 vv L)∧NL x L∧Red x.p L (redL x.p (nrms x.p x.ps))∧(ag=false→L=redL x.p (nrms x.p x.ps))) ?_ ((nrms x.p x.ps).length+1) _ _ ⟨nrms x.p x.ps,w0,true,rfl,rfl,rfl,rfl,p4,Nat.le_refl _,⟨_,hb4⟩,kx,nl,redL_red,fun h=>by cases h⟩
 rintro m f K ⟨L,vv,ag,rfl,f2,f3,f4,pp,lK,⟨e3,b3⟩,kx,nL,rL,eL⟩
 have gK2:=pre_get pp g2
 have l3:=get_lt b3
 have pv:=kx.now
 cases ag with
 | true=>
  ((try simp (maxSteps:=3000000) (dsimp:=false) (disch:=first|omega|simp only[lnx];omega) only[↓ypre,ypost,↓reduceIte,reduceEqDiff,reduceAdd,reduceSub,reduceLeDiff,zz0,ynew,f2,f3,f4,rdn_of b3]);try simp only[yback])
  refine s_l03Step (x:=wps x L) ⟨nL.g,nL.n⟩ pv (fun i k m' w' K2 p5 ip k5=>?_) (fun K2 p5 np=>?_)
  ·have hln:(jn x.p L i k m').length<L.length:=jn_len ip.kl ip.ik
   ((try simp (maxSteps:=3000000) (dsimp:=false) (disch:=first|omega|simp only[lnx];omega) only[↓ypre,ypost,↓reduceIte,reduceEqDiff,reduceAdd,reduceSub,reduceLeDiff,zz0,ynew,f2,f3,f4,schV,k5.now.one]);try simp only[yback])
   generalize hK3:AH.new K2 _=K3
   obtain⟨c5,p6,n6⟩:=new_facts hK3
   have b3':=pre_get (p5.trans p6) b3
   have l5:=pre_len p5
   have l6:=pre_len p6
   have kz:KX H2.length H3.length K3 (fun h2=>Prods h2 w' (jn x.p L i k m')):=KX.of (k5.pre p6) (by omega) (by have:=pre_len pp;omega)
   ((try simp (maxSteps:=3000000) (dsimp:=false) (disch:=first|omega|simp only[lnx];omega) only[↓ypre,ypost,↓reduceIte,reduceEqDiff,reduceAdd,reduceSub,reduceLeDiff,zz0,ynew,f2,f3,f4,rdn_of c5,wr_of b3',splice_eq]);try simp only[yback])
   refine InvQ_go ((jn x.p L i k m').length+1) (by show (jn x.p L i k m').length+1<L.length+1;omega) ⟨jn x.p L i k m',w',true,rfl,f2,f3,rfl,pre_put (pp.trans (p5.trans p6)) (Nat.le_refl _),by rw[len_put];omega,⟨_,get_put_same (get_lt b3')⟩,kz.put (.inr rfl),(jn_NL nL ip).1,rL.next ip,fun h=>by cases h⟩
  ·((try simp (maxSteps:=3000000) (dsimp:=false) (disch:=first|omega|simp only[lnx];omega) only[↓ypre,ypost,↓reduceIte,reduceEqDiff,reduceAdd,reduceSub,reduceLeDiff,zz0,ynew,f2,f3,f4,schV,pv.one]);try simp only[yback])
   generalize hK3:AH.new K2 _=K3
   obtain⟨c5,p6,n6⟩:=new_facts hK3
   have b3':=pre_get (p5.trans p6) b3
   have l5:=pre_len p5
   have l6:=pre_len p6
   ((try simp (maxSteps:=3000000) (dsimp:=false) (disch:=first|omega|simp only[lnx];omega) only[↓ypre,ypost,↓reduceIte,reduceEqDiff,reduceAdd,reduceSub,reduceLeDiff,zz0,ynew,f2,f3,f4,rdn_of c5,wr_of b3',splice_eq]);try simp only[yback])
   refine InvQ_go 0 (by omega) ⟨L,vv,false,rfl,f2,f3,rfl,pre_put (pp.trans (p5.trans p6)) (Nat.le_refl _),by rw[len_put];omega,⟨_,get_put_same (get_lt b3')⟩,(kx.pre (p5.trans p6)).put (.inr rfl),nL,rL,fun _=>(rL.end np).symm⟩
 | false=>
  have eR:=eL rfl
  subst eR
  have l2:=get_lt gK2
  ((try simp (maxSteps:=3000000) (dsimp:=false) (disch:=first|omega|simp only[lnx];omega) only[↓ypre,ypost,↓reduceIte,reduceEqDiff,reduceAdd,reduceSub,reduceLeDiff,zz0,ynew,f2,f3,f4,rdn_of b3,wr_of gK2,splice_eq,rdn_put_same,pv.one]);try simp only[yback])
  exact hQ vv _ (pre_put (P3.trans pp) (by omega)) ((KX.kN (kx.put (.inl (by omega)))).mono (by omega))
theorem s_ReduceScheme {x:Sch} {v:Value} {h:AH} {Q:Value→AH→Prop} (hv:Prods h v x.ps) (hl:SmallX x.ps)
  (hQ:∀ w h',h<+:h'→KN h.length h' (fun h2=>Prods h2 w (rdR x).1.ps)→Q (.tuple #[schV (rdR x).1 w,I64 (rdR x).2]) h'):WF S 134 [schV x v] h Q:=by
 refine WF_fn (fn:=c134) rfl rfl ?_
 dsimp only[c134,oO,oM,oS,oG,oK,oE,oL,oF,oX,oN]
 have o1:=hv.one
 ((try simp (maxSteps:=3000000) (dsimp:=false) (disch:=first|omega|simp only[lnx];omega) only[↓ypre,ypost,↓reduceIte,reduceEqDiff,reduceAdd,reduceSub,reduceLeDiff,zz0,ynew,schV,o1]);try simp only[yback])
 generalize hH1:AH.new h _=H1
 obtain⟨hb1,p1,n1⟩:=new_facts hH1
 generalize hH2:AH.new H1 _=H2
 obtain⟨hb2,p2,n2⟩:=new_facts hH2
 have g1:=pre_get p2 hb1
 ((try simp (maxSteps:=3000000) (dsimp:=false) (disch:=first|omega|simp only[lnx];omega) only[↓ypre,ypost,↓reduceIte,reduceEqDiff,reduceAdd,reduceSub,reduceLeDiff,zz0,ynew,rdn_of g1]);try simp only[yback])
 refine s_l01Is (x:=x) (hv.pre (p1.trans p2)) hl fun H3 p3=>?_
 have g1:=pre_get p3 g1
 have g2:=pre_get p3 hb2
 have l2:=get_lt g2
 have P3:=p1.trans (p2.trans p3)
 have q3:=pre_len p3
 unfold rdR at hQ
 cases hx:isX x with
 | false=>
  rw[hx] at hQ
  ((try simp (maxSteps:=3000000) (dsimp:=false) (disch:=first|omega|simp only[lnx];omega) only[↓ypre,ypost,↓reduceIte,reduceEqDiff,reduceAdd,reduceSub,reduceLeDiff,zz0,ynew,fillL,wr_of g2,splice_eq,rdn_put_same]);try simp only[yback])
  exact hQ _ _ (pre_put P3 (by omega)) zeroS_kn
 | true=>
 rw[hx] at hQ
 simp only[if_true] at hQ
 have g:=GX.of' hv hx
 ((try simp (maxSteps:=3000000) (dsimp:=false) (disch:=first|omega|simp only[lnx];omega) only[↓ypre,ypost,↓reduceIte,reduceEqDiff,reduceAdd,reduceSub,reduceLeDiff,zz0,ynew,rdn_of g1]);try simp only[yback])
 refine s_l03Reduce (x:=x) g (hv.pre P3) fun w0 H4 p4 k4=>?_
 have g2:=pre_get p4 g2
 have l2:=get_lt g2
 ((try simp (maxSteps:=3000000) (dsimp:=false) (disch:=first|omega|simp only[lnx];omega) only[↓ypre,ypost,↓reduceIte,reduceEqDiff,reduceAdd,reduceSub,reduceLeDiff,zz0,ynew,schV,k4.now.one,wr_of g2,splice_eq,rdn_put_same]);try simp only[yback])
 exact hQ w0 _ (pre_put (P3.trans p4) (by omega)) ((KN.put k4 (by omega)).mono (by omega))
end Go.Proofs.Ytapafdpnmakekaa.X

set_option linter.unusedVariables false
set_option linter.unusedSimpArgs false
set_option maxRecDepth 20000
set_option maxHeartbeats 4000000
namespace Go.Proofs.Ytapafdpnmakekaa.X
open Go Go.RowKit
def coOK (t:Ten) (s:Int) (ns:List Int):Prop:=(0≤s∧s≤2)∧allIn t.p ns=true∧(ns.length:Int)=sideN t s.toNat
instance {t:Ten} {s:Int} {ns:List Int}:Decidable (coOK t s ns):=by unfold coOK;infer_instance
section
variable {x y:Sch} {i k r s:Int} {ns:List Int}
theorem tofX_eq (gx:GX x) (gy:GX y) (e:EqS x y):tofX x=tofX y:=by
 obtain⟨e1,e2,e3,e4⟩:=e.l
 have z:=(isX_sz gx.ok).1
 have z1:=z.nm
 have z2:=z.mk2
 have z3:=z.nk
 unfold tofX tenT
 rw[←e1,←e2,←e3,←e4]
 congr 1
 refine gen_congr fun n hn=>?_
 unfold tenG lsN
 generalize x.n*x.m=I at *
 generalize x.m*x.k=J at *
 generalize x.n*x.k=K at *
 have hn':(n:Int)<I*J*K:=by omega
 have q1:(n:Int) / K<I*J:=Int.ediv_lt_of_lt_mul (by omega) hn'
 have q2:(n:Int) / K / J<I:=Int.ediv_lt_of_lt_mul (by omega) q1
 have q3:0≤(n:Int) / K:=Int.ediv_nonneg (by omega) (by omega)
 have q4:0≤(n:Int) / K / J:=Int.ediv_nonneg q3 (by omega)
 have q5:=Int.emod_lt_of_pos ((n:Int) / K) (show 0<J by omega)
 have q6:=Int.emod_lt_of_pos (n:Int) (show 0<K by omega)
 have q7:=Int.emod_nonneg ((n:Int) / K) (show J≠0 by omega)
 have q8:=Int.emod_nonneg (n:Int) (show K≠0 by omega)
 rw[lsX_eq gx gy e (by omega) (by omega) (by omega)]
theorem wkR_of (hv:Wid 27 x.ps∧Byt 27 x.ps) (h:(wkR x ns).2=0):GX x∧wkOk ns=true∧(wkR x ns).1=wps x (walkL x.p x.ps ns)∧GX (wps x (walkL x.p x.ps ns))∧EqS x (wps x (walkL x.p x.ps ns)):=by
 unfold wkR at h ⊢
 by_cases hx:isX x=true
 ·rw[if_pos hx] at h ⊢
  by_cases ho:wkOk ns=true
  ·rw[if_pos ho]
   have g:GX x:=⟨hx,hv.1,hv.2⟩
   obtain⟨h1,h2⟩:=walk_ok g (wkOk_nn ho).2
   exact⟨g,ho,rfl,h1,h2⟩
  ·rw[if_neg ho] at h
   cases h
 ·rw[if_neg hx] at h
  cases h
theorem wps_small (g:GX y):SmallX y.ps:=by
 have:=(isX_sz g.ok).2
 unfold SmallX
 omega
theorem wkR_small (hv:Wid 27 x.ps∧Byt 27 x.ps):SmallX (wkR x ns).1.ps:=by
 have z:SmallX zeroS.ps:=by unfold SmallX zeroS;simp
 by_cases h:(wkR x ns).2=0
 ·obtain⟨_,_,e,g,_⟩:=wkR_of hv h
  rw[e]
  exact wps_small g
 ·unfold wkR at h ⊢
  split
  ·rename_i hx
   rw[if_pos hx] at h
   split
   ·rename_i ho
    rw[if_pos ho] at h
    exact absurd rfl h
   ·exact z
  ·exact z
end
structure Pgs where
 N:Nat
 xs:Nat→Prg
def cellG (ps ns:Nat→Int) (vs ws:Nat→Value) (i f:Nat):Value:=if f=0 then I64 (ps i) else if f=1 then I64 (ns i) else if f=2 then vs i else ws i
structure PG (c:List Value) (N:Nat) (ps ns:Nat→Int) (vs ws:Nat→Value):Prop where
 len:c.length=N*4
 at4:∀ i,i<N→∀ f,f<4→c[i*4+f]?=some (cellG ps ns vs ws i f)
section
variable {c:List Value} {N:Nat} {ps ns ps' ns':Nat→Int} {vs ws:Nat→Value}
end
def GR (h:AH) (v:Value) (y:Pgs):Prop:=(v=.slice none 0 0∧y.N=0)∨∃ nb vs ws,v=.slice (some ⟨nb,0,none⟩) y.N 4∧(∃ c e fl,h.get nb=some ⟨c,e,false,fl⟩∧PG c y.N (fun i=>(y.xs i).p) (fun i=>(y.xs i).n) vs ws)∧∀ i,i<y.N→PrgR h (vs i) (ws i) (y.xs i)
def InG (a b:Nat) (h:AH) (v:Value) (y:Pgs):Prop:=(v=.slice none 0 0∧y.N=0)∨∃ (nb:Nat) (cs:Nat→Nat) (vs ws:Nat→Value),v=.slice (some ⟨nb,0,none⟩) y.N 4∧a≤cs 0∧cs y.N≤nb∧nb<b∧(∃ c e fl,h.get nb=some ⟨c,e,false,fl⟩∧PG c y.N (fun i=>(y.xs i).p) (fun i=>(y.xs i).n) vs ws)∧∀ i,i<y.N→InP (cs i) (cs (i+1)) h (vs i) (ws i) (y.xs i)
def kkG (xs:Nat→Prg):Nat→Int
 | 0=>0
 | i+1=>kkG xs i+(2+cntP (xs i))
@[simp] theorem kkG_0 {xs:Nat→Prg}:kkG xs 0=0:=rfl
section
variable {a b c d:Nat} {h h':AH} {v:Value} {y:Pgs}
theorem GR.len (o:GR h v y):lenV v=some (I64 y.N):=by
 rcases o with⟨rfl,e⟩|⟨nb,vs,ws,rfl,_⟩
 ·rw[e]
  rfl
 ·rfl
theorem GR.pre (o:GR h v y) (p:h<+:h'):GR h' v y:=by
 rcases o with o|⟨nb,vs,ws,h1,⟨c,e,fl,g,h2⟩,h3⟩
 ·exact .inl o
 ·exact .inr ⟨nb,vs,ws,h1,⟨c,e,fl,pre_get p g,h2⟩,fun i hi=>(h3 i hi).pre p⟩
theorem InG.rd (o:InG a b h v y):GR h v y:=by
 rcases o with o|⟨nb,cs,vs,ws,h1,_,_,_,h2,h3⟩
 ·exact .inl o
 ·exact .inr ⟨nb,vs,ws,h1,h2,fun i hi=>(h3 i hi).rd⟩
theorem InG.pre (o:InG a b h v y) (p:h<+:h'):InG a b h' v y:=by
 rcases o with o|⟨nb,cs,vs,ws,h1,e1,e2,e3,⟨c,e,fl,g,h2⟩,h3⟩
 ·exact .inl o
 ·exact .inr ⟨nb,cs,vs,ws,h1,e1,e2,e3,⟨c,e,fl,pre_get p g,h2⟩,fun i hi=>(h3 i hi).pre p⟩
end
theorem OnlyR.put {a b n:Nat} {h:AH} {bl:Blk} (hn:a≤n∧n<b):OnlyR a b h (h.put n bl):=⟨len_put,fun m hm=>by
 unfold AH.put
 rw[List.getElem?_set_ne (fun e=>hm (by omega))]⟩
theorem runP_in {x:Prg} {h:AH} {v w:Value} (f:PrgF x) (hv:PrgR h v w x) {ns:List Int} (hn:allIn x.p ns=true) (hl:(ns.length:Int)=x.n):allIn x.p (runP x ns)=true:=by
 have vin:=valS_in f hv hn hl (i:=x.st.length) (Nat.le_refl _)
 have key:∀ {i:Nat},i≤x.out.length→allIn x.p (outS x.p x.out (valS x.p x.st ns x.st.length) i)=true:=by
  intro i
  induction i with
  | zero=>intro _;rfl
  | succ i ih=>
   intro hi
   refine allIn_app (ih (by omega)) ?_
   obtain⟨a,b,hq⟩:=all2 (hv.2.wid (show i<x.out.length by omega))
   have o2:=f.out2 (by omega) hq
   have fp:=f.p
   rw[hq]
   have hA:=allIn_iff.1 vin a.toNat (by rw[valS_len];omega)
   have m:=Int.mul_nonneg o2.2.2.1 hA.1
   exact tmod_nn m (by omega)
 exact key (Nat.le_refl _)
theorem pgX_facts {h:AH} {v:Value} {x:Sch} {b:Bool} (hv:Prods h v x.ps) (hx:isX x=true) (h0:1≤x.ps.length) {i:Nat} (hi:i<3) :
  (pgX x b i).p=x.p∧(pgX x b i).n=nuX x i∧(pgX x b i).out.length=(fmX x i).length:=by
 have ok:=fmX_ok hv hx h0 hi
 obtain⟨hp,hn,hl,hm⟩:=lsOK_iff.1 ok
 unfold pgX pgO
 cases b with
 | true=>
  rw[if_pos rfl]
  have si:=shS_facts ok
  have nz:=si.nz
  have f:=finP_facts (x:=⟨x.p,nuX x i,(shS x.p (fmX x i)).st,[]⟩) (rows:=(shS x.p (fmX x i)).T) (N:=10000) hp (fun j hj=>by
   obtain⟨g1,g2⟩:=si.gt j hj
   exact⟨allIn_iff.2 fun k hk=>g2 k (by omega),by omega⟩) hn (i:=(shS x.p (fmX x i)).T.length) (Nat.le_refl _)
  have len:=si.len
  simp only[List.length_nil,Nat.zero_add] at f
  exact⟨f.1,f.2.1,f.2.2.2.trans len⟩
 | false=>
  rw[if_neg (by decide)]
  have f:=finP_facts (x:=⟨x.p,nuX x i,[],[]⟩) (rows:=fmX x i) (N:=30) hp (fun j hj=>⟨(isMat_iff.1 hm j hj).2,by have:=(isMat_iff.1 hm j hj).1;omega⟩) hn (i:=(fmX x i).length) (Nat.le_refl _)
  simp only[List.length_nil,Nat.zero_add] at f
  exact⟨f.1,f.2.1,f.2.2.2⟩
theorem fmX_len {x:Sch} {n k:Nat} (en:x.n=n) (ek:x.k=k):(fmX x 0).length=x.ps.length∧(fmX x 1).length=x.ps.length∧(fmX x 2).length=n*k:=by
 refine⟨?_,?_,?_⟩
 ·show (lsF x 0 _).length=_
  exact lsF_len
 ·show (lsF x 1 _).length=_
  exact lsF_len
 ·show (trL (lsF x 2 (x.n*x.k).toNat) (x.n*x.k).toNat).length=_
  rw[trL_len,en,ek,←Int.natCast_mul,Int.toNat_natCast]
def rsC (x:Sch) (L R:List (List Int)):Int:=if isX x=true then (if mOK x L R=true then (if x.ps.length=0 then 5 else 0) else 2) else 1
def prX (x:Sch) (b:Bool) (L R:List (List Int)) (j:Nat):Int:=((runP (pgX x b 0) L.flatten).getD j 0*(runP (pgX x b 1) R.flatten).getD j 0).tmod x.p
def rsF (x:Sch) (b:Bool) (L R:List (List Int)):List (List Int):=parts (runP (pgX x b 2) (gen x.ps.length (prX x b L R))) x.k.toNat x.n.toNat
def rsR (x:Sch) (b:Bool) (L R:List (List Int)):List (List Int)×Int:=if rsC x L R=0 then (rsF x b L R,0) else ([],rsC x L R)
structure RF (x:Sch) (b:Bool) (L R:List (List Int)) (n m k:Nat):Prop where
 mf:MF x L R n m k
 h0:1≤x.ps.length∧x.ps.length≤30
 p:2≤x.p∧x.p≤5
 f:∀ i,i<3→PrgF (pgX x b i)
 ep:∀ i,i<3→(pgX x b i).p=x.p
 n0:((L.flatten.length:Nat):Int)=(pgX x b 0).n
 n1:((R.flatten.length:Nat):Int)=(pgX x b 1).n
 n2:(x.ps.length:Int)=(pgX x b 2).n
 o0:(runP (pgX x b 0) L.flatten).length=x.ps.length
 o1:(runP (pgX x b 1) R.flatten).length=x.ps.length
 o2:∀ ns,(runP (pgX x b 2) ns).length=n*k
theorem rf_of {h:AH} {v:Value} {x:Sch} {b:Bool} {L R:List (List Int)} (hv:Prods h v x.ps) (hc:rsC x L R=0):isX x=true∧mcX x L R=0∧∃ n m k,RF x b L R n m k:=by
 have hx:isX x=true:=by
  unfold rsC at hc
  split at hc
  ·assumption
  ·omega
 have hm:mOK x L R=true:=by
  unfold rsC at hc
  rw[if_pos hx] at hc
  split at hc
  ·assumption
  ·omega
 have h0:¬ x.ps.length=0:=fun e=>by
  unfold rsC at hc
  rw[if_pos hx,if_pos hm,if_pos e] at hc
  omega
 have hmc:mcX x L R=0:=by
  unfold mcX
  rw[if_pos hx,if_pos hm]
 obtain⟨n,m,k,mf⟩:=mf_of hmc
 obtain⟨zz,hp,hl30,ho⟩:=isX_facts hx
 have h0':1≤x.ps.length:=by omega
 have pf:=fun i (hi:i<3)=>pgX_facts (b:=b) hv hx h0' hi
 obtain⟨l0,l1,l2⟩:=fmX_len mf.en mf.ek
 refine⟨hx,hmc,n,m,k,mf,⟨h0',hl30⟩,isP_in hp,fun i hi=>isPrg_facts (pgX_isPrg hv hx h0' hi),fun i hi=>(pf i hi).1,?_,?_,?_,?_,?_,fun ns=>?_⟩
 ·rw[(pf 0 (by omega)).2.1,flat_len mf.wL,mf.lL]
  show _=pl x 0
  unfold pl
  simp[mf.en,mf.em]
 ·rw[(pf 1 (by omega)).2.1,flat_len mf.wR,mf.lR]
  show _=pl x 1
  unfold pl
  simp[mf.em,mf.ek]
 ·rw[(pf 2 (by omega)).2.1]
  rfl
 ·rw[runP_len,(pf 0 (by omega)).2.2,l0]
 ·rw[runP_len,(pf 1 (by omega)).2.2,l1]
 ·rw[runP_len,(pf 2 (by omega)).2.2,l2]
theorem RF.in0 {x:Sch} {b:Bool} {L R:List (List Int)} {n m k:Nat} (o:RF x b L R n m k) {h:AH} {v w:Value} (hv:PrgR h v w (pgX x b 0)):allIn x.p (runP (pgX x b 0) L.flatten)=true:=by
 have e:=o.ep 0 (by omega)
 have:=runP_in (o.f 0 (by omega)) hv (by rw[e];exact o.mf.aL) o.n0
 rw[e] at this
 exact this
theorem RF.in1 {x:Sch} {b:Bool} {L R:List (List Int)} {n m k:Nat} (o:RF x b L R n m k) {h:AH} {v w:Value} (hv:PrgR h v w (pgX x b 1)):allIn x.p (runP (pgX x b 1) R.flatten)=true:=by
 have e:=o.ep 1 (by omega)
 have:=runP_in (o.f 1 (by omega)) hv (by rw[e];exact o.mf.aR) o.n1
 rw[e] at this
 exact this
theorem prX_in {x:Sch} {b:Bool} {L R:List (List Int)} (hp:2≤x.p∧x.p≤5) (h0:allIn x.p (runP (pgX x b 0) L.flatten)=true) (h1:allIn x.p (runP (pgX x b 1) R.flatten)=true) (l0:(runP (pgX x b 0) L.flatten).length=x.ps.length) (l1:(runP (pgX x b 1) R.flatten).length=x.ps.length) :
  (∀ j,j<x.ps.length→(0≤(runP (pgX x b 0) L.flatten).getD j 0*(runP (pgX x b 1) R.flatten).getD j 0∧(runP (pgX x b 0) L.flatten).getD j 0*(runP (pgX x b 1) R.flatten).getD j 0≤16)∧0≤prX x b L R j∧prX x b L R j<x.p)∧allIn x.p (gen x.ps.length (prX x b L R))=true:=by
 have key:∀ j,j<x.ps.length→(0≤(runP (pgX x b 0) L.flatten).getD j 0*(runP (pgX x b 1) R.flatten).getD j 0∧(runP (pgX x b 0) L.flatten).getD j 0*(runP (pgX x b 1) R.flatten).getD j 0≤16)∧0≤prX x b L R j∧prX x b L R j<x.p:=fun j hj=>by
  have a:=allIn_iff.1 h0 j (by omega)
  have c:=allIn_iff.1 h1 j (by omega)
  have m:=Int.mul_nonneg a.1 c.1
  have m2:(runP (pgX x b 0) L.flatten).getD j 0*(runP (pgX x b 1) R.flatten).getD j 0≤4*4:=Int.le_trans (Int.mul_le_mul_of_nonneg_right (show _≤(4:Int) by omega) c.1) (Int.mul_le_mul_of_nonneg_left (by omega) (by decide))
  exact⟨⟨m,by omega⟩,tmod_nn m (by omega)⟩
 exact⟨key,allIn_iff.2 fun j hj=>by
  rw[gen_len] at hj
  rw[gen_get hj]
  exact (key j hj).2⟩
end Go.Proofs.Ytapafdpnmakekaa.X

set_option linter.unusedVariables false
set_option linter.unusedSimpArgs false
set_option maxRecDepth 20000
set_option maxHeartbeats 4000000
namespace Go.Proofs.Ytapafdpnmakekaa.X
open Go Go.RowKit
open Nat (reduceEqDiff reduceAdd reduceSub reduceLeDiff)
theorem rsC_mc {x:Sch} {L R:List (List Int)} (h:mcX x L R≠0):rsC x L R=mcX x L R:=by
 unfold rsC mcX at *
 by_cases h1:isX x=true
 ·rw[if_pos h1] at h ⊢
  rw[if_pos h1]
  by_cases h2:mOK x L R=true
  ·rw[if_pos h2] at h
   exact absurd rfl h
  ·rw[if_neg h2,if_neg h2]
 ·rw[if_neg h1,if_neg h1]
theorem rsC_5 {x:Sch} {L R:List (List Int)} (h:mcX x L R=0):rsC x L R=if x.ps.length=0 then 5 else 0:=by
 obtain⟨h1,_⟩:=mcX_0 h
 unfold rsC
 unfold mcX at h
 rw[if_pos h1] at h ⊢
 by_cases h2:mOK x L R=true
 ·rw[if_pos h2]
 ·rw[if_neg h2] at h
  omega
theorem i_RunScheme {v u z:Value} {x:Sch} {b:Bool} {L R:List (List Int)} {h:AH} {Q:Value→AH→Prop} (hv:Prods h v x.ps) (hl:SmallX x.ps) (hu:Rows h u L) (hL:SmallM L) (hz:Rows h z R) (hR:SmallM R)
  (hQ:∀ v' h',h<+:h'→OwnRows h h' v' (rsR x b L R).1→Q (.tuple #[v',I64 (rsR x b L R).2]) h'):WF S 23 [schV x v,.bool b,u,z] h Q:=by
 refine WF_fn (fn:=c23) rfl rfl ?_
 dsimp only[c23,oO,oM,oS,oG,oK,oE,oL,oF,oX,oN]
 ((try simp (maxSteps:=3000000) (dsimp:=false) (disch:=first|omega|simp only[lnx];omega) only[↓ypre,ypost,↓reduceIte,reduceEqDiff,reduceAdd,reduceSub,reduceLeDiff,zz0,ynew,schV,hv.one]);try simp only[yback])
 generalize hH1:AH.new h _=H1
 obtain⟨hb1,p1,n1⟩:=new_facts hH1
 ((try simp (maxSteps:=3000000) (dsimp:=false) (disch:=first|omega|simp only[lnx];omega) only[↓ypre,ypost,↓reduceIte,reduceEqDiff,reduceAdd,reduceSub,reduceLeDiff,zz0,ynew,rdn_of hb1]);try simp only[yback])
 refine i_matricesCode (x:=x) (hv.pre p1) hl (hu.pre p1) hL.big (hz.pre p1) hR.big fun H2 p2=>?_
 have p12:=p1.trans p2
 have hb2:=pre_get p2 hb1
 have no:∀ c,rsC x L R=c→c≠0→Q (.tuple #[.slice none 0 0,I64 c]) H2:=fun c e hc=>by
  unfold rsR at hQ
  rw[if_neg (by omega),e] at hQ
  exact hQ _ _ p12 (.inl ⟨rfl,rfl⟩)
 by_cases hc:mcX x L R=0
 case neg=>
  ((try simp (maxSteps:=3000000) (dsimp:=false) (disch:=first|omega|simp only[lnx];omega) only[↓ypre,ypost,↓reduceIte,reduceEqDiff,reduceAdd,reduceSub,reduceLeDiff,zz0,ynew,decide_eq_true (show mcX x L R≠0 from hc)]);try simp only[yback])
  exact no _ (rsC_mc hc) hc
 have e5:=rsC_5 hc
 have hv2:=hv.pre p12
 ((try simp (maxSteps:=3000000) (dsimp:=false) (disch:=first|omega|simp only[lnx];omega) only[↓ypre,ypost,↓reduceIte,reduceEqDiff,reduceAdd,reduceSub,reduceLeDiff,zz0,ynew,decide_eq_false (show ¬ mcX x L R≠0 from fun y=>y hc),rd1_of hb2,hv2.1.len]);try simp only[yback])
 by_cases h0:x.ps.length=0
 ·rw[if_pos h0] at e5
  ((try simp (maxSteps:=3000000) (dsimp:=false) (disch:=first|omega|simp only[lnx];omega) only[↓ypre,ypost,↓reduceIte,reduceEqDiff,reduceAdd,reduceSub,reduceLeDiff,zz0,ynew,decide_eq_true (show (x.ps.length:Int)=0 by omega)]);try simp only[yback])
  exact no 5 e5 (by decide)
 rw[if_neg h0] at e5
 obtain⟨hx,_,n,m,k,rf⟩:=rf_of (b:=b) hv e5
 unfold rsR at hQ
 rw[if_pos e5] at hQ
 have mf:=rf.mf
 have bb:=mf.b
 have nk:=mf.nk
 have lL:=mf.lL
 have lR:=mf.lR
 have hp:=rf.p
 have hh0:=rf.h0
 ((try simp (maxSteps:=3000000) (dsimp:=false) (disch:=first|omega|simp only[lnx];omega) only[↓ypre,ypost,↓reduceIte,reduceEqDiff,reduceAdd,reduceSub,reduceLeDiff,zz0,ynew,decide_eq_false (show ¬ (x.ps.length:Int)=0 by omega),rdn_of hb2]);try simp only[yback])
 refine i_programsOf (x:=x) (b:=b) hv2 hx (by omega) fun nb q1 q2 H3 v1 w1 v2 w2 v3 w3 p3 g i0 i1 i2 i3=>?_
 have o3:Pr3 H3 nb x b v1 w1 v2 w2 v3 w3:=⟨g,i1.rd,i2.rd,i3.rd⟩
 have p13:=p12.trans p3
 obtain⟨y0,z0,_,r0,pr0⟩:=o3.at (i:=0) (by omega)
 have x0:ixsV 4 (.slice (some ⟨nb,0,none⟩) 3 4) (.int .i64 0)=some (.pointer (some ⟨nb,0,none⟩)):=ix4 (nb:=nb) (len:=3) (i:=0) (kk:=.i64) (by omega)
 have x1:ixsV 4 (.slice (some ⟨nb,0,none⟩) 3 4) (.int .i64 1)=some (.pointer (some ⟨nb,4,none⟩)):=ix4 (nb:=nb) (len:=3) (i:=1) (kk:=.i64) (by omega)
 have x2:ixsV 4 (.slice (some ⟨nb,0,none⟩) 3 4) (.int .i64 2)=some (.pointer (some ⟨nb,8,none⟩)):=ix4 (nb:=nb) (len:=3) (i:=2) (kk:=.i64) (by omega)
 have r0:H3.rdn nb 0 4=some (prgC (pgX x b 0) y0 z0):=r0
 ((try simp (maxSteps:=3000000) (dsimp:=false) (disch:=first|omega|simp only[lnx];omega) only[↓ypre,ypost,↓reduceIte,reduceEqDiff,reduceAdd,reduceSub,reduceLeDiff,zz0,ynew,x0,r0]);try simp only[yback])
 refine i_Concat (hu.pre p13) mf.wL (by omega) (by omega) fun nl fl H4 e4 p4 o4=>?_
 refine⟨p4,?_⟩
 ((try simp (maxSteps:=3000000) (dsimp:=false) (disch:=first|omega|simp only[lnx];omega) only[↓ypre,ypost,↓reduceIte,reduceEqDiff,reduceAdd,reduceSub,reduceLeDiff,zz0,ynew]);try simp only[yback])
 have ea0:Value.agg (prgC (pgX x b 0) y0 z0).toArray=prgV (pgX x b 0) y0 z0:=rfl
 rw[ea0]
 refine i_run (pr0.pre p4) (rf.f 0 (by omega)) o4.ints (by rw[rf.ep 0 (by omega)];exact mf.aL) rf.n0 fun na fa H5 e5' p5 o5=>?_
 refine⟨p5,?_⟩
 have p35:=p4.trans p5
 obtain⟨y1,z1,_,r1,pr1⟩:=(o3.pre p35).at (i:=1) (by omega)
 have r1:AH.rdn H5 nb 4 4=some (prgC (pgX x b 1) y1 z1):=r1
 ((try simp (maxSteps:=3000000) (dsimp:=false) (disch:=first|omega|simp only[lnx];omega) only[↓ypre,ypost,↓reduceIte,reduceEqDiff,reduceAdd,reduceSub,reduceLeDiff,zz0,ynew,x1,r1]);try simp only[yback])
 refine i_Concat (hz.pre (p13.trans p35)) mf.wR (by omega) (by omega) fun nr fr H6 e6 p6 o6=>?_
 refine⟨p6,?_⟩
 ((try simp (maxSteps:=3000000) (dsimp:=false) (disch:=first|omega|simp only[lnx];omega) only[↓ypre,ypost,↓reduceIte,reduceEqDiff,reduceAdd,reduceSub,reduceLeDiff,zz0,ynew]);try simp only[yback])
 have ea1:Value.agg (prgC (pgX x b 1) y1 z1).toArray=prgV (pgX x b 1) y1 z1:=rfl
 rw[ea1]
 refine i_run (pr1.pre p6) (rf.f 1 (by omega)) o6.ints (by rw[rf.ep 1 (by omega)];exact mf.aR) rf.n1 fun nb2 fb H7 e7 p7 o7=>?_
 have p57:=p6.trans p7
 have in0:=rf.in0 pr0
 have in1:=rf.in1 pr1
 have l0:=rf.o0
 have l1:=rf.o1
 obtain⟨pin,pal⟩:=prX_in hp in0 in1 l0 l1
 have oa:=o5.pre p57
 have lta:=o5.lt
 have k56:=pre_len p6
 rw[l0,l1]
 ((try simp (maxSteps:=3000000) (dsimp:=false) (disch:=first|omega|simp only[lnx];omega) only[↓ypre,ypost,↓reduceIte,reduceEqDiff,reduceAdd,reduceSub,reduceLeDiff,zz0,ynew,show lenV (sl na x.ps.length)=some (I64 x.ps.length) from rfl]);try simp only[yback])
 have ga:runP (pgX x b 0) L.flatten=gen x.ps.length fun j=>if j<0 then prX x b L R j else (runP (pgX x b 0) L.flatten).getD j 0:=gen_ext l0 fun j _=>by rw[if_neg (by omega)]
 rw[ga] at oa
 have p37:=p35.trans p57
 have k34:=pre_len p4
 have hne:na≠nb2:=by omega
 refine WC_loop_inv (fun m f K1=>∃ (j:Nat),m=x.ps.length-j∧j≤x.ps.length∧f 4=.pointer (some ⟨h.length,0,none⟩)∧f 11=.slice (some ⟨nb,0,none⟩) 3 4∧f 12=sl na x.ps.length∧f 13=sl nb2 x.ps.length∧f 42=I64 x.ps.length∧f 43=I64 j∧(H3<+:K1)∧(Lst K1 na (gen x.ps.length fun j'=>if j'<j then prX x b L R j' else (runP (pgX x b 0) L.flatten).getD j' 0) fa)∧(Lst K1 nb2 (runP (pgX x b 1) R.flatten) fb)) ?_ (x.ps.length-0) _ _ ⟨0,rfl,by omega,(by first|rfl|simp[upd_apply]),(by first|rfl|simp[upd_apply]),(by first|rfl|simp[upd_apply]),(by first|rfl|simp[upd_apply]),(by first|rfl|simp[upd_apply]),(by first|rfl|simp[upd_apply]),p37,oa,o7⟩
 rintro m f K1 ⟨j,rfl,hj,f4,f11,f12,f13,f42,f43,pp,la,lb⟩
 have bK:=pre_get (p3.trans pp) hb2
 by_cases hlt:(j:Int)<x.ps.length
 ·have hj':j<x.ps.length:=by omega
  have ixa:ixsV 1 (sl na x.ps.length) (I64 j)=some (.pointer (some ⟨na,j,none⟩)):=by rw[Lst.ix (by omega),Int.toNat_natCast]
  have ixb:ixsV 1 (sl nb2 x.ps.length) (I64 j)=some (.pointer (some ⟨nb2,j,none⟩)):=by rw[Lst.ix (by omega),Int.toNat_natCast]
  have rda:=la.rd (j:=j) (by rw[gen_len];exact hj')
  rw[gen_get hj',if_neg (Nat.lt_irrefl _)] at rda
  have rdb:=lb.rd (j:=j) (by omega)
  obtain⟨⟨m1,m2⟩,m3⟩:=pin j hj'
  obtain⟨H8,w8,e8,l8⟩:=la.wr (j:=j) (x:=prX x b L R j) (by rw[gen_len];exact hj')
  rw[gen_set hj' _ rfl] at l8
  have epr:((runP (pgX x b 0) L.flatten).getD j 0*(runP (pgX x b 1) R.flatten).getD j 0).tmod x.p=prX x b L R j:=rfl
  ((try simp (maxSteps:=3000000) (dsimp:=false) (disch:=first|omega|simp only[lnx];omega) only[↓ypre,ypost,↓reduceIte,reduceEqDiff,reduceAdd,reduceSub,reduceLeDiff,zz0,ynew,f4,f11,f12,f13,f42,f43,decide_eq_true hlt,ixa,ixb,rda,rdb,rd1_of bK,wrap64_in,bin_rem (show x.p≠0 by omega),epr,w8]);try simp only[yback])
  refine InvQ_go (x.ps.length-(j+1)) (by omega) ⟨(j+1),rfl,by omega,(by first|rfl|exact f4|(simp only[upd_apply];rfl)|(show I64 _=_;congr 1;omega)),(by first|rfl|exact f11|(simp only[upd_apply];rfl)|(show I64 _=_;congr 1;omega)),(by first|rfl|exact f12|(simp only[upd_apply];rfl)|(show I64 _=_;congr 1;omega)),(by first|rfl|exact f13|(simp only[upd_apply];rfl)|(show I64 _=_;congr 1;omega)),(by first|rfl|exact f42|(simp only[upd_apply];rfl)|(show I64 _=_;congr 1;omega)),(by first|rfl|exact f43|(simp only[upd_apply];rfl)|(show I64 _=_;congr 1;omega)),(by rw[e8];exact pre_put pp (by omega)),l8,(by rw[e8];exact lb.put_ne hne)⟩
 have ej:j=x.ps.length:=by omega
 rw[ej] at la
 rw[gen_congr (g':=prX x b L R) (fun j' hj=>by rw[if_pos hj])] at la
 obtain⟨y2,z2,_,r2,pr2⟩:=(o3.pre pp).at (i:=2) (by omega)
 have r2:AH.rdn K1 nb 8 4=some (prgC (pgX x b 2) y2 z2):=r2
 ((try simp (maxSteps:=3000000) (dsimp:=false) (disch:=first|omega|simp only[lnx];omega) only[↓ypre,ypost,↓reduceIte,reduceEqDiff,reduceAdd,reduceSub,reduceLeDiff,zz0,ynew,f4,f11,f12,f13,f42,f43,decide_eq_false hlt,x2,r2]);try simp only[yback])
 have ea2:Value.agg (prgC (pgX x b 2) y2 z2).toArray=prgV (pgX x b 2) y2 z2:=rfl
 have la':=la.ints
 rw[gen_len] at la'
 rw[ea2]
 refine i_run pr2 (rf.f 2 (by omega)) la' (by rw[rf.ep 2 (by omega)];exact pal) (by rw[gen_len];exact rf.n2) fun nc fc H9 e9 p9 o9=>?_
 refine⟨p9,?_⟩
 have b9:=pre_get p9 bK
 ((try simp (maxSteps:=3000000) (dsimp:=false) (disch:=first|omega|simp only[lnx];omega) only[↓ypre,ypost,↓reduceIte,reduceEqDiff,reduceAdd,reduceSub,reduceLeDiff,zz0,ynew,f4,f11,f12,f13,f42,f43,rd1_of b9]);try simp only[yback])
 rw[mf.ek]
 have lc:=rf.o2 (gen x.ps.length (prX x b L R))
 refine i_parted (w:=k) (n:=n) o9.ints (by omega) (by omega) lc fun v6 H10 p10 o10=>?_
 ((try simp (maxSteps:=3000000) (dsimp:=false) (disch:=first|omega|simp only[lnx];omega) only[↓ypre,ypost,↓reduceIte,reduceEqDiff,reduceAdd,reduceSub,reduceLeDiff,zz0,ynew,f4,f11,f12,f13,f42,f43]);try simp only[yback])
 have eF:parts (runP (pgX x b 2) (gen x.ps.length (prX x b L R))) k n=rsF x b L R:=by
  unfold rsF
  rw[mf.en,mf.ek,Int.toNat_natCast,Int.toNat_natCast]
 rw[eF] at o10
 have pq:=(p13.trans pp).trans p9
 exact hQ _ _ (pq.trans p10) (o10.lo (pre_len pq))
end Go.Proofs.Ytapafdpnmakekaa.X

set_option linter.unusedVariables false
set_option linter.unusedSimpArgs false
set_option maxRecDepth 20000
set_option maxHeartbeats 4000000
namespace Go.Proofs.Ytapafdpnmakekaa.X
open Go Go.RowKit
def LstZ (h0 h:AH) (v:Value) (l:List Int):Prop:=(l=[]∧v=.slice none 0 2)∨∃ n full,v=sl n l.length∧h0.length≤n∧Lst h n l full
theorem LstZ.ints {h0 h:AH} {v:Value} {l:List Int} (o:LstZ h0 h v l):Ints h v l:=by
 rcases o with⟨rfl,rfl⟩|⟨n,full,rfl,_,o⟩
 ·exact .inl ⟨rfl,2,by omega,rfl⟩
 ·exact o.ints
theorem dot_congrL {q q' ns:List Int}:∀ {k:Nat},(∀ i,i<k→q.getD i 0=q'.getD i 0)→dot q ns k=dot q' ns k
 | 0,_=>rfl
 | k+1,h=>by
  simp only[dot]
  rw[dot_congrL (k:=k) fun i hi=>h i (by omega),h k (by omega)]
theorem take_gD {q:List Int} {w i:Nat} (hi:i<w):(q.take w).getD i 0=q.getD i 0:=by
 rw[List.getD_eq_getElem?_getD,List.getD_eq_getElem?_getD,List.getElem?_take,if_pos hi]
theorem seg_gD {q:List Int} {i j:Nat} (hj:j<9):(seg q i).getD j 0=q.getD (i*9+j) 0:=by
 unfold seg
 rw[take_gD hj,List.getD_eq_getElem?_getD,List.getD_eq_getElem?_getD,List.getElem?_drop]
section
variable {h:AH} {v:Value} {x:Sch} {b:Bool} {L R:List (List Int)} {n m k:Nat}
theorem prX_val (hv:Prods h v x.ps) (hx:isX x=true) (rf:RF x b L R n m k) {j:Nat} (hj:j<x.ps.length):prX x b L R j=(valI x.p L.flatten R.flatten (x.ps.getD j [])).tmod x.p:=by
 have mf:=rf.mf
 have bb:=mf.b
 have h0:=rf.h0
 have ok0:=fmX_ok hv hx (show 1≤x.ps.length by omega) (i:=0) (by omega)
 have ok1:=fmX_ok hv hx (show 1≤x.ps.length by omega) (i:=1) (by omega)
 obtain⟨e0,e1,_⟩:=fmX_len mf.en mf.ek
 have n0:=rf.n0
 have n1:=rf.n1
 have fl:=flat_len mf.wL
 have fr:=flat_len mf.wR
 rw[mf.lL] at fl
 rw[mf.lR] at fr
 have f0:=mf.fL
 have f1:=mf.fR
 have g0:(fmX x 0).getD j []=(seg (x.ps.getD j []) 0).take (n*m):=by
  show (lsF x 0 (x.n*x.m).toNat).getD j []=_
  rw[lsF_get hj,mf.en,mf.em,←Int.natCast_mul,Int.toNat_natCast]
 have g1:(fmX x 1).getD j []=(seg (x.ps.getD j []) 1).take (m*k):=by
  show (lsF x 1 (x.m*x.k).toNat).getD j []=_
  rw[lsF_get hj,mf.em,mf.ek,←Int.natCast_mul,Int.toNat_natCast]
 have nu0:nuX x 0=(pgX x b 0).n:=((pgX_facts (b:=b) hv hx (show 1≤x.ps.length by omega) (i:=0) (by omega)).2.1).symm
 have nu1:nuX x 1=(pgX x b 1).n:=((pgX_facts (b:=b) hv hx (show 1≤x.ps.length by omega) (i:=1) (by omega)).2.1).symm
 have sl:∀ i,i<3→(seg (x.ps.getD j []) i).length=9:=fun i hi=>((hv.by hj).seg hi).1
 have r0:=runP_pgO (b:=b) ok0 (ns:=L.flatten) (by rw[nu0];exact n0) mf.aL (j:=j) (by omega)
 have r1:=runP_pgO (b:=b) ok1 (ns:=R.flatten) (by rw[nu1];exact n1) mf.aR (j:=j) (by omega)
 rw[g0] at r0
 rw[g1] at r1
 rw[show ((seg (x.ps.getD j []) 0).take (n*m)).length=L.flatten.length by rw[List.length_take,sl 0 (by omega)];omega,dot_congrL (q':=seg (x.ps.getD j []) 0) (fun i hi=>take_gD (by omega))] at r0
 rw[show ((seg (x.ps.getD j []) 1).take (m*k)).length=R.flatten.length by rw[List.length_take,sl 1 (by omega)];omega,dot_congrL (q':=seg (x.ps.getD j []) 1) (fun i hi=>take_gD (by omega))] at r1
 have a0:(runP (pgX x b 0) L.flatten).getD j 0=_:=r0
 have a1:(runP (pgX x b 1) R.flatten).getD j 0=_:=r1
 unfold prX valI
 rw[a0,a1]
theorem rs_mp (hv:Prods h v x.ps) (hx:isX x=true) (rf:RF x b L R n m k):rsF x b L R=mpF x L R:=by
 have mf:=rf.mf
 have bb:=mf.b
 have nk:=mf.nk
 have h0:=rf.h0
 have hp:=rf.p
 have ok2:=fmX_ok hv hx (show 1≤x.ps.length by omega) (i:=2) (by omega)
 obtain⟨_,_,e2⟩:=fmX_len mf.en mf.ek
 unfold rsF mpF
 rw[mf.en,mf.ek,←Int.natCast_mul,Int.toNat_natCast,Int.toNat_natCast,Int.toNat_natCast]
 congr 1
 refine gen_ext (rf.o2 _) fun i hi=>?_
 have sin:=stM_in hp hv.2 hv.1.widL mf.fL mf.fR mf.aL mf.aR (t:=x.ps.length) (Nat.le_refl _)
 have pin:∀ j,j<x.ps.length→0≤prX x b L R j∧prX x b L R j<x.p:=fun j hj=>by
  rw[prX_val hv hx rf hj]
  exact tmod_nn (valI_in hp (hv.by hj) mf.fL mf.fR mf.aL mf.aR).1 (by omega)
 have pal:allIn x.p (gen x.ps.length (prX x b L R))=true:=allIn_iff.2 fun j hj=>by
  rw[gen_len] at hj
  rw[gen_get hj]
  exact pin j hj
 have r2:=runP_pgO (b:=b) ok2 (ns:=gen x.ps.length (prX x b L R)) (by rw[gen_len];rfl) pal (j:=i) (by omega)
 have a2:(runP (pgX x b 2) (gen x.ps.length (prX x b L R))).getD i 0=_:=r2
 rw[a2]
 have gr:(fmX x 2).getD i []=gen x.ps.length fun j=>(x.ps.getD j []).getD (18+i) 0:=by
  show (trL (lsF x 2 (x.n*x.k).toNat) (x.n*x.k).toNat).getD i []=_
  rw[mf.en,mf.ek,←Int.natCast_mul,Int.toNat_natCast,trL_get hi,lsF_len]
  refine gen_congr fun j hj=>?_
  rw[lsF_get hj,take_gD hi,seg_gD (by omega)]
 rw[gr,gen_len]
 have key:∀ t,t≤x.ps.length→x.p∣dot (gen x.ps.length fun j=>(x.ps.getD j []).getD (18+i) 0) (gen x.ps.length (prX x b L R)) t-stM x.p L.flatten R.flatten x.ps t i:=by
  intro t
  induction t with
  | zero=>intro _;exact⟨0,by simp[stM]⟩
  | succ t ih=>
   intro ht
   obtain⟨k1,h1⟩:=ih (by omega)
   simp only[dot,stM]
   rw[gen_get (by omega),gen_get (by omega),prX_val hv hx rf (show t<x.ps.length by omega)]
   obtain⟨k2,h2⟩:=tmod_dvd (valI x.p L.flatten R.flatten (x.ps.getD t [])) x.p
   obtain⟨k3,h3⟩:=tmod_dvd (stM x.p L.flatten R.flatten x.ps t i+(x.ps.getD t []).getD (18+i) 0*valI x.p L.flatten R.flatten (x.ps.getD t [])) x.p
   exact⟨k1-(x.ps.getD t []).getD (18+i) 0*k2+k3,by grind⟩
 have gal:allIn x.p (gen x.ps.length fun j=>(x.ps.getD j []).getD (18+i) 0)=true:=by
  have:=(lsOK_iff.1 ok2).2.2.2
  have:=(isMat_iff.1 this i (by omega)).2
  rw[gr] at this
  exact this
 obtain⟨k1,h1⟩:=key x.ps.length (Nat.le_refl _)
 obtain⟨k2,h2⟩:=tmod_dvd (dot (gen x.ps.length fun j=>(x.ps.getD j []).getD (18+i) 0) (gen x.ps.length (prX x b L R)) x.ps.length) x.p
 exact dvd_eq ⟨k1-k2,by grind⟩ (tmod_nn (dot_nn (show 1≤x.p by omega) gal pal) (by omega)) (sin i (by omega))
end
section
variable {x y:Sch} {L R:List (List Int)}
theorem EqS.symm (e:EqS x y):EqS y x:=⟨⟨e.l.1.symm,e.l.2.1.symm,e.l.2.2.1.symm,e.l.2.2.2.symm⟩,fun a b c ha hb hc=>by
 rw[←e.l.1]
 exact (e.s a b c ha hb hc).symm⟩
theorem wrS_eq (gx:GX x) (gy:GX y) (e:EqS x y) {I J K:Nat} (bI:I≤9) (bJ:J≤9) (bK:K≤9):∀ {n:Nat},n≤I*(J*K)→wrS x J K n=wrS y J K n
 | 0,_=>rfl
 | n+1,hn=>by
  have ih:=wrS_eq gx gy e bI bJ bK (n:=n) (by omega)
  have hJK:0<J*K:=by
   rcases Nat.eq_zero_or_pos (J*K) with h|h
   ·rw[h] at hn;omega
   ·exact h
  have hK:0<K:=Nat.pos_of_mul_pos_left hJK
  have hJ:0<J:=Nat.pos_of_mul_pos_right hJK
  have b1:n%K<K:=Nat.mod_lt _ hK
  have b2:n / K%J<J:=Nat.mod_lt _ hJ
  have b3:n / K / J<I:=by
   rw[Nat.div_div_eq_div_mul,Nat.div_lt_iff_lt_mul (Nat.mul_pos hK hJ),Nat.mul_comm K J]
   omega
  unfold wrS
  rw[ih]
  have eb:badE x J K n=badE y J K n:=by
   unfold badE wnX
   rw[lsX_eq gx gy e (by omega) (by omega) (by omega),e.l.2.2.1,e.l.2.2.2]
  rw[eb]
theorem wrX_eq (gx:GX x) (gy:GX y) (e:EqS x y):wrX x=wrX y:=by
 have z:=(isX_sz gx.ok).1
 have z1:=z.nm
 have z2:=z.mk2
 have z3:=z.nk
 unfold wrX
 rw[←e.l.2.1,←e.l.2.2.1,←e.l.2.2.2]
 exact wrS_eq gx gy e (I:=(x.n*x.m).toNat) (by omega) (by omega) (by omega) (Nat.le_refl _)
theorem crR_eq (gx:GX x) (gy:GX y) (e:EqS x y):crR x=crR y:=by
 unfold crR
 rw[if_pos gx.ok,if_pos gy.ok,wrX_eq gx gy e]
theorem crR_0 (gx:GX x):(crR x).2=0∧((crR x).1=true↔wrX x=[]):=by
 unfold crR
 rw[if_pos gx.ok]
 exact⟨rfl,by simp⟩
theorem tsR_eq (gx:GX x) (gy:GX y) (e:EqS x y):tsR x=(tofX x,0)∧tsR y=(tofX x,0):=by
 unfold tsR
 rw[if_pos gx.ok,if_pos gy.ok,←tofX_eq gx gy e]
 exact⟨rfl,rfl⟩
theorem mcX_eq (gx:GX x) (gy:GX y) (e:EqS x y):mcX x L R=mcX y L R:=by
 unfold mcX mOK
 rw[if_pos gx.ok,if_pos gy.ok,e.l.1,e.l.2.1,e.l.2.2.1,e.l.2.2.2]
theorem mpF_eq (gx:GX x) (gy:GX y) (e:EqS x y) (hc:mcX x L R=0):mpF x L R=mpF y L R:=by
 have hc2:mcX y L R=0:=by rw[←mcX_eq gx gy e];exact hc
 obtain⟨n,m,k,mf⟩:=mf_of hc
 obtain⟨n',m',k',mg⟩:=mf_of hc2
 have e1:n'=n:=by have:=mf.en;have:=mg.en;have:=e.l.2.1;omega
 have e2:m'=m:=by have:=mf.em;have:=mg.em;have:=e.l.2.2.1;omega
 have e3:k'=k:=by have:=mf.ek;have:=mg.ek;have:=e.l.2.2.2;omega
 subst e1 e2 e3
 have bb:=mf.b
 have n9:n'*m'≤9:=Nat.mul_le_mul (show n'≤3 by omega) (show m'≤3 by omega)
 have m9:m'*k'≤9:=Nat.mul_le_mul (show m'≤3 by omega) (show k'≤3 by omega)
 have k9:=mf.nk
 refine mp_same (isX_sz gx.ok).1.p gx.w gx.b gy.w gy.b mf mg e.l.1 fun a b c ha hb hc=>?_
 rw[Sx_sT,Sx_sT]
 exact e.s a b c (by omega) (by omega) (by omega)
theorem mpR_eq (gx:GX x) (gy:GX y) (e:EqS x y):mpR x L R=mpR y L R:=by
 unfold mpR
 rw[←mcX_eq gx gy e]
 by_cases h:mcX x L R=0
 ·rw[if_pos h,if_pos h,mpF_eq gx gy e h]
 ·rw[if_neg h,if_neg h]
theorem pp_len (gx:GX x) (hc:mcX x L R=0):(ppR x.p L R).2=0∧(ppR x.p L R).1.length=(mpF x L R).length:=by
 obtain⟨n,m,k,mf⟩:=mf_of hc
 obtain⟨en,em,ek,b,nk,wL,wR,lL,lR,fL,fR,aL,aR,hm,hr⟩:=id mf
 have hk0:(R.getD 0 []).length=k:=wR _ (by
  rw[List.getD_eq_getElem?_getD,List.getElem?_eq_getElem (show 0<R.length by omega)]
  exact List.getElem_mem _)
 have pm:PM x.p L R (R.getD 0 []).length:=by
  rw[hk0]
  exact⟨szX_isP gx.parts.1,by omega,by omega,by omega,by rw[lR];exact hm,hr,hk0⟩
 unfold ppR
 rw[if_pos (ppOK_iff.2 pm)]
 refine⟨rfl,?_⟩
 show (ppF x.p L R _).length=_
 unfold ppF mpF
 rw[List.length_map,List.length_range,parts_len,lL,en,Int.toNat_natCast]
theorem rsR_eq {h:AH} {v:Value} (gy:GX y) (hv:Prods h v y.ps) (hc:mcX y L R=0) (h0:0<y.ps.length):rsR y true L R=(mpF y L R,0):=by
 have hr:rsC y L R=0:=by
  unfold mcX at hc
  rw[if_pos gy.ok] at hc
  have hm:mOK y L R=true:=by
   cases e:mOK y L R with
   | true=>rfl
   | false=>rw[e] at hc;cases hc
  unfold rsC
  rw[if_pos gy.ok,if_pos hm,if_neg (by omega)]
 obtain⟨hx,_,n,m,k,rf⟩:=rf_of (b:=true) hv hr
 unfold rsR
 rw[if_pos hr,rs_mp hv hx rf]
end
section
variable {f:Nat→Nat→Int} {w n i:Nat}
end
end Go.Proofs.Ytapafdpnmakekaa.X

set_option linter.unusedVariables false
set_option linter.unusedSimpArgs false
namespace Go.Proofs.Ytapafdpnmakekaa.X
open Go Go.RowKit Go.ChangeShapes Go.WideShapes Go.Deep
structure Adm (P:Program) (W:World) (γ:List G) (h:AH):Prop where
 rel:Rel P W.heap.size γ h W
 ro:∀ n b,h.get n=some b→b.ro=true
theorem Adm.nil (P:Program) (W:World):Adm P W [] [] where
 rel:={
  len:=rfl
  cell:=fun n b g h=>by simp[AH.get] at h
  rw:=fun n b g h=>by simp[AH.get] at h
  ro:=fun n b g h=>by simp[AH.get] at h
  inj:=fun n m bn bm g g' h=>by simp[AH.get] at h
  base:=Nat.le_refl _ }
 ro:=fun n b h=>by simp[AH.get] at h
theorem Adm.new {P:Program} {W:World} {γ:List G} {h:AH} (A:Adm P W γ h) {g:G} {cs:List Value} {e:TypeId} (hb:g.b<W.heap.size)
  (hc:∀ j v,cs[j]?=some v→isOne v=true∧∃ v',W.cell? ⟨g.b,g.o+j,none⟩=some v'∧VR γ v v'):Adm P W (γ++[g]) (h.new ⟨cs,e,true,false⟩):=by
 have hl:=A.rel.len
 have hp:γ<+:γ++[g]:=List.prefix_append _ _
 have old:∀ {n:Nat} {g':G},n<h.length→(γ++[g])[n]?=some g'→γ[n]?=some g':=fun hn hg=>by
  rw[List.getElem?_append_left (by omega)] at hg
  exact hg
 have new:∀ {g':G},(γ++[g])[h.length]?=some g'→g'=g:=fun hg=>by
  rw[←hl] at hg
  simpa using hg.symm
 refine⟨⟨by simp[len_new,hl],?_,?_,?_,?_,Nat.le_refl _⟩,?_⟩
 ·intro n b g' hb' hg' j v hv
  rcases get_new_cases hb' with hb'|⟨rfl,rfl⟩
  ·obtain⟨q1,v',q2,q3⟩:=A.rel.cell n b g' hb' (old (get_lt hb') hg') j v hv
   exact⟨q1,v',q2,q3.mono hp⟩
  ·obtain rfl:=new hg'
   obtain⟨q1,v',q2,q3⟩:=hc j v hv
   exact⟨q1,v',q2,q3.mono hp⟩
 ·intro n b g' hb' hg' hro
  rcases get_new_cases hb' with hb'|⟨rfl,rfl⟩
  ·rw[A.ro n b hb'] at hro
   cases hro
  ·cases hro
 ·intro n b g' hb' hg' hro
  rcases get_new_cases hb' with hb'|⟨rfl,rfl⟩
  ·exact A.rel.ro n b g' hb' (old (get_lt hb') hg') hro
  ·obtain rfl:=new hg'
   exact hb
 ·intro n m bn bm g1 g2 h1 h2 h3 h4 hro
  rcases get_new_cases h1 with hb'|⟨rfl,rfl⟩
  ·rw[A.ro n bn hb'] at hro
   cases hro
  ·cases hro
 ·intro n b hb'
  rcases get_new_cases hb' with hb'|⟨rfl,rfl⟩
  ·exact A.ro n b hb'
  ·rfl
section
variable {H:Type} {enc:TypeId×Value→H} {P:Program} {W:World}
theorem add_off (a:Addr) (ha:a.spot=none) (i:Nat):a.add i=⟨a.block,a.off+i,none⟩:=by
 unfold Addr.add
 split
 ·rename_i h0
  subst h0
  obtain⟨b,o,s⟩:=a
  simp at ha
  subst ha
  rfl
 ·rfl
theorem adm_ints {γ:List G} {h:AH} (A:Adm P W γ h) {t e:TypeId} {n:Nat} {cs:List Value} {x:DataW H×List MemPlace} (ht:P.underlying t=some (.slice e)) (he:P.underlying e=some (.int .i64))
  (hc:P.cellsOf e=1) (hx:DataW.trod enc P W 0 (fun _=>true) true n t cs=some x) :
  ∃ v' v ns γ' h',cs=[v']∧γ<+:γ'∧h<+:h'∧Adm P W γ' h'∧VR γ' v v'∧Ints h' v ns∧ns.length≤maxLen:=by
 rcases open_slice1 ht hc hx with⟨rfl,_⟩|⟨a,len,cap,m,n',V,D,Pl,rfl,hb,hl,hm,hmm,_,hcell⟩
 ·exact⟨_,.slice none 0 0,[],γ,h,rfl,List.prefix_refl _,List.prefix_refl _,A,.nils,.inl ⟨rfl,0,by omega,rfl⟩,Nat.zero_le _⟩
 ·by_cases h0:len=0
  ·subst h0
   exact⟨_,.slice none 0 1,[],γ,h,rfl,List.prefix_refl _,List.prefix_refl _,A,.emp _ _,.inl ⟨rfl,1,by omega,rfl⟩,Nat.zero_le _⟩
  ·have hcell:∀ i,i<cap→W.cell? (a.add i)=some (V i)∧DataW.trod enc P W 0 (fun _=>true) true n' e [V i]=some (D i,Pl i):=fun i hi=>hcell i (by rw[show m=cap from hmm];exact hi)
   have hz:=(hcell 0 (by omega)).1
   have hsp:a.spot=none:=by
    simp only[Addr.add,if_true] at hz
    unfold World.cell? at hz
    split at hz
    ·split at hz
     ·cases hz
     ·rename_i hs
      simpa using hs
    ·cases hz
   have hbl:a.block<W.heap.size:=by
    have:=World.block_lt_of_cell? W _ hz
    simpa [Addr.add] using this
   have hV:∀ i,i<len→∃ k,V i=.int .i64 k:=fun i hi=>by
    obtain⟨k,hk,_⟩:=DataW.trod_int he (hcell i (by omega)).2
    exact⟨k,by simpa using hk⟩
   let ns:List Int:=(List.range len).map fun i=>match V i with
    | .int _ k=>k
    | _=>0
   have hns:ns.length=len:=by simp[ns]
   have hget:∀ i,i<len→ns.getD i 0=(match V i with
    | .int _ k=>k
    | _=>0):=fun i hi=>by simp[ns,List.getD_eq_getElem?_getD,List.getElem?_map,List.getElem?_range hi]
   refine⟨_,.slice (some ⟨h.length,0,none⟩) ns.length 1,ns,γ++[⟨a.block,a.off,cap⟩],h.new ⟨ns.map (Value.int .i64),e,true,false⟩,rfl,List.prefix_append _ _,pre_new (List.prefix_refl _),?_,?_,
    Ints.own get_new_same rfl,by rw[hns];omega⟩
   ·refine A.new hbl fun j v hv=>?_
    rw[List.getElem?_map] at hv
    obtain⟨k,hk,rfl⟩:=Option.map_eq_some_iff.1 hv
    have hj:j<len:=by rw[←hns];exact (List.getElem?_eq_some_iff.1 hk).1
    obtain⟨k',hk'⟩:=hV j hj
    have hg:=hget j hj
    rw[List.getD_eq_getElem?_getD,hk,hk'] at hg
    simp only[Option.getD_some] at hg
    subst hg
    refine⟨rfl,_,?_,.int _ _⟩
    have:=(hcell j (by omega)).1
    rw[add_off a hsp,hk'] at this
    exact this
   ·have:=VR.slc (γ:=γ++[⟨a.block,a.off,cap⟩]) h.length 0 ns.length 1 ⟨a.block,a.off,cap⟩ (by rw[←A.rel.len];simp) (by omega) (by simp only;omega)
    have e1:(some a:Option Addr)=some ⟨a.block,a.off+0,none⟩:=by
     obtain⟨b,o,s⟩:=a
     simp at hsp
     subst hsp
     rfl
    rw[e1]
    have e2:(cap-0) / 1=cap:=by simp
    rw[←hns,show (Value.slice (some ⟨a.block,a.off+0,none⟩) ns.length cap)=Value.slice (some ⟨a.block,a.off+0,none⟩) ns.length ((cap-0) / 1) by rw[e2]]
    exact this
theorem trod_field {t:TypeId} {fs:Array Field} {n:Nat} {cs:List Value} {x:DataW H×List MemPlace} (hs:P.underlying t=some (.struct fs)) (hx:DataW.trod enc P W 0 (fun _=>true) true n t cs=some x)
  {i:Nat} {f:Field} (hf:fs[i]?=some f):∃ m y,DataW.trod enc P W 0 (fun _=>true) true m f.type ((cs.drop f.offset).take (P.cellsOf f.type))=some y:=by
 obtain⟨xs,m,_,_,_,hl,hall⟩:=DataW.trod_struct hs hx
 have hi:i<xs.length:=by
  rw[hl]
  exact (Array.getElem?_eq_some_iff.1 hf).1
 exact⟨m,xs[i],by rw[hall i f hf,List.getElem?_eq_getElem hi]⟩
theorem trod_cells {t:TypeId} {fs:Array Field} {n:Nat} {cs:List Value} {x:DataW H×List MemPlace} (hs:P.underlying t=some (.struct fs)) (hx:DataW.trod enc P W 0 (fun _=>true) true n t cs=some x):cs.length=P.cellsOf t:=by
 obtain⟨xs,m,_,_,hl,_,_⟩:=DataW.trod_struct hs hx
 exact hl
theorem trod_field_int {t:TypeId} {fs:Array Field} {n:Nat} {cs:List Value} {x:DataW H×List MemPlace} (hs:P.underlying t=some (.struct fs)) (hx:DataW.trod enc P W 0 (fun _=>true) true n t cs=some x)
  {i:Nat} {f:Field} (hf:fs[i]?=some f) (ht:P.underlying f.type=some (.int .i64)):∃ k,(cs.drop f.offset).take (P.cellsOf f.type)=[I64 k]∧(Lit.int .i64 k).wf=true:=by
 obtain⟨m,y,hy⟩:=trod_field hs hx hf
 obtain⟨k,h1,_,h2⟩:=DataW.trod_int ht hy
 exact⟨k,h1,h2⟩
theorem agg_of_cells {v:Value} {l:List Value} (h:v.cells.toList=l) (h2:2≤l.length):v=.agg l.toArray:=by
 cases v with
 | agg cs=>
  simp only[Value.cells] at h
  rw[←h]
 | _=>
  simp only[Value.cells] at h
  rw[←h] at h2
  simp at h2
def tyInt (P:Program) (t:TypeId):Bool:=match P.underlying t with
 | some (.int .i64)=>true
 | _=>false
def tySlice (P:Program) (t e:TypeId):Bool:=match P.underlying t with
 | some (.slice e')=>e'==e
 | _=>false
theorem tyInt_eq {t:TypeId} (h:tyInt P t=true):P.underlying t=some (.int .i64):=by
 unfold tyInt at h
 split at h
 ·assumption
 ·cases h
theorem tySlice_eq {t e:TypeId} (h:tySlice P t e=true):P.underlying t=some (.slice e):=by
 unfold tySlice at h
 split at h
 ·rename_i e' he
  have:e'=e:=by simpa using h
  rw[he,this]
 ·cases h
theorem stays_all (hl:laidOutB P=true) {W W':World} (bel:Below W.heap.size W W'):∀ {ts:List TypeId} {vs:List Value} {ds:List (DataW H)} {ps:List MemPlace},
  (∀ t∈ts,P.readableRec t=true∧t<P.types.size)→DataW.TrodAll enc P W 0 (fun _=>true) true ts vs ds ps→DataW.TrodAll enc P W' 0 (fun b=>decide (b<W.heap.size)) true ts vs ds ps
 | [],[],[],_,_,h=>h
 | _::_,_::_,_::_,_,ht,⟨p,q,h1,h2,e⟩=>by
  have hlt:∀ r∈p,r.block<W.heap.size:=by
   have hall:DataW.TrodAll enc P W 0 (fun _=>true) true [_] [_] [_] p:=trodAll_mk1 h1
   exact hall.lt
  refine⟨p,q,Go.WideElems.Trod_stays hl (ht _ (List.mem_cons.2 (.inl rfl))).1 (ht _ (List.mem_cons.2 (.inl rfl))).2 h1 (fun r hr=>bel.same (hlt r hr)) (fun r hr=>by simpa using hlt r hr),?_,e⟩
  exact stays_all hl bel (fun t ht'=>ht t (List.mem_cons.2 (.inr ht'))) h2
theorem calls_of_WF {S:XS} (hm:P.follows .mixedOrders=true) (hE:ESound P S.E) (hT:TSound P S.T) {g:FuncId} {args args':List Value} {γ:List G} {h:AH} {W:World} {Q:Value→AH→Prop}
  (A:Adm P W γ h) (hv:VRL γ args args') (hw:WF S g args h Q) :
  Calls P g args'.toArray W (fun e W'=>∃ v v' γ' h',e=.returned v'∧VR γ' v v'∧Q v h'∧Below W.heap.size W W'):=by
 obtain⟨k,v,h',h1,h2⟩:=hw
 have:=(xcall_sound hm hE hT k g args h v h' h1).2 W.heap.size γ W args' A.rel hv
 refine this.mono fun e W' ⟨γ',v',q1,q2,q3⟩=>⟨v,v',γ',h',q1,q2,h2,?_⟩
 refine⟨q3.os,q3.tape,q3.output,q3.size,fun b hb=>q3.frame b hb fun ⟨n,blk,g,o1,o2,o3,o4⟩=>?_⟩
 rw[A.ro n blk o1] at o3
 cases o3
end
theorem u8_in {n:Int} (h:(Lit.int .u8 n).wf=true):0≤n∧n≤255:=by
 simp[Lit.wf,IntKind.min,IntKind.max,IntKind.signed,IntKind.bits] at h
 omega
def sideBy (P:Program):List Field→Nat→Nat→Bool
 | [],o,m=>o==m
 | f::fs,o,m=>f.offset==o&&sideBy P fs (o+P.cellsOf f.type) m
def flatK (P:Program) (k:IntKind):Nat→TypeId→Bool
 | 0,_=>false
 | f+1,t=>match P.underlying t with
  | some (.int k')=>decide (k'=k)&&P.cellsOf t==1
  | some (.array n e)=>flatK P k f e&&P.cellsOf t==n*P.cellsOf e
  | some (.struct fs)=>sideBy P fs.toList 0 (P.cellsOf t)&&fs.toList.all fun x=>flatK P k f x.type
  | _=>false
theorem sideBy_at {P:Program}:∀ {fs:List Field} {o m j:Nat},sideBy P fs o m=true→o≤j→j<m→∃ (i:Nat) (f:Field),fs[i]?=some f∧f.offset≤j∧j<f.offset+P.cellsOf f.type
 | [],o,m,j,h,h1,h2=>by
  simp only[sideBy,beq_iff_eq] at h
  omega
 | f::fs,o,m,j,h,h1,h2=>by
  simp only[sideBy,Bool.and_eq_true,beq_iff_eq] at h
  by_cases hj:j<o+P.cellsOf f.type
  ·exact⟨0,f,rfl,by omega,by omega⟩
  ·obtain⟨i,g,q1,q2,q3⟩:=sideBy_at h.2 (by omega) h2
   exact⟨i+1,g,by rw[List.getElem?_cons_succ];exact q1,q2,q3⟩
section
variable {H:Type} {enc:TypeId×Value→H} {P:Program} {W:World} {k:IntKind}
theorem flat_trod:∀ (f:Nat) (t:TypeId) (n:Nat) (cs:List Value) (x:DataW H×List MemPlace),flatK P k f t=true→DataW.trod enc P W 0 (fun _=>true) true n t cs=some x →
  cs.length=P.cellsOf t∧∀ (j:Nat) (v:Value),cs[j]?=some v→∃ m,v=.int k m∧(Lit.int k m).wf=true
 | 0,_,_,_,_,h,_=>by cases h
 | f+1,t,n,cs,x,h,hx=>by
  unfold flatK at h
  split at h
  ·rename_i k' ht
   simp only[Bool.and_eq_true,decide_eq_true_eq,beq_iff_eq] at h
   obtain⟨rfl,hc⟩:=h
   obtain⟨m,rfl,_,hw⟩:=DataW.trod_int ht hx
   refine⟨by simpa using hc.symm,fun j v hv=>?_⟩
   have:j=0:=by
    have:=(List.getElem?_eq_some_iff.1 hv).1
    simp at this
    exact this
   subst this
   simp at hv
   exact⟨m,hv.symm,hw⟩
  ·rename_i c e ht
   simp only[Bool.and_eq_true,beq_iff_eq] at h
   obtain⟨xs,m,_,_,hl,hxs,hall⟩:=DataW.trod_array ht hx
   refine⟨hl,fun j v hv=>?_⟩
   have hj:=(List.getElem?_eq_some_iff.1 hv).1
   rw[hl,h.2] at hj
   have hc:0<P.cellsOf e:=Nat.pos_of_ne_zero fun e0=>by rw[e0] at hj;simp at hj
   have hi:j / P.cellsOf e<c:=Nat.div_lt_of_lt_mul (by rw[Nat.mul_comm];exact hj)
   have hy:=hall _ hi
   rw[List.getElem?_eq_getElem (by omega)] at hy
   have hdm:=Nat.div_add_mod j (P.cellsOf e)
   rw[Nat.mul_comm] at hdm
   refine (flat_trod f e m _ _ h.1 hy).2 (j%P.cellsOf e) v ?_
   rw[List.getElem?_take,if_pos (Nat.mod_lt _ hc),List.getElem?_drop,hdm]
   exact hv
  ·rename_i fs ht
   simp only[Bool.and_eq_true] at h
   obtain⟨xs,m,_,_,hl,hxs,hall⟩:=DataW.trod_struct ht hx
   refine⟨hl,fun j v hv=>?_⟩
   have hj:=(List.getElem?_eq_some_iff.1 hv).1
   rw[hl] at hj
   obtain⟨i,g,q1,q2,q3⟩:=sideBy_at h.1 (Nat.zero_le _) hj
   have q1':fs[i]?=some g:=by simpa using q1
   have hy:=hall i g q1'
   have hi:i<xs.length:=by
    rw[hxs]
    exact (Array.getElem?_eq_some_iff.1 q1').1
   rw[List.getElem?_eq_getElem hi] at hy
   have hg:flatK P k f g.type=true:=List.all_eq_true.1 h.2 g (List.mem_of_getElem? q1)
   refine (flat_trod f g.type m _ _ hg hy).2 (j-g.offset) v ?_
   rw[List.getElem?_take,if_pos (by omega),List.getElem?_drop,show g.offset+(j-g.offset)=j by omega]
   exact hv
  ·cases h
def ArgS (w:Nat) (v:Value) (L:List (List Int)):Prop:=((v=.slice none 0 0∨v=.slice none 0 3)∧L=[])∨L≠[]∧∃ b,v=.slice (some ⟨b,0,none⟩) L.length w
theorem adm_elems2 {γ:List G} {h:AH} (A:Adm P W γ h) {t e:TypeId} {n w f:Nat} {cs:List Value} {x:DataW H×List MemPlace} (ht:P.underlying t=some (.slice e)) (hf:flatK P k f e=true)
  (hw:P.cellsOf e=w) (hw0:0<w) (hx:DataW.trod enc P W 0 (fun _=>true) true n t cs=some x) :
  ∃ v' v L γ' h',cs=[v']∧γ<+:γ'∧h<+:h'∧Adm P W γ' h'∧VR γ' v v'∧Els k w h' v L∧L.length≤maxLen∧ArgS w v L∧∀ i,i<L.length→∀ j,j<w→(Lit.int k ((L.getD i []).getD j 0)).wf=true:=by
 rcases open_slice ht hx with⟨rfl,_⟩|⟨a,len,cap,m,n',D,Pl,rfl,hb,hl,hm,hmm,_,hcell⟩
 ·exact⟨_,.slice none 0 0,[],γ,h,rfl,List.prefix_refl _,List.prefix_refl _,A,.nils,.inl ⟨rfl,0,by omega,rfl⟩,Nat.zero_le _,.inl ⟨.inl rfl,rfl⟩,fun i hi=>by simp at hi⟩
 ·by_cases h0:len=0
  ·subst h0
   exact⟨_,.slice none 0 3,[],γ,h,rfl,List.prefix_refl _,List.prefix_refl _,A,.empn _ _,.inl ⟨rfl,3,by omega,rfl⟩,Nat.zero_le _,.inl ⟨.inr rfl,rfl⟩,fun i hi=>by simp at hi⟩
  ·have hmc:m=cap:=hmm
   have cell:∀ i,i<cap→∀ r,r<w→∃ z,W.cell? ((a.add (i*w)).add r)=some (.int k z)∧(Lit.int k z).wf=true:=fun i hi r hr=>by
    obtain⟨cs',h1,h2⟩:=hcell i (by omega)
    rw[hw] at h1
    obtain⟨_,hlen,hc⟩:=World.cells?_some h1
    obtain⟨_,hall⟩:=flat_trod f e n' cs' _ hf h2
    have hr':r<cs'.length:=by omega
    obtain⟨z,hz,hwf⟩:=hall r _ (List.getElem?_eq_getElem hr')
    refine⟨z,?_,hwf⟩
    rw[hc r hr,List.getElem?_eq_getElem hr',hz]
   obtain⟨z0,hz,_⟩:=cell 0 (by omega) 0 hw0
   rw[Nat.zero_mul] at hz
   have a0:a.add 0=a:=by simp[Addr.add]
   rw[a0,a0] at hz
   have hsp:a.spot=none:=by
    unfold World.cell? at hz
    split at hz
    ·split at hz
     ·cases hz
     ·rename_i hs
      simpa using hs
    ·cases hz
   have hbl:a.block<W.heap.size:=World.block_lt_of_cell? W _ hz
   have cell':∀ j,j<len*w→∃ z,W.cell? ⟨a.block,a.off+j,none⟩=some (.int k z)∧(Lit.int k z).wf=true:=fun j hj=>by
    have hi:j / w<len:=Nat.div_lt_of_lt_mul (by rw[Nat.mul_comm];exact hj)
    obtain⟨z,q1,q2⟩:=cell (j / w) (by omega) (j%w) (Nat.mod_lt _ hw0)
    refine⟨z,?_,q2⟩
    rw[add_off a hsp,add_off _ rfl] at q1
    have hdm:=Nat.div_add_mod j w
    rw[Nat.mul_comm] at hdm
    rw[show a.off+j=a.off+j / w*w+j%w by omega]
    exact q1
   obtain⟨N,hN⟩:∃ N:Nat→Int,∀ j,j<len*w→W.cell? ⟨a.block,a.off+j,none⟩=some (.int k (N j))∧(Lit.int k (N j)).wf=true:=by
    refine⟨fun j=>if hj:j<len*w then (cell' j hj).choose else 0,fun j hj=>?_⟩
    simp only[dif_pos hj]
    exact (cell' j hj).choose_spec
   let L:List (List Int):=(List.range len).map fun i=>(List.range w).map fun r=>N (i*w+r)
   have hLl:L.length=len:=by simp[L]
   have hLg:∀ i,i<len→L.getD i []=(List.range w).map fun r=>N (i*w+r):=fun i hi=>by simp[L,List.getD_eq_getElem?_getD,List.getElem?_map,List.getElem?_range hi]
   let C:List Value:=cel k ((List.range (len*w)).map N)
   have hCl:C.length=len*w:=by simp[C,cel_len]
   refine⟨_,.slice (some ⟨h.length,0,none⟩) L.length w,L,γ++[⟨a.block,a.off,cap*w⟩],h.new ⟨C,e,true,false⟩,rfl,List.prefix_append _ _,pre_new (List.prefix_refl _),?_,?_,
    .inr ⟨h.length,0,_,rfl,get_new_same,fun i hi=>?_⟩,by rw[hLl];omega,.inr ⟨fun hL=>absurd hLl (by rw[hL];exact fun e=>h0 (by simpa using e.symm)),_,rfl⟩,fun i hi j hj=>?_⟩
   ·refine A.new hbl fun j v hv=>?_
    have hj:j<len*w:=by rw[←hCl];exact (List.getElem?_eq_some_iff.1 hv).1
    have hv':C[j]?=some (.int k (N j)):=by simp[C,cel,hj]
    rw[hv'] at hv
    obtain rfl:=Option.some.inj hv
    exact⟨rfl,_,(hN j hj).1,.int _ _⟩
   ·have hcw:len*w≤cap*w:=Nat.mul_le_mul_right _ hl
    have:=VR.slc (γ:=γ++[⟨a.block,a.off,cap*w⟩]) h.length 0 L.length w ⟨a.block,a.off,cap*w⟩ (by rw[←A.rel.len];simp) hw0 (by rw[hLl];simp only;omega)
    have e1:(some a:Option Addr)=some ⟨a.block,a.off+0,none⟩:=by
     obtain⟨b,o,s⟩:=a
     simp at hsp
     subst hsp
     rfl
    rw[e1]
    have e2:(cap*w-0) / w=cap:=by rw[Nat.sub_zero];exact Nat.mul_div_cancel _ hw0
    simp only[e2,hLl] at this
    rw[hLl]
    exact this
   ·rw[hLl] at hi
    have hr:i*w+w≤len*w:=mul_row hi
    refine⟨by simp only[hCl];omega,?_⟩
    rw[hLg i hi]
    simp only[C,cel_drop,cel_take,Nat.zero_add]
    congr 1
    refine List.ext_getElem? fun r=>?_
    rw[List.getElem?_take,List.getElem?_drop,List.getElem?_map,List.getElem?_map]
    by_cases hr':r<w
    ·rw[if_pos hr',List.getElem?_range hr',List.getElem?_range (by omega)]
     rfl
    ·rw[if_neg hr',List.getElem?_eq_none (by simp;omega)]
     rfl
   ·rw[hLl] at hi
    have hr:i*w+w≤len*w:=mul_row hi
    rw[hLg i hi]
    have:((List.range w).map fun r=>N (i*w+r)).getD j 0=N (i*w+j):=by simp[List.getD_eq_getElem?_getD,List.getElem?_map,List.getElem?_range hj]
    rw[this]
    exact (hN _ (by omega)).2
def isSch (P:Program) (t e:TypeId) (k:IntKind) (f w:Nat):Bool:=match P.underlying t with
 | some (.struct fs)=>match fs.toList with
  | [f0,f1,f2,f3,f4]=>P.cellsOf t==5&&f0.offset==0&&f1.offset==1&&f2.offset==2&&f3.offset==3&&f4.offset==4 &&
    [f0,f1,f2,f3].all (fun f=>tyInt P f.type&&P.cellsOf f.type==1)&&P.cellsOf f4.type==1&&tySlice P f4.type e &&
    flatK P k f e&&P.cellsOf e==w&&decide (0<w)
  | _=>false
 | _=>false
theorem adm_schN {γ:List G} {h:AH} (A:Adm P W γ h) {t:TypeId} (e:TypeId) (f w:Nat) (hk:isSch P t e k f w=true) {v:Value} {d:DataW H} {ps:List MemPlace} (hx:DataW.Trod enc P W 0 (fun _=>true) true t v d ps) :
  ∃ a b c d L v' γ' h',γ<+:γ'∧h<+:h'∧Adm P W γ' h'∧VR γ' (.agg #[I64 a,I64 b,I64 c,I64 d,v']) v∧Els k w h' v' L∧L.length≤maxLen∧ArgS w v' L ∧
   ∀ i,i<L.length→∀ j,j<w→(Lit.int k ((L.getD i []).getD j 0)).wf=true:=by
 unfold isSch at hk
 split at hk
 ·rename_i fs hs
  split at hk
  ·rename_i f0 f1 f2 f3 f4 hf
   have hfs:fs=#[f0,f1,f2,f3,f4]:=by
    rw[←hf]
   subst hfs
   simp only[List.all_cons,List.all_nil,Bool.and_true,Bool.and_eq_true,beq_iff_eq,decide_eq_true_eq] at hk
   obtain⟨⟨⟨⟨⟨⟨⟨⟨⟨⟨⟨hct,o0⟩,o1⟩,o2⟩,o3⟩,o4⟩,⟨i0,c0⟩,⟨i1,c1⟩,⟨i2,c2⟩,⟨i3,c3⟩⟩,c4⟩,s4⟩,fl⟩,ce⟩,cw⟩:=hk
   obtain⟨n,hx⟩:=hx
   have hl:=trod_cells hs hx
   rw[hct] at hl
   obtain⟨a,ha,_⟩:=trod_field_int hs hx (i:=0) (f:=f0) rfl (tyInt_eq i0)
   obtain⟨b,hb,_⟩:=trod_field_int hs hx (i:=1) (f:=f1) rfl (tyInt_eq i1)
   obtain⟨c,hcc,_⟩:=trod_field_int hs hx (i:=2) (f:=f2) rfl (tyInt_eq i2)
   obtain⟨d,hd,_⟩:=trod_field_int hs hx (i:=3) (f:=f3) rfl (tyInt_eq i3)
   obtain⟨m,y,hy⟩:=trod_field hs hx (i:=4) (f:=f4) rfl
   obtain⟨v',u,L,γ',h',e1,q1,q2,q3,q4,q5,q6,q8,q7⟩:=adm_elems2 A (tySlice_eq s4) fl ce cw hy
   generalize hcs:v.cells.toList=cs at *
   rw[o0,c0] at ha
   rw[o1,c1] at hb
   rw[o2,c2] at hcc
   rw[o3,c3] at hd
   rw[o4,c4] at e1
   obtain⟨z0,z1,z2,z3,z4,rfl⟩:∃ z0 z1 z2 z3 z4,cs=[z0,z1,z2,z3,z4]:=by
    match cs,hl with
    | [z0,z1,z2,z3,z4],_=>exact⟨_,_,_,_,_,rfl⟩
   simp at ha hb hcc hd e1
   subst ha hb hcc hd e1
   refine⟨a,b,c,d,L,u,γ',h',q1,q2,q3,?_,q5,q6,q8,q7⟩
   rw[agg_of_cells hcs (by simp)]
   exact VR.aggL (VRL.cons (.int _ _) (VRL.cons (.int _ _) (VRL.cons (.int _ _) (VRL.cons (.int _ _) (VRL.cons q4 (VRL.nil _))))))
  ·cases hk
 ·cases hk
end
end Go.Proofs.Ytapafdpnmakekaa.X

set_option linter.unusedVariables false
set_option linter.unusedSimpArgs false
set_option maxRecDepth 20000
set_option maxHeartbeats 4000000
namespace Go.Proofs.Ytapafdpnmakekaa.X
open Go Go.RowKit
def smW (g:Nat→Int):Nat→Int
 | 0=>0
 | n+1=>smW g n+g n
def nz (a:Int):Int:=if a=0 then 0 else 1
def wt (f:List Int) (i:Nat):Int:=smW (fun j=>nz (f.getD j 0)) i
def cw (L:List (List Int)) (s:Nat) (i:Nat):Int:=smW (fun j=>wt (seg (L.getD j []) s) 9-1) i
def cc (L:List (List Int)) (c i:Nat):Int:=smW (fun j=>nz ((L.getD j []).getD (18+c) 0)) i
def mx (a:Int):Int:=if 0>a then 0 else a
def cq (L:List (List Int)) (n c:Nat):Int:=smW (fun c=>mx (cc L c n-1)) c
def more (x:Sch):Int:=cw x.ps 0 x.ps.length+cw x.ps 1 x.ps.length+cq x.ps x.ps.length 9
def mn (a:Int):Int:=if 1000000000000001<a then 1000000000000001 else a
def over (a b:Int):Prop:=0<mn b∧(1000000000000000:Int).tdiv (mn b)<mn a
instance {a b:Int}:Decidable (over a b):=by unfold over;infer_instance
def gain (n z:Int):Prop:=80000<z∨n<2*z*z*z-z*z
instance {n z:Int}:Decidable (gain n z):=by unfold gain;infer_instance
end Go.Proofs.Ytapafdpnmakekaa.X

set_option linter.unusedVariables false
set_option linter.unusedSimpArgs false
set_option maxRecDepth 20000
set_option maxHeartbeats 4000000
namespace Go.Proofs.Ytapafdpnmakekaa.X
open Go Go.RowKit
open Nat (reduceEqDiff reduceAdd reduceSub reduceLeDiff)
theorem l_schemes9 {v w:Value} {x:Sch} {h:AH} {Q:Value→AH→Prop} (hv:Prods h v x.ps) (hw:Prods h w x.ps) (hl:SmallX x.ps)
  (hQ:∀ h',h<+:h'→Q (.bool true) h'):WF S 133 [schV x v,schV x w] h Q:=by
 refine WF_fn (fn:=c133) rfl rfl ?_
 dsimp only[c133,oO,oM,oS,oG,oK,oE,oL,oF,oX,oN]
 unfold SmallX at hl
 ((try simp (maxSteps:=3000000) (dsimp:=false) (disch:=first|omega|simp only[lnx];omega) only[↓ypre,ypost,↓reduceIte,reduceEqDiff,reduceAdd,reduceSub,reduceLeDiff,zz0,ynew,schV,hv.one,hw.one]);try simp only[yback])
 generalize hH1:AH.new h _=H1
 obtain⟨hb1,p1,n1⟩:=new_facts hH1
 generalize hH2:AH.new H1 _=H2
 obtain⟨hb2,p2,n2⟩:=new_facts hH2
 have hb1:=pre_get p2 hb1
 have r:∀ a:Int,decide (a≠a)=false:=fun a=>decide_eq_false (fun h=>h rfl)
 have vl:=hv.1.len
 have wl:=hw.1.len
 ((try simp (maxSteps:=3000000) (dsimp:=false) (disch:=first|omega|simp only[lnx];omega) only[↓ypre,ypost,↓reduceIte,reduceEqDiff,reduceAdd,reduceSub,reduceLeDiff,zz0,ynew,rd1_of hb1,rd1_of hb2,r,vl,wl]);try simp only[yback])
 refine WC_loop_inv (fun m f K1=>∃ (i:Nat),m=x.ps.length-i∧i≤x.ps.length∧f 2=.pointer (some ⟨h.length,0,none⟩)∧f 3=.pointer (some ⟨H1.length,0,none⟩)∧f 5=I64 i∧K1=H2) ?_ (x.ps.length-0) _ _ ⟨0,rfl,by omega,(by first|rfl|simp[upd_apply]),(by first|rfl|simp[upd_apply]),(by first|rfl|simp[upd_apply]),rfl⟩
 rintro m f K1 ⟨i,rfl,hi,f2,f3,f5,rfl⟩
 by_cases hlt:(i:Int)<x.ps.length
 ·obtain⟨n1',o1,ix1,rd1⟩:=((hv.pre (p1.trans p2)).1).at (i:=i) (by omega)
  obtain⟨n2',o2,ix2,rd2⟩:=((hw.pre (p1.trans p2)).1).at (i:=i) (by omega)
  have b27:=(hv.by (i:=i) (by omega)).1
  have r1:=rd1.1 0 27 (by omega)
  have r2:=rd2.1 0 27 (by omega)
  rw[Nat.add_zero,List.drop_zero,List.take_of_length_le (by omega)] at r1 r2
  have e:=eqaV_ceT (k:=.u8) b27 b27 (by omega)
  rw[show (x.ps.getD i []==x.ps.getD i [])=true by simp] at e
  ((try simp (maxSteps:=3000000) (dsimp:=false) (disch:=first|omega|simp only[lnx];omega) only[↓ypre,ypost,↓reduceIte,reduceEqDiff,reduceAdd,reduceSub,reduceLeDiff,zz0,ynew,f2,f3,f5,rd1_of hb1,rd1_of hb2,vl,decide_eq_true hlt,ix1,ix2,r1,r2,e,Bool.not_true,wrap64_in]);try simp only[yback])
  refine InvQ_go (x.ps.length-(i+1)) (by omega) ⟨(i+1),rfl,by omega,(by first|rfl|exact f2|(simp only[upd_apply];rfl)|(show I64 _=_;congr 1;omega)),(by first|rfl|exact f3|(simp only[upd_apply];rfl)|(show I64 _=_;congr 1;omega)),(by first|rfl|exact f5|(simp only[upd_apply];rfl)|(show I64 _=_;congr 1;omega)),rfl⟩
 ·((try simp (maxSteps:=3000000) (dsimp:=false) (disch:=first|omega|simp only[lnx];omega) only[↓ypre,ypost,↓reduceIte,reduceEqDiff,reduceAdd,reduceSub,reduceLeDiff,zz0,ynew,f2,f3,f5,rd1_of hb1,vl,decide_eq_false hlt]);try simp only[yback])
  exact hQ _ (p1.trans p2)
theorem mc_small {x:Sch} {L R:List (List Int)} (h:mcX x L R=0):SmallM L∧SmallM R:=by
 obtain⟨hx,h1,h2,h3,h4⟩:=mcX_0 h
 have z:=(isX_sz hx).1
 have zn:=z.n
 have zm:=z.m
 have zk:=z.k
 exact⟨smallM_of2 (A:=10) (B:=100) (by omega) (fun i hi=>by have:=(isMat_iff.1 h1 i hi).1;omega) (by omega),smallM_of2 (A:=10) (B:=100) (by omega) (fun i hi=>by have:=(isMat_iff.1 h3 i hi).1;omega) (by omega)⟩
theorem ArgS.nk {w:Nat} {v:Value} {L:List (List Int)} (a:ArgS w v L):NK v:=by
 obtain⟨rfl|rfl,_⟩|⟨_,b,rfl⟩:=a
 ·exact .inl (.inl rfl)
 ·exact .inl (.inr rfl)
 ·exact .inr ⟨_,_,_,rfl⟩
theorem law_PromiseOfAll {h:AH} {v1 nw lv rv:Value} {x:Sch} {ns:List Int} {Lm Rm:List (List Int)} (hv1:Prods h v1 x.ps) (nk1:NK v1) (hl1:(x.ps.length:Int)≤9223372036854775807)
  (hn:Ints h nw ns) (hl2:(ns.length:Int)≤9223372036854775807) (hA:Rows h lv Lm) (hl3:(Lm.length:Int)≤9223372036854775807) (hm3:∀ i,i<Lm.length→((Lm.getD i []).length:Int)≤9223372036854775807)
  (hB':Rows h rv Rm) (hl4:(Rm.length:Int)≤9223372036854775807) (hm4:∀ i,i<Rm.length→((Rm.getD i []).length:Int)≤9223372036854775807):WF S 11 [schV x v1,nw,lv,rv] h (fun v _=>v=.bool true):=by
 refine WF_fn (fn:=c11) rfl rfl ?_
 dsimp only[c11,oO,oM,oS,oG,oK,oE,oL,oF,oX,oN]
 have o1:isOne v1=true:=nk1.one
 have vl1:=hv1.1.len
 have ln1:=hn.len
 have lA:=hA.len
 have lB:=hB'.len
 ((try simp (maxSteps:=3000000) (dsimp:=false) (disch:=first|omega|simp only[lnx];omega) only[↓ypre,ypost,↓reduceIte,reduceEqDiff,reduceAdd,reduceSub,reduceLeDiff,zz0,ynew,schV,o1]);try simp only[yback])
 generalize hH1:AH.new h _=H1
 obtain⟨g1,p1,n1⟩:=new_facts hH1
 by_cases y1:(x.ps.length:Int)>1000
 case pos=>
  ((try simp (maxSteps:=3000000) (dsimp:=false) (disch:=first|omega|simp only[lnx];omega) only[↓ypre,ypost,↓reduceIte,reduceEqDiff,reduceAdd,reduceSub,reduceLeDiff,zz0,ynew,rd1_of g1,vl1,decide_eq_true y1]);try simp only[yback])
 by_cases y2:(ns.length:Int)>1000
 case pos=>
  ((try simp (maxSteps:=3000000) (dsimp:=false) (disch:=first|omega|simp only[lnx];omega) only[↓ypre,ypost,↓reduceIte,reduceEqDiff,reduceAdd,reduceSub,reduceLeDiff,zz0,ynew,rd1_of g1,vl1,decide_eq_false y1,ln1,decide_eq_true y2]);try simp only[yback])
 by_cases y3:(Lm.length:Int)>1000
 case pos=>
  ((try simp (maxSteps:=3000000) (dsimp:=false) (disch:=first|omega|simp only[lnx];omega) only[↓ypre,ypost,↓reduceIte,reduceEqDiff,reduceAdd,reduceSub,reduceLeDiff,zz0,ynew,rd1_of g1,vl1,decide_eq_false y1,ln1,decide_eq_false y2,lA,decide_eq_true y3]);try simp only[yback])
 by_cases y4:(Rm.length:Int)>1000
 case pos=>
  ((try simp (maxSteps:=3000000) (dsimp:=false) (disch:=first|omega|simp only[lnx];omega) only[↓ypre,ypost,↓reduceIte,reduceEqDiff,reduceAdd,reduceSub,reduceLeDiff,zz0,ynew,rd1_of g1,vl1,decide_eq_false y1,ln1,decide_eq_false y2,lA,decide_eq_false y3,lB,decide_eq_true y4]);try simp only[yback])
 have sX:SmallX x.ps:=by unfold SmallX;omega
 have bA:BigM Lm:=⟨by omega,hm3⟩
 have bB:BigM Rm:=⟨by omega,hm4⟩
 ((try simp (maxSteps:=3000000) (dsimp:=false) (disch:=first|omega|simp only[lnx];omega) only[↓ypre,ypost,↓reduceIte,reduceEqDiff,reduceAdd,reduceSub,reduceLeDiff,zz0,ynew,rd1_of g1,vl1,decide_eq_false y1,ln1,decide_eq_false y2,lA,decide_eq_false y3,lB,decide_eq_false y4,rdn_of g1]);try simp only[yback])
 refine i_WalkFlips (x:=x) (hv1.pre p1) nk1 sX (hn.pre p1) (by omega) fun u1 H2 p2 ku1 nku1=>?_
 generalize hW:wkR x ns=W at ku1
 have qu1:=ku1.now
 have ou1:isOne u1=true:=nku1.one
 have vlu1:=qu1.1.len
 refine WO_cut (fun f:Fr=>f 1=nw∧f 2=lv∧f 3=rv∧f 4=.pointer (some ⟨h.length,0,none⟩)∧f 61=.tuple #[schV W.1 u1,I64 W.2]∧True) ⟨(by first|rfl|simp[upd_apply]),(by first|rfl|simp[upd_apply]),(by first|rfl|simp[upd_apply]),(by first|rfl|simp[upd_apply]),(by first|rfl|simp[upd_apply]),trivial⟩ ?_
 rintro f ⟨f1,f2,f3,f4,f61,-⟩
 ((try simp (maxSteps:=3000000) (dsimp:=false) (disch:=first|omega|simp only[lnx];omega) only[↓ypre,ypost,↓reduceIte,reduceEqDiff,reduceAdd,reduceSub,reduceLeDiff,zz0,ynew,f1,f2,f3,f4,f61,schV,ou1]);try simp only[yback])
 generalize hH3:AH.new H2 _=H3
 obtain⟨g3,p3,n3⟩:=new_facts hH3
 have g1:=pre_get (p2.trans p3) g1
 ((try simp (maxSteps:=3000000) (dsimp:=false) (disch:=first|omega|simp only[lnx];omega) only[↓ypre,ypost,↓reduceIte,reduceEqDiff,reduceAdd,reduceSub,reduceLeDiff,zz0,ynew,f1,f2,f3,f4,f61,rdn_of g1]);try simp only[yback])
 refine s_WalkFlips (x:=x) (hv1.pre (p1.trans (p2.trans p3))) sX (hn.pre (p1.trans (p2.trans p3))) (by omega) fun u2 H4 p4 ku2=>?_
 rw[hW] at ku2 ⊢
 have qu2:=ku2.now
 have ou2:isOne u2=true:=qu2.one
 have vlu2:=qu2.1.len
 have sW:SmallX W.1.ps:=by rw[←hW];exact wkR_small ⟨hv1.1.widL,hv1.2⟩
 refine WO_cut (fun f:Fr=>f 2=lv∧f 3=rv∧f 4=.pointer (some ⟨h.length,0,none⟩)∧f 9=.pointer (some ⟨H2.length,0,none⟩)∧f 10=I64 W.2∧f 67=.tuple #[schV W.1 u2,I64 W.2]∧True) ⟨(by first|rfl|exact f2|simp[upd_apply,f2]),(by first|rfl|exact f3|simp[upd_apply,f3]),(by first|rfl|exact f4|simp[upd_apply,f4]),(by first|rfl|simp[upd_apply]),(by first|rfl|simp[upd_apply]),(by first|rfl|simp[upd_apply]),trivial⟩ ?_
 rintro f ⟨f2,f3,f4,f9,f10,f67,-⟩
 ((try simp (maxSteps:=3000000) (dsimp:=false) (disch:=first|omega|simp only[lnx];omega) only[↓ypre,ypost,↓reduceIte,reduceEqDiff,reduceAdd,reduceSub,reduceLeDiff,zz0,ynew,f2,f3,f4,f9,f10,f67,schV,ou2]);try simp only[yback])
 generalize hH5:AH.new H4 _=H5
 obtain⟨g5,p5,n5⟩:=new_facts hH5
 have g3:=pre_get (p4.trans p5) g3
 ((try simp (maxSteps:=3000000) (dsimp:=false) (disch:=first|omega|simp only[lnx];omega) only[↓ypre,ypost,↓reduceIte,reduceEqDiff,reduceAdd,reduceSub,reduceLeDiff,zz0,ynew,f2,f3,f4,f9,f10,f67,decide_eq_false (show ¬ (W.2)≠(W.2) from fun h=>h rfl),rdn_of g3,rdn_of g5]);try simp only[yback])
 refine l_schemes9 (x:=W.1) (qu1.pre (p3.trans (p4.trans p5))) (qu2.pre p5) sW fun H6 p6=>?_
 refine WO_cut (fun f:Fr=>f 2=lv∧f 3=rv∧f 4=.pointer (some ⟨h.length,0,none⟩)∧f 9=.pointer (some ⟨H2.length,0,none⟩)∧f 10=I64 W.2∧f 11=.pointer (some ⟨H4.length,0,none⟩)∧f 73=.bool false∧f 76=.bool true∧True) ⟨(by first|rfl|exact f2|simp[upd_apply,f2]),(by first|rfl|exact f3|simp[upd_apply,f3]),(by first|rfl|exact f4|simp[upd_apply,f4]),(by first|rfl|exact f9|simp[upd_apply,f9]),(by first|rfl|exact f10|simp[upd_apply,f10]),(by first|rfl|simp[upd_apply]),(by first|rfl|simp[upd_apply]),(by first|rfl|simp[upd_apply]),trivial⟩ ?_
 rintro f ⟨f2,f3,f4,f9,f10,f11,f73,f76,-⟩
 by_cases z1:W.2≠0
 case pos=>
  ((try simp (maxSteps:=3000000) (dsimp:=false) (disch:=first|omega|simp only[lnx];omega) only[↓ypre,ypost,↓reduceIte,reduceEqDiff,reduceAdd,reduceSub,reduceLeDiff,zz0,ynew,f2,f3,f4,f9,f10,f11,f73,f76,decide_eq_true z1]);try simp only[yback])
 obtain⟨gx,ok,eW,gw,ew⟩:=wkR_of (x:=x) (ns:=ns) ⟨hv1.1.widL,hv1.2⟩ (by rw[hW];exact Decidable.not_not.1 z1)
 rw[hW] at eW
 rw[←eW] at gw ew
 obtain⟨gd,ed,-⟩:=redX_ok gw
 have er:rdR W.1=(redX W.1,0):=by unfold rdR;rw[if_pos gw.ok]
 generalize redX W.1=D at gd ed er
 have exd:=ew.trans ed
 have sD:SmallX D.ps:=wps_small gd
 obtain⟨cb,hcb⟩:∃ cb:Bool,crR x=(cb,0):=⟨(crR x).1,Prod.ext rfl (crR_0 gx).1⟩
 have hcw:crR W.1=(cb,0):=by rw[←crR_eq gx gw ew];exact hcb
 have hcd:crR D=(cb,0):=by rw[←crR_eq gx gd exd];exact hcb
 obtain⟨ht1,ht2⟩:=tsR_eq gx gd exd
 have zx:=(isX_sz gx.ok).1
 have hsT:SmallS (tofX x).ns:=tofX_small zx
 have g1:=pre_get (p4.trans (p5.trans p6)) g1
 ((try simp (maxSteps:=3000000) (dsimp:=false) (disch:=first|omega|simp only[lnx];omega) only[↓ypre,ypost,↓reduceIte,reduceEqDiff,reduceAdd,reduceSub,reduceLeDiff,zz0,ynew,f2,f3,f4,f9,f10,f11,f73,f76,decide_eq_false z1,rdn_of g1]);try simp only[yback])
 refine i_IsCorrect (x:=x) (hv1.pre ((p1.trans (p2.trans p3)).trans (p4.trans (p5.trans p6)))) sX fun H7 p7=>?_
 rw[hcb]
 refine WO_cut (fun f:Fr=>f 2=lv∧f 3=rv∧f 4=.pointer (some ⟨h.length,0,none⟩)∧f 9=.pointer (some ⟨H2.length,0,none⟩)∧f 11=.pointer (some ⟨H4.length,0,none⟩)∧f 83=.tuple #[.bool cb,I64 0]∧True) ⟨(by first|rfl|exact f2|simp[upd_apply,f2]),(by first|rfl|exact f3|simp[upd_apply,f3]),(by first|rfl|exact f4|simp[upd_apply,f4]),(by first|rfl|exact f9|simp[upd_apply,f9]),(by first|rfl|exact f11|simp[upd_apply,f11]),(by first|rfl|simp[upd_apply]),trivial⟩ ?_
 rintro f ⟨f2,f3,f4,f9,f11,f83,-⟩
 have g3:=pre_get (p6.trans p7) g3
 ((try simp (maxSteps:=3000000) (dsimp:=false) (disch:=first|omega|simp only[lnx];omega) only[↓ypre,ypost,↓reduceIte,reduceEqDiff,reduceAdd,reduceSub,reduceLeDiff,zz0,ynew,f2,f3,f4,f9,f11,f83,rdn_of g3]);try simp only[yback])
 refine i_IsCorrect (x:=W.1) (qu1.pre ((p3.trans p4).trans (p5.trans (p6.trans p7)))) sW fun H8 p8=>?_
 rw[hcw]
 refine WO_cut (fun f:Fr=>f 2=lv∧f 3=rv∧f 4=.pointer (some ⟨h.length,0,none⟩)∧f 9=.pointer (some ⟨H2.length,0,none⟩)∧f 11=.pointer (some ⟨H4.length,0,none⟩)∧f 13=.bool cb∧f 14=I64 0∧f 88=.tuple #[.bool cb,I64 0]∧True) ⟨(by first|rfl|exact f2|simp[upd_apply,f2]),(by first|rfl|exact f3|simp[upd_apply,f3]),(by first|rfl|exact f4|simp[upd_apply,f4]),(by first|rfl|exact f9|simp[upd_apply,f9]),(by first|rfl|exact f11|simp[upd_apply,f11]),(by first|rfl|simp[upd_apply]),(by first|rfl|simp[upd_apply]),(by first|rfl|simp[upd_apply]),trivial⟩ ?_
 rintro f ⟨f2,f3,f4,f9,f11,f13,f14,f88,-⟩
 have g3:=pre_get p8 g3
 ((try simp (maxSteps:=3000000) (dsimp:=false) (disch:=first|omega|simp only[lnx];omega) only[↓ypre,ypost,↓reduceIte,reduceEqDiff,reduceAdd,reduceSub,reduceLeDiff,zz0,ynew,f2,f3,f4,f9,f11,f13,f14,f88,rdn_of g3]);try simp only[yback])
 refine i_ReduceScheme (x:=W.1) (qu1.pre ((p3.trans (p4.trans p5)).trans (p6.trans (p7.trans p8)))) sW fun dv H9 p9 kd nkd=>?_
 rw[er] at kd ⊢
 have qd:=kd.now
 have od:isOne dv=true:=nkd.one
 have vld:=qd.1.len
 refine WO_cut (fun f:Fr=>f 2=lv∧f 3=rv∧f 4=.pointer (some ⟨h.length,0,none⟩)∧f 11=.pointer (some ⟨H4.length,0,none⟩)∧f 13=.bool cb∧f 14=I64 0∧f 15=.bool cb∧f 16=I64 0∧f 93=.tuple #[schV D dv,I64 0]∧True) ⟨(by first|rfl|exact f2|simp[upd_apply,f2]),(by first|rfl|exact f3|simp[upd_apply,f3]),(by first|rfl|exact f4|simp[upd_apply,f4]),(by first|rfl|exact f11|simp[upd_apply,f11]),(by first|rfl|exact f13|simp[upd_apply,f13]),(by first|rfl|exact f14|simp[upd_apply,f14]),(by first|rfl|simp[upd_apply]),(by first|rfl|simp[upd_apply]),(by first|rfl|simp[upd_apply]),trivial⟩ ?_
 rintro f ⟨f2,f3,f4,f11,f13,f14,f15,f16,f93,-⟩
 ((try simp (maxSteps:=3000000) (dsimp:=false) (disch:=first|omega|simp only[lnx];omega) only[↓ypre,ypost,↓reduceIte,reduceEqDiff,reduceAdd,reduceSub,reduceLeDiff,zz0,ynew,f2,f3,f4,f11,f13,f14,f15,f16,f93,schV,od]);try simp only[yback])
 generalize hH10:AH.new H9 _=H10
 obtain⟨g10,p10,n10⟩:=new_facts hH10
 ((try simp (maxSteps:=3000000) (dsimp:=false) (disch:=first|omega|simp only[lnx];omega) only[↓ypre,ypost,↓reduceIte,reduceEqDiff,reduceAdd,reduceSub,reduceLeDiff,zz0,ynew,f2,f3,f4,f11,f13,f14,f15,f16,f93,rdn_of g10]);try simp only[yback])
 refine i_IsCorrect (x:=D) (qd.pre p10) sD fun H11 p11=>?_
 rw[hcd]
 refine WO_cut (fun f:Fr=>f 2=lv∧f 3=rv∧f 4=.pointer (some ⟨h.length,0,none⟩)∧f 11=.pointer (some ⟨H4.length,0,none⟩)∧f 13=.bool cb∧f 14=I64 0∧f 15=.bool cb∧f 16=I64 0∧f 17=.pointer (some ⟨H9.length,0,none⟩)∧f 18=I64 0∧f 98=.tuple #[.bool cb,I64 0]∧True) ⟨(by first|rfl|exact f2|simp[upd_apply,f2]),(by first|rfl|exact f3|simp[upd_apply,f3]),(by first|rfl|exact f4|simp[upd_apply,f4]),(by first|rfl|exact f11|simp[upd_apply,f11]),(by first|rfl|exact f13|simp[upd_apply,f13]),(by first|rfl|exact f14|simp[upd_apply,f14]),(by first|rfl|exact f15|simp[upd_apply,f15]),(by first|rfl|exact f16|simp[upd_apply,f16]),(by first|rfl|simp[upd_apply]),(by first|rfl|simp[upd_apply]),(by first|rfl|simp[upd_apply]),trivial⟩ ?_
 rintro f ⟨f2,f3,f4,f11,f13,f14,f15,f16,f17,f18,f98,-⟩
 have g5:=pre_get ((p6.trans (p7.trans p8)).trans (p9.trans (p10.trans p11))) g5
 ((try simp (maxSteps:=3000000) (dsimp:=false) (disch:=first|omega|simp only[lnx];omega) only[↓ypre,ypost,↓reduceIte,reduceEqDiff,reduceAdd,reduceSub,reduceLeDiff,zz0,ynew,f2,f3,f4,f11,f13,f14,f15,f16,f17,f18,f98,rdn_of g5]);try simp only[yback])
 refine s_ReduceScheme (x:=W.1) (qu2.pre ((p5.trans (p6.trans p7)).trans ((p8.trans p9).trans (p10.trans p11)))) sW fun dw H12 p12 kd2=>?_
 rw[er] at kd2 ⊢
 have qd2:=kd2.now
 have odw:isOne dw=true:=qd2.one
 have vldw:=qd2.1.len
 refine WO_cut (fun f:Fr=>f 2=lv∧f 3=rv∧f 4=.pointer (some ⟨h.length,0,none⟩)∧f 13=.bool cb∧f 14=I64 0∧f 15=.bool cb∧f 16=I64 0∧f 17=.pointer (some ⟨H9.length,0,none⟩)∧f 18=I64 0∧f 19=.bool cb∧f 20=I64 0∧f 103=.tuple #[schV D dw,I64 0]∧True) ⟨(by first|rfl|exact f2|simp[upd_apply,f2]),(by first|rfl|exact f3|simp[upd_apply,f3]),(by first|rfl|exact f4|simp[upd_apply,f4]),(by first|rfl|exact f13|simp[upd_apply,f13]),(by first|rfl|exact f14|simp[upd_apply,f14]),(by first|rfl|exact f15|simp[upd_apply,f15]),(by first|rfl|exact f16|simp[upd_apply,f16]),(by first|rfl|exact f17|simp[upd_apply,f17]),(by first|rfl|exact f18|simp[upd_apply,f18]),(by first|rfl|simp[upd_apply]),(by first|rfl|simp[upd_apply]),(by first|rfl|simp[upd_apply]),trivial⟩ ?_
 rintro f ⟨f2,f3,f4,f13,f14,f15,f16,f17,f18,f19,f20,f103,-⟩
 ((try simp (maxSteps:=3000000) (dsimp:=false) (disch:=first|omega|simp only[lnx];omega) only[↓ypre,ypost,↓reduceIte,reduceEqDiff,reduceAdd,reduceSub,reduceLeDiff,zz0,ynew,f2,f3,f4,f13,f14,f15,f16,f17,f18,f19,f20,f103,schV,odw]);try simp only[yback])
 generalize hH13:AH.new H12 _=H13
 obtain⟨g13,p13,n13⟩:=new_facts hH13
 have g10:=pre_get (p11.trans (p12.trans p13)) g10
 ((try simp (maxSteps:=3000000) (dsimp:=false) (disch:=first|omega|simp only[lnx];omega) only[↓ypre,ypost,↓reduceIte,reduceEqDiff,reduceAdd,reduceSub,reduceLeDiff,zz0,ynew,f2,f3,f4,f13,f14,f15,f16,f17,f18,f19,f20,f103,rdn_of g10,rdn_of g13]);try simp only[yback])
 refine l_schemes9 (x:=D) (qd.pre ((p10.trans p11).trans (p12.trans p13))) (qd2.pre p13) sD fun H14 p14=>?_
 refine WO_cut (fun f:Fr=>f 2=lv∧f 3=rv∧f 4=.pointer (some ⟨h.length,0,none⟩)∧f 13=.bool cb∧f 14=I64 0∧f 15=.bool cb∧f 16=I64 0∧f 17=.pointer (some ⟨H9.length,0,none⟩)∧f 18=I64 0∧f 19=.bool cb∧f 20=I64 0∧f 108=.bool true∧True) ⟨(by first|rfl|exact f2|simp[upd_apply,f2]),(by first|rfl|exact f3|simp[upd_apply,f3]),(by first|rfl|exact f4|simp[upd_apply,f4]),(by first|rfl|exact f13|simp[upd_apply,f13]),(by first|rfl|exact f14|simp[upd_apply,f14]),(by first|rfl|exact f15|simp[upd_apply,f15]),(by first|rfl|exact f16|simp[upd_apply,f16]),(by first|rfl|exact f17|simp[upd_apply,f17]),(by first|rfl|exact f18|simp[upd_apply,f18]),(by first|rfl|exact f19|simp[upd_apply,f19]),(by first|rfl|exact f20|simp[upd_apply,f20]),(by first|rfl|simp[upd_apply]),trivial⟩ ?_
 rintro f ⟨f2,f3,f4,f13,f14,f15,f16,f17,f18,f19,f20,f108,-⟩
 have g1:=pre_get (((p7.trans p8).trans (p9.trans p10)).trans ((p11.trans p12).trans (p13.trans p14))) g1
 ((try simp (maxSteps:=3000000) (dsimp:=false) (disch:=first|omega|simp only[lnx];omega) only[↓ypre,ypost,↓reduceIte,reduceEqDiff,reduceAdd,reduceSub,reduceLeDiff,zz0,ynew,f2,f3,f4,f13,f14,f15,f16,f17,f18,f19,f20,f108,rdn_of g1]);try simp only[yback])
 refine i_TensorOfScheme (x:=x) (hv1.pre (((p1.trans (p2.trans p3)).trans ((p4.trans p5).trans (p6.trans p7))).trans ((p8.trans (p9.trans p10)).trans ((p11.trans p12).trans (p13.trans p14))))) sX fun t1 H15 p15 qt1=>?_
 rw[ht1] at qt1 ⊢
 have qt1:=qt1.ints
 have ot1:isOne t1=true:=qt1.one
 refine WO_cut (fun f:Fr=>f 2=lv∧f 3=rv∧f 4=.pointer (some ⟨h.length,0,none⟩)∧f 13=.bool cb∧f 14=I64 0∧f 15=.bool cb∧f 16=I64 0∧f 17=.pointer (some ⟨H9.length,0,none⟩)∧f 18=I64 0∧f 19=.bool cb∧f 20=I64 0∧f 112=.tuple #[tenV (tofX x) t1,I64 0]∧True) ⟨(by first|rfl|exact f2|simp[upd_apply,f2]),(by first|rfl|exact f3|simp[upd_apply,f3]),(by first|rfl|exact f4|simp[upd_apply,f4]),(by first|rfl|exact f13|simp[upd_apply,f13]),(by first|rfl|exact f14|simp[upd_apply,f14]),(by first|rfl|exact f15|simp[upd_apply,f15]),(by first|rfl|exact f16|simp[upd_apply,f16]),(by first|rfl|exact f17|simp[upd_apply,f17]),(by first|rfl|exact f18|simp[upd_apply,f18]),(by first|rfl|exact f19|simp[upd_apply,f19]),(by first|rfl|exact f20|simp[upd_apply,f20]),(by first|rfl|simp[upd_apply]),trivial⟩ ?_
 rintro f ⟨f2,f3,f4,f13,f14,f15,f16,f17,f18,f19,f20,f112,-⟩
 ((try simp (maxSteps:=3000000) (dsimp:=false) (disch:=first|omega|simp only[lnx];omega) only[↓ypre,ypost,↓reduceIte,reduceEqDiff,reduceAdd,reduceSub,reduceLeDiff,zz0,ynew,f2,f3,f4,f13,f14,f15,f16,f17,f18,f19,f20,f112,tenV,ot1]);try simp only[yback])
 generalize hH16:AH.new H15 _=H16
 obtain⟨g16,p16,n16⟩:=new_facts hH16
 have g10:=pre_get (p14.trans (p15.trans p16)) g10
 ((try simp (maxSteps:=3000000) (dsimp:=false) (disch:=first|omega|simp only[lnx];omega) only[↓ypre,ypost,↓reduceIte,reduceEqDiff,reduceAdd,reduceSub,reduceLeDiff,zz0,ynew,f2,f3,f4,f13,f14,f15,f16,f17,f18,f19,f20,f112,rdn_of g10]);try simp only[yback])
 refine i_TensorOfScheme (x:=D) (qd.pre ((p10.trans (p11.trans p12)).trans ((p13.trans p14).trans (p15.trans p16)))) sD fun t2 H17 p17 qt2=>?_
 rw[ht2] at qt2 ⊢
 have qt2:=qt2.ints
 have ot2:isOne t2=true:=qt2.one
 refine WO_cut (fun f:Fr=>f 2=lv∧f 3=rv∧f 4=.pointer (some ⟨h.length,0,none⟩)∧f 13=.bool cb∧f 14=I64 0∧f 15=.bool cb∧f 16=I64 0∧f 17=.pointer (some ⟨H9.length,0,none⟩)∧f 18=I64 0∧f 19=.bool cb∧f 20=I64 0∧f 23=.pointer (some ⟨H15.length,0,none⟩)∧f 24=I64 0∧f 117=.tuple #[tenV (tofX x) t2,I64 0]∧True) ⟨(by first|rfl|exact f2|simp[upd_apply,f2]),(by first|rfl|exact f3|simp[upd_apply,f3]),(by first|rfl|exact f4|simp[upd_apply,f4]),(by first|rfl|exact f13|simp[upd_apply,f13]),(by first|rfl|exact f14|simp[upd_apply,f14]),(by first|rfl|exact f15|simp[upd_apply,f15]),(by first|rfl|exact f16|simp[upd_apply,f16]),(by first|rfl|exact f17|simp[upd_apply,f17]),(by first|rfl|exact f18|simp[upd_apply,f18]),(by first|rfl|exact f19|simp[upd_apply,f19]),(by first|rfl|exact f20|simp[upd_apply,f20]),(by first|rfl|simp[upd_apply]),(by first|rfl|simp[upd_apply]),(by first|rfl|simp[upd_apply]),trivial⟩ ?_
 rintro f ⟨f2,f3,f4,f13,f14,f15,f16,f17,f18,f19,f20,f23,f24,f117,-⟩
 ((try simp (maxSteps:=3000000) (dsimp:=false) (disch:=first|omega|simp only[lnx];omega) only[↓ypre,ypost,↓reduceIte,reduceEqDiff,reduceAdd,reduceSub,reduceLeDiff,zz0,ynew,f2,f3,f4,f13,f14,f15,f16,f17,f18,f19,f20,f23,f24,f117,tenV,ot2]);try simp only[yback])
 generalize hH18:AH.new H17 _=H18
 obtain⟨g18,p18,n18⟩:=new_facts hH18
 have g16:=pre_get (p17.trans p18) g16
 ((try simp (maxSteps:=3000000) (dsimp:=false) (disch:=first|omega|simp only[lnx];omega) only[↓ypre,ypost,↓reduceIte,reduceEqDiff,reduceAdd,reduceSub,reduceLeDiff,zz0,ynew,f2,f3,f4,f13,f14,f15,f16,f17,f18,f19,f20,f23,f24,f117,show decide ((0:Int)≠0)=false from rfl,show ((cb==cb) != true)=false by simp,rd1_of g16,rd1_of g18]);try simp only[yback])
 refine l_like (qt1.pre (p16.trans (p17.trans p18))) (qt2.pre p18) hsT ?_
 refine WO_cut (fun f:Fr=>f 2=lv∧f 3=rv∧f 4=.pointer (some ⟨h.length,0,none⟩)∧f 13=.bool cb∧f 17=.pointer (some ⟨H9.length,0,none⟩)∧f 152=.bool false∧f 157=.bool true∧True) ⟨(by first|rfl|exact f2|simp[upd_apply,f2]),(by first|rfl|exact f3|simp[upd_apply,f3]),(by first|rfl|exact f4|simp[upd_apply,f4]),(by first|rfl|exact f13|simp[upd_apply,f13]),(by first|rfl|exact f17|simp[upd_apply,f17]),(by first|rfl|simp[upd_apply]),(by first|rfl|simp[upd_apply]),trivial⟩ ?_
 rintro f ⟨f2,f3,f4,f13,f17,f152,f157,-⟩
 have g1:=pre_get ((p15.trans p16).trans (p17.trans p18)) g1
 by_cases mc:mcX x Lm Rm=0
 case neg=>
  have mpx:mpR x Lm Rm=([],mcX x Lm Rm):=if_neg mc
  ((try simp (maxSteps:=3000000) (dsimp:=false) (disch:=first|omega|simp only[lnx];omega) only[↓ypre,ypost,↓reduceIte,reduceEqDiff,reduceAdd,reduceSub,reduceLeDiff,zz0,ynew,f2,f3,f4,f13,f17,f152,f157,rdn_of g1]);try simp only[yback])
  refine i_MakeProduct (x:=x) (hv1.pre ((((p1.trans p2).trans (p3.trans p4)).trans ((p5.trans p6).trans (p7.trans (p8.trans p9)))).trans (((p10.trans p11).trans (p12.trans p13)).trans ((p14.trans p15).trans (p16.trans (p17.trans p18)))))) sX (Rows.pre ((((p1.trans p2).trans (p3.trans p4)).trans ((p5.trans p6).trans (p7.trans (p8.trans p9)))).trans (((p10.trans p11).trans (p12.trans p13)).trans ((p14.trans p15).trans (p16.trans (p17.trans p18))))) hA) bA (Rows.pre ((((p1.trans p2).trans (p3.trans p4)).trans ((p5.trans p6).trans (p7.trans (p8.trans p9)))).trans (((p10.trans p11).trans (p12.trans p13)).trans ((p14.trans p15).trans (p16.trans (p17.trans p18))))) hB') bB fun ma H19 p19 qa=>?_
  rw[mpx] at qa ⊢
  refine WO_cut (fun f:Fr=>f 2=lv∧f 3=rv∧f 4=.pointer (some ⟨h.length,0,none⟩)∧f 13=.bool cb∧f 17=.pointer (some ⟨H9.length,0,none⟩)∧f 164=.tuple #[ma,I64 (mcX x Lm Rm)]∧True) ⟨(by first|rfl|exact f2|simp[upd_apply,f2]),(by first|rfl|exact f3|simp[upd_apply,f3]),(by first|rfl|exact f4|simp[upd_apply,f4]),(by first|rfl|exact f13|simp[upd_apply,f13]),(by first|rfl|exact f17|simp[upd_apply,f17]),(by first|rfl|simp[upd_apply]),trivial⟩ ?_
  rintro f ⟨f2,f3,f4,f13,f17,f164,-⟩
  have g10:=pre_get (p17.trans (p18.trans p19)) g10
  ((try simp (maxSteps:=3000000) (dsimp:=false) (disch:=first|omega|simp only[lnx];omega) only[↓ypre,ypost,↓reduceIte,reduceEqDiff,reduceAdd,reduceSub,reduceLeDiff,zz0,ynew,f2,f3,f4,f13,f17,f164,rdn_of g10]);try simp only[yback])
  refine i_MakeProduct (x:=D) (qd.pre (((p10.trans p11).trans (p12.trans (p13.trans p14))).trans ((p15.trans p16).trans (p17.trans (p18.trans p19))))) sD (Rows.pre ((((p1.trans p2).trans (p3.trans p4)).trans ((p5.trans p6).trans (p7.trans (p8.trans p9)))).trans (((p10.trans p11).trans (p12.trans (p13.trans p14))).trans ((p15.trans p16).trans (p17.trans (p18.trans p19))))) hA) bA (Rows.pre ((((p1.trans p2).trans (p3.trans p4)).trans ((p5.trans p6).trans (p7.trans (p8.trans p9)))).trans (((p10.trans p11).trans (p12.trans (p13.trans p14))).trans ((p15.trans p16).trans (p17.trans (p18.trans p19))))) hB') bB fun mb H20 p20 qb=>?_
  refine WO_cut (fun f:Fr=>f 2=lv∧f 3=rv∧f 4=.pointer (some ⟨h.length,0,none⟩)∧f 13=.bool cb∧f 17=.pointer (some ⟨H9.length,0,none⟩)∧f 27=ma∧f 28=I64 (mcX x Lm Rm)∧f 171=.tuple #[mb,I64 (mpR D Lm Rm).2]∧True) ⟨(by first|rfl|exact f2|simp[upd_apply,f2]),(by first|rfl|exact f3|simp[upd_apply,f3]),(by first|rfl|exact f4|simp[upd_apply,f4]),(by first|rfl|exact f13|simp[upd_apply,f13]),(by first|rfl|exact f17|simp[upd_apply,f17]),(by first|rfl|simp[upd_apply]),(by first|rfl|simp[upd_apply]),(by first|rfl|simp[upd_apply]),trivial⟩ ?_
  rintro f ⟨f2,f3,f4,f13,f17,f27,f28,f171,-⟩
  have g1:=pre_get (p19.trans p20) g1
  ((try simp (maxSteps:=3000000) (dsimp:=false) (disch:=first|omega|simp only[lnx];omega) only[↓ypre,ypost,↓reduceIte,reduceEqDiff,reduceAdd,reduceSub,reduceLeDiff,zz0,ynew,f2,f3,f4,f13,f17,f27,f28,f171,rd1_of g1]);try simp only[yback])
  refine i_PlainProduct (p:=x.p) (Rows.pre ((((p1.trans p2).trans (p3.trans (p4.trans p5))).trans ((p6.trans p7).trans (p8.trans (p9.trans p10)))).trans (((p11.trans p12).trans (p13.trans (p14.trans p15))).trans ((p16.trans p17).trans (p18.trans (p19.trans p20))))) hA) bA (Rows.pre ((((p1.trans p2).trans (p3.trans (p4.trans p5))).trans ((p6.trans p7).trans (p8.trans (p9.trans p10)))).trans (((p11.trans p12).trans (p13.trans (p14.trans p15))).trans ((p16.trans p17).trans (p18.trans (p19.trans p20))))) hB') bB fun mp H21 p21 qp=>?_
  refine WO_cut (fun f:Fr=>f 2=lv∧f 3=rv∧f 4=.pointer (some ⟨h.length,0,none⟩)∧f 13=.bool cb∧f 17=.pointer (some ⟨H9.length,0,none⟩)∧f 27=ma∧f 28=I64 (mcX x Lm Rm)∧f 29=mb∧f 30=I64 (mpR D Lm Rm).2∧f 179=.tuple #[mp,I64 (ppR x.p Lm Rm).2]∧True) ⟨(by first|rfl|exact f2|simp[upd_apply,f2]),(by first|rfl|exact f3|simp[upd_apply,f3]),(by first|rfl|exact f4|simp[upd_apply,f4]),(by first|rfl|exact f13|simp[upd_apply,f13]),(by first|rfl|exact f17|simp[upd_apply,f17]),(by first|rfl|exact f27|simp[upd_apply,f27]),(by first|rfl|exact f28|simp[upd_apply,f28]),(by first|rfl|simp[upd_apply]),(by first|rfl|simp[upd_apply]),(by first|rfl|simp[upd_apply]),trivial⟩ ?_
  rintro f ⟨f2,f3,f4,f13,f17,f27,f28,f29,f30,f179,-⟩
  have g1:=pre_get p21 g1
  ((try simp (maxSteps:=3000000) (dsimp:=false) (disch:=first|omega|simp only[lnx];omega) only[↓ypre,ypost,↓reduceIte,reduceEqDiff,reduceAdd,reduceSub,reduceLeDiff,zz0,ynew,f2,f3,f4,f13,f17,f27,f28,f29,f30,f179,rdn_of g1]);try simp only[yback])
  refine s_MakeProduct (x:=x) (hv1.pre ((((p1.trans p2).trans (p3.trans (p4.trans p5))).trans ((p6.trans p7).trans (p8.trans (p9.trans p10)))).trans (((p11.trans p12).trans (p13.trans (p14.trans p15))).trans ((p16.trans (p17.trans p18)).trans (p19.trans (p20.trans p21)))))) sX (Rows.pre ((((p1.trans p2).trans (p3.trans (p4.trans p5))).trans ((p6.trans p7).trans (p8.trans (p9.trans p10)))).trans (((p11.trans p12).trans (p13.trans (p14.trans p15))).trans ((p16.trans (p17.trans p18)).trans (p19.trans (p20.trans p21))))) hA) bA (Rows.pre ((((p1.trans p2).trans (p3.trans (p4.trans p5))).trans ((p6.trans p7).trans (p8.trans (p9.trans p10)))).trans (((p11.trans p12).trans (p13.trans (p14.trans p15))).trans ((p16.trans (p17.trans p18)).trans (p19.trans (p20.trans p21))))) hB') bB fun mq H22 p22 qq=>?_
  rw[mpx] at qq ⊢
  refine WO_cut (fun f:Fr=>f 2=lv∧f 3=rv∧f 13=.bool cb∧f 17=.pointer (some ⟨H9.length,0,none⟩)∧f 27=ma∧f 28=I64 (mcX x Lm Rm)∧f 29=mb∧f 30=I64 (mpR D Lm Rm).2∧f 31=mp∧f 32=I64 (ppR x.p Lm Rm).2∧f 186=.tuple #[mq,I64 (mcX x Lm Rm)]∧True) ⟨(by first|rfl|exact f2|simp[upd_apply,f2]),(by first|rfl|exact f3|simp[upd_apply,f3]),(by first|rfl|exact f13|simp[upd_apply,f13]),(by first|rfl|exact f17|simp[upd_apply,f17]),(by first|rfl|exact f27|simp[upd_apply,f27]),(by first|rfl|exact f28|simp[upd_apply,f28]),(by first|rfl|exact f29|simp[upd_apply,f29]),(by first|rfl|exact f30|simp[upd_apply,f30]),(by first|rfl|simp[upd_apply]),(by first|rfl|simp[upd_apply]),(by first|rfl|simp[upd_apply]),trivial⟩ ?_
  rintro f ⟨f2,f3,f13,f17,f27,f28,f29,f30,f31,f32,f186,-⟩
  ((try simp (maxSteps:=3000000) (dsimp:=false) (disch:=first|omega|simp only[lnx];omega) only[↓ypre,ypost,↓reduceIte,reduceEqDiff,reduceAdd,reduceSub,reduceLeDiff,zz0,ynew,f2,f3,f13,f17,f27,f28,f29,f30,f31,f32,f186,decide_eq_false (show ¬ ((mcX x Lm Rm))≠((mcX x Lm Rm)) from fun h=>h rfl),decide_eq_true (show mcX x Lm Rm≠0 from mc)]);try simp only[yback])
 obtain⟨sA,sB⟩:=mc_small mc
 have mcd:mcX D Lm Rm=0:=by rw[←mcX_eq gx gd exd];exact mc
 obtain⟨pc,pl⟩:=pp_len gx mc
 have pw:cb=true→(ppR x.p Lm Rm).1=mpF x Lm Rm:=fun hc=>by
  have h1:=(crR_0 gx).2.1 (by rw[hcb];exact hc)
  rw[mp_pp hv1 gx.ok mc h1]
 have mpx:mpR x Lm Rm=(mpF x Lm Rm,0):=by unfold mpR;rw[if_pos mc]
 have mpd:mpR D Lm Rm=(mpF x Lm Rm,0):=by rw[←mpR_eq gx gd exd];exact mpx
 have sml:=mpR_small x Lm Rm
 rw[mpx] at sml
 obtain⟨pr,hpr⟩:∃ pr,ppR x.p Lm Rm=(pr,0):=⟨_,Prod.ext rfl pc⟩
 rw[hpr] at pl pw
 have mde:=mpF_eq gx gd exd mc
 generalize mpF x Lm Rm=rows at *
 have sml:SmallM rows:=sml
 have sml1:=sml.1
 ((try simp (maxSteps:=3000000) (dsimp:=false) (disch:=first|omega|simp only[lnx];omega) only[↓ypre,ypost,↓reduceIte,reduceEqDiff,reduceAdd,reduceSub,reduceLeDiff,zz0,ynew,f2,f3,f4,f13,f17,f152,f157,rdn_of g1]);try simp only[yback])
 refine i_MakeProduct (x:=x) (hv1.pre ((((p1.trans p2).trans (p3.trans p4)).trans ((p5.trans p6).trans (p7.trans (p8.trans p9)))).trans (((p10.trans p11).trans (p12.trans p13)).trans ((p14.trans p15).trans (p16.trans (p17.trans p18)))))) sX (Rows.pre ((((p1.trans p2).trans (p3.trans p4)).trans ((p5.trans p6).trans (p7.trans (p8.trans p9)))).trans (((p10.trans p11).trans (p12.trans p13)).trans ((p14.trans p15).trans (p16.trans (p17.trans p18))))) hA) bA (Rows.pre ((((p1.trans p2).trans (p3.trans p4)).trans ((p5.trans p6).trans (p7.trans (p8.trans p9)))).trans (((p10.trans p11).trans (p12.trans p13)).trans ((p14.trans p15).trans (p16.trans (p17.trans p18))))) hB') bB fun ma H19 p19 qa=>?_
 rw[mpx] at qa ⊢
 have qa:=qa.rows
 have lma:=qa.len
 refine WO_cut (fun f:Fr=>f 2=lv∧f 3=rv∧f 4=.pointer (some ⟨h.length,0,none⟩)∧f 13=.bool cb∧f 17=.pointer (some ⟨H9.length,0,none⟩)∧f 164=.tuple #[ma,I64 0]∧True) ⟨(by first|rfl|exact f2|simp[upd_apply,f2]),(by first|rfl|exact f3|simp[upd_apply,f3]),(by first|rfl|exact f4|simp[upd_apply,f4]),(by first|rfl|exact f13|simp[upd_apply,f13]),(by first|rfl|exact f17|simp[upd_apply,f17]),(by first|rfl|exact f164|simp[upd_apply,f164]),trivial⟩ ?_
 rintro f ⟨f2,f3,f4,f13,f17,f164,-⟩
 have g10:=pre_get (p17.trans (p18.trans p19)) g10
 ((try simp (maxSteps:=3000000) (dsimp:=false) (disch:=first|omega|simp only[lnx];omega) only[↓ypre,ypost,↓reduceIte,reduceEqDiff,reduceAdd,reduceSub,reduceLeDiff,zz0,ynew,f2,f3,f4,f13,f17,f164,rdn_of g10]);try simp only[yback])
 refine i_MakeProduct (x:=D) (qd.pre (((p10.trans p11).trans (p12.trans (p13.trans p14))).trans ((p15.trans p16).trans (p17.trans (p18.trans p19))))) sD (Rows.pre ((((p1.trans p2).trans (p3.trans p4)).trans ((p5.trans p6).trans (p7.trans (p8.trans p9)))).trans (((p10.trans p11).trans (p12.trans (p13.trans p14))).trans ((p15.trans p16).trans (p17.trans (p18.trans p19))))) hA) bA (Rows.pre ((((p1.trans p2).trans (p3.trans p4)).trans ((p5.trans p6).trans (p7.trans (p8.trans p9)))).trans (((p10.trans p11).trans (p12.trans (p13.trans p14))).trans ((p15.trans p16).trans (p17.trans (p18.trans p19))))) hB') bB fun mb H20 p20 qb=>?_
 rw[mpd] at qb ⊢
 have qb:=qb.rows
 have lmb:=qb.len
 refine WO_cut (fun f:Fr=>f 2=lv∧f 3=rv∧f 4=.pointer (some ⟨h.length,0,none⟩)∧f 13=.bool cb∧f 17=.pointer (some ⟨H9.length,0,none⟩)∧f 27=ma∧f 28=I64 0∧f 171=.tuple #[mb,I64 0]∧True) ⟨(by first|rfl|exact f2|simp[upd_apply,f2]),(by first|rfl|exact f3|simp[upd_apply,f3]),(by first|rfl|exact f4|simp[upd_apply,f4]),(by first|rfl|exact f13|simp[upd_apply,f13]),(by first|rfl|exact f17|simp[upd_apply,f17]),(by first|rfl|exact f27|simp[upd_apply,f27]),(by first|rfl|exact f28|simp[upd_apply,f28]),(by first|rfl|exact f171|simp[upd_apply,f171]),trivial⟩ ?_
 rintro f ⟨f2,f3,f4,f13,f17,f27,f28,f171,-⟩
 have g1:=pre_get (p19.trans p20) g1
 ((try simp (maxSteps:=3000000) (dsimp:=false) (disch:=first|omega|simp only[lnx];omega) only[↓ypre,ypost,↓reduceIte,reduceEqDiff,reduceAdd,reduceSub,reduceLeDiff,zz0,ynew,f2,f3,f4,f13,f17,f27,f28,f171,rd1_of g1]);try simp only[yback])
 refine i_PlainProduct (p:=x.p) (Rows.pre ((((p1.trans p2).trans (p3.trans (p4.trans p5))).trans ((p6.trans p7).trans (p8.trans (p9.trans p10)))).trans (((p11.trans p12).trans (p13.trans (p14.trans p15))).trans ((p16.trans p17).trans (p18.trans (p19.trans p20))))) hA) bA (Rows.pre ((((p1.trans p2).trans (p3.trans (p4.trans p5))).trans ((p6.trans p7).trans (p8.trans (p9.trans p10)))).trans (((p11.trans p12).trans (p13.trans (p14.trans p15))).trans ((p16.trans p17).trans (p18.trans (p19.trans p20))))) hB') bB fun mp H21 p21 qp=>?_
 rw[hpr] at qp ⊢
 have lmp:=qp.len
 have pl:pr.length=rows.length:=pl
 rw[show (((pr,(0:Int)).1.length:Nat):Int)=rows.length from by rw[←pl]] at lmp
 refine WO_cut (fun f:Fr=>f 2=lv∧f 3=rv∧f 4=.pointer (some ⟨h.length,0,none⟩)∧f 13=.bool cb∧f 17=.pointer (some ⟨H9.length,0,none⟩)∧f 27=ma∧f 28=I64 0∧f 29=mb∧f 30=I64 0∧f 179=.tuple #[mp,I64 0]∧True) ⟨(by first|rfl|exact f2|simp[upd_apply,f2]),(by first|rfl|exact f3|simp[upd_apply,f3]),(by first|rfl|exact f4|simp[upd_apply,f4]),(by first|rfl|exact f13|simp[upd_apply,f13]),(by first|rfl|exact f17|simp[upd_apply,f17]),(by first|rfl|exact f27|simp[upd_apply,f27]),(by first|rfl|exact f28|simp[upd_apply,f28]),(by first|rfl|exact f29|simp[upd_apply,f29]),(by first|rfl|exact f30|simp[upd_apply,f30]),(by first|rfl|exact f179|simp[upd_apply,f179]),trivial⟩ ?_
 rintro f ⟨f2,f3,f4,f13,f17,f27,f28,f29,f30,f179,-⟩
 have g1:=pre_get p21 g1
 ((try simp (maxSteps:=3000000) (dsimp:=false) (disch:=first|omega|simp only[lnx];omega) only[↓ypre,ypost,↓reduceIte,reduceEqDiff,reduceAdd,reduceSub,reduceLeDiff,zz0,ynew,f2,f3,f4,f13,f17,f27,f28,f29,f30,f179,rdn_of g1]);try simp only[yback])
 refine s_MakeProduct (x:=x) (hv1.pre ((((p1.trans p2).trans (p3.trans (p4.trans p5))).trans ((p6.trans p7).trans (p8.trans (p9.trans p10)))).trans (((p11.trans p12).trans (p13.trans (p14.trans p15))).trans ((p16.trans (p17.trans p18)).trans (p19.trans (p20.trans p21)))))) sX (Rows.pre ((((p1.trans p2).trans (p3.trans (p4.trans p5))).trans ((p6.trans p7).trans (p8.trans (p9.trans p10)))).trans (((p11.trans p12).trans (p13.trans (p14.trans p15))).trans ((p16.trans (p17.trans p18)).trans (p19.trans (p20.trans p21))))) hA) bA (Rows.pre ((((p1.trans p2).trans (p3.trans (p4.trans p5))).trans ((p6.trans p7).trans (p8.trans (p9.trans p10)))).trans (((p11.trans p12).trans (p13.trans (p14.trans p15))).trans ((p16.trans (p17.trans p18)).trans (p19.trans (p20.trans p21))))) hB') bB fun mq H22 p22 qq=>?_
 rw[mpx] at qq ⊢
 refine WO_cut (fun f:Fr=>f 2=lv∧f 3=rv∧f 13=.bool cb∧f 17=.pointer (some ⟨H9.length,0,none⟩)∧f 27=ma∧f 28=I64 0∧f 29=mb∧f 30=I64 0∧f 31=mp∧f 32=I64 0∧f 186=.tuple #[mq,I64 0]∧True) ⟨(by first|rfl|exact f2|simp[upd_apply,f2]),(by first|rfl|exact f3|simp[upd_apply,f3]),(by first|rfl|exact f13|simp[upd_apply,f13]),(by first|rfl|exact f17|simp[upd_apply,f17]),(by first|rfl|exact f27|simp[upd_apply,f27]),(by first|rfl|exact f28|simp[upd_apply,f28]),(by first|rfl|exact f29|simp[upd_apply,f29]),(by first|rfl|exact f30|simp[upd_apply,f30]),(by first|rfl|exact f31|simp[upd_apply,f31]),(by first|rfl|exact f32|simp[upd_apply,f32]),(by first|rfl|exact f186|simp[upd_apply,f186]),trivial⟩ ?_
 rintro f ⟨f2,f3,f13,f17,f27,f28,f29,f30,f31,f32,f186,-⟩
 ((try simp (maxSteps:=3000000) (dsimp:=false) (disch:=first|omega|simp only[lnx];omega) only[↓ypre,ypost,↓reduceIte,reduceEqDiff,reduceAdd,reduceSub,reduceLeDiff,zz0,ynew,f2,f3,f13,f17,f27,f28,f29,f30,f31,f32,f186,show decide ((0:Int)≠0)=false from rfl,lma,lmb,decide_eq_false (show ¬ (rows.length:Int)≠rows.length from fun h=>h rfl),lmp]);try simp only[yback])
 refine WC_loop_inv (fun m f K1=>∃ (i:Nat),m=rows.length-i∧i≤rows.length∧f 2=lv∧f 3=rv∧f 13=.bool cb∧f 17=.pointer (some ⟨H9.length,0,none⟩)∧f 27=ma∧f 29=mb∧f 31=mp∧f 35=I64 i∧K1=H22) ?_ (rows.length-0) _ _ ⟨0,rfl,by omega,(by first|rfl|exact f2|(simp[upd_apply];done)),(by first|rfl|exact f3|(simp[upd_apply];done)),(by first|rfl|exact f13|(simp[upd_apply];done)),(by first|rfl|exact f17|(simp[upd_apply];done)),(by first|rfl|exact f27|(simp[upd_apply];done)),(by first|rfl|exact f29|(simp[upd_apply];done)),(by first|rfl|exact f31|(simp[upd_apply];done)),(by first|rfl|simp[upd_apply]),rfl⟩
 rintro m f K1 ⟨i,rfl,hi,f2,f3,f13,f17,f27,f29,f31,f35,rfl⟩
 by_cases hlt:(i:Int)<rows.length
 case pos=>
  have hi:i<rows.length:=by omega
  obtain⟨na,oa,xa,ia,ra,ja⟩:=((Rows.pre (p20.trans (p21.trans p22)) qa)).row hi
  obtain⟨nb,ob,xb,ib,rb,jb⟩:=((Rows.pre (p21.trans p22) qb)).row hi
  have ia:=ia .i64
  have ib:=ib .i64
  ((try simp (maxSteps:=3000000) (dsimp:=false) (disch:=first|omega|simp only[lnx];omega) only[↓ypre,ypost,↓reduceIte,reduceEqDiff,reduceAdd,reduceSub,reduceLeDiff,zz0,ynew,f2,f3,f13,f17,f27,f29,f31,f35,lma,decide_eq_true hlt,ia,ra,ib,rb]);try simp only[yback])
  refine l_like ja jb (sml.2.1 i hi) ?_
  cases cb with
  | false=>
   ((try simp (maxSteps:=3000000) (dsimp:=false) (disch:=first|omega|simp only[lnx];omega) only[↓ypre,ypost,↓reduceIte,reduceEqDiff,reduceAdd,reduceSub,reduceLeDiff,zz0,ynew,f2,f3,f13,f17,f27,f29,f31,f35,wrap64_in]);try simp only[yback])
   refine InvQ_go (rows.length-(i+1)) (by omega) ⟨(i+1),rfl,by omega,(by first|rfl|exact f2|(simp only[upd_apply];rfl)|(show I64 _=_;congr 1;omega)),(by first|rfl|exact f3|(simp only[upd_apply];rfl)|(show I64 _=_;congr 1;omega)),(by first|rfl|exact f13|(simp only[upd_apply];rfl)|(show I64 _=_;congr 1;omega)),(by first|rfl|exact f17|(simp only[upd_apply];rfl)|(show I64 _=_;congr 1;omega)),(by first|rfl|exact f27|(simp only[upd_apply];rfl)|(show I64 _=_;congr 1;omega)),(by first|rfl|exact f29|(simp only[upd_apply];rfl)|(show I64 _=_;congr 1;omega)),(by first|rfl|exact f31|(simp only[upd_apply];rfl)|(show I64 _=_;congr 1;omega)),(by first|rfl|exact f35|(simp only[upd_apply];rfl)|(show I64 _=_;congr 1;omega)),rfl⟩
  | true=>
   have ep:pr=rows:=pw rfl
   have qp2:=(Rows.pre p22 qp)
   rw[ep] at qp2
   obtain⟨np,op,xp,ip,rp,jp⟩:=qp2.row hi
   have ip:=ip .i64
   ((try simp (maxSteps:=3000000) (dsimp:=false) (disch:=first|omega|simp only[lnx];omega) only[↓ypre,ypost,↓reduceIte,reduceEqDiff,reduceAdd,reduceSub,reduceLeDiff,zz0,ynew,f2,f3,f13,f17,f27,f29,f31,f35,ia,ra,ip,rp]);try simp only[yback])
   refine l_like ja jp (sml.2.1 i hi) ?_
   ((try simp (maxSteps:=3000000) (dsimp:=false) (disch:=first|omega|simp only[lnx];omega) only[↓ypre,ypost,↓reduceIte,reduceEqDiff,reduceAdd,reduceSub,reduceLeDiff,zz0,ynew,f2,f3,f13,f17,f27,f29,f31,f35,wrap64_in]);try simp only[yback])
   refine InvQ_go (rows.length-(i+1)) (by omega) ⟨(i+1),rfl,by omega,(by first|rfl|exact f2|(simp only[upd_apply];rfl)|(show I64 _=_;congr 1;omega)),(by first|rfl|exact f3|(simp only[upd_apply];rfl)|(show I64 _=_;congr 1;omega)),(by first|rfl|exact f13|(simp only[upd_apply];rfl)|(show I64 _=_;congr 1;omega)),(by first|rfl|exact f17|(simp only[upd_apply];rfl)|(show I64 _=_;congr 1;omega)),(by first|rfl|exact f27|(simp only[upd_apply];rfl)|(show I64 _=_;congr 1;omega)),(by first|rfl|exact f29|(simp only[upd_apply];rfl)|(show I64 _=_;congr 1;omega)),(by first|rfl|exact f31|(simp only[upd_apply];rfl)|(show I64 _=_;congr 1;omega)),(by first|rfl|exact f35|(simp only[upd_apply];rfl)|(show I64 _=_;congr 1;omega)),rfl⟩
 have g10:=pre_get (p20.trans (p21.trans p22)) g10
 by_cases z0:(D.ps.length:Int)>0
 case neg=>
  ((try simp (maxSteps:=3000000) (dsimp:=false) (disch:=first|omega|simp only[lnx];omega) only[↓ypre,ypost,↓reduceIte,reduceEqDiff,reduceAdd,reduceSub,reduceLeDiff,zz0,ynew,f2,f3,f13,f17,f27,f29,f31,f35,lma,decide_eq_false hlt,rd1_of g10,vld,decide_eq_false z0]);try simp only[yback])
 have rse:rsR D true Lm Rm=(rows,0):=by rw[rsR_eq gd qd mcd (by omega),←mde]
 ((try simp (maxSteps:=3000000) (dsimp:=false) (disch:=first|omega|simp only[lnx];omega) only[↓ypre,ypost,↓reduceIte,reduceEqDiff,reduceAdd,reduceSub,reduceLeDiff,zz0,ynew,f2,f3,f13,f17,f27,f29,f31,f35,lma,decide_eq_false hlt,rd1_of g10,vld,decide_eq_true z0,rdn_of g10]);try simp only[yback])
 refine i_RunScheme (x:=D) (b:=true) (qd.pre (((p10.trans (p11.trans p12)).trans (p13.trans (p14.trans p15))).trans ((p16.trans (p17.trans p18)).trans ((p19.trans p20).trans (p21.trans p22))))) sD (Rows.pre ((((p1.trans p2).trans (p3.trans (p4.trans p5))).trans ((p6.trans (p7.trans p8)).trans (p9.trans (p10.trans p11)))).trans (((p12.trans p13).trans (p14.trans (p15.trans p16))).trans ((p17.trans (p18.trans p19)).trans (p20.trans (p21.trans p22))))) hA) sA (Rows.pre ((((p1.trans p2).trans (p3.trans (p4.trans p5))).trans ((p6.trans (p7.trans p8)).trans (p9.trans (p10.trans p11)))).trans (((p12.trans p13).trans (p14.trans (p15.trans p16))).trans ((p17.trans (p18.trans p19)).trans (p20.trans (p21.trans p22))))) hB') sB fun mr H23 p23 qr=>?_
 rw[rse] at qr ⊢
 have qr:=qr.rows
 have lmr:=qr.len
 refine WO_cut (fun f:Fr=>f 27=ma∧f 253=.tuple #[mr,I64 0]∧True) ⟨(by first|rfl|exact f27|simp[upd_apply,f27]),(by first|rfl|simp[upd_apply]),trivial⟩ ?_
 rintro f ⟨f27,f253,-⟩
 ((try simp (maxSteps:=3000000) (dsimp:=false) (disch:=first|omega|simp only[lnx];omega) only[↓ypre,ypost,↓reduceIte,reduceEqDiff,reduceAdd,reduceSub,reduceLeDiff,zz0,ynew,f27,f253,show decide ((0:Int)≠0)=false from rfl,lmr,lma,decide_eq_false (show ¬ (rows.length:Int)≠rows.length from fun h=>h rfl)]);try simp only[yback])
 refine WC_loop_inv (fun m f K2=>∃ (i:Nat),m=rows.length-i∧i≤rows.length∧f 27=ma∧f 36=mr∧f 38=I64 i∧K2=H23) ?_ (rows.length-0) _ _ ⟨0,rfl,by omega,(by first|rfl|exact f27|(simp[upd_apply];done)),(by first|rfl|simp[upd_apply]),(by first|rfl|simp[upd_apply]),rfl⟩
 rintro m f K2 ⟨i,rfl,hi,f27,f36,f38,rfl⟩
 by_cases hlt:(i:Int)<rows.length
 case pos=>
  have hi:i<rows.length:=by omega
  obtain⟨na,oa,xa,ia,ra,ja⟩:=((Rows.pre ((p20.trans p21).trans (p22.trans p23)) qa)).row hi
  obtain⟨nb,ob,xb,ib,rb,jb⟩:=(qr).row hi
  have ia:=ia .i64
  have ib:=ib .i64
  ((try simp (maxSteps:=3000000) (dsimp:=false) (disch:=first|omega|simp only[lnx];omega) only[↓ypre,ypost,↓reduceIte,reduceEqDiff,reduceAdd,reduceSub,reduceLeDiff,zz0,ynew,f27,f36,f38,lma,decide_eq_true hlt,ia,ra,ib,rb]);try simp only[yback])
  refine l_like ja jb (sml.2.1 i hi) ?_
  ((try simp (maxSteps:=3000000) (dsimp:=false) (disch:=first|omega|simp only[lnx];omega) only[↓ypre,ypost,↓reduceIte,reduceEqDiff,reduceAdd,reduceSub,reduceLeDiff,zz0,ynew,f27,f36,f38,wrap64_in]);try simp only[yback])
  refine InvQ_go (rows.length-(i+1)) (by omega) ⟨(i+1),rfl,by omega,(by first|rfl|exact f27|(simp only[upd_apply];rfl)|(show I64 _=_;congr 1;omega)),(by first|rfl|exact f36|(simp only[upd_apply];rfl)|(show I64 _=_;congr 1;omega)),(by first|rfl|exact f38|(simp only[upd_apply];rfl)|(show I64 _=_;congr 1;omega)),rfl⟩
 ((try simp (maxSteps:=3000000) (dsimp:=false) (disch:=first|omega|simp only[lnx];omega) only[↓ypre,ypost,↓reduceIte,reduceEqDiff,reduceAdd,reduceSub,reduceLeDiff,zz0,ynew,f27,f36,f38,lma,decide_eq_false hlt]);try simp only[yback])
end Go.Proofs.Ytapafdpnmakekaa.X
