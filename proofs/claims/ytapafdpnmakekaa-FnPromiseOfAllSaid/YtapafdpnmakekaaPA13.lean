/- Texts of one claim, put together by merge.py: XB9, XBA, XBB, XMA, XBC, XMB, XBH, XBI, XBN, XBJ. -/
import Derived.Test.YtapafdpnmakekaaPA12
import Derived.Test.YtapafdpnmakekaaPA11
set_option linter.unusedVariables false
set_option linter.unusedSimpArgs false
set_option maxRecDepth 20000
set_option maxHeartbeats 4000000
namespace Go.Proofs.Ytapafdpnmakekaa.X
open Go Go.RowKit
open Nat (reduceEqDiff reduceAdd reduceSub reduceLeDiff)
theorem idxn_seg {q:List Int} {f:Nat} (hq:q.length=27) (hf:f<3):idxnV 3 9 (aggV .u8 q) (I64 f)=some (.agg (cel .u8 (seg q f)).toArray):=by
 simp only[idxnV,aggV,toL,Int.toNat_natCast,cel_len,hq]
 rw[if_pos ⟨by omega,by omega,by omega⟩]
 simp only[cel_drop,cel_take]
 rfl
theorem i_flips {x:Sch} {v:Value} {h:AH} {Q:Value→AH→Prop} (hv:Prods h v x.ps) (hl:x.ps.length≤30)
  (hQ:∀ kb fu B cs h',h<+:h'→RowD (h.length+1) h' kb fu (flI x.ps x.ps.length) B cs→Q (sl kb (flI x.ps x.ps.length).length) h'):WF S 152 [schV x v] h Q:=by
 refine WF_fn (fn:=c152) rfl rfl ?_
 dsimp only[c152,oO,oM,oS,oG,oK,oE,oL,oF,oX,oN]
 have o1:=hv.one
 ((try simp (maxSteps:=3000000) (dsimp:=false) (disch:=first|omega|simp only[lnx];omega) only[↓ypre,ypost,↓reduceIte,reduceEqDiff,reduceAdd,reduceSub,reduceLeDiff,zz0,ynew,schV,o1,fillL,zrep]);try simp only[yback])
 generalize hH1:AH.new h _=H1
 obtain⟨hb1,p1,n1⟩:=new_facts hH1
 generalize hH2:AH.new H1 _=H2
 obtain⟨hb2,p2,n2⟩:=new_facts hH2
 have hb1:=pre_get p2 hb1
 have vl2:=(hv.pre (p1.trans p2)).1.len
 have r0:RowD (h.length+1) H2 H1.length true [] (fun _=>0) []:=⟨hb2,rfl,by omega,fun i hi=>by simp at hi,fun i j _ hj=>by simp at hj⟩
 ((try simp (maxSteps:=3000000) (dsimp:=false) (disch:=first|omega|simp only[lnx];omega) only[↓ypre,ypost,↓reduceIte,reduceEqDiff,reduceAdd,reduceSub,reduceLeDiff,zz0,ynew,rd1_of hb1,vl2]);try simp only[yback])
 refine WC_loop_inv (fun m f K1=>∃ (i:Nat) (kb:Nat) (fu:Bool) (B:(Nat→Nat)) (cs:List Value),m=x.ps.length-i∧i≤x.ps.length∧f 1=.pointer (some ⟨h.length,0,none⟩)∧f 3=sl kb (flI x.ps i).length∧f 11=v∧f 12=I64 x.ps.length∧f 13=I64 i∧(h<+:K1)∧(OwnB K1 h.length [I64 x.p,I64 x.n,I64 x.m,I64 x.k,v] true)∧(RowD (h.length+1) K1 kb fu (flI x.ps i) B cs)∧(∀ j,j<(flI x.ps i).length→B j<K1.length)) ?_ (x.ps.length-0) _ _ ⟨0,H1.length,true,(fun _=>0),[],rfl,by omega,(by first|rfl|simp[upd_apply]),(by first|rfl|simp[upd_apply]),(by first|rfl|simp[upd_apply]),(by first|rfl|simp[upd_apply]),(by first|rfl|simp[upd_apply]),p1.trans p2,⟨_,hb1⟩,r0,(fun j hj=>by simp[flI] at hj)⟩
 rintro m f K1 ⟨i,kb,fu,B,cs,rfl,hi,f1,f3,f11,f12,f13,pp,g1,r,hB⟩
 obtain⟨e1,g1⟩:=g1
 by_cases hi:(i:Int)<x.ps.length
 ·have hi':i<x.ps.length:=by omega
  obtain⟨ni,oi,ixi,rdi⟩:=((hv.pre pp).1).at hi'
  have byi:=hv.by hi'
  have ri:AH.rdn K1 ni oi 27=some (cel .u8 (x.ps.getD i [])):=by
   have:=rdi.1 0 27 (by omega)
   rwa [Nat.add_zero,List.drop_zero,List.take_of_length_le (by have:=byi.1;omega)] at this
  have a27:=byi.1
  have vlK:=(hv.pre pp).1.len
  ((try simp (maxSteps:=3000000) (dsimp:=false) (disch:=first|omega|simp only[lnx];omega) only[↓ypre,ypost,↓reduceIte,reduceEqDiff,reduceAdd,reduceSub,reduceLeDiff,zz0,ynew,f1,f3,f11,f12,f13,decide_eq_true hi,ixi,ri,cel_all,cel_len,a27,sp27z a27,zrep27,splice_27 a27,rd1_of g1,vlK]);try simp only[yback])
  generalize hJ1:AH.new K1 _=J1
  obtain⟨b1,s1,m1⟩:=new_facts hJ1
  have gi:AH.get J1 K1.length=some ⟨cel .u8 (x.ps.getD i []),138,false,true⟩:=b1
  have vlJ:=(hv.pre (pp.trans s1)).1.len
  ((try simp (maxSteps:=3000000) (dsimp:=false) (disch:=first|omega|simp only[lnx];omega) only[↓ypre,ypost,↓reduceIte,reduceEqDiff,reduceAdd,reduceSub,reduceLeDiff,zz0,ynew,f1,f3,f11,f12,f13,rd1_of (pre_get s1 g1),vlJ]);try simp only[yback])
  have z0:flI x.ps i++flK x.ps i 0=flI x.ps i:=by rw[show flK x.ps i 0=[] from rfl,List.append_nil]
  have f3:f 3=sl kb (flI x.ps i++flK x.ps i 0).length:=by rw[z0];exact f3
  refine WC_loop_inv (fun m f K2=>∃ (k:Nat) (kb:Nat) (fu:Bool) (B:(Nat→Nat)) (cs:List Value),m=x.ps.length-k∧k≤x.ps.length∧f 1=.pointer (some ⟨h.length,0,none⟩)∧f 3=sl kb (flI x.ps i++flK x.ps i k).length∧f 4=I64 i∧f 5=.pointer (some ⟨K1.length,0,none⟩)∧f 11=v∧f 12=I64 x.ps.length∧f 13=I64 i∧f 19=v∧f 20=I64 x.ps.length∧f 21=I64 k∧(h<+:K2)∧(OwnB K2 h.length [I64 x.p,I64 x.n,I64 x.m,I64 x.k,v] true)∧(K2.get K1.length=some ⟨cel .u8 (x.ps.getD i []),138,false,true⟩)∧(kb≠K1.length)∧(RowD (h.length+1) K2 kb fu (flI x.ps i++flK x.ps i k) B cs)∧(∀ j,j<(flI x.ps i++flK x.ps i k).length→B j<K2.length)) ?_ (x.ps.length-0) _ _ ⟨0,kb,fu,B,cs,rfl,by omega,(by first|rfl|exact f1|(simp[upd_apply];done)),(by first|rfl|exact f3|(simp[upd_apply];done)),(by first|rfl|simp[upd_apply]),(by first|rfl|simp[upd_apply]),(by first|rfl|exact f11|(simp[upd_apply];done)),(by first|rfl|exact f12|(simp[upd_apply];done)),(by first|rfl|exact f13|(simp[upd_apply];done)),(by first|rfl|simp[upd_apply]),(by first|rfl|simp[upd_apply]),(by first|rfl|simp[upd_apply]),pp.trans s1,⟨_,pre_get s1 g1⟩,gi,(by have:=get_lt r.get;omega),(by rw[show flK x.ps i 0=[] from rfl,List.append_nil];exact r.pre s1),(by rw[show flK x.ps i 0=[] from rfl,List.append_nil];exact fun j hj=>by have:=hB j hj;omega)⟩
  rintro m f K2 ⟨k,kb,fu,B,cs,rfl,hk,f1,f3,f4,f5,f11,f12,f13,f19,f20,f21,pp,g1,gi,kq,r,hB⟩
  obtain⟨e1',g1⟩:=g1
  by_cases hk:(k:Int)<x.ps.length
  ·have hk':k<x.ps.length:=by omega
   obtain⟨nk,ok,ixk,rdk⟩:=((hv.pre pp).1).at hk'
   have byk:=hv.by hk'
   have rk:AH.rdn K2 nk ok 27=some (cel .u8 (x.ps.getD k [])):=by
    have:=rdk.1 0 27 (by omega)
    rwa [Nat.add_zero,List.drop_zero,List.take_of_length_le (by have:=byk.1;omega)] at this
   have b27:=byk.1
   ((try simp (maxSteps:=3000000) (dsimp:=false) (disch:=first|omega|simp only[lnx];omega) only[↓ypre,ypost,↓reduceIte,reduceEqDiff,reduceAdd,reduceSub,reduceLeDiff,zz0,ynew,f1,f3,f4,f5,f11,f12,f13,f19,f20,f21,decide_eq_true hk,ixk,rk,cel_all,cel_len,b27,sp27z b27,zrep27,splice_27 b27]);try simp only[yback])
   generalize hJ2:AH.new K2 _=J2
   obtain⟨b2,s2,m2⟩:=new_facts hJ2
   have gk:AH.get J2 K2.length=some ⟨cel .u8 (x.ps.getD k []),138,false,true⟩:=b2
   have z1:flI x.ps i++flK x.ps i k++(if i=k then [] else flF x.ps i k 0)=flI x.ps i++flK x.ps i k:=by rw[show (if i=k then [] else flF x.ps i k 0)=[] from by split<;>rfl,List.append_nil]
   have f3:f 3=sl kb (flI x.ps i++flK x.ps i k++(if i=k then [] else flF x.ps i k 0)).length:=by rw[z1];exact f3
   refine WC_loop_inv (fun m f K3=>∃ (u:Nat) (kb:Nat) (fu:Bool) (B:(Nat→Nat)) (cs:List Value),m=3-u∧u≤3∧f 1=.pointer (some ⟨h.length,0,none⟩)∧f 3=sl kb (flI x.ps i++flK x.ps i k++(if i=k then [] else flF x.ps i k u)).length∧f 4=I64 i∧f 5=.pointer (some ⟨K1.length,0,none⟩)∧f 6=I64 k∧f 7=.pointer (some ⟨K2.length,0,none⟩)∧f 11=v∧f 12=I64 x.ps.length∧f 13=I64 i∧f 19=v∧f 20=I64 x.ps.length∧f 21=I64 k∧f 26=I64 u∧(h<+:K3)∧(OwnB K3 h.length [I64 x.p,I64 x.n,I64 x.m,I64 x.k,v] true)∧(K3.get K1.length=some ⟨cel .u8 (x.ps.getD i []),138,false,true⟩)∧(K3.get K2.length=some ⟨cel .u8 (x.ps.getD k []),138,false,true⟩)∧(kb≠K1.length∧kb≠K2.length)∧(RowD (h.length+1) K3 kb fu (flI x.ps i++flK x.ps i k++(if i=k then [] else flF x.ps i k u)) B cs)∧(∀ j,j<(flI x.ps i++flK x.ps i k++(if i=k then [] else flF x.ps i k u)).length→B j<K3.length)) ?_ (3-0) _ _ ⟨0,kb,fu,B,cs,rfl,by omega,(by first|rfl|exact f1|(simp[upd_apply];done)),(by first|rfl|exact f3|(simp[upd_apply];done)),(by first|rfl|exact f4|(simp[upd_apply];done)),(by first|rfl|exact f5|(simp[upd_apply];done)),(by first|rfl|simp[upd_apply]),(by first|rfl|simp[upd_apply]),(by first|rfl|exact f11|(simp[upd_apply];done)),(by first|rfl|exact f12|(simp[upd_apply];done)),(by first|rfl|exact f13|(simp[upd_apply];done)),(by first|rfl|exact f19|(simp[upd_apply];done)),(by first|rfl|exact f20|(simp[upd_apply];done)),(by first|rfl|exact f21|(simp[upd_apply];done)),(by first|rfl|simp[upd_apply]),pp.trans s2,⟨_,pre_get s2 g1⟩,pre_get s2 gi,gk,⟨kq,by have:=get_lt r.get;omega⟩,(by rw[z1];exact r.pre s2),(by rw[z1];exact fun j hj=>by have:=hB j hj;omega)⟩
   rintro m f K3 ⟨u,kb,fu,B,cs,rfl,hu,f1,f3,f4,f5,f6,f7,f11,f12,f13,f19,f20,f21,f26,pp,g1,gi,gk,kq,r,hB⟩
   obtain⟨e1'',g1⟩:=g1
   have rlow:=r.low
   have rlt:=get_lt r.get
   have gil:=get_lt gi
   have gkl:=get_lt gk
   by_cases hu:(u:Int)<3
   ·by_cases hik:i=k
    ·have en:(if i=k then ([]:List (List Int)) else flF x.ps i k (u+1))=(if i=k then [] else flF x.ps i k u):=by rw[if_pos hik,if_pos hik]
     ((try simp (maxSteps:=3000000) (dsimp:=false) (disch:=first|omega|simp only[lnx];omega) only[↓ypre,ypost,↓reduceIte,reduceEqDiff,reduceAdd,reduceSub,reduceLeDiff,zz0,ynew,f1,f3,f4,f5,f6,f7,f11,f12,f13,f19,f20,f21,f26,decide_eq_true hu,decide_eq_false (show ¬ (i:Int)≠k by omega),wrap64_in]);try simp only[yback])
     refine InvQ_go (3-(u+1)) (by omega) ⟨(u+1),kb,fu,B,cs,rfl,by omega,(by first|rfl|exact f1|(simp only[upd_apply];rfl)|(show I64 _=_;congr 1;omega)),(by rw[en];exact f3),(by first|rfl|exact f4|(simp only[upd_apply];rfl)|(show I64 _=_;congr 1;omega)),(by first|rfl|exact f5|(simp only[upd_apply];rfl)|(show I64 _=_;congr 1;omega)),(by first|rfl|exact f6|(simp only[upd_apply];rfl)|(show I64 _=_;congr 1;omega)),(by first|rfl|exact f7|(simp only[upd_apply];rfl)|(show I64 _=_;congr 1;omega)),(by first|rfl|exact f11|(simp only[upd_apply];rfl)|(show I64 _=_;congr 1;omega)),(by first|rfl|exact f12|(simp only[upd_apply];rfl)|(show I64 _=_;congr 1;omega)),(by first|rfl|exact f13|(simp only[upd_apply];rfl)|(show I64 _=_;congr 1;omega)),(by first|rfl|exact f19|(simp only[upd_apply];rfl)|(show I64 _=_;congr 1;omega)),(by first|rfl|exact f20|(simp only[upd_apply];rfl)|(show I64 _=_;congr 1;omega)),(by first|rfl|exact f21|(simp only[upd_apply];rfl)|(show I64 _=_;congr 1;omega)),(by first|rfl|exact f26|(simp only[upd_apply];rfl)|(show I64 _=_;congr 1;omega)),pp,⟨_,g1⟩,gi,gk,kq,(by rw[en];exact r),(by rw[en];exact hB)⟩
    ·rw[if_neg hik] at r hB f3
     have a27:=byi.1
     have tA:(cel .u8 (x.ps.getD i [])).take 27=cel .u8 (x.ps.getD i []):=List.take_of_length_le (by rw[cel_len,a27];exact Nat.le_refl _)
     have tB:(cel .u8 (x.ps.getD k [])).take 27=cel .u8 (x.ps.getD k []):=List.take_of_length_le (by rw[cel_len,b27];exact Nat.le_refl _)
     have nx:flF x.ps i k (u+1)=flF x.ps i k u++(if seg (x.ps.getD i []) u=seg (x.ps.getD k []) u then [[(i:Int),k,u]] else []):=rfl
     have len1:=flI_len (L:=x.ps) (i:=i)
     have len2:=flK_len (L:=x.ps) (i:=i) (k:=k)
     have len3:=flF_len (L:=x.ps) (i:=i) (k:=k) (r:=u)
     have len4:3*x.ps.length*i≤3*30*30:=Nat.mul_le_mul (Nat.mul_le_mul (Nat.le_refl 3) hl) (by omega)
     ((try simp (maxSteps:=3000000) (dsimp:=false) (disch:=first|omega|simp only[lnx];omega) only[↓ypre,ypost,↓reduceIte,reduceEqDiff,reduceAdd,reduceSub,reduceLeDiff,zz0,ynew,f1,f3,f4,f5,f6,f7,f11,f12,f13,f19,f20,f21,f26,decide_eq_true hu,decide_eq_true (show (i:Int)≠k by omega),rdn_of gi,cel_len,a27,tA]);try simp only[yback])
     refine i_factors (q:=x.ps.getD i []) a27 fun K4 p4=>⟨p4,?_⟩
     have gk4:=pre_get p4 gk
     ((try simp (maxSteps:=3000000) (dsimp:=false) (disch:=first|omega|simp only[lnx];omega) only[↓ypre,ypost,↓reduceIte,reduceEqDiff,reduceAdd,reduceSub,reduceLeDiff,zz0,ynew,f1,f3,f4,f5,f6,f7,f11,f12,f13,f19,f20,f21,f26,↓WX_idxn,idxn_seg a27 (show u<3 by omega),rdn_of gk4,cel_len,b27,tB]);try simp only[yback])
     refine i_factors (q:=x.ps.getD k []) b27 fun K5 p5=>?_
     have p45:=p4.trans p5
     have r:=r.pre p45
     have l45:=pre_len p45
     have ea:=eqaV_cel (k:=.u8) (seg_n9 a27 (show u<3 by omega)) (seg_n9 b27 (show u<3 by omega)) (by omega)
     by_cases hs:seg (x.ps.getD i []) u=seg (x.ps.getD k []) u
     ·have hb:(seg (x.ps.getD i []) u==seg (x.ps.getD k []) u)=true:=by rw[hs];simp
      rw[if_pos hs] at nx
      ((try simp (maxSteps:=3000000) (dsimp:=false) (disch:=first|omega|simp only[lnx];omega) only[↓ypre,ypost,↓reduceIte,reduceEqDiff,reduceAdd,reduceSub,reduceLeDiff,zz0,ynew,f1,f3,f4,f5,f6,f7,f11,f12,f13,f19,f20,f21,f26,↓WX_idxn,idxn_seg b27 (show u<3 by omega),ea,hb,fillL,zrep]);try simp only[yback])
      generalize hH7:AH.new K5 _=H7
      obtain⟨g7,p7,n7⟩:=new_facts hH7
      have q7:Lst H7 K5.length [(i:Int),k,u] true:=g7
      have P7:=p45.trans p7
      refine rowd_appB (r.pre p7) (by rw[List.length_append,List.length_append];omega) (by have:=pp.length_le;omega) (by omega) (fun j hj=>by have:=hB j hj;omega) q7 fun HZ lZ kZ rZ=>?_
      have g1Z:=kZ.get (by omega) (pre_get P7 g1)
      have giZ:=kZ.get (by omega) (pre_get P7 gi)
      have gkZ:=kZ.get (by omega) (pre_get P7 gk)
      have nxx:flI x.ps i++flK x.ps i k++flF x.ps i k (u+1)=flI x.ps i++flK x.ps i k++flF x.ps i k u++[[(i:Int),k,u]]:=by rw[nx];simp only[List.append_assoc]
      have hB2:∀ j,j<(flI x.ps i++flK x.ps i k++flF x.ps i k u++[[(i:Int),k,u]]).length→(if j<(flI x.ps i++flK x.ps i k++flF x.ps i k u).length then B j else K5.length)<HZ.length:=fun j hj=>by
       split
       ·rename_i hjr
        have:=hB j hjr
        omega
       ·omega
      ((try simp (maxSteps:=3000000) (dsimp:=false) (disch:=first|omega|simp only[lnx];omega) only[↓ypre,ypost,↓reduceIte,reduceEqDiff,reduceAdd,reduceSub,reduceLeDiff,zz0,ynew,f1,f3,f4,f5,f6,f7,f11,f12,f13,f19,f20,f21,f26,wrap64_in]);try simp only[yback])
      refine InvQ_go (3-(u+1)) (by omega) ⟨(u+1),(H7.length+1),false,_,_,rfl,by omega,(by first|rfl|exact f1|(simp only[upd_apply];rfl)|(show I64 _=_;congr 1;omega)),(by rw[if_neg hik,nxx];rfl),(by first|rfl|exact f4|(simp only[upd_apply];rfl)|(show I64 _=_;congr 1;omega)),(by first|rfl|exact f5|(simp only[upd_apply];rfl)|(show I64 _=_;congr 1;omega)),(by first|rfl|exact f6|(simp only[upd_apply];rfl)|(show I64 _=_;congr 1;omega)),(by first|rfl|exact f7|(simp only[upd_apply];rfl)|(show I64 _=_;congr 1;omega)),(by first|rfl|exact f11|(simp only[upd_apply];rfl)|(show I64 _=_;congr 1;omega)),(by first|rfl|exact f12|(simp only[upd_apply];rfl)|(show I64 _=_;congr 1;omega)),(by first|rfl|exact f13|(simp only[upd_apply];rfl)|(show I64 _=_;congr 1;omega)),(by first|rfl|exact f19|(simp only[upd_apply];rfl)|(show I64 _=_;congr 1;omega)),(by first|rfl|exact f20|(simp only[upd_apply];rfl)|(show I64 _=_;congr 1;omega)),(by first|rfl|exact f21|(simp only[upd_apply];rfl)|(show I64 _=_;congr 1;omega)),(by first|rfl|exact f26|(simp only[upd_apply];rfl)|(show I64 _=_;congr 1;omega)),(kZ.pre (pp.trans P7) (by omega)),⟨_,g1Z⟩,giZ,gkZ,(by omega),(by rw[if_neg hik,nxx];exact rZ),(by rw[if_neg hik,nxx];exact hB2)⟩
     ·have hb:(seg (x.ps.getD i []) u==seg (x.ps.getD k []) u)=false:=by simpa using hs
      rw[if_neg hs,List.append_nil] at nx
      ((try simp (maxSteps:=3000000) (dsimp:=false) (disch:=first|omega|simp only[lnx];omega) only[↓ypre,ypost,↓reduceIte,reduceEqDiff,reduceAdd,reduceSub,reduceLeDiff,zz0,ynew,f1,f3,f4,f5,f6,f7,f11,f12,f13,f19,f20,f21,f26,↓WX_idxn,idxn_seg b27 (show u<3 by omega),ea,hb,wrap64_in]);try simp only[yback])
      refine InvQ_go (3-(u+1)) (by omega) ⟨(u+1),kb,fu,B,cs,rfl,by omega,(by first|rfl|exact f1|(simp only[upd_apply];rfl)|(show I64 _=_;congr 1;omega)),(by rw[if_neg hik,nx];exact f3),(by first|rfl|exact f4|(simp only[upd_apply];rfl)|(show I64 _=_;congr 1;omega)),(by first|rfl|exact f5|(simp only[upd_apply];rfl)|(show I64 _=_;congr 1;omega)),(by first|rfl|exact f6|(simp only[upd_apply];rfl)|(show I64 _=_;congr 1;omega)),(by first|rfl|exact f7|(simp only[upd_apply];rfl)|(show I64 _=_;congr 1;omega)),(by first|rfl|exact f11|(simp only[upd_apply];rfl)|(show I64 _=_;congr 1;omega)),(by first|rfl|exact f12|(simp only[upd_apply];rfl)|(show I64 _=_;congr 1;omega)),(by first|rfl|exact f13|(simp only[upd_apply];rfl)|(show I64 _=_;congr 1;omega)),(by first|rfl|exact f19|(simp only[upd_apply];rfl)|(show I64 _=_;congr 1;omega)),(by first|rfl|exact f20|(simp only[upd_apply];rfl)|(show I64 _=_;congr 1;omega)),(by first|rfl|exact f21|(simp only[upd_apply];rfl)|(show I64 _=_;congr 1;omega)),(by first|rfl|exact f26|(simp only[upd_apply];rfl)|(show I64 _=_;congr 1;omega)),(pp.trans p45),⟨_,pre_get p45 g1⟩,(pre_get p45 gi),(pre_get p45 gk),kq,(by rw[if_neg hik,nx];exact r),(by rw[if_neg hik,nx];exact fun j hj=>Nat.lt_of_lt_of_le (hB j hj) l45)⟩
   ·have eu:u=3:=by omega
    subst eu
    have en:flI x.ps i++flK x.ps i (k+1)=flI x.ps i++flK x.ps i k++(if i=k then [] else flF x.ps i k 3):=by rw[List.append_assoc];rfl
    ((try simp (maxSteps:=3000000) (dsimp:=false) (disch:=first|omega|simp only[lnx];omega) only[↓ypre,ypost,↓reduceIte,reduceEqDiff,reduceAdd,reduceSub,reduceLeDiff,zz0,ynew,f1,f3,f4,f5,f6,f7,f11,f12,f13,f19,f20,f21,f26,decide_eq_false hu,wrap64_in]);try simp only[yback])
    refine InvQ_go (x.ps.length-(k+1)) (by omega) ⟨(k+1),kb,fu,B,cs,rfl,by omega,(by first|rfl|exact f1|(simp only[upd_apply];rfl)|(show I64 _=_;congr 1;omega)),(by rw[en];exact f3),(by first|rfl|exact f4|(simp only[upd_apply];rfl)|(show I64 _=_;congr 1;omega)),(by first|rfl|exact f5|(simp only[upd_apply];rfl)|(show I64 _=_;congr 1;omega)),(by first|rfl|exact f11|(simp only[upd_apply];rfl)|(show I64 _=_;congr 1;omega)),(by first|rfl|exact f12|(simp only[upd_apply];rfl)|(show I64 _=_;congr 1;omega)),(by first|rfl|exact f13|(simp only[upd_apply];rfl)|(show I64 _=_;congr 1;omega)),(by first|rfl|exact f19|(simp only[upd_apply];rfl)|(show I64 _=_;congr 1;omega)),(by first|rfl|exact f20|(simp only[upd_apply];rfl)|(show I64 _=_;congr 1;omega)),(by first|rfl|exact f21|(simp only[upd_apply];rfl)|(show I64 _=_;congr 1;omega)),pp,⟨_,g1⟩,gi,kq.1,(by rw[en];exact r),(by rw[en];exact hB)⟩
  ·have _t:=hk
   ((try simp (maxSteps:=3000000) (dsimp:=false) (disch:=first|omega|simp only[lnx];omega) only[↓ypre,ypost,↓reduceIte,reduceEqDiff,reduceAdd,reduceSub,reduceLeDiff,zz0,ynew,f1,f3,f4,f5,f11,f12,f13,f19,f20,f21,decide_eq_false hk,wrap64_in]);try simp only[yback])
   have ek:k=x.ps.length:=by omega
   subst ek
   refine InvQ_go (x.ps.length-(i+1)) (by omega) ⟨(i+1),kb,fu,B,cs,rfl,by omega,(by first|rfl|exact f1|(simp only[upd_apply];rfl)|(show I64 _=_;congr 1;omega)),(by first|rfl|exact f3|(simp only[upd_apply];rfl)|(show I64 _=_;congr 1;omega)),(by first|rfl|exact f11|(simp only[upd_apply];rfl)|(show I64 _=_;congr 1;omega)),(by first|rfl|exact f12|(simp only[upd_apply];rfl)|(show I64 _=_;congr 1;omega)),(by first|rfl|exact f13|(simp only[upd_apply];rfl)|(show I64 _=_;congr 1;omega)),pp,⟨_,g1⟩,r,hB⟩
 ·have ei:i=x.ps.length:=by omega
  subst ei
  ((try simp (maxSteps:=3000000) (dsimp:=false) (disch:=first|omega|simp only[lnx];omega) only[↓ypre,ypost,↓reduceIte,reduceEqDiff,reduceAdd,reduceSub,reduceLeDiff,zz0,ynew,f1,f3,f11,f12,f13,decide_eq_false hi]);try simp only[yback])
  exact hQ kb fu B cs _ pp r
end Go.Proofs.Ytapafdpnmakekaa.X

set_option linter.unusedVariables false
set_option linter.unusedSimpArgs false
set_option maxRecDepth 20000
set_option maxHeartbeats 4000000
namespace Go.Proofs.Ytapafdpnmakekaa.X
open Go Go.RowKit
theorem eqaV_ceT {n:Nat} {k:IntKind} {q r:List Int} (hq:q.length=n) (hr:r.length=n) (h0:0<n):eqaV true n (.agg (cel k q).toArray) (.agg (cel k r).toArray)=some (.bool !(q==r)):=by
 have e1:=intsOf_cel (k:=k) (q:=q) (by intro e;rw[e] at hq;simp at hq;omega)
 have e2:=intsOf_cel (k:=k) (q:=r) (by intro e;rw[e] at hr;simp at hr;omega)
 simp only[eqaV,e1,e2]
 rw[if_pos ⟨trivial,hq,hr⟩]
 cases (q==r)<;>rfl
end Go.Proofs.Ytapafdpnmakekaa.X

set_option linter.unusedVariables false
set_option linter.unusedSimpArgs false
set_option maxRecDepth 20000
set_option maxHeartbeats 4000000
namespace Go.Proofs.Ytapafdpnmakekaa.X
open Go Go.RowKit
open Nat (reduceEqDiff reduceAdd reduceSub reduceLeDiff)
def KX (lo bx:Nat) (h:AH) (p:AH→Prop):Prop:=∀ h':AH,h.length≤h'.length→(∀ m,lo≤m→m<h.length→m≠bx→h'.get m=h.get m)→p h'
section
variable {lo lo' bx n:Nat} {h h':AH} {p:AH→Prop} {b:Blk}
theorem KX.now (k:KX lo bx h p):p h:=k h (Nat.le_refl _) fun _ _ _ _=>rfl
theorem KX.pre (k:KX lo bx h p) (d:h<+:h'):KX lo bx h' p:=fun h2 l2 g2=>k h2 (Nat.le_trans (pre_len d) l2) fun m h1 h3 h4=>(g2 m h1 (Nat.lt_of_lt_of_le h3 (pre_len d)) h4).trans (prefix_get d h3)
theorem KX.put (k:KX lo bx h p) (hm:n<lo∨n=bx):KX lo bx (h.put n b) p:=fun h2 l2 g2=>k h2 (by rw[len_put] at l2;exact l2) fun j h1 h3 h4=>(g2 j h1 (by rw[len_put];exact h3) h4).trans (get_put_ne (by omega))
theorem KX.kN (k:KX lo bx h p):KN lo h p:=fun h2 l2 g2=>k h2 l2 fun m h1 h3 _=>g2 m h1 h3
theorem KX.new (k:KN lo h p) (e:h.length=bx):KX lo bx (h.new b) p:=fun h2 l2 g2=>by
 rw[len_new] at l2
 refine k h2 (by omega) fun m h1 h3=>?_
 exact (g2 m h1 (by rw[len_new];omega) (by omega)).trans (prefix_get (pre_new (List.prefix_refl _)) h3)
theorem KX.of (k:KN lo' h p) (h1:bx<lo') (h2:lo≤lo'):KX lo bx h p:=fun h3 l2 g2=>k h3 l2 fun m h4 h5=>g2 m (by omega) h5 (by omega)
end
def wkOk (ns:List Int):Bool:=decide (ns.length≤200)&&ns.all fun n=>decide (0≤n)
def wkR (x:Sch) (ns:List Int):Sch×Int:=if isX x=true then (if wkOk ns=true then (wps x (walkL x.p x.ps ns),0) else (zeroS,2)) else (zeroS,1)
theorem step_of {p n:Int} {L:List (List Int)} {i k u:Nat} (h:flA L≠[]) (e:pickF L n=[(i:Int),k,u]):stepW p L n=toldL (flipL p L i k u 1):=by
 unfold stepW
 rw[if_neg h,e]
 simp only[List.getD_cons_zero,List.getD_cons_succ,Int.toNat_natCast]
theorem walk_succ {p:Int} {L:List (List Int)} {ns:List Int} {i:Nat} (hi:i<ns.length):walkL p L (ns.take (i+1))=stepW p (walkL p L (ns.take i)) (ns.getD i 0):=by
 unfold walkL
 rw[take_next (d:=0) hi,List.foldl_append]
 rfl
theorem walk_cut {p:Int} {L:List (List Int)} {ns:List Int} {i:Nat} (h:flA (walkL p L (ns.take i))=[]):walkL p L (ns.take i)=walkL p L ns:=by
 have e:walkL p L ns=walkL p (walkL p L (ns.take i)) (ns.drop i):=by
  unfold walkL
  rw[←List.foldl_append,List.take_append_drop]
 rw[e,walk_stop h]
theorem wkOk_nn {ns:List Int} (h:wkOk ns=true):ns.length≤200∧∀ n∈ns,0≤n:=by
 unfold wkOk at h
 rw[Bool.and_eq_true] at h
 exact⟨of_decide_eq_true h.1,fun n hn=>of_decide_eq_true (List.all_eq_true.1 h.2 n hn)⟩
theorem GX.of' {x:Sch} {h:AH} {v:Value} (hv:Prods h v x.ps) (hx:isX x=true):GX x:=⟨hx,hv.1.widL,hv.2⟩
theorem take_mem {ns:List Int} {P:Int→Prop} (h:∀ n∈ns,P n) (i:Nat):∀ n∈ns.take i,P n:=fun n hn=>h n (List.mem_of_mem_take hn)
theorem s_WalkFlips {x:Sch} {v w:Value} {ns:List Int} {h:AH} {Q:Value→AH→Prop} (hv:Prods h v x.ps) (hl:SmallX x.ps) (hw:Ints h w ns) (hn:(ns.length:Int)≤1048576)
  (hQ:∀ w' h',h<+:h'→KN h.length h' (fun h2=>Prods h2 w' (wkR x ns).1.ps)→Q (.tuple #[schV (wkR x ns).1 w',I64 (wkR x ns).2]) h'):WF S 16 [schV x v,w] h Q:=by
 refine WF_fn (fn:=c16) rfl rfl ?_
 dsimp only[c16,oO,oM,oS,oG,oK,oE,oL,oF,oX,oN]
 have o1:=hv.one
 have wl:=hw.len
 ((try simp (maxSteps:=3000000) (dsimp:=false) (disch:=first|omega|simp only[lnx];omega) only[↓ypre,ypost,↓reduceIte,reduceEqDiff,reduceAdd,reduceSub,reduceLeDiff,zz0,ynew,schV,o1]);try simp only[yback])
 generalize hH1:AH.new h _=H1
 obtain⟨hb1,p1,n1⟩:=new_facts hH1
 generalize hH2:AH.new H1 _=H2
 obtain⟨hb2,p2,n2⟩:=new_facts hH2
 have g1:=pre_get p2 hb1
 ((try simp (maxSteps:=3000000) (dsimp:=false) (disch:=first|omega|simp only[lnx];omega) only[↓ypre,ypost,↓reduceIte,reduceEqDiff,reduceAdd,reduceSub,reduceLeDiff,zz0,ynew,rdn_of g1]);try simp only[yback])
 refine s_l01Is (x:=x) (hv.pre (p1.trans p2)) hl fun H3 p3=>?_
 have g1:=pre_get p3 g1
 have g2:=pre_get p3 hb2
 have l2:=get_lt g2
 have P3:=p1.trans (p2.trans p3)
 have q3:=pre_len p3
 unfold wkR at hQ
 cases hx:isX x with
 | false=>
  rw[hx] at hQ
  ((try simp (maxSteps:=3000000) (dsimp:=false) (disch:=first|omega|simp only[lnx];omega) only[↓ypre,ypost,↓reduceIte,reduceEqDiff,reduceAdd,reduceSub,reduceLeDiff,zz0,ynew,fillL,wr_of g2,splice_eq,rdn_put_same]);try simp only[yback])
  exact hQ _ _ (pre_put P3 (by omega)) zeroS_kn
 | true=>
 rw[hx] at hQ
 simp only[if_true] at hQ
 by_cases c1:(ns.length:Int)>200
 ·have e:wkOk ns=false:=by unfold wkOk;rw[decide_eq_false (show ¬ ns.length≤200 by omega)];rfl
  rw[e] at hQ
  ((try simp (maxSteps:=3000000) (dsimp:=false) (disch:=first|omega|simp only[lnx];omega) only[↓ypre,ypost,↓reduceIte,reduceEqDiff,reduceAdd,reduceSub,reduceLeDiff,zz0,ynew,wl,decide_eq_true c1,fillL,wr_of g2,splice_eq,rdn_put_same]);try simp only[yback])
  exact hQ _ _ (pre_put P3 (by omega)) zeroS_kn
 ((try simp (maxSteps:=3000000) (dsimp:=false) (disch:=first|omega|simp only[lnx];omega) only[↓ypre,ypost,↓reduceIte,reduceEqDiff,reduceAdd,reduceSub,reduceLeDiff,zz0,ynew,wl,decide_eq_false c1]);try simp only[yback])
 refine WC_loop_inv (fun m f K1=>∃ (i:Nat),m=ns.length-i∧i≤ns.length∧f 1=w∧f 2=.pointer (some ⟨h.length,0,none⟩)∧f 4=.pointer (some ⟨H1.length,0,none⟩)∧f 6=I64 i∧K1=H3∧((∀ j,j<i→0≤ns.getD j 0))) ?_ (ns.length-0) _ _ ⟨0,rfl,by omega,(by first|rfl|simp[upd_apply]),(by first|rfl|simp[upd_apply]),(by first|rfl|simp[upd_apply]),(by first|rfl|simp[upd_apply]),rfl,(fun _ h=>absurd h (Nat.not_lt_zero _))⟩
 rintro m f K1 ⟨i,rfl,hi,f1,f2,f4,f6,rfl,al⟩
 by_cases hlt:(i:Int)<ns.length
 ·have hi:i<ns.length:=by omega
  obtain⟨nn,off,ix,rd⟩:=(hw.pre P3).cell hi
  have ix:=ix .i64
  by_cases c2:ns.getD i 0<0
  ·have e:wkOk ns=false:=by
    unfold wkOk
    rw[Bool.and_eq_false_iff]
    right
    rw[List.all_eq_false]
    refine⟨ns[i],List.getElem_mem hi,?_⟩
    rw[List.getD_eq_getElem?_getD,List.getElem?_eq_getElem hi,Option.getD_some] at c2
    rw[decide_eq_false (by omega)]
    decide
   rw[e] at hQ
   ((try simp (maxSteps:=3000000) (dsimp:=false) (disch:=first|omega|simp only[lnx];omega) only[↓ypre,ypost,↓reduceIte,reduceEqDiff,reduceAdd,reduceSub,reduceLeDiff,zz0,ynew,f1,f2,f4,f6,wl,decide_eq_true hlt,ix,rd,decide_eq_true c2,fillL,wr_of g2,splice_eq,rdn_put_same]);try simp only[yback])
   exact hQ _ _ (pre_put P3 (by omega)) zeroS_kn
  ·((try simp (maxSteps:=3000000) (dsimp:=false) (disch:=first|omega|simp only[lnx];omega) only[↓ypre,ypost,↓reduceIte,reduceEqDiff,reduceAdd,reduceSub,reduceLeDiff,zz0,ynew,f1,f2,f4,f6,wl,decide_eq_true hlt,ix,rd,decide_eq_false c2,wrap64_in]);try simp only[yback])
   refine InvQ_go (ns.length-(i+1)) (by omega) ⟨(i+1),rfl,by omega,(by first|rfl|exact f1|(simp only[upd_apply];rfl)|(show I64 _=_;congr 1;omega)),(by first|rfl|exact f2|(simp only[upd_apply];rfl)|(show I64 _=_;congr 1;omega)),(by first|rfl|exact f4|(simp only[upd_apply];rfl)|(show I64 _=_;congr 1;omega)),(by first|rfl|exact f6|(simp only[upd_apply];rfl)|(show I64 _=_;congr 1;omega)),rfl,(fun j hj=>by rcases Nat.lt_succ_iff_lt_or_eq.1 hj with h1|rfl;exact al j h1;omega)⟩
 have ei:i=ns.length:=by omega
 subst ei
 have nn:∀ n∈ns,0≤n:=fun n hn=>by
  obtain⟨j,hj,rfl⟩:=List.getElem_of_mem hn
  have:=al j hj
  rwa [List.getD_eq_getElem?_getD,List.getElem?_eq_getElem hj,Option.getD_some] at this
 have e:wkOk ns=true:=by
  unfold wkOk
  rw[decide_eq_true (show ns.length≤200 by omega),List.all_eq_true.2 fun n hn=>decide_eq_true (nn n hn)]
  rfl
 rw[e] at hQ
 simp only[if_true] at hQ
 have g:=GX.of' hv hx
 have zp:=(isX_sz hx).1.p
 have h30:=(isX_sz hx).2
 ((try simp (maxSteps:=3000000) (dsimp:=false) (disch:=first|omega|simp only[lnx];omega) only[↓ypre,ypost,↓reduceIte,reduceEqDiff,reduceAdd,reduceSub,reduceLeDiff,zz0,ynew,f1,f2,f4,f6,wl,decide_eq_false hlt,rd1_of g1,rdn_of g1]);try simp only[yback])
 refine s_l03Told (x:=x) o1 (hv.pre P3) (by omega) fun w0 H4 p4 kn=>?_
 rw[told_id hx] at kn ⊢
 have g1:=pre_get p4 g1
 have g2:=pre_get p4 g2
 have q4:=pre_len p4
 ((try simp (maxSteps:=3000000) (dsimp:=false) (disch:=first|omega|simp only[lnx];omega) only[↓ypre,ypost,↓reduceIte,reduceEqDiff,reduceAdd,reduceSub,reduceLeDiff,zz0,ynew,f1,f2,f4,f6,schV,kn.now.one]);try simp only[yback])
 generalize hH5:AH.new H4 _=H5
 obtain⟨g7,p5,n5⟩:=new_facts hH5
 have kx:KX H2.length H4.length H5 fun h2=>Prods h2 w0 (walkL x.p x.ps (ns.take 0)):=by rw[←hH5];exact KX.new (kn.mono q3) rfl
 have P5:K1<+:H5:=p4.trans p5
 refine WC_loop_inv (fun m f K2=>∃ (i:Nat) (vv:Value),m=ns.length-i∧i≤ns.length∧f 1=w∧f 2=.pointer (some ⟨h.length,0,none⟩)∧f 4=.pointer (some ⟨H1.length,0,none⟩)∧f 7=.pointer (some ⟨H4.length,0,none⟩)∧f 8=I64 i∧(K1<+:K2)∧(OwnB K2 H4.length [I64 x.p,I64 x.n,I64 x.m,I64 x.k,vv] true)∧(KX H2.length H4.length K2 (fun h2=>Prods h2 vv (walkL x.p x.ps (ns.take i))))) ?_ (ns.length-0) _ _ ⟨0,w0,rfl,by omega,(by first|rfl|exact f1|(simp[upd_apply];done)),(by first|rfl|exact f2|(simp[upd_apply];done)),(by first|rfl|exact f4|(simp[upd_apply];done)),(by first|rfl|simp[upd_apply]),(by first|rfl|simp[upd_apply]),P5,⟨_,g7⟩,kx⟩
 rintro m f K2 ⟨i,vv,rfl,hi,f1,f2,f4,f7,f8,pp,g7,kx⟩
 obtain⟨e7,g7⟩:=g7
 have l7:=get_lt g7
 have g2K:=pre_get pp (pre_get p3 hb2)
 have l2K:=get_lt g2K
 have fin:walkL x.p x.ps (ns.take i)=walkL x.p x.ps ns→Q (.tuple #[schV (wps x (walkL x.p x.ps ns)) vv,I64 0]) (AH.put K2 H1.length ⟨[I64 x.p,I64 x.n,I64 x.m,I64 x.k,vv],26,false,true⟩):=fun ew=>by
  rw[ew] at kx
  exact hQ vv _ (pre_put (P3.trans pp) (by omega)) ((KX.kN (kx.put (.inl (by omega)))).mono (by omega))
 obtain⟨gc,ec⟩:=walk_ok g (take_mem nn i)
 have pc:=kx.now
 have oc:isOne vv=true:=pc.one
 by_cases hlt:(i:Int)<ns.length
 ·have hi:i<ns.length:=by omega
  ((try simp (maxSteps:=3000000) (dsimp:=false) (disch:=first|omega|simp only[lnx];omega) only[↓ypre,ypost,↓reduceIte,reduceEqDiff,reduceAdd,reduceSub,reduceLeDiff,zz0,ynew,f1,f2,f4,f7,f8,wl,decide_eq_true hlt,rdn_of g7]);try simp only[yback])
  refine s_l03Flips (x:=wps x (walkL x.p x.ps (ns.take i))) pc (isX_sz gc.ok).2 fun kb fu B cs H6 p6 r=>?_
  have fl:lenV (sl kb (flA (walkL x.p x.ps (ns.take i))).length)=some (I64 ((flA (walkL x.p x.ps (ns.take i))).length)):=rfl
  have g76:=pre_get p6 g7
  have g26:=pre_get p6 g2K
  by_cases h0:flA (walkL x.p x.ps (ns.take i))=[]
  ·have e0:((flA (walkL x.p x.ps (ns.take i))).length:Int)=0:=by rw[h0];rfl
   have:=fin (walk_cut h0)
   have g26l:=get_lt g26
   have fin6:Q (.tuple #[schV (wps x (walkL x.p x.ps ns)) vv,I64 0]) (AH.put H6 H1.length ⟨[I64 x.p,I64 x.n,I64 x.m,I64 x.k,vv],26,false,true⟩):=by
    have kx6:=kx.pre p6
    rw[walk_cut h0] at kx6
    exact hQ vv _ (pre_put (P3.trans (pp.trans p6)) (by omega)) ((KX.kN (kx6.put (.inl (by omega)))).mono (by omega))
   ((try simp (maxSteps:=3000000) (dsimp:=false) (disch:=first|omega|simp only[lnx];omega) only[↓ypre,ypost,↓reduceIte,reduceEqDiff,reduceAdd,reduceSub,reduceLeDiff,zz0,ynew,f1,f2,f4,f7,f8,fl,decide_eq_true e0,rdn_of g76,wr_of g26,splice_eq,rdn_put_same,oc]);try simp only[yback])
   exact fin6
  ·have hlen:0<(flA (walkL x.p x.ps (ns.take i))).length:=List.length_pos_iff.2 h0
   have ni:0≤ns.getD i 0:=al i hi
   obtain⟨a,b,u,a1,a2,a3,a4,a5,a6,a7⟩:=pickF_of ni h0
   obtain⟨J,hJ⟩:∃ J:Nat,(ns.getD i 0).tmod ((flA (walkL x.p x.ps (ns.take i))).length:Int)=J:=⟨_,(Int.toNat_of_nonneg (Int.tmod_nonneg _ ni)).symm⟩
   rw[hJ,Int.toNat_natCast] at a7
   have eJ:(flA (walkL x.p x.ps (ns.take i))).getD J []=[(a:Int),b,u]:=by
    have:=a5
    unfold pickF at this
    rwa [hJ,Int.toNat_natCast] at this
   obtain⟨n0,off0,x0,ix0,rd0,i0⟩:=r.rows.row (i:=J) a7
   rw[eJ] at i0
   obtain⟨m0,o0,jx0,jr0⟩:=i0.cell (j:=0) (by simp)
   obtain⟨m1,o1',jx1,jr1⟩:=i0.cell (j:=1) (by simp)
   obtain⟨m2,o2,jx2,jr2⟩:=i0.cell (j:=2) (by simp)
   obtain⟨nn',off',ixn,rdn'⟩:=(hw.pre (P3.trans (pp.trans p6))).cell hi
   have ixn:=ixn .i64
   have jx0:ixsV 1 x0 (I64 0)=_:=jx0 .i64
   have jx1:ixsV 1 x0 (I64 1)=_:=jx1 .i64
   have jx2:ixsV 1 x0 (I64 2)=_:=jx2 .i64
   have jr0:AH.rd1 H6 m0 o0=some (I64 a):=jr0
   have jr1:AH.rd1 H6 m1 o1'=some (I64 b):=jr1
   have jr2:AH.rd1 H6 m2 o2=some (I64 u):=jr2
   ((try simp (maxSteps:=3000000) (dsimp:=false) (disch:=first|omega|simp only[lnx];omega) only[↓ypre,ypost,↓reduceIte,reduceEqDiff,reduceAdd,reduceSub,reduceLeDiff,zz0,ynew,f1,f2,f4,f7,f8,fl,decide_eq_false (show ¬ ((flA (walkL x.p x.ps (ns.take i))).length:Int)=0 by omega),ixn,rdn',bin_rem (show ((flA (walkL x.p x.ps (ns.take i))).length:Int)≠0 by omega),hJ,ix0 .i64,rd0,jx0,jr0,jx1,jr1,jx2,jr2,rdn_of g76]);try simp only[yback])
   refine s_l03Flip (x:=wps x (walkL x.p x.ps (ns.take i))) (s:=1) (pc.pre p6) (by have:=(isX_sz gc.ok).2;omega) zp a1 a2 a4 (by omega) fun w' H7 p7 kn7=>?_
   have g77:=pre_get p7 g76
   have l77:=get_lt g77
   have q67:=pre_len p7
   have l76:=get_lt g76
   have qq:=pre_len (pp.trans p6)
   ((try simp (maxSteps:=3000000) (dsimp:=false) (disch:=first|omega|simp only[lnx];omega) only[↓ypre,ypost,↓reduceIte,reduceEqDiff,reduceAdd,reduceSub,reduceLeDiff,zz0,ynew,f1,f2,f4,f7,f8,schV,kn7.now.one,wr_of g77,splice_eq,wrap64_in]);try simp only[yback])
   refine InvQ_go (ns.length-(i+1)) (by omega) ⟨(i+1),w',rfl,by omega,(by first|rfl|exact f1|(simp only[upd_apply];rfl)|(show I64 _=_;congr 1;omega)),(by first|rfl|exact f2|(simp only[upd_apply];rfl)|(show I64 _=_;congr 1;omega)),(by first|rfl|exact f4|(simp only[upd_apply];rfl)|(show I64 _=_;congr 1;omega)),(by first|rfl|exact f7|(simp only[upd_apply];rfl)|(show I64 _=_;congr 1;omega)),(by first|rfl|exact f8|(simp only[upd_apply];rfl)|(show I64 _=_;congr 1;omega)),(pre_put (pp.trans (p6.trans p7)) (by have:=pre_len p4;omega)),⟨_,get_put_same l77⟩,(by rw[walk_succ hi,step_of h0 a5];exact (KX.of kn7 (by omega) (by omega)).put (.inr rfl))⟩
 ·have ei:i=ns.length:=by omega
  subst ei
  rw[List.take_length] at fin
  ((try simp (maxSteps:=3000000) (dsimp:=false) (disch:=first|omega|simp only[lnx];omega) only[↓ypre,ypost,↓reduceIte,reduceEqDiff,reduceAdd,reduceSub,reduceLeDiff,zz0,ynew,f1,f2,f4,f7,f8,wl,decide_eq_false hlt,rdn_of g7,wr_of g2K,splice_eq,rdn_put_same,oc]);try simp only[yback])
  exact fin rfl
theorem i_WalkFlips {x:Sch} {v w:Value} {ns:List Int} {h:AH} {Q:Value→AH→Prop} (hv:Prods h v x.ps) (nk:NK v) (hl:SmallX x.ps) (hw:Ints h w ns) (hn:(ns.length:Int)≤1048576)
  (hQ:∀ w' h',h<+:h'→KN h.length h' (fun h2=>Prods h2 w' (wkR x ns).1.ps)→NK w'→Q (.tuple #[schV (wkR x ns).1 w',I64 (wkR x ns).2]) h'):WF S 15 [schV x v,w] h Q:=by
 refine WF_fn (fn:=c15) rfl rfl ?_
 dsimp only[c15,oO,oM,oS,oG,oK,oE,oL,oF,oX,oN]
 have o1:=hv.one
 have wl:=hw.len
 have nz:NK (.slice none 0 0):=.inl (.inl rfl)
 ((try simp (maxSteps:=3000000) (dsimp:=false) (disch:=first|omega|simp only[lnx];omega) only[↓ypre,ypost,↓reduceIte,reduceEqDiff,reduceAdd,reduceSub,reduceLeDiff,zz0,ynew,schV,o1]);try simp only[yback])
 generalize hH1:AH.new h _=H1
 obtain⟨hb1,p1,n1⟩:=new_facts hH1
 generalize hH2:AH.new H1 _=H2
 obtain⟨hb2,p2,n2⟩:=new_facts hH2
 have g1:=pre_get p2 hb1
 ((try simp (maxSteps:=3000000) (dsimp:=false) (disch:=first|omega|simp only[lnx];omega) only[↓ypre,ypost,↓reduceIte,reduceEqDiff,reduceAdd,reduceSub,reduceLeDiff,zz0,ynew,rdn_of g1]);try simp only[yback])
 refine i_IsScheme (x:=x) (hv.pre (p1.trans p2)) hl fun H3 p3=>?_
 have g1:=pre_get p3 g1
 have g2:=pre_get p3 hb2
 have l2:=get_lt g2
 have P3:=p1.trans (p2.trans p3)
 have q3:=pre_len p3
 unfold wkR at hQ
 cases hx:isX x with
 | false=>
  rw[hx] at hQ
  ((try simp (maxSteps:=3000000) (dsimp:=false) (disch:=first|omega|simp only[lnx];omega) only[↓ypre,ypost,↓reduceIte,reduceEqDiff,reduceAdd,reduceSub,reduceLeDiff,zz0,ynew,fillL,wr_of g2,splice_eq,rdn_put_same]);try simp only[yback])
  exact hQ _ _ (pre_put P3 (by omega)) zeroS_kn nz
 | true=>
 rw[hx] at hQ
 simp only[if_true] at hQ
 by_cases c1:(ns.length:Int)>200
 ·have e:wkOk ns=false:=by unfold wkOk;rw[decide_eq_false (show ¬ ns.length≤200 by omega)];rfl
  rw[e] at hQ
  ((try simp (maxSteps:=3000000) (dsimp:=false) (disch:=first|omega|simp only[lnx];omega) only[↓ypre,ypost,↓reduceIte,reduceEqDiff,reduceAdd,reduceSub,reduceLeDiff,zz0,ynew,wl,decide_eq_true c1,fillL,wr_of g2,splice_eq,rdn_put_same]);try simp only[yback])
  exact hQ _ _ (pre_put P3 (by omega)) zeroS_kn nz
 ((try simp (maxSteps:=3000000) (dsimp:=false) (disch:=first|omega|simp only[lnx];omega) only[↓ypre,ypost,↓reduceIte,reduceEqDiff,reduceAdd,reduceSub,reduceLeDiff,zz0,ynew,wl,decide_eq_false c1]);try simp only[yback])
 refine WC_loop_inv (fun m f K1=>∃ (i:Nat),m=ns.length-i∧i≤ns.length∧f 1=w∧f 2=.pointer (some ⟨h.length,0,none⟩)∧f 4=.pointer (some ⟨H1.length,0,none⟩)∧f 20=w∧f 21=I64 ns.length∧f 22=I64 i∧K1=H3∧((∀ j,j<i→0≤ns.getD j 0))) ?_ (ns.length-0) _ _ ⟨0,rfl,by omega,(by first|rfl|simp[upd_apply]),(by first|rfl|simp[upd_apply]),(by first|rfl|simp[upd_apply]),(by first|rfl|simp[upd_apply]),(by first|rfl|simp[upd_apply]),(by first|rfl|simp[upd_apply]),rfl,(fun _ h=>absurd h (Nat.not_lt_zero _))⟩
 rintro m f K1 ⟨i,rfl,hi,f1,f2,f4,f20,f21,f22,rfl,al⟩
 by_cases hlt:(i:Int)<ns.length
 ·have hi:i<ns.length:=by omega
  obtain⟨nn,off,ix,rd⟩:=(hw.pre P3).cell hi
  have ix:=ix .i64
  by_cases c2:ns.getD i 0<0
  ·have e:wkOk ns=false:=by
    unfold wkOk
    rw[Bool.and_eq_false_iff]
    right
    rw[List.all_eq_false]
    refine⟨ns[i],List.getElem_mem hi,?_⟩
    rw[List.getD_eq_getElem?_getD,List.getElem?_eq_getElem hi,Option.getD_some] at c2
    rw[decide_eq_false (by omega)]
    decide
   rw[e] at hQ
   ((try simp (maxSteps:=3000000) (dsimp:=false) (disch:=first|omega|simp only[lnx];omega) only[↓ypre,ypost,↓reduceIte,reduceEqDiff,reduceAdd,reduceSub,reduceLeDiff,zz0,ynew,f1,f2,f4,f20,f21,f22,decide_eq_true hlt,ix,rd,decide_eq_true c2,fillL,wr_of g2,splice_eq,rdn_put_same]);try simp only[yback])
   exact hQ _ _ (pre_put P3 (by omega)) zeroS_kn nz
  ·((try simp (maxSteps:=3000000) (dsimp:=false) (disch:=first|omega|simp only[lnx];omega) only[↓ypre,ypost,↓reduceIte,reduceEqDiff,reduceAdd,reduceSub,reduceLeDiff,zz0,ynew,f1,f2,f4,f20,f21,f22,decide_eq_true hlt,ix,rd,decide_eq_false c2,wrap64_in]);try simp only[yback])
   refine InvQ_go (ns.length-(i+1)) (by omega) ⟨(i+1),rfl,by omega,(by first|rfl|exact f1|(simp only[upd_apply];rfl)|(show I64 _=_;congr 1;omega)),(by first|rfl|exact f2|(simp only[upd_apply];rfl)|(show I64 _=_;congr 1;omega)),(by first|rfl|exact f4|(simp only[upd_apply];rfl)|(show I64 _=_;congr 1;omega)),(by first|rfl|exact f20|(simp only[upd_apply];rfl)|(show I64 _=_;congr 1;omega)),(by first|rfl|exact f21|(simp only[upd_apply];rfl)|(show I64 _=_;congr 1;omega)),(by first|rfl|exact f22|(simp only[upd_apply];rfl)|(show I64 _=_;congr 1;omega)),rfl,(fun j hj=>by rcases Nat.lt_succ_iff_lt_or_eq.1 hj with h1|rfl;exact al j h1;omega)⟩
 have ei:i=ns.length:=by omega
 subst ei
 have nn:∀ n∈ns,0≤n:=fun n hn=>by
  obtain⟨j,hj,rfl⟩:=List.getElem_of_mem hn
  have:=al j hj
  rwa [List.getD_eq_getElem?_getD,List.getElem?_eq_getElem hj,Option.getD_some] at this
 have e:wkOk ns=true:=by
  unfold wkOk
  rw[decide_eq_true (show ns.length≤200 by omega),List.all_eq_true.2 fun n hn=>decide_eq_true (nn n hn)]
  rfl
 rw[e] at hQ
 simp only[if_true] at hQ
 have g:=GX.of' hv hx
 have zp:=(isX_sz hx).1.p
 have h30:=(isX_sz hx).2
 ((try simp (maxSteps:=3000000) (dsimp:=false) (disch:=first|omega|simp only[lnx];omega) only[↓ypre,ypost,↓reduceIte,reduceEqDiff,reduceAdd,reduceSub,reduceLeDiff,zz0,ynew,f1,f2,f4,f20,f21,f22,decide_eq_false hlt,rd1_of g1,rdn_of g1]);try simp only[yback])
 refine i_CloneP ((hv.pre P3).1) nk (by omega) fun w0 H4 p4 on=>⟨?_,?_⟩
 ·simp only[List.map_cons,List.map_nil,ev_tmp,updo_some,upd_apply,Nat.reduceEqDiff,↓reduceIte,f2]
  exact KpU_one (m:=h.length+1) (Kp.of p4) (by show h.length≠h.length+1;omega)
 have kn0:=on.kN hv.2 (Nat.le_refl _)
 ((try simp (maxSteps:=3000000) (dsimp:=false) (disch:=first|omega|simp only[lnx];omega) only[↓ypre,ypost,↓reduceIte,reduceEqDiff,reduceAdd,reduceSub,reduceLeDiff,zz0,ynew,f1,f2,f4,f20,f21,f22]);try simp only[yback])
 refine i_with (x:=x) (L:=x.ps) (v:=v) o1 on.nk.one on.nk.cells fun H5 p5=>?_
 have g1:=pre_get (p4.trans p5) g1
 have g2:=pre_get (p4.trans p5) g2
 have q4:=pre_len p4
 have q5:=pre_len p5
 have l1:=get_lt g1
 ((try simp (maxSteps:=3000000) (dsimp:=false) (disch:=first|omega|simp only[lnx];omega) only[↓ypre,ypost,↓reduceIte,reduceEqDiff,reduceAdd,reduceSub,reduceLeDiff,zz0,ynew,f1,f2,f4,f20,f21,f22,schV,on.nk.one,wr_of g1,splice_eq,wl]);try simp only[yback])
 generalize hH6:AH.put H5 _ _=H6
 have b1:H6.get h.length=some ⟨[I64 x.p,I64 x.n,I64 x.m,I64 x.k,w0],26,false,true⟩:=by rw[←hH6];exact get_put_same l1
 have P6:h<+:H6:=by rw[←hH6];exact pre_put (P3.trans (p4.trans p5)) (Nat.le_refl _)
 have r2:AH.get H6 H1.length=some ⟨_,_,false,true⟩:=(show AH.get H6 H1.length=AH.get H5 H1.length by rw[←hH6];exact get_put_ne (by omega)).trans g2
 have kx:KX H2.length h.length H6 fun h2=>Prods h2 w0 (walkL x.p x.ps (ns.take 0)):=by rw[←hH6];exact (KX.of (kn0.pre p5) (by omega) q3).put (.inr rfl)
 refine WC_loop_inv (fun m f K2=>∃ (i:Nat) (vv:Value),m=ns.length-i∧i≤ns.length∧f 2=.pointer (some ⟨h.length,0,none⟩)∧f 4=.pointer (some ⟨H1.length,0,none⟩)∧f 35=w∧f 36=I64 ns.length∧f 37=I64 i∧(h<+:K2)∧(OwnB K2 h.length [I64 x.p,I64 x.n,I64 x.m,I64 x.k,vv] true)∧(OwnB K2 H1.length [I64 0,I64 0,I64 0,I64 0,.slice none 0 0] true)∧(H2.length≤K2.length)∧(KX H2.length h.length K2 (fun h2=>Prods h2 vv (walkL x.p x.ps (ns.take i))))∧(NK vv)) ?_ (ns.length-0) _ _ ⟨0,w0,rfl,by omega,(by first|rfl|exact f2|(simp[upd_apply];done)),(by first|rfl|exact f4|(simp[upd_apply];done)),(by first|rfl|simp[upd_apply]),(by first|rfl|simp[upd_apply]),(by first|rfl|simp[upd_apply]),P6,⟨_,b1⟩,⟨_,r2⟩,(by rw[←hH6,len_put];omega),kx,on.nk⟩
 rintro m f K2 ⟨i,vv,rfl,hi,f2,f4,f35,f36,f37,pp,b1,r2,lK,kx,kv⟩
 obtain⟨e7,b1⟩:=b1
 obtain⟨e8,r2⟩:=r2
 have l7:=get_lt b1
 have l8:=get_lt r2
 obtain⟨gc,ec⟩:=walk_ok g (take_mem nn i)
 have pc:=kx.now
 have oc:isOne vv=true:=pc.one
 by_cases hlt:(i:Int)<ns.length
 ·have hi:i<ns.length:=by omega
  obtain⟨nn',off',ixn,rdn'⟩:=(hw.pre pp).cell hi
  have ixn:=ixn .i64
  ((try simp (maxSteps:=3000000) (dsimp:=false) (disch:=first|omega|simp only[lnx];omega) only[↓ypre,ypost,↓reduceIte,reduceEqDiff,reduceAdd,reduceSub,reduceLeDiff,zz0,ynew,f2,f4,f35,f36,f37,decide_eq_true hlt,ixn,rdn',rdn_of b1]);try simp only[yback])
  refine i_flips (x:=wps x (walkL x.p x.ps (ns.take i))) pc (isX_sz gc.ok).2 fun kb fu B cs H6 p6 r=>?_
  have fl:lenV (sl kb (flA (walkL x.p x.ps (ns.take i))).length)=some (I64 ((flA (walkL x.p x.ps (ns.take i))).length)):=rfl
  have g76:=pre_get p6 b1
  have g86:=pre_get p6 r2
  by_cases h0:flA (walkL x.p x.ps (ns.take i))=[]
  ·have e0:¬ ((flA (walkL x.p x.ps (ns.take i))).length:Int)>0:=by rw[h0];simp
   have es:walkL x.p x.ps (ns.take (i+1))=walkL x.p x.ps (ns.take i):=by rw[walk_succ hi];exact if_pos h0
   ((try simp (maxSteps:=3000000) (dsimp:=false) (disch:=first|omega|simp only[lnx];omega) only[↓ypre,ypost,↓reduceIte,reduceEqDiff,reduceAdd,reduceSub,reduceLeDiff,zz0,ynew,f2,f4,f35,f36,f37,fl,decide_eq_false e0,wrap64_in]);try simp only[yback])
   refine InvQ_go (ns.length-(i+1)) (by omega) ⟨(i+1),vv,rfl,by omega,(by first|rfl|exact f2|(simp only[upd_apply];rfl)|(show I64 _=_;congr 1;omega)),(by first|rfl|exact f4|(simp only[upd_apply];rfl)|(show I64 _=_;congr 1;omega)),(by first|rfl|exact f35|(simp only[upd_apply];rfl)|(show I64 _=_;congr 1;omega)),(by first|rfl|exact f36|(simp only[upd_apply];rfl)|(show I64 _=_;congr 1;omega)),(by first|rfl|exact f37|(simp only[upd_apply];rfl)|(show I64 _=_;congr 1;omega)),(pp.trans p6),⟨_,g76⟩,⟨_,g86⟩,(Nat.le_trans lK (pre_len p6)),(by rw[es];exact kx.pre p6),kv⟩
  ·have hlen:0<(flA (walkL x.p x.ps (ns.take i))).length:=List.length_pos_iff.2 h0
   have ni:0≤ns.getD i 0:=al i hi
   obtain⟨a,b,u,a1,a2,a3,a4,a5,a6,a7⟩:=pickF_of ni h0
   obtain⟨J,hJ⟩:∃ J:Nat,(ns.getD i 0).tmod ((flA (walkL x.p x.ps (ns.take i))).length:Int)=J:=⟨_,(Int.toNat_of_nonneg (Int.tmod_nonneg _ ni)).symm⟩
   rw[hJ,Int.toNat_natCast] at a7
   have eJ:(flA (walkL x.p x.ps (ns.take i))).getD J []=[(a:Int),b,u]:=by
    have:=a5
    unfold pickF at this
    rwa [hJ,Int.toNat_natCast] at this
   obtain⟨n0,off0,x0,ix0,rd0,i0⟩:=r.rows.row (i:=J) a7
   rw[eJ] at i0
   obtain⟨m0,o0,jx0,jr0⟩:=i0.cell (j:=0) (by simp)
   obtain⟨m1,o1',jx1,jr1⟩:=i0.cell (j:=1) (by simp)
   obtain⟨m2,o2,jx2,jr2⟩:=i0.cell (j:=2) (by simp)
   have jx0:ixsV 1 x0 (I64 0)=_:=jx0 .i64
   have jx1:ixsV 1 x0 (I64 1)=_:=jx1 .i64
   have jx2:ixsV 1 x0 (I64 2)=_:=jx2 .i64
   have jr0:AH.rd1 H6 m0 o0=some (I64 a):=jr0
   have jr1:AH.rd1 H6 m1 o1'=some (I64 b):=jr1
   have jr2:AH.rd1 H6 m2 o2=some (I64 u):=jr2
   ((try simp (maxSteps:=3000000) (dsimp:=false) (disch:=first|omega|simp only[lnx];omega) only[↓ypre,ypost,↓reduceIte,reduceEqDiff,reduceAdd,reduceSub,reduceLeDiff,zz0,ynew,f2,f4,f35,f36,f37,fl,decide_eq_true (show ((flA (walkL x.p x.ps (ns.take i))).length:Int)>0 by omega),bin_rem (show ((flA (walkL x.p x.ps (ns.take i))).length:Int)≠0 by omega),hJ,ix0 .i64,rd0,jx0,jr0,jx1,jr1,jx2,jr2,rdn_of g76]);try simp only[yback])
   refine i_flip (x:=wps x (walkL x.p x.ps (ns.take i))) (s:=1) (pc.pre p6) kv (by have:=(isX_sz gc.ok).2;omega) zp a1 a2 a4 (by show 1≤1∧1≤x.p;omega) fun w' H7 p7 kn7 nk7=>?_
   have g77:=pre_get p7 g76
   have g87:=pre_get p7 g86
   have l77:=get_lt g77
   have q67:=pre_len p7
   have l76:=get_lt g76
   have qq:=pre_len p6
   ((try simp (maxSteps:=3000000) (dsimp:=false) (disch:=first|omega|simp only[lnx];omega) only[↓ypre,ypost,↓reduceIte,reduceEqDiff,reduceAdd,reduceSub,reduceLeDiff,zz0,ynew,f2,f4,f35,f36,f37,schV,kn7.now.one,wr_of g77,splice_eq,wrap64_in]);try simp only[yback])
   refine InvQ_go (ns.length-(i+1)) (by omega) ⟨(i+1),w',rfl,by omega,(by first|rfl|exact f2|(simp only[upd_apply];rfl)|(show I64 _=_;congr 1;omega)),(by first|rfl|exact f4|(simp only[upd_apply];rfl)|(show I64 _=_;congr 1;omega)),(by first|rfl|exact f35|(simp only[upd_apply];rfl)|(show I64 _=_;congr 1;omega)),(by first|rfl|exact f36|(simp only[upd_apply];rfl)|(show I64 _=_;congr 1;omega)),(by first|rfl|exact f37|(simp only[upd_apply];rfl)|(show I64 _=_;congr 1;omega)),(pre_put (pp.trans (p6.trans p7)) (Nat.le_refl _)),⟨_,get_put_same l77⟩,⟨_,by rw[get_put_ne (by omega)];exact g87⟩,(by rw[len_put];omega),(by rw[walk_succ hi,step_of h0 a5];exact (KX.of kn7 (by omega) (by omega)).put (.inr rfl)),nk7⟩
 ·have ei:i=ns.length:=by omega
  subst ei
  rw[List.take_length] at kx
  ((try simp (maxSteps:=3000000) (dsimp:=false) (disch:=first|omega|simp only[lnx];omega) only[↓ypre,ypost,↓reduceIte,reduceEqDiff,reduceAdd,reduceSub,reduceLeDiff,zz0,ynew,f2,f4,f35,f36,f37,decide_eq_false hlt,rdn_of b1,wr_of r2,splice_eq,rdn_put_same,oc]);try simp only[yback])
  exact hQ vv _ (pre_put pp (by omega)) ((KX.kN (kx.put (.inl (by omega)))).mono (by omega)) kv
end Go.Proofs.Ytapafdpnmakekaa.X

set_option linter.unusedVariables false
set_option linter.unusedSimpArgs false
set_option maxRecDepth 20000
set_option maxHeartbeats 4000000
namespace Go.Proofs.Ytapafdpnmakekaa.X
open Go Go.RowKit
def lead:List Int→Int
 | []=>0
 | a::l=>if a=0 then lead l else a
theorem lead_map {g:Int→Int} (g0:g 0=0):∀ {l:List Int},(∀ a∈l,g a=0→a=0)→lead (l.map g)=g (lead l)
 | [],_=>g0.symm
 | a::l,h=>by
  rw[List.map_cons,lead,lead]
  by_cases e:a=0
  ·rw[e,g0,if_pos rfl,if_pos rfl]
   exact lead_map g0 fun b hb=>h b (by simp[hb])
  ·rw[if_neg e,if_neg (fun x=>e (h a (by simp) x))]
theorem lead_mem:∀ {l:List Int},lead l≠0→lead l∈l
 | [],h=>absurd rfl h
 | a::l,h=>by
  rw[lead] at h ⊢
  by_cases e:a=0
  ·rw[if_pos e] at h ⊢
   exact List.mem_cons_of_mem _ (lead_mem h)
  ·rw[if_neg e]
   exact List.mem_cons_self
theorem lead_zero:∀ {l:List Int},lead l=0→∀ a∈l,a=0
 | [],_=>by simp
 | a::l,h=>by
  rw[lead] at h
  by_cases e:a=0
  ·rw[if_pos e] at h
   intro b hb
   rcases List.mem_cons.1 hb with rfl|hb
   ·exact e
   ·exact lead_zero h b hb
  ·rw[if_neg e] at h
   exact absurd h e
structure Fm (p:Int) (f:List Int):Prop where
 len:f.length=9
 n:∀ a∈f,0≤a∧a<p
section
variable {p k t:Int} {f g q r:List Int}
theorem Fm.of (h:By 9 f) (hn:∀ j,j<9→f.getD j 0<p):Fm p f:=⟨h.1,fun a ha=>by
 obtain⟨i,hi,rfl⟩:=List.getElem_of_mem ha
 have h1:=(h.2 i (by have:=h.1;omega)).1
 have h2:=hn i (by have:=h.1;omega)
 rw[List.getD_eq_getElem?_getD,List.getElem?_eq_getElem hi,Option.getD_some] at h1 h2
 exact⟨h1,h2⟩⟩
theorem Fm.at (h:Fm p f) {j:Nat} (hj:j<9):0≤f.getD j 0∧f.getD j 0<p:=by
 rw[List.getD_eq_getElem?_getD,List.getElem?_eq_getElem (by rw[h.len];exact hj),Option.getD_some]
 exact h.n _ (List.getElem_mem _)
theorem isZ_lead (h:Fm p f):isZ f=false↔lead f≠0:=by
 constructor
 ·intro hz e
  have:=lead_zero e
  have e2:f=z9:=by
   have:f=List.replicate 9 0:=List.eq_replicate_iff.2 ⟨h.len,this⟩
   rw[this]
   rfl
  rw[e2] at hz
  cases hz
 ·intro hl
  cases hz:isZ f with
  | false=>rfl
  | true=>
   have e:f=z9:=by simpa [isZ] using hz
   rw[e] at hl
   exact absurd rfl hl
theorem Fm.lead (h:Fm p f) (hz:isZ f=false):1≤X.lead f∧X.lead f<p:=by
 have h1:=(isZ_lead h).1 hz
 have:=h.n _ (lead_mem h1)
 omega
def scF (p:Int) (f:List Int) (k:Int):List Int:=addF p z9 f k 9
theorem z9_at {j:Nat}:z9.getD j 0=0:=isZ_at (q:=z9) rfl
theorem scF_map (hf:f.length=9):scF p f k=f.map fun a=>md p (k*a):=by
 have l:(scF p f k).length=9:=addF_len rfl (Nat.le_refl _)
 refine List.ext_getElem (by rw[l,List.length_map,hf]) fun j h1 h2=>?_
 have e:(scF p f k).getD j 0=md p (k*f.getD j 0):=by
  unfold scF
  rw[addF_get (by omega),z9_at,Int.zero_add]
 rw[List.getD_eq_getElem?_getD,List.getElem?_eq_getElem h1,List.getD_eq_getElem?_getD,List.getElem?_eq_getElem (by omega)] at e
 rw[List.getElem_map]
 exact e
theorem scF_at {j:Nat} (hj:j<9):(scF p f k).getD j 0=md p (k*f.getD j 0):=by
 unfold scF
 rw[addF_get hj,z9_at,Int.zero_add]
theorem prm (hp:isP p=true) {a b:Int} (h:p∣a*b):p∣a∨p∣b:=by
 have hpp:p=2∨p=3∨p=5:=by simpa [isP] using hp
 rw[Int.dvd_iff_emod_eq_zero,Int.mul_emod] at h
 rw[Int.dvd_iff_emod_eq_zero,Int.dvd_iff_emod_eq_zero]
 rcases hpp with rfl|rfl|rfl
 ·have h1:a%2=0∨a%2=1:=by omega
  have h2:b%2=0∨b%2=1:=by omega
  rcases h1 with h1|h1<;>rcases h2 with h2|h2<;>simp_all
 ·have h1:a%3=0∨a%3=1∨a%3=2:=by omega
  have h2:b%3=0∨b%3=1∨b%3=2:=by omega
  rcases h1 with h1|h1|h1<;>rcases h2 with h2|h2|h2<;>simp_all
 ·have h1:a%5=0∨a%5=1∨a%5=2∨a%5=3∨a%5=4:=by omega
  have h2:b%5=0∨b%5=1∨b%5=2∨b%5=3∨b%5=4:=by omega
  rcases h1 with h1|h1|h1|h1|h1<;>rcases h2 with h2|h2|h2|h2|h2<;>simp_all
theorem md_zero {x:Int} (hp:2≤p) (h:md p x=0):p∣x:=by
 have:=md_dvd p x
 rwa [h,Int.sub_zero] at this
theorem small_dvd {x:Int} (h:p∣x) (h0:0≤x∧x<p):x=0:=dvd_small h h0
theorem scF_lead (hp:isP p=true) (hf:Fm p f) (hk:¬ p∣k):lead (scF p f k)=md p (k*lead f):=by
 have pp:=isP_in hp
 rw[scF_map hf.len]
 refine lead_map (g:=fun a=>md p (k*a)) ?_ fun a ha h=>?_
 ·show md p (k*0)=0
  rw[Int.mul_zero]
  exact md_small (by omega)
 ·rcases prm hp (md_zero pp.1 h) with h|h
  ·exact absurd h hk
  ·exact small_dvd h (hf.n a ha)
theorem scF_Fm (hp:2≤p):Fm p (scF p f k):=⟨addF_len rfl (Nat.le_refl _),fun a ha=>by
 obtain⟨i,hi,rfl⟩:=List.getElem_of_mem ha
 have l:(scF p f k).length=9:=addF_len rfl (Nat.le_refl _)
 have e:=scF_at (p:=p) (f:=f) (k:=k) (j:=i) (by omega)
 rw[List.getD_eq_getElem?_getD,List.getElem?_eq_getElem hi,Option.getD_some] at e
 rw[e]
 exact md_in hp⟩
theorem scF_nz (hp:isP p=true) (hf:Fm p f) (hk:¬ p∣k) (hz:isZ f=false):isZ (scF p f k)=false:=by
 have pp:=isP_in hp
 refine (isZ_lead (scF_Fm pp.1)).2 ?_
 rw[scF_lead hp hf hk]
 intro h
 have hl:=hf.lead hz
 rcases prm hp (md_zero pp.1 h) with h|h
 ·exact hk h
 ·have:=small_dvd h (by omega)
  omega
theorem scF_one (hp:2≤p) (hf:Fm p f):scF p f 1=f:=by
 rw[scF_map hf.len]
 have:∀ a∈f,(fun a=>md p (1*a)) a=a:=fun a ha=>by
  show md p (1*a)=a
  rw[Int.one_mul]
  exact md_small (hf.n a ha)
 exact (List.map_congr_left this).trans (List.map_id _)
theorem scF_cong {k':Int} (hp:2≤p) (hf:f.length=9) (h:Cg p k k'):scF p f k=scF p f k':=by
 rw[scF_map hf,scF_map hf]
 refine List.map_congr_left fun a _=>?_
 exact dvd_eq ((md_cg.trans (h.mul .rfl')).trans md_cg.symm) (md_in hp) (md_in hp)
open Classical in
noncomputable def inv (p n:Int):Int:=if h:∃ w,IsInv p n w then Classical.choose h else 0
theorem inv_spec {n:Int} (hp:isP p=true) (hn:1≤n∧n<p):IsInv p n (inv p n):=by
 have h:=inv_is hp hn
 unfold inv
 rw[dif_pos h]
 exact Classical.choose_spec h
theorem inv_one (hp:isP p=true):inv p 1=1:=by
 have pp:=isP_in hp
 obtain⟨h1,h2,h3,h4⟩:=inv_spec (n:=1) hp (by omega)
 refine Decidable.byContradiction fun h=>h4 1 (by omega) (by omega) ?_
 exact Int.tmod_eq_of_lt (by omega) (by omega)
theorem invc {n:Int} (hp:isP p=true) (hn:1≤n∧n<p):Cg p (inv p n*n) 1:=by
 obtain⟨q,hq⟩:=inv_dvd (inv_spec hp hn)
 exact⟨q,by omega⟩
theorem inv_nd {n:Int} (hp:isP p=true) (hn:1≤n∧n<p):¬ p∣inv p n:=by
 have h:=inv_spec hp hn
 intro hd
 have:=small_dvd hd (by have:=h.1;have:=h.2.1;omega)
 have:=h.1
 omega
noncomputable def nrm (p:Int) (q:List Int):List Int:=scF p (seg q 0) (inv p (lead (seg q 0)))++scF p (seg q 1) (inv p (lead (seg q 1)))++scF p (seg q 2) (lead (seg q 0)*lead (seg q 1))
structure Pr (p:Int) (q:List Int):Prop where
 bb:By 27 q
 f:∀ j,j<3→Fm p (seg q j)
 z:∀ j,j<3→isZ (seg q j)=false
theorem hasZ_iff:hasZ q=false↔∀ j,j<3→isZ (seg q j)=false:=by
 unfold hasZ
 simp only[Bool.or_eq_false_iff]
 constructor
 ·rintro⟨⟨h0,h1⟩,h2⟩ j hj
  have:j=0∨j=1∨j=2:=by omega
  rcases this with rfl|rfl|rfl
  ·exact h0
  ·exact h1
  ·exact h2
 ·intro h
  exact⟨⟨h 0 (by omega),h 1 (by omega)⟩,h 2 (by omega)⟩
theorem Pr.of {x:Sch} (hb:By 27 q) (h:okProd x q=true):Pr x.p q:=by
 obtain⟨h1,h2⟩:=okProd_iff.1 h
 exact⟨hb,fun j hj=>Fm.of (seg_by hb hj) fun i hi=>(okForm_gt (h1 j hj) hi).1,hasZ_iff.1 h2⟩
theorem Pr.ld (h:Pr p q) {j:Nat} (hj:j<3):1≤lead (seg q j)∧lead (seg q j)<p:=(h.f j hj).lead (h.z j hj)
theorem app3_seg {a b c:List Int} (ha:a.length=9) (hb:b.length=9) (hc:c.length=9):seg (a++b++c) 0=a∧seg (a++b++c) 1=b∧seg (a++b++c) 2=c:=by
 have l:(a++b).length=18:=by rw[List.length_append];omega
 unfold seg
 refine⟨?_,?_,?_⟩
 ·rw[Nat.zero_mul,List.drop_zero,List.append_assoc,List.take_append_of_le_length (by omega),List.take_of_length_le (by omega)]
 ·rw[Nat.one_mul,List.append_assoc,List.drop_append_of_le_length (by omega),List.drop_of_length_le (by omega),List.nil_append,List.take_append_of_le_length (by omega),List.take_of_length_le (by omega)]
 ·rw[List.drop_append_of_le_length (by omega),List.drop_of_length_le (by omega),List.nil_append,List.take_of_length_le (by omega)]
theorem scF_len:(scF p f k).length=9:=addF_len rfl (Nat.le_refl _)
theorem nrm_seg:seg (nrm p q) 0=scF p (seg q 0) (inv p (lead (seg q 0)))∧seg (nrm p q) 1=scF p (seg q 1) (inv p (lead (seg q 1)))∧seg (nrm p q) 2=scF p (seg q 2) (lead (seg q 0)*lead (seg q 1)):=app3_seg scF_len scF_len scF_len
theorem seg3 (hq:q.length=27):seg q 0++seg q 1++seg q 2=q:=by
 unfold seg
 rw[Nat.zero_mul,List.drop_zero,Nat.one_mul,List.append_assoc,show (q.drop (2*9)).take 9=(q.drop 9).drop 9 from by rw[List.drop_drop,List.take_of_length_le (by rw[List.length_drop];omega)],List.take_append_drop,List.take_append_drop]
theorem lead2_nd (hp:isP p=true) (h:Pr p q):¬ p∣lead (seg q 0)*lead (seg q 1):=by
 intro hd
 have h0:=h.ld (j:=0) (by omega)
 have h1:=h.ld (j:=1) (by omega)
 rcases prm hp hd with hd|hd
 ·have:=small_dvd hd (by omega);omega
 ·have:=small_dvd hd (by omega);omega
theorem nrm_Pr (hp:isP p=true) (h:Pr p q):Pr p (nrm p q):=by
 have pp:=isP_in hp
 obtain⟨e0,e1,e2⟩:=nrm_seg (p:=p) (q:=q)
 have hf:∀ j,j<3→Fm p (seg (nrm p q) j)∧isZ (seg (nrm p q) j)=false:=fun j hj=>by
  have:j=0∨j=1∨j=2:=by omega
  rcases this with rfl|rfl|rfl
  ·rw[e0]
   exact⟨scF_Fm pp.1,scF_nz hp (h.f 0 (by omega)) (inv_nd hp (h.ld (by omega))) (h.z 0 (by omega))⟩
  ·rw[e1]
   exact⟨scF_Fm pp.1,scF_nz hp (h.f 1 (by omega)) (inv_nd hp (h.ld (by omega))) (h.z 1 (by omega))⟩
  ·rw[e2]
   exact⟨scF_Fm pp.1,scF_nz hp (h.f 2 (by omega)) (lead2_nd hp h) (h.z 2 (by omega))⟩
 have l:(nrm p q).length=27:=by
  unfold nrm
  rw[List.length_append,List.length_append,scF_len,scF_len,scF_len]
 refine⟨⟨l,fun j hj=>?_⟩,fun j hj=>(hf j hj).1,fun j hj=>(hf j hj).2⟩
 have hj':j=j / 9*9+j%9:=by omega
 rw[hj',←seg_at (by omega)]
 have:=(hf (j / 9) (by omega)).1.at (j:=j%9) (by omega)
 omega
def Nm (q:List Int):Prop:=lead (seg q 0)=1∧lead (seg q 1)=1
theorem nrm_Nm (hp:isP p=true) (h:Pr p q):Nm (nrm p q):=by
 have pp:=isP_in hp
 obtain⟨e0,e1,e2⟩:=nrm_seg (p:=p) (q:=q)
 have one:∀ {n:Int},1≤n∧n<p→md p (inv p n*n)=1:=fun {n} hn=>dvd_eq (md_cg.trans (invc hp hn)) (md_in pp.1) (by omega)
 exact⟨by rw[e0,scF_lead hp (h.f 0 (by omega)) (inv_nd hp (h.ld (by omega)))];exact one (h.ld (by omega)),by rw[e1,scF_lead hp (h.f 1 (by omega)) (inv_nd hp (h.ld (by omega)))];exact one (h.ld (by omega))⟩
theorem nrm_id (hp:isP p=true) (h:Pr p q) (n:Nm q):nrm p q=q:=by
 have pp:=isP_in hp
 unfold nrm
 rw[n.1,n.2,inv_one hp,Int.one_mul,scF_one pp.1 (h.f 0 (by omega)),scF_one pp.1 (h.f 1 (by omega)),scF_one pp.1 (h.f 2 (by omega)),seg3 h.bb.1]
theorem nrm_tm (hp:isP p=true) (h:Pr p q) {a b c:Nat} (ha:a<9) (hb:b<9) (hc:c<9):Cg p (tm (nrm p q) a b c) (tm q a b c):=by
 obtain⟨e0,e1,e2⟩:=nrm_seg (p:=p) (q:=q)
 rw[tm_seg ha hb hc,tm_seg ha hb hc,e0,e1,e2,scF_at ha,scF_at hb,scF_at hc]
 have h0:=invc hp (h.ld (j:=0) (by omega))
 have h1:=invc hp (h.ld (j:=1) (by omega))
 refine Cg.trans (md_cg.mul md_cg |>.mul md_cg) ?_
 obtain⟨u,hu⟩:=h0
 obtain⟨v,hv⟩:=h1
 generalize inv p (lead (seg q 0))=i0 at *
 generalize inv p (lead (seg q 1))=i1 at *
 generalize lead (seg q 0)=l0 at *
 generalize lead (seg q 1)=l1 at *
 generalize (seg q 0).getD a 0=A at *
 generalize (seg q 1).getD b 0=B at *
 generalize (seg q 2).getD c 0=C at *
 exact⟨A*B*C*(u+v+p*u*v),by grind⟩
theorem okForm_sc {n:Int} (hp:2≤p) (hf:okForm p n f=true):okForm p n (scF p f k)=true:=by
 refine okForm_add hp (okForm_t fun j hj=>?_) hf
 unfold okAt
 rw[z9_at]
 exact decide_eq_true ⟨by omega,fun _=>rfl⟩
theorem nrm_ok {x:Sch} (hP:isP x.p=true) (hb:By 27 q) (h:okProd x q=true):okProd x (nrm x.p q)=true:=by
 have pp:=isP_in hP
 have hpr:=Pr.of hb h
 obtain⟨h1,h2⟩:=okProd_iff.1 h
 obtain⟨e0,e1,e2⟩:=nrm_seg (p:=x.p) (q:=q)
 refine okProd_iff.2 ⟨fun j hj=>?_,hasZ_iff.2 (nrm_Pr hP hpr).z⟩
 have:j=0∨j=1∨j=2:=by omega
 rcases this with rfl|rfl|rfl
 ·rw[e0];exact okForm_sc pp.1 (h1 0 hj)
 ·rw[e1];exact okForm_sc pp.1 (h1 1 hj)
 ·rw[e2];exact okForm_sc pp.1 (h1 2 hj)
noncomputable def tms (p:Int) (f g:List Int):Int:=if scF p f ((lead g*inv p (lead f)).tmod p)=g then (lead g*inv p (lead f)).tmod p else 0
theorem tms_in (hp:2≤p) (hg:0≤lead g) (hi:0≤inv p (lead f)):0≤tms p f g∧tms p f g<p:=by
 unfold tms
 split
 ·exact tmod_nn (Int.mul_nonneg hg hi) (by omega)
 ·omega
theorem tms_sc (h:tms p f g≠0):scF p f (tms p f g)=g:=by
 unfold tms at h ⊢
 split
 ·rename_i e
  exact e
 ·rename_i e
  rw[if_neg e] at h
  exact absurd rfl h
theorem tms_some {s:Int} (hp:isP p=true) (hf:Fm p f) (hz:isZ f=false) (hs:1≤s∧s<p) (e:scF p f s=g):tms p f g=s:=by
 have pp:=isP_in hp
 have hl:=hf.lead hz
 have nd:¬ p∣s:=fun h=>by have:=small_dvd h (by omega);omega
 have el:lead g=md p (s*lead f):=by rw[←e];exact scF_lead hp hf nd
 have h1:=invc hp hl
 have h2:=inv_spec hp hl
 have lg:=md_in (x:=s*lead f) pp.1
 have et:(lead g*inv p (lead f)).tmod p=s:=by
  refine dvd_eq ?_ (tmod_nn (Int.mul_nonneg (by rw[el];exact lg.1) (by have:=h2.1;omega)) (by omega)) (by omega)
  refine Cg.trans (Cg.tmod _ _) ?_
  rw[el]
  refine Cg.trans (md_cg.mul .rfl') ?_
  obtain⟨u,hu⟩:=h1
  generalize inv p (lead f)=i0 at *
  generalize lead f=l0 at *
  exact⟨s*u,by grind⟩
 unfold tms
 rw[et,if_pos e]
theorem tms_none (hp:isP p=true) (hf:Fm p f) (hz:isZ f=false) (hg:0≤lead g) (h:∀ s,1≤s→s<p→scF p f s≠g):tms p f g=0:=by
 have pp:=isP_in hp
 refine Decidable.byContradiction fun h0=>?_
 have hi:=inv_spec hp (hf.lead hz)
 have:=tms_in (f:=f) (g:=g) pp.1 hg (by have:=hi.1;omega)
 exact h _ (by omega) this.2 (tms_sc h0)
noncomputable def mrg (p:Int) (q r:List Int):Option (List Int):=
 if seg q 0=seg r 0∧seg q 1=seg r 1 then some (wth q 2 (addF p (seg q 2) (seg r 2) 1 9))
 else if seg q 0=seg r 0∧tms p (seg q 2) (seg r 2)≠0 then some (wth q 1 (addF p (seg q 1) (seg r 1) (tms p (seg q 2) (seg r 2)) 9))
 else if seg q 1=seg r 1∧tms p (seg q 2) (seg r 2)≠0 then some (wth q 0 (addF p (seg q 0) (seg r 0) (tms p (seg q 2) (seg r 2)) 9))
 else none
theorem mrg_of {m:List Int} (h:mrg p q r=some m):∃ j k,j<3∧m=wth q j (addF p (seg q j) (seg r j) k 9)∧((j=2∧k=1∧seg q 0=seg r 0∧seg q 1=seg r 1)∨(j=1∧seg q 0=seg r 0∧scF p (seg q 2) k=seg r 2)∨(j=0∧seg q 1=seg r 1∧scF p (seg q 2) k=seg r 2)):=by
 unfold mrg at h
 split at h
 ·rename_i e
  cases h
  exact⟨2,1,by omega,rfl,.inl ⟨rfl,rfl,e⟩⟩
 ·split at h
  ·rename_i e
   cases h
   exact⟨1,_,by omega,rfl,.inr (.inl ⟨rfl,e.1,tms_sc e.2⟩)⟩
  ·split at h
   ·rename_i e
    cases h
    exact⟨0,_,by omega,rfl,.inr (.inr ⟨rfl,e.1,tms_sc e.2⟩)⟩
   ·cases h
theorem mrg_by {m:List Int} (hp:2≤p∧p≤5) (hq:By 27 q) (h:mrg p q r=some m):By 27 m:=by
 obtain⟨j,k,hj,rfl,-⟩:=mrg_of h
 exact wth_by hq (addF_by hp (seg_by hq hj) (Nat.le_refl _)) hj
theorem mrg_tm {m:List Int} (hq:q.length=27) (h:mrg p q r=some m) {a b c:Nat} (ha:a<9) (hb:b<9) (hc:c<9):Cg p (tm m a b c) (tm q a b c+tm r a b c):=by
 obtain⟨j,k,hj,rfl,hc'⟩:=mrg_of h
 have s1:∀ i,i<3→seg (wth q j (addF p (seg q j) (seg r j) k 9)) i=if i=j then addF p (seg q j) (seg r j) k 9 else seg q i:=fun i hi=>seg_wth hq (addF_len (seg_n9 hq hj) (Nat.le_refl _)) hj hi
 rw[tm_seg ha hb hc,tm_seg ha hb hc,tm_seg ha hb hc,s1 0 (by omega),s1 1 (by omega),s1 2 (by omega)]
 rcases hc' with⟨rfl,rfl,e0,e1⟩|⟨rfl,e0,e2⟩|⟨rfl,e1,e2⟩
 ·rw[if_neg (by decide),if_neg (by decide),if_pos rfl,addF_get hc,←e0,←e1]
  obtain⟨u,hu⟩:=md_cg (p:=p) (x:=(seg q 2).getD c 0+1*(seg r 2).getD c 0)
  generalize md p _=M at *
  generalize (seg q 0).getD a 0=A at *
  generalize (seg q 1).getD b 0=B at *
  exact⟨A*B*u,by grind⟩
 ·rw[if_neg (by decide),if_pos rfl,if_neg (by decide),addF_get hb,←e0,←e2,scF_at hc]
  obtain⟨u,hu⟩:=md_cg (p:=p) (x:=(seg q 1).getD b 0+k*(seg r 1).getD b 0)
  obtain⟨v,hv⟩:=md_cg (p:=p) (x:=k*(seg q 2).getD c 0)
  generalize md p (k*(seg q 2).getD c 0)=M2 at *
  generalize md p _=M at *
  generalize (seg q 0).getD a 0=A at *
  generalize (seg q 2).getD c 0=C at *
  generalize (seg r 1).getD b 0=B' at *
  generalize (seg q 1).getD b 0=B at *
  exact⟨A*u*C-A*B'*v,by grind⟩
 ·rw[if_pos rfl,if_neg (by decide),if_neg (by decide),addF_get ha,←e1,←e2,scF_at hc]
  obtain⟨u,hu⟩:=md_cg (p:=p) (x:=(seg q 0).getD a 0+k*(seg r 0).getD a 0)
  obtain⟨v,hv⟩:=md_cg (p:=p) (x:=k*(seg q 2).getD c 0)
  generalize md p (k*(seg q 2).getD c 0)=M2 at *
  generalize md p _=M at *
  generalize (seg q 1).getD b 0=B at *
  generalize (seg q 2).getD c 0=C at *
  generalize (seg r 0).getD a 0=A' at *
  generalize (seg q 0).getD a 0=A at *
  exact⟨u*B*C-A'*B*v,by grind⟩
theorem mrg_ok {x:Sch} {m:List Int} (hp:2≤x.p) (hq:q.length=27) (oq:∀ j,j<3→okForm x.p (pl x j) (seg q j)=true) (or:∀ j,j<3→okForm x.p (pl x j) (seg r j)=true) (h:mrg x.p q r=some m):∀ j,j<3→okForm x.p (pl x j) (seg m j)=true:=by
 obtain⟨j,k,hj,rfl,-⟩:=mrg_of h
 intro i hi
 rw[seg_wth hq (addF_len (seg_n9 hq hj) (Nat.le_refl _)) hj hi]
 split
 ·rename_i e
  rw[e]
  exact okForm_add hp (oq j hj) (or j hj)
 ·exact oq i hi
end
end Go.Proofs.Ytapafdpnmakekaa.X

set_option linter.unusedVariables false
set_option linter.unusedSimpArgs false
set_option maxRecDepth 20000
set_option maxHeartbeats 4000000
namespace Go.Proofs.Ytapafdpnmakekaa.X
open Go Go.RowKit
open Nat (reduceEqDiff reduceAdd reduceSub reduceLeDiff)
theorem z9_by:By 9 z9:=⟨rfl,fun j _=>by rw[z9_at];omega⟩
theorem zeros9z:([.int .u8 0,.int .u8 0,.int .u8 0,.int .u8 0,.int .u8 0,.int .u8 0,.int .u8 0,.int .u8 0,.int .u8 0]:List Value)=cel .u8 z9:=rfl
theorem s_l01Scale {p k:Int} {q:List Int} {h:AH} {Q:Value→AH→Prop} (hp:2≤p∧p≤5) (hq:By 9 q) (hk:-1000≤k∧k≤1000) (hQ:∀ h',h<+:h'→Q (aggV .u8 (scF p q k)) h'):WF S 267 [I64 p,aggV .u8 q,I64 k] h Q:=by
 refine WF_fn (fn:=c267) rfl rfl ?_
 dsimp only[c267,oO,oM,oS,oG,oK,oE,oL,oF,oX,oN]
 have q9:=hq.1
 have tq:(cel .u8 q).take 9=cel .u8 q:=List.take_of_length_le (by rw[cel_len,q9];exact Nat.le_refl _)
 ((try simp (maxSteps:=3000000) (dsimp:=false) (disch:=first|omega|simp only[lnx];omega) only[↓ypre,ypost,↓reduceIte,reduceEqDiff,reduceAdd,reduceSub,reduceLeDiff,zz0,ynew,aggV,cellsL_cel,cel_all]);try simp only[yback])
 generalize hH1:AH.new h _=H1
 obtain⟨hb1,p1,n1⟩:=new_facts hH1
 generalize hH2:AH.new H1 _=H2
 obtain⟨hb2,p2,n2⟩:=new_facts hH2
 have g1:=pre_get p2 hb1
 ((try simp (maxSteps:=3000000) (dsimp:=false) (disch:=first|omega|simp only[lnx];omega) only[↓ypre,ypost,↓reduceIte,reduceEqDiff,reduceAdd,reduceSub,reduceLeDiff,zz0,ynew,fillL,zeros9z,cel_all,rdn_of g1,cel_len,q9,tq]);try simp only[yback])
 refine s_l01Add (a:=z9) (b:=q) hp z9_by hq hk fun H3 p3=>?_
 have g2:=pre_get p3 hb2
 have l2:=get_lt g2
 have sl:(scF p q k).length=9:=scF_len
 have e:addF p z9 q k 9=scF p q k:=rfl
 have w9:=wr_full (vs:=cel .u8 (scF p q k)) g2 (by rw[cel_len,sl];rfl)
 have ts:(cel .u8 (scF p q k)).take 9=cel .u8 (scF p q k):=List.take_of_length_le (by rw[cel_len,sl];exact Nat.le_refl _)
 rw[e]
 ((try simp (maxSteps:=3000000) (dsimp:=false) (disch:=first|omega|simp only[lnx];omega) only[↓ypre,ypost,↓reduceIte,reduceEqDiff,reduceAdd,reduceSub,reduceLeDiff,zz0,ynew,aggV,cellsL_cel,cel_len,sl,cel_all,w9,rdn_put_same,ts]);try simp only[yback])
 exact hQ _ (pre_put (p1.trans (p2.trans p3)) (by omega))
end Go.Proofs.Ytapafdpnmakekaa.X

set_option linter.unusedVariables false
set_option linter.unusedSimpArgs false
set_option maxRecDepth 20000
set_option maxHeartbeats 4000000
namespace Go.Proofs.Ytapafdpnmakekaa.X
open Go Go.RowKit
def rmv (L:List (List Int)) (k:Nat):List (List Int):=L.take k++L.drop (k+1)
section
variable {L R:List (List Int)} {q r m:List Int} {a b c i k:Nat} {p:Int} {x:Sch}
theorem rmv_len (hk:k<L.length):(rmv L k).length=L.length-1:=by
 unfold rmv
 rw[List.length_append,List.length_take,List.length_drop]
 omega
theorem rmv_at (hi:i<k):(rmv L k).getD i []=L.getD i []:=by
 by_cases h:i<L.length
 ·unfold rmv
  rw[getD_app_l (by rw[List.length_take];omega),List.getD_eq_getElem?_getD,List.getElem?_take_of_lt hi,←List.getD_eq_getElem?_getD]
 ·unfold rmv
  rw[List.take_of_length_le (by omega),List.drop_of_length_le (by omega),List.append_nil]
theorem rmv_mem (h:q∈rmv L k):q∈L:=by
 unfold rmv at h
 rcases List.mem_append.1 h with h|h
 ·exact List.mem_of_mem_take h
 ·exact List.mem_of_mem_drop h
theorem split_at (hk:k<L.length):L=L.take k++L.getD k []::L.drop (k+1):=by
 rw[List.getD_eq_getElem?_getD,List.getElem?_eq_getElem hk,Option.getD_some,←List.drop_eq_getElem_cons hk,List.take_append_drop]
theorem rmv_sT (hk:k<L.length):sT (rmv L k) a b c+tm (L.getD k []) a b c=sT L a b c:=by
 have h:=congrArg (fun l=>sT l a b c) (split_at hk)
 simp only[sT_app,sT] at h
 unfold rmv
 rw[sT_app]
 omega
noncomputable def jn (p:Int) (L:List (List Int)) (i k:Nat) (m:List Int):List (List Int):=if hasZ m=true then rmv (rmv L k) i else (rmv L k).set i (nrm p m)
structure IsPair (p:Int) (L:List (List Int)) (i k:Nat) (m:List Int):Prop where
 ik:i<k
 kl:k<L.length
 m:mrg p (L.getD i []) (L.getD k [])=some m
 before:∀ i' k',i'<k'→k'<L.length→(i'<i∨i'=i∧k'<k)→mrg p (L.getD i' []) (L.getD k' [])=none
def NoPair (p:Int) (L:List (List Int)):Prop:=∀ i k,i<k→k<L.length→mrg p (L.getD i []) (L.getD k [])=none
theorem IsPair.uniq {i' k':Nat} {m':List Int} (h:IsPair p L i k m) (g:IsPair p L i' k' m'):i=i'∧k=k'∧m=m':=by
 have e:i=i'∧k=k':=by
  refine Decidable.byContradiction fun hne=>?_
  have:(i<i'∨i=i'∧k<k')∨(i'<i∨i'=i∧k'<k):=by omega
  rcases this with h1|h1
  ·have:=g.before i k h.ik h.kl h1
   rw[h.m] at this
   cases this
  ·have:=h.before i' k' g.ik g.kl h1
   rw[g.m] at this
   cases this
 obtain⟨rfl,rfl⟩:=e
 have:=h.m.symm.trans g.m
 cases this
 exact⟨rfl,rfl,rfl⟩
theorem IsPair.no (h:IsPair p L i k m) (g:NoPair p L):False:=by
 have:=g i k h.ik h.kl
 rw[h.m] at this
 cases this
inductive Red (p:Int):List (List Int)→List (List Int)→Prop
 | stop {L:List (List Int)}:NoPair p L→Red p L L
 | step {L R:List (List Int)} {i k:Nat} {m:List Int}:IsPair p L i k m→Red p (jn p L i k m) R→Red p L R
theorem Red.next (h:Red p L R) (g:IsPair p L i k m):Red p (jn p L i k m) R:=by
 cases h with
 | stop h=>exact (g.no h).elim
 | step h1 h2=>
  obtain⟨rfl,rfl,rfl⟩:=h1.uniq g
  exact h2
theorem Red.end (h:Red p L R) (g:NoPair p L):R=L:=by
 cases h with
 | stop h=>rfl
 | step h1 h2=>exact (h1.no g).elim
theorem jn_len (hk:k<L.length) (hi:i<k):(jn p L i k m).length<L.length:=by
 unfold jn
 split
 ·rw[rmv_len (by rw[rmv_len hk];omega),rmv_len hk]
  omega
 ·rw[List.length_set,rmv_len hk]
  omega
theorem pair_or:NoPair p L∨∃ i k m,IsPair p L i k m:=by
 by_cases h:∃ i k,i<k∧k<L.length∧mrg p (L.getD i []) (L.getD k [])≠none
 ·right
  -- the least i,then the least k
  have key:∀ N i,L.length-i=N→(∀ i' k',i'<i→i'<k'→k'<L.length→mrg p (L.getD i' []) (L.getD k' [])=none)→(∃ i k,i<k∧k<L.length∧mrg p (L.getD i []) (L.getD k [])≠none)→∃ i k m,IsPair p L i k m:=by
   intro N
   induction N with
   | zero=>
    rintro i hN hb ⟨i',k',h1,h2,h3⟩
    exact absurd (hb i' k' (by omega) h1 h2) h3
   | succ N ih=>
    intro i hN hb hex
    have key2:∀ M k,L.length-k=M→i<k→(∀ k',i<k'→k'<k→mrg p (L.getD i []) (L.getD k' [])=none)→(∃ i k m,IsPair p L i k m)∨∀ k',i<k'→k'<L.length→mrg p (L.getD i []) (L.getD k' [])=none:=by
     intro M
     induction M with
     | zero=>exact fun k hM hik hbk=>.inr fun k' h1 h2=>hbk k' h1 (by omega)
     | succ M ih2=>
      intro k hM hik hbk
      cases e:mrg p (L.getD i []) (L.getD k []) with
      | some m=>
       refine .inl ⟨i,k,m,hik,by omega,e,fun i' k' h1 h2 h3=>?_⟩
       rcases h3 with h3|⟨rfl,h3⟩
       ·exact hb i' k' h3 h1 h2
       ·exact hbk k' h1 h3
      | none=>
       refine ih2 (k+1) (by omega) (by omega) fun k' h1 h2=>?_
       by_cases h3:k'=k
       ·rw[h3];exact e
       ·exact hbk k' h1 (by omega)
    rcases key2 _ (i+1) rfl (by omega) (fun k' h1 h2=>by omega) with h1|h1
    ·exact h1
    ·refine ih (i+1) (by omega) (fun i' k' h2 h3 h4=>?_) hex
     by_cases h5:i'=i
     ·rw[h5];exact h1 k' (by omega) h4
     ·exact hb i' k' (by omega) h3 h4
  exact key _ 0 rfl (fun i' k' h1=>by omega) h
 ·left
  intro i k h1 h2
  refine Decidable.byContradiction fun h3=>h ⟨i,k,h1,h2,h3⟩
theorem red_ex:∀ (N:Nat) (L:List (List Int)),L.length≤N→∃ R,Red p L R
 | 0,L,h=>⟨L,.stop fun i k h1 h2=>by omega⟩
 | N+1,L,h=>by
  rcases pair_or (p:=p) (L:=L) with h1|⟨i,k,m,h1⟩
  ·exact⟨L,.stop h1⟩
  ·have:=jn_len (p:=p) (m:=m) h1.kl h1.ik
   obtain⟨R,hR⟩:=red_ex N (jn p L i k m) (by omega)
   exact⟨R,.step h1 hR⟩
noncomputable def redL (p:Int) (L:List (List Int)):List (List Int):=Classical.choose (red_ex (p:=p) L.length L (Nat.le_refl _))
theorem redL_red:Red p L (redL p L):=Classical.choose_spec (red_ex (p:=p) L.length L (Nat.le_refl _))
structure NL (x:Sch) (L:List (List Int)):Prop where
 g:GX (wps x L)
 n:∀ q∈L,Nm q
theorem GX.of {x:Sch} (hs:szX x=true) (hl:L.length≤30) (h:∀ q∈L,By 27 q∧okProd x q=true):GX (wps x L):=by
 have w:Wid 27 L:=fun q hq=>(h q hq).1.1
 refine⟨?_,w,(byt_iff w).2 fun q hq=>(h q hq).1⟩
 unfold isX
 rw[Bool.and_eq_true,Bool.and_eq_true]
 exact⟨⟨hs,decide_eq_true hl⟩,List.all_eq_true.2 fun q hq=>(h q hq).2⟩
theorem isX_parts {x:Sch} (h:isX x=true):szX x=true∧x.ps.length≤30∧∀ q∈x.ps,okProd x q=true:=by
 unfold isX at h
 rw[Bool.and_eq_true,Bool.and_eq_true] at h
 exact⟨h.1.1,of_decide_eq_true h.1.2,List.all_eq_true.1 h.2⟩
theorem GX.parts {x:Sch} (g:GX x):szX x=true∧x.ps.length≤30∧∀ q∈x.ps,By 27 q∧okProd x q=true:=by
 obtain⟨h1,h2,h3⟩:=isX_parts g.ok
 exact⟨h1,h2,fun q hq=>⟨(byt_iff g.w).1 g.b q hq,h3 q hq⟩⟩
theorem GX.pr {x:Sch} (g:GX x) (h:q∈x.ps):Pr x.p q:=by
 obtain⟨h1,h2⟩:=g.parts.2.2 q h
 exact Pr.of h1 h2
theorem szX_isP {x:Sch} (h:szX x=true):isP x.p=true:=by
 unfold szX at h
 simp only[Bool.and_eq_true] at h
 exact h.1.1.1
noncomputable def nrms (p:Int) (L:List (List Int)):List (List Int):=L.map (nrm p)
theorem nrms_sT (hp:isP p=true) (h:∀ q∈L,Pr p q) (ha:a<9) (hb:b<9) (hc:c<9):Cg p (sT (nrms p L) a b c) (sT L a b c):=by
 induction L with
 | nil=>exact .rfl'
 | cons q L ih=>
  show Cg p (tm (nrm p q) a b c+sT (nrms p L) a b c) _
  exact (nrm_tm hp (h q (by simp)) ha hb hc).add (ih fun r hr=>h r (by simp[hr]))
theorem nrms_NL {x:Sch} (g:GX x):NL x (nrms x.p x.ps)∧EqS x (wps x (nrms x.p x.ps)):=by
 obtain⟨h1,h2,h3⟩:=g.parts
 have hp:=szX_isP h1
 refine⟨⟨GX.of h1 (by unfold nrms;rw[List.length_map];exact h2) fun q hq=>?_,fun q hq=>?_⟩,⟨rfl,rfl,rfl,rfl⟩,fun a b c ha hb hc=>(nrms_sT hp (fun q hq=>g.pr hq) ha hb hc).symm⟩
 ·obtain⟨r,hr,rfl⟩:=List.mem_map.1 hq
  exact⟨(nrm_Pr hp (g.pr hr)).bb,nrm_ok hp (h3 r hr).1 (h3 r hr).2⟩
 ·obtain⟨r,hr,rfl⟩:=List.mem_map.1 hq
  exact nrm_Nm hp (g.pr hr)
theorem gd_mem {i:Nat} (hi:i<L.length):L.getD i []∈L:=by
 rw[List.getD_eq_getElem?_getD,List.getElem?_eq_getElem hi]
 exact List.getElem_mem hi
theorem pair_m {x:Sch} (n:NL x L) (h:IsPair x.p L i k m):By 27 m∧(∀ j,j<3→okForm x.p (pl x j) (seg m j)=true)∧(hasZ m=false→okProd x m=true):=by
 have hp:=isP_in (szX_isP n.g.parts.1)
 have hi:i<L.length:=Nat.lt_trans h.ik h.kl
 have qi:=n.g.parts.2.2 _ (gd_mem hi)
 have qk:=n.g.parts.2.2 _ (gd_mem h.kl)
 have ok:=mrg_ok hp.1 qi.1.1 (okProd_iff.1 qi.2).1 (okProd_iff.1 qk.2).1 h.m
 exact⟨mrg_by hp qi.1 h.m,ok,fun hz=>okProd_iff.2 ⟨ok,hz⟩⟩
theorem jn_NL {x:Sch} (n:NL x L) (h:IsPair x.p L i k m):NL x (jn x.p L i k m)∧EqS (wps x L) (wps x (jn x.p L i k m)):=by
 obtain⟨h1,h2,h3⟩:=n.g.parts
 have hP:isP x.p=true:=szX_isP h1
 have hi:i<L.length:=Nat.lt_trans h.ik h.kl
 obtain⟨mb,mo,mz⟩:=pair_m n h
 have hl:=jn_len (p:=x.p) (m:=m) h.kl h.ik
 have hm:∀ q∈jn x.p L i k m,(By 27 q∧okProd x q=true)∧Nm q:=fun q hq=>by
  unfold jn at hq
  split at hq
  ·have:=rmv_mem (rmv_mem hq)
   exact⟨h3 q this,n.n q this⟩
  ·rename_i hz
   rcases List.mem_or_eq_of_mem_set hq with hq|rfl
   ·have:=rmv_mem hq
    exact⟨h3 q this,n.n q this⟩
   ·have hz:hasZ m=false:=by simpa using hz
    have pm:=Pr.of mb (mz hz)
    exact⟨⟨(nrm_Pr hP pm).bb,nrm_ok hP mb (mz hz)⟩,nrm_Nm hP pm⟩
 refine⟨⟨GX.of h1 (by have:L.length≤30:=h2;omega) fun q hq=>(hm q hq).1,fun q hq=>(hm q hq).2⟩,⟨rfl,rfl,rfl,rfl⟩,fun a b c ha hb hc=>?_⟩
 show Cg x.p (sT L a b c) (sT (jn x.p L i k m) a b c)
 have e1:=rmv_sT (a:=a) (b:=b) (c:=c) h.kl
 have e2:Cg x.p (tm m a b c) (tm (L.getD i []) a b c+tm (L.getD k []) a b c):=mrg_tm (n.g.parts.2.2 _ (gd_mem hi)).1.1 h.m ha hb hc
 have li:i<(rmv L k).length:=by rw[rmv_len h.kl];have:=h.ik;have:=h.kl;omega
 unfold jn
 cases hz:hasZ m with
 | true=>
  rw[if_pos rfl]
  have e3:=rmv_sT (a:=a) (b:=b) (c:=c) li
  rw[rmv_at h.ik] at e3
  rw[tm_zero ha hb hc hz] at e2
  obtain⟨u,hu⟩:=e2
  exact⟨-u,by rw[Int.mul_neg];omega⟩
 | false=>
  rw[if_neg (by decide)]
  have e3:=sT_set (q:=nrm x.p m) (a:=a) (b:=b) (c:=c) li
  rw[rmv_at h.ik] at e3
  have e4:Cg x.p (tm (nrm x.p m) a b c) (tm (L.getD i []) a b c+tm (L.getD k []) a b c):=(nrm_tm hP (Pr.of mb (mz hz)) ha hb hc).trans e2
  obtain⟨u,hu⟩:=e4
  exact⟨-u,by rw[Int.mul_neg];omega⟩
theorem red_NL {x:Sch} (h:Red x.p L R) (n:NL x L):NL x R∧EqS (wps x L) (wps x R)∧R.length≤L.length∧NoPair x.p R:=by
 generalize hp:x.p=p at h
 induction h with
 | stop h=>exact⟨n,.rfl',Nat.le_refl _,h⟩
 | @step _ _ _ _ m' h1 h2 ih=>
  rw[←hp] at h1 h2 ih
  have hl:=jn_len (p:=x.p) (m:=m') h1.kl h1.ik
  obtain⟨n',e'⟩:=jn_NL n h1
  obtain⟨a1,a2,a3,a4⟩:=ih n'
  exact⟨a1,e'.trans a2,by omega,hp▸a4⟩
noncomputable def redX (x:Sch):Sch:=wps x (redL x.p (nrms x.p x.ps))
theorem redX_ok {x:Sch} (g:GX x):GX (redX x)∧EqS x (redX x)∧(redX x).ps.length≤x.ps.length:=by
 obtain⟨h1,h2⟩:=nrms_NL g
 obtain⟨n,e,l,-⟩:=red_NL (redL_red (p:=x.p) (L:=nrms x.p x.ps)) h1
 refine⟨n.g,h2.trans e,?_⟩
 have:(nrms x.p x.ps).length=x.ps.length:=List.length_map _
 show (redL x.p (nrms x.p x.ps)).length≤_
 omega
theorem told_jn {x:Sch} (n:NL x L) (h:IsPair x.p L i k m):nrms x.p (toldL ((rmv L k).set i m))=jn x.p L i k m:=by
 obtain⟨h1,h2,h3⟩:=n.g.parts
 have hP:isP x.p=true:=szX_isP h1
 obtain⟨mb,mo,mz⟩:=pair_m n h
 have li:i<(rmv L k).length:=by rw[rmv_len h.kl];have:=h.ik;have:=h.kl;omega
 have nz:∀ q∈rmv L k,hasZ q=false:=fun q hq=>(okProd_iff.1 (h3 q (rmv_mem hq)).2).2
 have idr:∀ l:List (List Int),(∀ q∈l,q∈rmv L k)→nrms x.p l=l:=fun l hl=>by
  unfold nrms
  exact (List.map_congr_left (g:=id) fun q hq=>nrm_id hP (n.g.pr (rmv_mem (hl q hq))) (n.n q (rmv_mem (hl q hq)))).trans (List.map_id _)
 have idt:∀ l:List (List Int),(∀ q∈l,q∈rmv L k)→toldL l=l:=fun l hl=>by
  unfold toldL
  rw[List.filter_eq_self]
  intro q hq
  rw[nz q (hl q hq)]
  rfl
 have st:(rmv L k).set i m=(rmv L k).take i++m::(rmv L k).drop (i+1):=by rw[List.set_eq_take_append_cons_drop,if_pos li]
 have ta:∀ q∈(rmv L k).take i,q∈rmv L k:=fun q hq=>List.mem_of_mem_take hq
 have td:∀ q∈(rmv L k).drop (i+1),q∈rmv L k:=fun q hq=>List.mem_of_mem_drop hq
 have t1:=idt _ ta
 have t2:=idt _ td
 unfold jn
 rw[st]
 cases hz:hasZ m with
 | true=>
  rw[if_pos rfl]
  have:toldL ((rmv L k).take i++m::(rmv L k).drop (i+1))=rmv (rmv L k) i:=by
   unfold toldL at t1 t2 ⊢
   rw[List.filter_append,List.filter_cons,if_neg (by simp[hz]),t1,t2]
   rfl
  rw[this]
  exact idr _ fun q hq=>rmv_mem hq
 | false=>
  rw[if_neg (by decide),List.set_eq_take_append_cons_drop,if_pos li]
  have:toldL ((rmv L k).take i++m::(rmv L k).drop (i+1))=(rmv L k).take i++m::(rmv L k).drop (i+1):=by
   unfold toldL at t1 t2 ⊢
   rw[List.filter_append,List.filter_cons,if_pos (by simp[hz]),t1,t2]
  rw[this]
  have i1:=idr _ ta
  have i2:=idr _ td
  unfold nrms at i1 i2 ⊢
  rw[List.map_append,List.map_cons,i1,i2]
end
end Go.Proofs.Ytapafdpnmakekaa.X

set_option linter.unusedVariables false
set_option linter.unusedSimpArgs false
set_option maxRecDepth 20000
set_option maxHeartbeats 4000000
namespace Go.Proofs.Ytapafdpnmakekaa.X
open Go Go.RowKit
open Nat (reduceEqDiff reduceAdd reduceSub reduceLeDiff)
theorem lead_at:∀ {q:List Int} {i:Nat},(∀ j,j<i→q.getD j 0=0)→q.getD i 0≠0→lead q=q.getD i 0
 | [],i,_,h=>by simp at h
 | a::l,0,_,h=>by
  rw[List.getD_cons_zero] at h ⊢
  rw[lead,if_neg h]
 | a::l,i+1,h0,h=>by
  have:=h0 0 (by omega)
  rw[List.getD_cons_zero] at this
  rw[List.getD_cons_succ] at h ⊢
  rw[lead,if_pos this]
  exact lead_at (fun j hj=>by have:=h0 (j+1) (by omega);rwa [List.getD_cons_succ] at this) h
theorem lead_no:∀ {q:List Int},(∀ j,j<q.length→q.getD j 0=0)→lead q=0
 | [],_=>rfl
 | a::l,h=>by
  have:=h 0 (by simp)
  rw[List.getD_cons_zero] at this
  rw[lead,if_pos this]
  exact lead_no fun j hj=>by have:=h (j+1) (by simpa using hj);rwa [List.getD_cons_succ] at this
theorem i_first {q:List Int} {h:AH} {Q:Value→AH→Prop} (hq:By 9 q) (hQ:∀ h',h<+:h'→Q (I64 (lead q)) h'):WF S 325 [aggV .u8 q] h Q:=by
 refine WF_fn (fn:=c325) rfl rfl ?_
 dsimp only[c325,oO,oM,oS,oG,oK,oE,oL,oF,oX,oN]
 have q9:=hq.1
 have tq:(cel .u8 q).take 9=cel .u8 q:=List.take_of_length_le (by rw[cel_len,q9];exact Nat.le_refl _)
 ((try simp (maxSteps:=3000000) (dsimp:=false) (disch:=first|omega|simp only[lnx];omega) only[↓ypre,ypost,↓reduceIte,reduceEqDiff,reduceAdd,reduceSub,reduceLeDiff,zz0,ynew,aggV,cellsL_cel,cel_all]);try simp only[yback])
 generalize hH1:AH.new h _=H1
 obtain⟨hb1,p1,n1⟩:=new_facts hH1
 ((try simp (maxSteps:=3000000) (dsimp:=false) (disch:=first|omega|simp only[lnx];omega) only[↓ypre,ypost,↓reduceIte,reduceEqDiff,reduceAdd,reduceSub,reduceLeDiff,zz0,ynew,rdn_of hb1,cel_len,q9,tq]);try simp only[yback])
 refine WC_loop_inv (fun m f K1=>∃ (i:Nat),m=9-i∧i≤9∧f 5=.agg (cel .u8 q).toArray∧f 6=I64 i∧K1=H1∧((∀ j,j<i→q.getD j 0=0))) ?_ (9-0) _ _ ⟨0,rfl,by omega,(by first|rfl|simp[upd_apply]),(by first|rfl|simp[upd_apply]),rfl,(fun _ h=>absurd h (Nat.not_lt_zero _))⟩
 rintro m f K1 ⟨i,rfl,hi,f5,f6,rfl,no⟩
 by_cases hlt:(i:Int)<9
 ·have g1:=idx1V_cel (k:=.u8) (q:=q) (n:=9) (j:=i) (kk:=.i64) (by omega) (by omega)
  have b1:=hq.2 i (by omega)
  by_cases c:q.getD i 0≠0
  ·((try simp (maxSteps:=3000000) (dsimp:=false) (disch:=first|omega|simp only[lnx];omega) only[↓ypre,ypost,↓reduceIte,reduceEqDiff,reduceAdd,reduceSub,reduceLeDiff,zz0,ynew,f5,f6,decide_eq_true hlt,↓WX_idx1,g1,decide_eq_true c,wrap64_in]);try simp only[yback])
   rw[lead_at no c] at hQ
   exact hQ _ p1
  ·((try simp (maxSteps:=3000000) (dsimp:=false) (disch:=first|omega|simp only[lnx];omega) only[↓ypre,ypost,↓reduceIte,reduceEqDiff,reduceAdd,reduceSub,reduceLeDiff,zz0,ynew,f5,f6,decide_eq_true hlt,↓WX_idx1,g1,decide_eq_false c,wrap64_in]);try simp only[yback])
   refine InvQ_go (9-(i+1)) (by omega) ⟨(i+1),rfl,by omega,(by first|rfl|exact f5|(simp only[upd_apply];rfl)|(show I64 _=_;congr 1;omega)),(by first|rfl|exact f6|(simp only[upd_apply];rfl)|(show I64 _=_;congr 1;omega)),rfl,(step_all no (Decidable.not_not.1 c))⟩
 ·((try simp (maxSteps:=3000000) (dsimp:=false) (disch:=first|omega|simp only[lnx];omega) only[↓ypre,ypost,↓reduceIte,reduceEqDiff,reduceAdd,reduceSub,reduceLeDiff,zz0,ynew,f5,f6,decide_eq_false hlt]);try simp only[yback])
  rw[lead_no fun j hj=>no j (by omega)] at hQ
  exact hQ _ p1
theorem i_multiple {p k:Int} {q:List Int} {h:AH} {Q:Value→AH→Prop} (hp:2≤p∧p≤5) (hq:By 9 q) (hk:0≤k∧k≤1000) (hQ:∀ h',h<+:h'→Q (aggV .u8 (scF p q k)) h'):WF S 326 [I64 p,aggV .u8 q,I64 k] h Q:=by
 refine WF_fn (fn:=c326) rfl rfl ?_
 dsimp only[c326,oO,oM,oS,oG,oK,oE,oL,oF,oX,oN]
 have q9:=hq.1
 have tq:(cel .u8 q).take 9=cel .u8 q:=List.take_of_length_le (by rw[cel_len,q9];exact Nat.le_refl _)
 ((try simp (maxSteps:=3000000) (dsimp:=false) (disch:=first|omega|simp only[lnx];omega) only[↓ypre,ypost,↓reduceIte,reduceEqDiff,reduceAdd,reduceSub,reduceLeDiff,zz0,ynew,aggV,cellsL_cel,cel_all]);try simp only[yback])
 generalize hH1:AH.new h _=H1
 obtain⟨hb1,p1,n1⟩:=new_facts hH1
 generalize hH2:AH.new H1 _=H2
 obtain⟨hb2,p2,n2⟩:=new_facts hH2
 have g1:=pre_get p2 hb1
 ((try simp (maxSteps:=3000000) (dsimp:=false) (disch:=first|omega|simp only[lnx];omega) only[↓ypre,ypost,↓reduceIte,reduceEqDiff,reduceAdd,reduceSub,reduceLeDiff,zz0,ynew,fillL,zeros9z,cel_all,rdn_of g1,cel_len,q9,tq]);try simp only[yback])
 refine i_sum (a:=z9) (b:=q) hp z9_by hq hk fun H3 p3=>?_
 have g2:=pre_get p3 hb2
 have l2:=get_lt g2
 have sl:(scF p q k).length=9:=scF_len
 have e:addF p z9 q k 9=scF p q k:=rfl
 have w9:=wr_full (vs:=cel .u8 (scF p q k)) g2 (by rw[cel_len,sl];rfl)
 have ts:(cel .u8 (scF p q k)).take 9=cel .u8 (scF p q k):=List.take_of_length_le (by rw[cel_len,sl];exact Nat.le_refl _)
 rw[e]
 ((try simp (maxSteps:=3000000) (dsimp:=false) (disch:=first|omega|simp only[lnx];omega) only[↓ypre,ypost,↓reduceIte,reduceEqDiff,reduceAdd,reduceSub,reduceLeDiff,zz0,ynew,aggV,cellsL_cel,cel_len,sl,cel_all,w9,rdn_put_same,ts]);try simp only[yback])
 exact hQ _ (pre_put (p1.trans (p2.trans p3)) (by omega))
theorem Pr.b9 {p:Int} {q:List Int} (h:Pr p q) {j:Nat} (hj:j<3):By 9 (seg q j):=seg_by h.bb hj
theorem rd_sg {h:AH} {n f:Nat} {q:List Int} {e:TypeId} {ro full:Bool} (g:h.get n=some ⟨cel .u8 q,e,ro,full⟩) (hq:q.length=27) (hf:f<3):∀ o,o=f*9→h.rdn n o 9=some (cel .u8 (seg q f)):=fun o e=>by
 rw[e]
 exact rd_seg g hq hf
theorem i_normal {p:Int} {q:List Int} {h:AH} {Q:Value→AH→Prop} (hp:isP p=true) (hq:Pr p q) (hQ:∀ h',h<+:h'→Q (aggV .u8 (nrm p q)) h'):WF S 280 [I64 p,aggV .u8 q] h Q:=by
 refine WF_fn (fn:=c280) rfl rfl ?_
 dsimp only[c280,oO,oM,oS,oG,oK,oE,oL,oF,oX,oN]
 have pp:=isP_in hp
 have q27:=hq.bb.1
 have ld0:=hq.ld (j:=0) (by omega)
 have ld1:=hq.ld (j:=1) (by omega)
 have iv0:=inv_spec hp ld0
 have iv1:=inv_spec hp ld1
 have c0:(cel .u8 q).take 9=cel .u8 (seg q 0):=by have:=cel_seg (q:=q) (f:=0);rwa [Nat.zero_mul,List.drop_zero] at this
 ((try simp (maxSteps:=3000000) (dsimp:=false) (disch:=first|omega|simp only[lnx];omega) only[↓ypre,ypost,↓reduceIte,reduceEqDiff,reduceAdd,reduceSub,reduceLeDiff,zz0,ynew,aggV,cellsL_cel,cel_all,cel_len,q27,c0]);try simp only[yback])
 generalize hH1:AH.new h _=H1
 obtain⟨hb1,p1,n1⟩:=new_facts hH1
 generalize hH2:AH.new H1 _=H2
 obtain⟨hb2,p2,n2⟩:=new_facts hH2
 have g1:=pre_get p2 hb1
 refine i_first (hq.b9 (by omega)) fun H3 p3=>⟨p3,?_⟩
 have g1:=pre_get p3 g1
 ((try simp (maxSteps:=3000000) (dsimp:=false) (disch:=first|omega|simp only[lnx];omega) only[↓ypre,ypost,↓reduceIte,reduceEqDiff,reduceAdd,reduceSub,reduceLeDiff,zz0,ynew,rd_sg g1 q27 (f:=1) (by omega) 9 rfl]);try simp only[yback])
 refine i_first (hq.b9 (by omega)) fun H4 p4=>?_
 have g1:=pre_get p4 g1
 ((try simp (maxSteps:=3000000) (dsimp:=false) (disch:=first|omega|simp only[lnx];omega) only[↓ypre,ypost,↓reduceIte,reduceEqDiff,reduceAdd,reduceSub,reduceLeDiff,zz0,ynew,rd_sg g1 q27 (f:=0) (by omega) 0 rfl]);try simp only[yback])
 refine i_inverse pp ld0 iv0 ?_
 refine⟨List.prefix_refl _,?_⟩
 ((try simp (maxSteps:=3000000) (dsimp:=false) (disch:=first|omega|simp only[lnx];omega) only[↓ypre,ypost,↓reduceIte,reduceEqDiff,reduceAdd,reduceSub,reduceLeDiff,zz0,ynew]);try simp only[yback])
 refine i_multiple (q:=seg q 0) pp (hq.b9 (by omega)) (by have:=iv0.1;have:=iv0.2.1;omega) fun H5 p5=>⟨p5,?_⟩
 have g1:=pre_get p5 g1
 ((try simp (maxSteps:=3000000) (dsimp:=false) (disch:=first|omega|simp only[lnx];omega) only[↓ypre,ypost,↓reduceIte,reduceEqDiff,reduceAdd,reduceSub,reduceLeDiff,zz0,ynew,rd_sg g1 q27 (f:=1) (by omega) 9 rfl]);try simp only[yback])
 refine i_inverse pp ld1 iv1 ?_
 refine⟨List.prefix_refl _,?_⟩
 ((try simp (maxSteps:=3000000) (dsimp:=false) (disch:=first|omega|simp only[lnx];omega) only[↓ypre,ypost,↓reduceIte,reduceEqDiff,reduceAdd,reduceSub,reduceLeDiff,zz0,ynew]);try simp only[yback])
 refine i_multiple (q:=seg q 1) pp (hq.b9 (by omega)) (by have:=iv1.1;have:=iv1.2.1;omega) fun H6 p6=>⟨p6,?_⟩
 have g1:=pre_get p6 g1
 have m1:=mul_in1 (a:=lead (seg q 0)) (b:=lead (seg q 1)) (A:=5) (B:=5) (by omega) (by omega)
 have m2:=tmod_nn (a:=lead (seg q 0)*lead (seg q 1)) (J:=p) (by omega) (by omega)
 ((try simp (maxSteps:=3000000) (dsimp:=false) (disch:=first|omega|simp only[lnx];omega) only[↓ypre,ypost,↓reduceIte,reduceEqDiff,reduceAdd,reduceSub,reduceLeDiff,zz0,ynew,rd_sg g1 q27 (f:=2) (by omega) 18 rfl,wrap64_in,bin_rem (show p≠0 by omega)]);try simp only[yback])
 refine i_multiple (q:=seg q 2) pp (hq.b9 (by omega)) (by omega) fun H7 p7=>?_
 rw[scF_cong (k':=lead (seg q 0)*lead (seg q 1)) pp.1 (hq.b9 (by omega)).1 (Cg.tmod _ _)]
 have g2:=pre_get (p3.trans (p4.trans (p5.trans (p6.trans p7)))) hb2
 have a9:(scF p (seg q 0) (inv p (lead (seg q 0)))).length=9:=scF_len
 have b9:(scF p (seg q 1) (inv p (lead (seg q 1)))).length=9:=scF_len
 have c9:(scF p (seg q 2) (lead (seg q 0)*lead (seg q 1))).length=9:=scF_len
 obtain⟨sa,sb,sc⟩:=sp27 a9 b9 c9
 have n27:=(nrm_Pr hp hq).bb.1
 have w27:=wr_full (vs:=cel .u8 (nrm p q)) g2 (by rw[cel_len,n27];rfl)
 have t27:(cel .u8 (nrm p q)).take 27=cel .u8 (nrm p q):=List.take_of_length_le (by rw[cel_len,n27];exact Nat.le_refl _)
 have l2:=get_lt g2
 have en:scF p (seg q 0) (inv p (lead (seg q 0)))++scF p (seg q 1) (inv p (lead (seg q 1)))++scF p (seg q 2) (lead (seg q 0)*lead (seg q 1))=nrm p q:=rfl
 rw[en] at sc
 ((try simp (maxSteps:=3000000) (dsimp:=false) (disch:=first|omega|simp only[lnx];omega) only[↓ypre,ypost,↓reduceIte,reduceEqDiff,reduceAdd,reduceSub,reduceLeDiff,zz0,ynew,aggV,cellsL_cel,cel_len,a9,b9,c9,zeros27,sa,sb,sc,cel_all,n27,List.length_replicate,w27,rdn_put_same,t27]);try simp only[yback])
 exact hQ _ (pre_put (p1.trans (p2.trans (p3.trans (p4.trans (p5.trans (p6.trans p7)))))) (by omega))
theorem nrms_next {p:Int} {L:List (List Int)} {i:Nat} (hi:i<L.length):nrms p (L.take (i+1))=nrms p (L.take i)++[nrm p (L.getD i [])]:=by
 unfold nrms
 rw[take_next (d:=[]) hi,List.map_append]
 rfl
theorem i_normals {x:Sch} {v:Value} {h:AH} {Q:Value→AH→Prop} (g:GX x) (hv:Prods h v x.ps) (hQ:∀ w h',h<+:h'→OwnP h.length h' w (nrms x.p x.ps)→Q (schV (wps x (nrms x.p x.ps)) w) h'):WF S 159 [schV x v] h Q:=by
 refine WF_fn (fn:=c159) rfl rfl ?_
 dsimp only[c159,oO,oM,oS,oG,oK,oE,oL,oF,oX,oN]
 have o1:=hv.one
 obtain⟨hs,h30,hall⟩:=g.parts
 have hP:=szX_isP hs
 ((try simp (maxSteps:=3000000) (dsimp:=false) (disch:=first|omega|simp only[lnx];omega) only[↓ypre,ypost,↓reduceIte,reduceEqDiff,reduceAdd,reduceSub,reduceLeDiff,zz0,ynew,schV,o1,fillL,zrep]);try simp only[yback])
 generalize hH1:AH.new h _=H1
 obtain⟨hb1,p1,n1⟩:=new_facts hH1
 generalize hH2:AH.new H1 _=H2
 obtain⟨hb2,p2,n2⟩:=new_facts hH2
 generalize hH3:AH.new H2 _=H3
 obtain⟨hb3,p3,n3⟩:=new_facts hH3
 have g1:=pre_get (p2.trans p3) hb1
 have g2:=pre_get p3 hb2
 have P3:=p1.trans (p2.trans p3)
 have vl:=hv.1.len
 have w0:Wid 27 (nrms x.p (x.ps.take 0)):=fun q hq=>by simp[nrms] at hq
 ((try simp (maxSteps:=3000000) (dsimp:=false) (disch:=first|omega|simp only[lnx];omega) only[↓ypre,ypost,↓reduceIte,reduceEqDiff,reduceAdd,reduceSub,reduceLeDiff,zz0,ynew,rd1_of g1,vl]);try simp only[yback])
 refine WC_loop_inv (fun m f K1=>∃ (i:Nat) (kb:Nat) (fu:Bool),m=x.ps.length-i∧i≤x.ps.length∧f 1=.pointer (some ⟨h.length,0,none⟩)∧f 2=.pointer (some ⟨H1.length,0,none⟩)∧f 3=.slice (some ⟨kb,0,none⟩) (nrms x.p (x.ps.take i)).length 27∧f 8=v∧f 9=I64 x.ps.length∧f 10=I64 i∧(h<+:K1)∧(K1.get h.length=some ⟨[I64 x.p,I64 x.n,I64 x.m,I64 x.k,v],26,false,true⟩)∧(K1.get H1.length=some ⟨_,_,false,true⟩)∧(K1.get kb=some ⟨cel .u8 (nrms x.p (x.ps.take i)).flatten,138,false,fu⟩)∧(H2.length≤kb)∧(Wid 27 (nrms x.p (x.ps.take i)))) ?_ (x.ps.length-0) _ _ ⟨0,H2.length,true,rfl,by omega,(by first|rfl|simp[upd_apply]),(by first|rfl|simp[upd_apply]),(by first|rfl|simp[upd_apply]),(by first|rfl|simp[upd_apply]),(by first|rfl|simp[upd_apply]),(by first|rfl|simp[upd_apply]),P3,g1,g2,hb3,Nat.le_refl _,w0⟩
 rintro m f K1 ⟨i,kb,fu,rfl,hi,f1,f2,f3,f8,f9,f10,pp,g1,g2,gb,hk,wn⟩
 by_cases hlt:(i:Int)<x.ps.length
 ·have hi:i<x.ps.length:=by omega
  obtain⟨nn,off,ix,rd⟩:=((hv.pre pp).1).at hi
  have prq:=g.pr (gd_mem hi)
  have q27:=prq.bb.1
  have r27:AH.rdn K1 nn off 27=some (cel .u8 (x.ps.getD i [])):=by
   have:=rd.1 0 27 (by omega)
   rwa [Nat.add_zero,List.drop_zero,List.take_of_length_le (by omega)] at this
  have t27:(cel .u8 (x.ps.getD i [])).take 27=cel .u8 (x.ps.getD i []):=List.take_of_length_le (by rw[cel_len,q27];exact Nat.le_refl _)
  ((try simp (maxSteps:=3000000) (dsimp:=false) (disch:=first|omega|simp only[lnx];omega) only[↓ypre,ypost,↓reduceIte,reduceEqDiff,reduceAdd,reduceSub,reduceLeDiff,zz0,ynew,f1,f2,f3,f8,f9,f10,decide_eq_true hlt,ix,r27,cel_all,cel_len,q27,sp27z q27,zrep27,splice_27 q27]);try simp only[yback])
  generalize hJ1:AH.new K1 _=J1
  obtain⟨b1,s1,m1⟩:=new_facts hJ1
  ((try simp (maxSteps:=3000000) (dsimp:=false) (disch:=first|omega|simp only[lnx];omega) only[↓ypre,ypost,↓reduceIte,reduceEqDiff,reduceAdd,reduceSub,reduceLeDiff,zz0,ynew,f1,f2,f3,f8,f9,f10,rd1_of (pre_get s1 g1),rdn_of b1,cel_len,q27,t27]);try simp only[yback])
  refine i_normal hP prq fun J2 s2=>?_
  have n27:=(nrm_Pr hP prq).bb.1
  have tn:(cel .u8 (nrm x.p (x.ps.getD i []))).take 27=cel .u8 (nrm x.p (x.ps.getD i [])):=List.take_of_length_le (by rw[cel_len,n27];exact Nat.le_refl _)
  have S2:=s1.trans s2
  have ln:(nrms x.p (x.ps.take i)).length=i:=by unfold nrms;rw[List.length_map,List.length_take];omega
  ((try simp (maxSteps:=3000000) (dsimp:=false) (disch:=first|omega|simp only[lnx];omega) only[↓ypre,ypost,↓reduceIte,reduceEqDiff,reduceAdd,reduceSub,reduceLeDiff,zz0,ynew,f1,f2,f3,f8,f9,f10,aggV,cellsL_cel,cel_len,n27,zrep27,sp27z n27,fillL,cel_all,List.append_nil,List.length_replicate]);try simp only[yback])
  refine app_kp (bytes:=27) (pre_get S2 gb) wn n27 (by omega) (by omega) fun H' l' k' g' w'=>?_
  have lkb:=get_lt gb
  have hS:=pre_len S2
  have g1:=k'.get (by omega) (pre_get S2 g1)
  have g2:=k'.get (by omega) (pre_get S2 g2)
  ((try simp (maxSteps:=3000000) (dsimp:=false) (disch:=first|omega|simp only[lnx];omega) only[↓ypre,ypost,↓reduceIte,reduceEqDiff,reduceAdd,reduceSub,reduceLeDiff,zz0,ynew,f1,f2,f3,f8,f9,f10,wrap64_in]);try simp only[yback])
  rw[←nrms_next hi] at g' w'
  refine InvQ_go (x.ps.length-(i+1)) (by omega) ⟨(i+1),(J2.length+1),false,rfl,by omega,(by first|rfl|exact f1|(simp only[upd_apply];rfl)|(show I64 _=_;congr 1;omega)),(by first|rfl|exact f2|(simp only[upd_apply];rfl)|(show I64 _=_;congr 1;omega)),(by rw[nrms_next hi,List.length_append];rfl),(by first|rfl|exact f8|(simp only[upd_apply];rfl)|(show I64 _=_;congr 1;omega)),(by first|rfl|exact f9|(simp only[upd_apply];rfl)|(show I64 _=_;congr 1;omega)),(by first|rfl|exact f10|(simp only[upd_apply];rfl)|(show I64 _=_;congr 1;omega)),(k'.pre (pp.trans S2) (by omega)),g1,g2,g',(by omega),w'⟩
 ·have ei:i=x.ps.length:=by omega
  subst ei
  rw[List.take_length] at gb wn f3
  ((try simp (maxSteps:=3000000) (dsimp:=false) (disch:=first|omega|simp only[lnx];omega) only[↓ypre,ypost,↓reduceIte,reduceEqDiff,reduceAdd,reduceSub,reduceLeDiff,zz0,ynew,f1,f2,f3,f8,f9,f10,decide_eq_false hlt,rdn_of g1]);try simp only[yback])
  refine i_with (x:=x) (L:=nrms x.p x.ps) (v:=v) o1 rfl rfl fun H4 p4=>?_
  have g2:=pre_get p4 g2
  have l2:=get_lt g2
  have gb:=pre_get p4 gb
  have ln:(nrms x.p x.ps).length=x.ps.length:=List.length_map _
  ((try simp (maxSteps:=3000000) (dsimp:=false) (disch:=first|omega|simp only[lnx];omega) only[↓ypre,ypost,↓reduceIte,reduceEqDiff,reduceAdd,reduceSub,reduceLeDiff,zz0,ynew,f1,f2,f3,f8,f9,f10,schV,wr_of g2,splice_eq,rdn_put_same]);try simp only[yback])
  exact hQ _ _ (pre_put (pp.trans p4) (by omega)) ⟨wn,.inr ⟨kb,fu,rfl,by omega,by rw[get_put_ne (by omega)];exact gb⟩⟩
theorem i_times {p:Int} {fa ga:List Int} {h:AH} {Q:Value→AH→Prop} (hp:isP p=true) (hf:Fm p fa) (hz:isZ fa=false) (bf:By 9 fa) (bg:By 9 ga) (lg:0≤lead ga) (hQ:∀ h',h<+:h'→Q (I64 (tms p fa ga)) h'):WF S 327 [I64 p,aggV .u8 fa,aggV .u8 ga] h Q:=by
 refine WF_fn (fn:=c327) rfl rfl ?_
 dsimp only[c327,oO,oM,oS,oG,oK,oE,oL,oF,oX,oN]
 have pp:=isP_in hp
 obtain⟨P,rfl⟩:∃ P:Nat,p=P:=⟨p.toNat,by omega⟩
 have f9:=bf.1
 have g9:=bg.1
 have tf:(cel .u8 fa).take 9=cel .u8 fa:=List.take_of_length_le (by rw[cel_len,f9];exact Nat.le_refl _)
 have tg:(cel .u8 ga).take 9=cel .u8 ga:=List.take_of_length_le (by rw[cel_len,g9];exact Nat.le_refl _)
 ((try simp (maxSteps:=3000000) (dsimp:=false) (disch:=first|omega|simp only[lnx];omega) only[↓ypre,ypost,↓reduceIte,reduceEqDiff,reduceAdd,reduceSub,reduceLeDiff,zz0,ynew,aggV,cellsL_cel,cel_all]);try simp only[yback])
 generalize hH1:AH.new h _=H1
 obtain⟨hb1,p1,n1⟩:=new_facts hH1
 generalize hH2:AH.new H1 _=H2
 obtain⟨hb2,p2,n2⟩:=new_facts hH2
 have g1:=pre_get p2 hb1
 refine WC_loop_inv (fun m f K1=>∃ (i:Nat),m=P-i∧i≤P∧f 0=I64 P∧f 4=.pointer (some ⟨h.length,0,none⟩)∧f 5=.pointer (some ⟨H1.length,0,none⟩)∧f 7=I64 i∧(H2<+:K1)∧(1≤i)∧((∀ s:Int,1≤s→s<i→scF P fa s≠ga))) ?_ (P-1) _ _ ⟨1,rfl,by omega,(by first|rfl|simp[upd_apply]),(by first|rfl|simp[upd_apply]),(by first|rfl|simp[upd_apply]),(by first|rfl|simp[upd_apply]),List.prefix_refl _,Nat.le_refl _,(fun s h1 h2=>by omega)⟩
 rintro m f K1 ⟨i,rfl,hi,f0,f4,f5,f7,pp2,h1,no⟩
 by_cases hlt:(i:Int)<P
 ·((try simp (maxSteps:=3000000) (dsimp:=false) (disch:=first|omega|simp only[lnx];omega) only[↓ypre,ypost,↓reduceIte,reduceEqDiff,reduceAdd,reduceSub,reduceLeDiff,zz0,ynew,f0,f4,f5,f7,decide_eq_true hlt,rdn_of (pre_get pp2 g1),cel_len,f9,tf]);try simp only[yback])
  refine i_multiple (k:=i) pp bf (by omega) fun K2 p3=>⟨p3,?_⟩
  have g2:=pre_get (pp2.trans p3) hb2
  have e:=eqaV_cel (k:=.u8) (n:=9) (scF_len (p:=P) (f:=fa) (k:=i)) g9 (by omega)
  by_cases hs:scF P fa i=ga
  ·have e2:(scF P fa i==ga)=true:=by simpa using hs
   rw[e2] at e
   ((try simp (maxSteps:=3000000) (dsimp:=false) (disch:=first|omega|simp only[lnx];omega) only[↓ypre,ypost,↓reduceIte,reduceEqDiff,reduceAdd,reduceSub,reduceLeDiff,zz0,ynew,f0,f4,f5,f7,aggV,rdn_of g2,cel_len,g9,tg,e]);try simp only[yback])
   rw[tms_some hp hf hz (by omega) hs] at hQ
   exact hQ _ (p1.trans (p2.trans (pp2.trans p3)))
  ·have e2:(scF P fa i==ga)=false:=by simpa using hs
   rw[e2] at e
   ((try simp (maxSteps:=3000000) (dsimp:=false) (disch:=first|omega|simp only[lnx];omega) only[↓ypre,ypost,↓reduceIte,reduceEqDiff,reduceAdd,reduceSub,reduceLeDiff,zz0,ynew,f0,f4,f5,f7,aggV,rdn_of g2,cel_len,g9,tg,e,wrap64_in]);try simp only[yback])
   refine InvQ_go (P-(i+1)) (by omega) ⟨(i+1),rfl,by omega,(by first|rfl|exact f0|(simp only[upd_apply];rfl)|(show I64 _=_;congr 1;omega)),(by first|rfl|exact f4|(simp only[upd_apply];rfl)|(show I64 _=_;congr 1;omega)),(by first|rfl|exact f5|(simp only[upd_apply];rfl)|(show I64 _=_;congr 1;omega)),(by first|rfl|exact f7|(simp only[upd_apply];rfl)|(show I64 _=_;congr 1;omega)),(pp2.trans p3),(by omega),?_⟩
   intro s h1 h2
   by_cases h3:s<i
   ·exact no s h1 h3
   ·have:s=i:=by omega
    rw[this]
    exact hs
 ·((try simp (maxSteps:=3000000) (dsimp:=false) (disch:=first|omega|simp only[lnx];omega) only[↓ypre,ypost,↓reduceIte,reduceEqDiff,reduceAdd,reduceSub,reduceLeDiff,zz0,ynew,f0,f4,f5,f7,decide_eq_false hlt]);try simp only[yback])
  rw[tms_none hp hf hz lg fun s h1 h2=>no s h1 (by omega)] at hQ
  exact hQ _ (p1.trans (p2.trans pp2))
theorem beq_seg {a b:List Int}:(a==b)=decide (a=b):=by
 by_cases h:a=b<;>simp[h]
theorem mrg_1 {p:Int} {q r:List Int} (h:seg q 0=seg r 0∧seg q 1=seg r 1):mrg p q r=some (wth q 2 (addF p (seg q 2) (seg r 2) 1 9)):=by unfold mrg;rw[if_pos h]
theorem mrg_2 {p:Int} {q r:List Int} (h:¬ (seg q 0=seg r 0∧seg q 1=seg r 1)) (h2:seg q 0=seg r 0∧tms p (seg q 2) (seg r 2)≠0):mrg p q r=some (wth q 1 (addF p (seg q 1) (seg r 1) (tms p (seg q 2) (seg r 2)) 9)):=by unfold mrg;rw[if_neg h,if_pos h2]
theorem mrg_3 {p:Int} {q r:List Int} (h:¬ (seg q 0=seg r 0∧seg q 1=seg r 1)) (h2:¬ (seg q 0=seg r 0∧tms p (seg q 2) (seg r 2)≠0)) (h3:seg q 1=seg r 1∧tms p (seg q 2) (seg r 2)≠0):mrg p q r=some (wth q 0 (addF p (seg q 0) (seg r 0) (tms p (seg q 2) (seg r 2)) 9)):=by unfold mrg;rw[if_neg h,if_neg h2,if_pos h3]
theorem mrg_4 {p:Int} {q r:List Int} (h:¬ (seg q 0=seg r 0∧seg q 1=seg r 1)) (h2:¬ (seg q 0=seg r 0∧tms p (seg q 2) (seg r 2)≠0)) (h3:¬ (seg q 1=seg r 1∧tms p (seg q 2) (seg r 2)≠0)):mrg p q r=none:=by unfold mrg;rw[if_neg h,if_neg h2,if_neg h3]
theorem i_merged {p:Int} {q r:List Int} {h:AH} {Q:Value→AH→Prop} (hp:isP p=true) (hq:Pr p q) (hr:Pr p r) (hQ:∀ m h',h<+:h'→mrg p q r=some m→Q (.tuple #[aggV .u8 m,.bool true]) h')
  (hN:∀ h',h<+:h'→mrg p q r=none→Q (.tuple #[aggV .u8 (List.replicate 27 0),.bool false]) h'):WF S 281 [I64 p,aggV .u8 q,aggV .u8 r] h Q:=by
 refine WF_fn (fn:=c281) rfl rfl ?_
 dsimp only[c281,oO,oM,oS,oG,oK,oE,oL,oF,oX,oN]
 have pp:=isP_in hp
 have q27:=hq.bb.1
 have r27:=hr.bb.1
 have c0:∀ {q:List Int},(cel .u8 q).take 9=cel .u8 (seg q 0):=fun {q}=>by have:=cel_seg (q:=q) (f:=0);rwa [Nat.zero_mul,List.drop_zero] at this
 have c2:∀ {q:List Int},((cel .u8 q).drop 18).take 9=cel .u8 (seg q 2):=fun {q}=>cel_seg (f:=2)
 ((try simp (maxSteps:=3000000) (dsimp:=false) (disch:=first|omega|simp only[lnx];omega) only[↓ypre,ypost,↓reduceIte,reduceEqDiff,reduceAdd,reduceSub,reduceLeDiff,zz0,ynew,aggV,cellsL_cel,cel_all,cel_len,q27,r27,c2,zeros27]);try simp only[yback])
 generalize hH1:AH.new h _=H1
 obtain⟨hb1,p1,n1⟩:=new_facts hH1
 generalize hH2:AH.new H1 _=H2
 obtain⟨hb2,p2,n2⟩:=new_facts hH2
 generalize hH3:AH.new H2 _=H3
 obtain⟨hb3,p3,n3⟩:=new_facts hH3
 have ldr:=hr.ld (j:=2) (by omega)
 refine i_times hp (hq.f 2 (by omega)) (hq.z 2 (by omega)) (hq.b9 (by omega)) (hr.b9 (by omega)) (by omega) fun H4 p4=>?_
 have g1:=pre_get (p2.trans (p3.trans p4)) hb1
 have g2:=pre_get (p3.trans p4) hb2
 have g3:=pre_get p4 hb3
 have P4:=p1.trans (p2.trans (p3.trans p4))
 have ti:=tms_in (f:=seg q 2) (g:=seg r 2) pp.1 (by omega) (by have:=(inv_spec hp (hq.ld (j:=2) (by omega))).1;omega)
 have l1:=get_lt g1
 have l3:=get_lt g3
 have q4:=pre_len p4
 have e0:=eqaV_cel (k:=.u8) (seg_n9 q27 (show 0<3 by omega)) (seg_n9 r27 (show 0<3 by omega)) (by omega)
 have e1:=eqaV_cel (k:=.u8) (seg_n9 q27 (show 1<3 by omega)) (seg_n9 r27 (show 1<3 by omega)) (by omega)
 rw[beq_seg] at e0 e1
 have a0:=rd_sg g1 q27 (f:=0) (by omega) 0 rfl
 have b0:=rd_sg g2 r27 (f:=0) (by omega) 0 rfl
 have a1:=rd_sg g1 q27 (f:=1) (by omega) 9 rfl
 have b1:=rd_sg g2 r27 (f:=1) (by omega) 9 rfl
 have a2:=rd_sg g1 q27 (f:=2) (by omega) 18 rfl
 have b2:=rd_sg g2 r27 (f:=2) (by omega) 18 rfl
 have wz:=wr_full (vs:=cel .u8 (List.replicate 27 0)) g3 (by rw[cel_len])
 have tz:(cel .u8 (List.replicate 27 0)).take 27=cel .u8 (List.replicate 27 0):=rfl
 by_cases hA0:seg q 0=seg r 0
 ·by_cases hA1:seg q 1=seg r 1
  ·skip
   ((try simp (maxSteps:=3000000) (dsimp:=false) (disch:=first|omega|simp only[lnx];omega) only[↓ypre,ypost,↓reduceIte,reduceEqDiff,reduceAdd,reduceSub,reduceLeDiff,zz0,ynew,a0,b0,e0,decide_eq_true hA0,a1,b1,e1,decide_eq_true hA1,a2,b2]);try simp only[yback])
   refine i_sum (k:=1) pp (hq.b9 (j:=2) (by omega)) (hr.b9 (j:=2) (by omega)) (by omega) fun H5 p5=>?_
   have ad:=addF_by (k:=1) (b:=seg r 2) (i:=9) pp (hq.b9 (j:=2) (by omega)) (Nat.le_refl _)
   have g15:=pre_get p5 g1
   have g35:=pre_get p5 g3
   have w1:AH.wr H5 h.length 18 (cel .u8 (addF p (seg q 2) (seg r 2) (1) 9))=_:=wr_seg g15 q27 ad.1 (f:=2) (by omega)
   generalize hH6:AH.put H5 _ _=H6 at w1
   have l15:=get_lt g15
   have g16:H6.get h.length=some ⟨cel .u8 (wth q 2 (addF p (seg q 2) (seg r 2) (1) 9)),138,false,true⟩:=by rw[←hH6];exact get_put_same l15
   have g36:=(show AH.get H6 H2.length=AH.get H5 H2.length from by rw[←hH6];exact get_put_ne (by omega)).trans g35
   have m27:=wth_len (f:=2) q27 ad.1 (by omega)
   have t27:(cel .u8 (wth q 2 (addF p (seg q 2) (seg r 2) (1) 9))).take 27=cel .u8 (wth q 2 (addF p (seg q 2) (seg r 2) (1) 9)):=List.take_of_length_le (by rw[cel_len,m27];exact Nat.le_refl _)
   have w27:=wr_full (vs:=cel .u8 (wth q 2 (addF p (seg q 2) (seg r 2) (1) 9))) g36 (by rw[cel_len,m27];rfl)
   have l36:=get_lt g36
   have P6:h<+:H6:=by rw[←hH6];exact pre_put (P4.trans p5) (Nat.le_refl _)
   ((try simp (maxSteps:=3000000) (dsimp:=false) (disch:=first|omega|simp only[lnx];omega) only[↓ypre,ypost,↓reduceIte,reduceEqDiff,reduceAdd,reduceSub,reduceLeDiff,zz0,ynew,aggV,cellsL_cel,cel_len,ad.1,cel_all,w1,rdn_of g16,m27,t27,w27,rdn_put_same]);try simp only[yback])
   exact hQ _ _ (pre_put P6 (by omega)) (mrg_1 ⟨hA0,hA1⟩)
  ·by_cases ht:tms p (seg q 2) (seg r 2)>0
   ·skip
    ((try simp (maxSteps:=3000000) (dsimp:=false) (disch:=first|omega|simp only[lnx];omega) only[↓ypre,ypost,↓reduceIte,reduceEqDiff,reduceAdd,reduceSub,reduceLeDiff,zz0,ynew,a0,b0,e0,decide_eq_true hA0,a1,b1,e1,decide_eq_false hA1,decide_eq_true ht]);try simp only[yback])
    refine i_sum (k:=tms p (seg q 2) (seg r 2)) pp (hq.b9 (j:=1) (by omega)) (hr.b9 (j:=1) (by omega)) (by omega) fun H5 p5=>?_
    have ad:=addF_by (k:=tms p (seg q 2) (seg r 2)) (b:=seg r 1) (i:=9) pp (hq.b9 (j:=1) (by omega)) (Nat.le_refl _)
    have g15:=pre_get p5 g1
    have g35:=pre_get p5 g3
    have w1:AH.wr H5 h.length 9 (cel .u8 (addF p (seg q 1) (seg r 1) (tms p (seg q 2) (seg r 2)) 9))=_:=wr_seg g15 q27 ad.1 (f:=1) (by omega)
    generalize hH6:AH.put H5 _ _=H6 at w1
    have l15:=get_lt g15
    have g16:H6.get h.length=some ⟨cel .u8 (wth q 1 (addF p (seg q 1) (seg r 1) (tms p (seg q 2) (seg r 2)) 9)),138,false,true⟩:=by rw[←hH6];exact get_put_same l15
    have g36:=(show AH.get H6 H2.length=AH.get H5 H2.length from by rw[←hH6];exact get_put_ne (by omega)).trans g35
    have m27:=wth_len (f:=1) q27 ad.1 (by omega)
    have t27:(cel .u8 (wth q 1 (addF p (seg q 1) (seg r 1) (tms p (seg q 2) (seg r 2)) 9))).take 27=cel .u8 (wth q 1 (addF p (seg q 1) (seg r 1) (tms p (seg q 2) (seg r 2)) 9)):=List.take_of_length_le (by rw[cel_len,m27];exact Nat.le_refl _)
    have w27:=wr_full (vs:=cel .u8 (wth q 1 (addF p (seg q 1) (seg r 1) (tms p (seg q 2) (seg r 2)) 9))) g36 (by rw[cel_len,m27];rfl)
    have l36:=get_lt g36
    have P6:h<+:H6:=by rw[←hH6];exact pre_put (P4.trans p5) (Nat.le_refl _)
    ((try simp (maxSteps:=3000000) (dsimp:=false) (disch:=first|omega|simp only[lnx];omega) only[↓ypre,ypost,↓reduceIte,reduceEqDiff,reduceAdd,reduceSub,reduceLeDiff,zz0,ynew,aggV,cellsL_cel,cel_len,ad.1,cel_all,w1,rdn_of g16,m27,t27,w27,rdn_put_same]);try simp only[yback])
    exact hQ _ _ (pre_put P6 (by omega)) (mrg_2 (fun x=>hA1 x.2) ⟨hA0,by omega⟩)
   ·skip
    ((try simp (maxSteps:=3000000) (dsimp:=false) (disch:=first|omega|simp only[lnx];omega) only[↓ypre,ypost,↓reduceIte,reduceEqDiff,reduceAdd,reduceSub,reduceLeDiff,zz0,ynew,a0,b0,e0,decide_eq_true hA0,a1,b1,e1,decide_eq_false hA1,decide_eq_false ht,yWG_un,fillL,zeros27,cel_all,cel_len,List.length_replicate,wz,rdn_put_same,tz]);try simp only[yback])
    exact hN _ (pre_put P4 (by omega)) (mrg_4 (fun x=>hA1 x.2) (fun x=>x.2 (by omega)) (fun x=>hA1 x.1))
 ·by_cases hA1:seg q 1=seg r 1
  ·by_cases ht:tms p (seg q 2) (seg r 2)>0
   ·skip
    ((try simp (maxSteps:=3000000) (dsimp:=false) (disch:=first|omega|simp only[lnx];omega) only[↓ypre,ypost,↓reduceIte,reduceEqDiff,reduceAdd,reduceSub,reduceLeDiff,zz0,ynew,a0,b0,e0,decide_eq_false hA0,yWG_un,a1,b1,e1,decide_eq_true hA1,decide_eq_true ht]);try simp only[yback])
    refine i_sum (k:=tms p (seg q 2) (seg r 2)) pp (hq.b9 (j:=0) (by omega)) (hr.b9 (j:=0) (by omega)) (by omega) fun H5 p5=>?_
    have ad:=addF_by (k:=tms p (seg q 2) (seg r 2)) (b:=seg r 0) (i:=9) pp (hq.b9 (j:=0) (by omega)) (Nat.le_refl _)
    have g15:=pre_get p5 g1
    have g35:=pre_get p5 g3
    have w1:AH.wr H5 h.length 0 (cel .u8 (addF p (seg q 0) (seg r 0) (tms p (seg q 2) (seg r 2)) 9))=_:=wr_seg g15 q27 ad.1 (f:=0) (by omega)
    generalize hH6:AH.put H5 _ _=H6 at w1
    have l15:=get_lt g15
    have g16:H6.get h.length=some ⟨cel .u8 (wth q 0 (addF p (seg q 0) (seg r 0) (tms p (seg q 2) (seg r 2)) 9)),138,false,true⟩:=by rw[←hH6];exact get_put_same l15
    have g36:=(show AH.get H6 H2.length=AH.get H5 H2.length from by rw[←hH6];exact get_put_ne (by omega)).trans g35
    have m27:=wth_len (f:=0) q27 ad.1 (by omega)
    have t27:(cel .u8 (wth q 0 (addF p (seg q 0) (seg r 0) (tms p (seg q 2) (seg r 2)) 9))).take 27=cel .u8 (wth q 0 (addF p (seg q 0) (seg r 0) (tms p (seg q 2) (seg r 2)) 9)):=List.take_of_length_le (by rw[cel_len,m27];exact Nat.le_refl _)
    have w27:=wr_full (vs:=cel .u8 (wth q 0 (addF p (seg q 0) (seg r 0) (tms p (seg q 2) (seg r 2)) 9))) g36 (by rw[cel_len,m27];rfl)
    have l36:=get_lt g36
    have P6:h<+:H6:=by rw[←hH6];exact pre_put (P4.trans p5) (Nat.le_refl _)
    ((try simp (maxSteps:=3000000) (dsimp:=false) (disch:=first|omega|simp only[lnx];omega) only[↓ypre,ypost,↓reduceIte,reduceEqDiff,reduceAdd,reduceSub,reduceLeDiff,zz0,ynew,aggV,cellsL_cel,cel_len,ad.1,cel_all,w1,rdn_of g16,m27,t27,w27,rdn_put_same]);try simp only[yback])
    exact hQ _ _ (pre_put P6 (by omega)) (mrg_3 (fun x=>hA0 x.1) (fun x=>hA0 x.1) ⟨hA1,by omega⟩)
   ·skip
    ((try simp (maxSteps:=3000000) (dsimp:=false) (disch:=first|omega|simp only[lnx];omega) only[↓ypre,ypost,↓reduceIte,reduceEqDiff,reduceAdd,reduceSub,reduceLeDiff,zz0,ynew,a0,b0,e0,decide_eq_false hA0,yWG_un,a1,b1,e1,decide_eq_true hA1,decide_eq_false ht,fillL,zeros27,cel_all,cel_len,List.length_replicate,wz,rdn_put_same,tz]);try simp only[yback])
    exact hN _ (pre_put P4 (by omega)) (mrg_4 (fun x=>hA0 x.1) (fun x=>hA0 x.1) (fun x=>x.2 (by omega)))
  ·skip
   ((try simp (maxSteps:=3000000) (dsimp:=false) (disch:=first|omega|simp only[lnx];omega) only[↓ypre,ypost,↓reduceIte,reduceEqDiff,reduceAdd,reduceSub,reduceLeDiff,zz0,ynew,a0,b0,e0,decide_eq_false hA0,yWG_un,a1,b1,e1,decide_eq_false hA1,fillL,zeros27,cel_all,cel_len,List.length_replicate,wz,rdn_put_same,tz]);try simp only[yback])
   exact hN _ (pre_put P4 (by omega)) (mrg_4 (fun x=>hA0 x.1) (fun x=>hA0 x.1) (fun x=>hA1 x.1))
theorem s_l03Lead {q:List Int} {h:AH} {Q:Value→AH→Prop} (hq:By 9 q) (hQ:∀ h',h<+:h'→Q (I64 (lead q)) h'):WF S 341 [aggV .u8 q] h Q:=by
 refine WF_fn (fn:=c341) rfl rfl ?_
 dsimp only[c341,oO,oM,oS,oG,oK,oE,oL,oF,oX,oN]
 have q9:=hq.1
 ((try simp (maxSteps:=3000000) (dsimp:=false) (disch:=first|omega|simp only[lnx];omega) only[↓ypre,ypost,↓reduceIte,reduceEqDiff,reduceAdd,reduceSub,reduceLeDiff,zz0,ynew,aggV,cellsL_cel,cel_all]);try simp only[yback])
 generalize hH1:AH.new h _=H1
 obtain⟨hb1,p1,n1⟩:=new_facts hH1
 refine WC_loop_inv (fun m f K1=>∃ (i:Nat),m=9-i∧i≤9∧f 1=.pointer (some ⟨h.length,0,none⟩)∧f 3=I64 i∧K1=H1∧((∀ j,j<i→q.getD j 0=0))) ?_ (9-0) _ _ ⟨0,rfl,by omega,(by first|rfl|simp[upd_apply]),(by first|rfl|simp[upd_apply]),rfl,(fun _ h=>absurd h (Nat.not_lt_zero _))⟩
 rintro m f K1 ⟨i,rfl,hi,f1,f3,rfl,no⟩
 by_cases hlt:(i:Int)<9
 ·have c1:=cel_get (k:=.u8) (q:=q) (j:=i) (by omega)
  have ia:∀ m:Nat,ixaV 9 1 (.pointer (some ⟨m,0,none⟩)) (I64 i)=_:=fun m=>ixaV_ptr ⟨by omega,by omega⟩
  have b1:=hq.2 i (by omega)
  by_cases c:q.getD i 0≠0
  ·((try simp (maxSteps:=3000000) (dsimp:=false) (disch:=first|omega|simp only[lnx];omega) only[↓ypre,ypost,↓reduceIte,reduceEqDiff,reduceAdd,reduceSub,reduceLeDiff,zz0,ynew,f1,f3,decide_eq_true hlt,↓WX_ixa,ia,Int.toNat_natCast,Nat.mul_one,rd1_of hb1,c1,decide_eq_true c,wrap64_in]);try simp only[yback])
   rw[lead_at no c] at hQ
   exact hQ _ p1
  ·((try simp (maxSteps:=3000000) (dsimp:=false) (disch:=first|omega|simp only[lnx];omega) only[↓ypre,ypost,↓reduceIte,reduceEqDiff,reduceAdd,reduceSub,reduceLeDiff,zz0,ynew,f1,f3,decide_eq_true hlt,↓WX_ixa,ia,Int.toNat_natCast,Nat.mul_one,rd1_of hb1,c1,decide_eq_false c,wrap64_in]);try simp only[yback])
   refine InvQ_go (9-(i+1)) (by omega) ⟨(i+1),rfl,by omega,(by first|rfl|exact f1|(simp only[upd_apply];rfl)|(show I64 _=_;congr 1;omega)),(by first|rfl|exact f3|(simp only[upd_apply];rfl)|(show I64 _=_;congr 1;omega)),rfl,(step_all no (Decidable.not_not.1 c))⟩
 ·((try simp (maxSteps:=3000000) (dsimp:=false) (disch:=first|omega|simp only[lnx];omega) only[↓ypre,ypost,↓reduceIte,reduceEqDiff,reduceAdd,reduceSub,reduceLeDiff,zz0,ynew,f1,f3,decide_eq_false hlt]);try simp only[yback])
  rw[lead_no fun j hj=>no j (by omega)] at hQ
  exact hQ _ p1
theorem wth3 {q a b c:List Int} (hq:q.length=27) (ha:a.length=9) (hb:b.length=9) (hc:c.length=9):wth (wth (wth q 0 a) 1 b) 2 c=a++b++c:=by
 have l1:=wth_len (f:=0) hq ha (by omega)
 have l2:=wth_len (f:=1) l1 hb (by omega)
 have l3:=wth_len (f:=2) l2 hc (by omega)
 have s0:seg (wth (wth (wth q 0 a) 1 b) 2 c) 0=a:=by rw[seg_wth l2 hc (by omega) (by omega),if_neg (by decide),seg_wth l1 hb (by omega) (by omega),if_neg (by decide),seg_wth hq ha (by omega) (by omega),if_pos rfl]
 have s1:seg (wth (wth (wth q 0 a) 1 b) 2 c) 1=b:=by rw[seg_wth l2 hc (by omega) (by omega),if_neg (by decide),seg_wth l1 hb (by omega) (by omega),if_pos rfl]
 have s2:seg (wth (wth (wth q 0 a) 1 b) 2 c) 2=c:=by rw[seg_wth l2 hc (by omega) (by omega),if_pos rfl]
 rw[←seg3 l3,s0,s1,s2]
theorem s_l03Normal {p:Int} {q:List Int} {h:AH} {Q:Value→AH→Prop} (hp:isP p=true) (hq:Pr p q) (hQ:∀ h',h<+:h'→Q (aggV .u8 (nrm p q)) h'):WF S 335 [I64 p,aggV .u8 q] h Q:=by
 refine WF_fn (fn:=c335) rfl rfl ?_
 dsimp only[c335,oO,oM,oS,oG,oK,oE,oL,oF,oX,oN]
 have pp:=isP_in hp
 have q27:=hq.bb.1
 have ld0:=hq.ld (j:=0) (by omega)
 have ld1:=hq.ld (j:=1) (by omega)
 have iv0:=inv_spec hp ld0
 have iv1:=inv_spec hp ld1
 have c0:(cel .u8 q).take 9=cel .u8 (seg q 0):=by have:=cel_seg (q:=q) (f:=0);rwa [Nat.zero_mul,List.drop_zero] at this
 ((try simp (maxSteps:=3000000) (dsimp:=false) (disch:=first|omega|simp only[lnx];omega) only[↓ypre,ypost,↓reduceIte,reduceEqDiff,reduceAdd,reduceSub,reduceLeDiff,zz0,ynew,aggV,cellsL_cel,cel_all,cel_len,q27,c0,zeros27]);try simp only[yback])
 generalize hH1:AH.new h _=H1
 obtain⟨hb1,p1,n1⟩:=new_facts hH1
 generalize hH2:AH.new H1 _=H2
 obtain⟨hb2,p2,n2⟩:=new_facts hH2
 have g1:=pre_get p2 hb1
 ((try simp (maxSteps:=3000000) (dsimp:=false) (disch:=first|omega|simp only[lnx];omega) only[↓ypre,ypost,↓reduceIte,reduceEqDiff,reduceAdd,reduceSub,reduceLeDiff,zz0,ynew,rd_sg g1 q27 (f:=0) (by omega) 0 rfl]);try simp only[yback])
 refine s_l03Lead (hq.b9 (by omega)) fun H3 p3=>⟨p3,?_⟩
 have g1:=pre_get p3 g1
 ((try simp (maxSteps:=3000000) (dsimp:=false) (disch:=first|omega|simp only[lnx];omega) only[↓ypre,ypost,↓reduceIte,reduceEqDiff,reduceAdd,reduceSub,reduceLeDiff,zz0,ynew,rd_sg g1 q27 (f:=1) (by omega) 9 rfl]);try simp only[yback])
 refine s_l03Lead (hq.b9 (by omega)) fun H4 p4=>?_
 have g1:=pre_get p4 g1
 have g2:=pre_get (p3.trans p4) hb2
 refine WO_cut (fun f:Fr=>f 0=I64 p∧f 3=.pointer (some ⟨h.length,0,none⟩)∧f 4=.pointer (some ⟨H1.length,0,none⟩)∧f 9=I64 (lead (seg q 0))∧f 12=I64 (lead (seg q 1))∧True) ⟨(by first|rfl|simp[upd_apply]),(by first|rfl|simp[upd_apply]),(by first|rfl|simp[upd_apply]),(by first|rfl|simp[upd_apply]),(by first|rfl|simp[upd_apply]),trivial⟩ ?_
 rintro f ⟨f0,f3,f4,f9,f12,-⟩
 ((try simp (maxSteps:=3000000) (dsimp:=false) (disch:=first|omega|simp only[lnx];omega) only[↓ypre,ypost,↓reduceIte,reduceEqDiff,reduceAdd,reduceSub,reduceLeDiff,zz0,ynew,f0,f3,f4,f9,f12,rd_sg g1 q27 (f:=0) (by omega) 0 rfl]);try simp only[yback])
 refine s_l01Inverse pp ld0 iv0 ?_
 refine⟨List.prefix_refl _,?_⟩
 ((try simp (maxSteps:=3000000) (dsimp:=false) (disch:=first|omega|simp only[lnx];omega) only[↓ypre,ypost,↓reduceIte,reduceEqDiff,reduceAdd,reduceSub,reduceLeDiff,zz0,ynew,f0,f3,f4,f9,f12]);try simp only[yback])
 refine s_l01Scale (q:=seg q 0) pp (hq.b9 (by omega)) (by have:=iv0.1;have:=iv0.2.1;omega) fun H5 p5=>?_
 have g1:=pre_get p5 g1
 have g2:=pre_get p5 g2
 have a9:(scF p (seg q 0) (inv p (lead (seg q 0)))).length=9:=scF_len
 have b9:(scF p (seg q 1) (inv p (lead (seg q 1)))).length=9:=scF_len
 have c9:(scF p (seg q 2) (lead (seg q 0)*lead (seg q 1))).length=9:=scF_len
 have w1:AH.wr H5 h.length 0 (cel .u8 (scF p (seg q 0) (inv p (lead (seg q 0)))))=_:=wr_seg g1 q27 a9 (f:=0) (by omega)
 generalize hH6:AH.put H5 _ _=H6 at w1
 have l1:=get_lt g1
 have l2:=get_lt g2
 have m1:=wth_len (f:=0) q27 a9 (by omega)
 have k1:H6.get h.length=some ⟨cel .u8 (wth q 0 (scF p (seg q 0) (inv p (lead (seg q 0))))),138,false,true⟩:=by rw[←hH6];exact get_put_same l1
 have k2:=(show AH.get H6 H1.length=AH.get H5 H1.length from by rw[←hH6];exact get_put_ne (by omega)).trans g2
 have P6:h<+:H6:=by rw[←hH6];exact pre_put (p1.trans (p2.trans (p3.trans (p4.trans p5)))) (Nat.le_refl _)
 have r1:=rd_sg k1 m1 (f:=1) (by omega) 9 rfl
 rw[seg_wth q27 a9 (by omega) (by omega),if_neg (by decide)] at r1
 ((try simp (maxSteps:=3000000) (dsimp:=false) (disch:=first|omega|simp only[lnx];omega) only[↓ypre,ypost,↓reduceIte,reduceEqDiff,reduceAdd,reduceSub,reduceLeDiff,zz0,ynew,f0,f3,f4,f9,f12,aggV,cellsL_cel,cel_len,a9,cel_all,w1,r1]);try simp only[yback])
 refine s_l01Inverse pp ld1 iv1 ?_
 refine⟨List.prefix_refl _,?_⟩
 ((try simp (maxSteps:=3000000) (dsimp:=false) (disch:=first|omega|simp only[lnx];omega) only[↓ypre,ypost,↓reduceIte,reduceEqDiff,reduceAdd,reduceSub,reduceLeDiff,zz0,ynew,f0,f3,f4,f9,f12]);try simp only[yback])
 refine s_l01Scale (q:=seg q 1) pp (hq.b9 (by omega)) (by have:=iv1.1;have:=iv1.2.1;omega) fun H7 p7=>?_
 have k1:=pre_get p7 k1
 have k2:=pre_get p7 k2
 have w2:AH.wr H7 h.length 9 (cel .u8 (scF p (seg q 1) (inv p (lead (seg q 1)))))=_:=wr_seg k1 m1 b9 (f:=1) (by omega)
 generalize hH8:AH.put H7 _ _=H8 at w2
 have m2:=wth_len (f:=1) m1 b9 (by omega)
 have l1:=get_lt k1
 have l2:=get_lt k2
 have x1:H8.get h.length=some ⟨cel .u8 (wth (wth q 0 (scF p (seg q 0) (inv p (lead (seg q 0))))) 1 (scF p (seg q 1) (inv p (lead (seg q 1))))),138,false,true⟩:=by rw[←hH8];exact get_put_same l1
 have x2:=(show AH.get H8 H1.length=AH.get H7 H1.length from by rw[←hH8];exact get_put_ne (by omega)).trans k2
 have P8:h<+:H8:=by rw[←hH8];exact pre_put (P6.trans p7) (Nat.le_refl _)
 have r2:=rd_sg x1 m2 (f:=2) (by omega) 18 rfl
 rw[seg_wth m1 b9 (by omega) (by omega),if_neg (by decide),seg_wth q27 a9 (by omega) (by omega),if_neg (by decide)] at r2
 have ml:=mul_in1 (a:=lead (seg q 0)) (b:=lead (seg q 1)) (A:=5) (B:=5) (by omega) (by omega)
 ((try simp (maxSteps:=3000000) (dsimp:=false) (disch:=first|omega|simp only[lnx];omega) only[↓ypre,ypost,↓reduceIte,reduceEqDiff,reduceAdd,reduceSub,reduceLeDiff,zz0,ynew,f0,f3,f4,f9,f12,aggV,cellsL_cel,cel_len,b9,cel_all,w2,r2,wrap64_in]);try simp only[yback])
 refine s_l01Scale (q:=seg q 2) pp (hq.b9 (by omega)) (by omega) fun H9 p9=>?_
 have x1:=pre_get p9 x1
 have x2:=pre_get p9 x2
 have w3:AH.wr H9 h.length 18 (cel .u8 (scF p (seg q 2) (lead (seg q 0)*lead (seg q 1))))=_:=wr_seg x1 m2 c9 (f:=2) (by omega)
 have n27:=(nrm_Pr hp hq).bb.1
 have en:wth (wth (wth q 0 (scF p (seg q 0) (inv p (lead (seg q 0))))) 1 (scF p (seg q 1) (inv p (lead (seg q 1))))) 2 (scF p (seg q 2) (lead (seg q 0)*lead (seg q 1)))=nrm p q:=wth3 q27 a9 b9 c9
 rw[en] at w3
 generalize hHA:AH.put H9 _ _=HA at w3
 have l1:=get_lt x1
 have l2:=get_lt x2
 have y1:HA.get h.length=some ⟨cel .u8 (nrm p q),138,false,true⟩:=by rw[←hHA];exact get_put_same l1
 have y2:=(show AH.get HA H1.length=AH.get H9 H1.length from by rw[←hHA];exact get_put_ne (by omega)).trans x2
 have PA:h<+:HA:=by rw[←hHA];exact pre_put (P8.trans p9) (Nat.le_refl _)
 have w27:=wr_full (vs:=cel .u8 (nrm p q)) y2 (by rw[cel_len,n27];rfl)
 have t27:(cel .u8 (nrm p q)).take 27=cel .u8 (nrm p q):=List.take_of_length_le (by rw[cel_len,n27];exact Nat.le_refl _)
 have ly:=get_lt y2
 ((try simp (maxSteps:=3000000) (dsimp:=false) (disch:=first|omega|simp only[lnx];omega) only[↓ypre,ypost,↓reduceIte,reduceEqDiff,reduceAdd,reduceSub,reduceLeDiff,zz0,ynew,f0,f3,f4,f9,f12,aggV,cellsL_cel,cel_len,c9,cel_all,w3,rdn_of y1,n27,t27,w27,rdn_put_same]);try simp only[yback])
 exact hQ _ (pre_put PA (by omega))
theorem s_l03Times {p:Int} {fa ga:List Int} {h:AH} {Q:Value→AH→Prop} (hp:isP p=true) (hf:Fm p fa) (hz:isZ fa=false) (bf:By 9 fa) (bg:By 9 ga) (lg:1≤lead ga∧lead ga≤255) (hQ:∀ h',h<+:h'→Q (I64 (tms p fa ga)) h'):WF S 342 [I64 p,aggV .u8 fa,aggV .u8 ga] h Q:=by
 refine WF_fn (fn:=c342) rfl rfl ?_
 dsimp only[c342,oO,oM,oS,oG,oK,oE,oL,oF,oX,oN]
 have pp:=isP_in hp
 have ldf:=hf.lead hz
 have iv:=inv_spec hp ldf
 have f9:=bf.1
 have g9:=bg.1
 have tf:(cel .u8 fa).take 9=cel .u8 fa:=List.take_of_length_le (by rw[cel_len,f9];exact Nat.le_refl _)
 have tg:(cel .u8 ga).take 9=cel .u8 ga:=List.take_of_length_le (by rw[cel_len,g9];exact Nat.le_refl _)
 ((try simp (maxSteps:=3000000) (dsimp:=false) (disch:=first|omega|simp only[lnx];omega) only[↓ypre,ypost,↓reduceIte,reduceEqDiff,reduceAdd,reduceSub,reduceLeDiff,zz0,ynew,aggV,cellsL_cel,cel_all]);try simp only[yback])
 generalize hH1:AH.new h _=H1
 obtain⟨hb1,p1,n1⟩:=new_facts hH1
 generalize hH2:AH.new H1 _=H2
 obtain⟨hb2,p2,n2⟩:=new_facts hH2
 ((try simp (maxSteps:=3000000) (dsimp:=false) (disch:=first|omega|simp only[lnx];omega) only[↓ypre,ypost,↓reduceIte,reduceEqDiff,reduceAdd,reduceSub,reduceLeDiff,zz0,ynew,rdn_of hb2,cel_len,g9,tg]);try simp only[yback])
 refine s_l03Lead bg fun H3 p3=>⟨p3,?_⟩
 have g1:=pre_get (p2.trans p3) hb1
 have g2:=pre_get p3 hb2
 ((try simp (maxSteps:=3000000) (dsimp:=false) (disch:=first|omega|simp only[lnx];omega) only[↓ypre,ypost,↓reduceIte,reduceEqDiff,reduceAdd,reduceSub,reduceLeDiff,zz0,ynew,rdn_of g1,cel_len,f9,tf]);try simp only[yback])
 refine s_l03Lead bf fun H4 p4=>?_
 have g1:=pre_get p4 g1
 have g2:=pre_get p4 g2
 ((try simp (maxSteps:=3000000) (dsimp:=false) (disch:=first|omega|simp only[lnx];omega) only[↓ypre,ypost,↓reduceIte,reduceEqDiff,reduceAdd,reduceSub,reduceLeDiff,zz0,ynew]);try simp only[yback])
 refine s_l01Inverse pp ldf iv ?_
 have m1:=mul_in1 (a:=lead ga) (b:=inv p (lead fa)) (A:=256) (B:=5) (by omega) (by have:=iv.1;have:=iv.2.1;omega)
 have m2:=tmod_nn (a:=lead ga*inv p (lead fa)) (J:=p) (by omega) (by omega)
 ((try simp (maxSteps:=3000000) (dsimp:=false) (disch:=first|omega|simp only[lnx];omega) only[↓ypre,ypost,↓reduceIte,reduceEqDiff,reduceAdd,reduceSub,reduceLeDiff,zz0,ynew,wrap64_in,bin_rem (show p≠0 by omega),rdn_of g1,cel_len,f9,tf]);try simp only[yback])
 refine s_l01Scale (q:=fa) pp bf (by omega) fun H5 p5=>⟨p5,?_⟩
 have e:=eqaV_ceT (k:=.u8) (n:=9) (scF_len (p:=p) (f:=fa) (k:=(lead ga*inv p (lead fa)).tmod p)) g9 (by omega)
 have g2:=pre_get p5 g2
 unfold tms at hQ
 by_cases hs:scF p fa ((lead ga*inv p (lead fa)).tmod p)=ga
 ·rw[if_pos hs] at hQ
  have e2:(scF p fa ((lead ga*inv p (lead fa)).tmod p)==ga)=true:=by simpa using hs
  rw[e2] at e
  ((try simp (maxSteps:=3000000) (dsimp:=false) (disch:=first|omega|simp only[lnx];omega) only[↓ypre,ypost,↓reduceIte,reduceEqDiff,reduceAdd,reduceSub,reduceLeDiff,zz0,ynew,aggV,rdn_of g2,cel_len,g9,tg,e]);try simp only[yback])
  exact hQ _ (p1.trans (p2.trans (p3.trans (p4.trans p5))))
 ·rw[if_neg hs] at hQ
  have e2:(scF p fa ((lead ga*inv p (lead fa)).tmod p)==ga)=false:=by simpa using hs
  rw[e2] at e
  ((try simp (maxSteps:=3000000) (dsimp:=false) (disch:=first|omega|simp only[lnx];omega) only[↓ypre,ypost,↓reduceIte,reduceEqDiff,reduceAdd,reduceSub,reduceLeDiff,zz0,ynew,aggV,rdn_of g2,cel_len,g9,tg,e]);try simp only[yback])
  exact hQ _ (p1.trans (p2.trans (p3.trans (p4.trans p5))))
theorem s_l03Join {p:Int} {q r:List Int} {h:AH} {Q:Value→AH→Prop} (hp:isP p=true) (hq:Pr p q) (hr:Pr p r) (hQ:∀ m h',h<+:h'→mrg p q r=some m→Q (.tuple #[aggV .u8 m,.bool true]) h')
  (hN:∀ h',h<+:h'→mrg p q r=none→Q (.tuple #[aggV .u8 (List.replicate 27 0),.bool false]) h'):WF S 336 [I64 p,aggV .u8 q,aggV .u8 r] h Q:=by
 refine WF_fn (fn:=c336) rfl rfl ?_
 dsimp only[c336,oO,oM,oS,oG,oK,oE,oL,oF,oX,oN]
 have pp:=isP_in hp
 have q27:=hq.bb.1
 have r27:=hr.bb.1
 have c2:∀ {q:List Int},((cel .u8 q).drop 18).take 9=cel .u8 (seg q 2):=fun {q}=>cel_seg (f:=2)
 ((try simp (maxSteps:=3000000) (dsimp:=false) (disch:=first|omega|simp only[lnx];omega) only[↓ypre,ypost,↓reduceIte,reduceEqDiff,reduceAdd,reduceSub,reduceLeDiff,zz0,ynew,aggV,cellsL_cel,cel_all,cel_len,q27,r27,c2,zeros27]);try simp only[yback])
 generalize hH1:AH.new h _=H1
 obtain⟨hb1,p1,n1⟩:=new_facts hH1
 generalize hH2:AH.new H1 _=H2
 obtain⟨hb2,p2,n2⟩:=new_facts hH2
 generalize hH3:AH.new H2 _=H3
 obtain⟨hb3,p3,n3⟩:=new_facts hH3
 have ldr:=hr.ld (j:=2) (by omega)
 refine s_l03Times (fa:=seg q 2) (ga:=seg r 2) hp (hq.f 2 (by omega)) (hq.z 2 (by omega)) (hq.b9 (j:=2) (by omega)) (hr.b9 (j:=2) (by omega)) (by omega) fun H4 p4=>?_
 have g1:=pre_get (p2.trans (p3.trans p4)) hb1
 have g2:=pre_get (p3.trans p4) hb2
 have g3:=pre_get p4 hb3
 have P4:=p1.trans (p2.trans (p3.trans p4))
 have ti:=tms_in (f:=seg q 2) (g:=seg r 2) pp.1 (by omega) (by have:=(inv_spec hp (hq.ld (j:=2) (by omega))).1;omega)
 have l1:=get_lt g1
 have l3:=get_lt g3
 have q4:=pre_len p4
 have e0:=eqaV_cel (k:=.u8) (seg_n9 q27 (show 0<3 by omega)) (seg_n9 r27 (show 0<3 by omega)) (by omega)
 have e1:=eqaV_cel (k:=.u8) (seg_n9 q27 (show 1<3 by omega)) (seg_n9 r27 (show 1<3 by omega)) (by omega)
 rw[beq_seg] at e0 e1
 have a0:=rd_sg g1 q27 (f:=0) (by omega) 0 rfl
 have b0:=rd_sg g2 r27 (f:=0) (by omega) 0 rfl
 have a1:=rd_sg g1 q27 (f:=1) (by omega) 9 rfl
 have b1:=rd_sg g2 r27 (f:=1) (by omega) 9 rfl
 have a2:=rd_sg g1 q27 (f:=2) (by omega) 18 rfl
 have b2:=rd_sg g2 r27 (f:=2) (by omega) 18 rfl
 have wz:=wr_full (vs:=cel .u8 (List.replicate 27 0)) g3 (by rw[cel_len])
 have tz:(cel .u8 (List.replicate 27 0)).take 27=cel .u8 (List.replicate 27 0):=rfl
 by_cases hA0:seg q 0=seg r 0
 ·by_cases hA1:seg q 1=seg r 1
  ·skip
   ((try simp (maxSteps:=3000000) (dsimp:=false) (disch:=first|omega|simp only[lnx];omega) only[↓ypre,ypost,↓reduceIte,reduceEqDiff,reduceAdd,reduceSub,reduceLeDiff,zz0,ynew,a0,b0,e0,decide_eq_true hA0,a1,b1,e1,decide_eq_true hA1,a2,b2]);try simp only[yback])
   refine s_l01Add (k:=1) pp (hq.b9 (j:=2) (by omega)) (hr.b9 (j:=2) (by omega)) (by omega) fun H5 p5=>?_
   have ad:=addF_by (k:=1) (b:=seg r 2) (i:=9) pp (hq.b9 (j:=2) (by omega)) (Nat.le_refl _)
   have g15:=pre_get p5 g1
   have g35:=pre_get p5 g3
   have w1:AH.wr H5 h.length 18 (cel .u8 (addF p (seg q 2) (seg r 2) (1) 9))=_:=wr_seg g15 q27 ad.1 (f:=2) (by omega)
   generalize hH6:AH.put H5 _ _=H6 at w1
   have l15:=get_lt g15
   have g16:H6.get h.length=some ⟨cel .u8 (wth q 2 (addF p (seg q 2) (seg r 2) (1) 9)),138,false,true⟩:=by rw[←hH6];exact get_put_same l15
   have g36:=(show AH.get H6 H2.length=AH.get H5 H2.length from by rw[←hH6];exact get_put_ne (by omega)).trans g35
   have m27:=wth_len (f:=2) q27 ad.1 (by omega)
   have t27:(cel .u8 (wth q 2 (addF p (seg q 2) (seg r 2) (1) 9))).take 27=cel .u8 (wth q 2 (addF p (seg q 2) (seg r 2) (1) 9)):=List.take_of_length_le (by rw[cel_len,m27];exact Nat.le_refl _)
   have w27:=wr_full (vs:=cel .u8 (wth q 2 (addF p (seg q 2) (seg r 2) (1) 9))) g36 (by rw[cel_len,m27];rfl)
   have l36:=get_lt g36
   have P6:h<+:H6:=by rw[←hH6];exact pre_put (P4.trans p5) (Nat.le_refl _)
   ((try simp (maxSteps:=3000000) (dsimp:=false) (disch:=first|omega|simp only[lnx];omega) only[↓ypre,ypost,↓reduceIte,reduceEqDiff,reduceAdd,reduceSub,reduceLeDiff,zz0,ynew,aggV,cellsL_cel,cel_len,ad.1,cel_all,w1,rdn_of g16,m27,t27,w27,rdn_put_same]);try simp only[yback])
   exact hQ _ _ (pre_put P6 (by omega)) (mrg_1 ⟨hA0,hA1⟩)
  ·by_cases ht:tms p (seg q 2) (seg r 2)≠0
   ·skip
    ((try simp (maxSteps:=3000000) (dsimp:=false) (disch:=first|omega|simp only[lnx];omega) only[↓ypre,ypost,↓reduceIte,reduceEqDiff,reduceAdd,reduceSub,reduceLeDiff,zz0,ynew,a0,b0,e0,decide_eq_true hA0,a1,b1,e1,decide_eq_false hA1,decide_eq_true ht]);try simp only[yback])
    refine s_l01Add (k:=tms p (seg q 2) (seg r 2)) pp (hq.b9 (j:=1) (by omega)) (hr.b9 (j:=1) (by omega)) (by omega) fun H5 p5=>?_
    have ad:=addF_by (k:=tms p (seg q 2) (seg r 2)) (b:=seg r 1) (i:=9) pp (hq.b9 (j:=1) (by omega)) (Nat.le_refl _)
    have g15:=pre_get p5 g1
    have g35:=pre_get p5 g3
    have w1:AH.wr H5 h.length 9 (cel .u8 (addF p (seg q 1) (seg r 1) (tms p (seg q 2) (seg r 2)) 9))=_:=wr_seg g15 q27 ad.1 (f:=1) (by omega)
    generalize hH6:AH.put H5 _ _=H6 at w1
    have l15:=get_lt g15
    have g16:H6.get h.length=some ⟨cel .u8 (wth q 1 (addF p (seg q 1) (seg r 1) (tms p (seg q 2) (seg r 2)) 9)),138,false,true⟩:=by rw[←hH6];exact get_put_same l15
    have g36:=(show AH.get H6 H2.length=AH.get H5 H2.length from by rw[←hH6];exact get_put_ne (by omega)).trans g35
    have m27:=wth_len (f:=1) q27 ad.1 (by omega)
    have t27:(cel .u8 (wth q 1 (addF p (seg q 1) (seg r 1) (tms p (seg q 2) (seg r 2)) 9))).take 27=cel .u8 (wth q 1 (addF p (seg q 1) (seg r 1) (tms p (seg q 2) (seg r 2)) 9)):=List.take_of_length_le (by rw[cel_len,m27];exact Nat.le_refl _)
    have w27:=wr_full (vs:=cel .u8 (wth q 1 (addF p (seg q 1) (seg r 1) (tms p (seg q 2) (seg r 2)) 9))) g36 (by rw[cel_len,m27];rfl)
    have l36:=get_lt g36
    have P6:h<+:H6:=by rw[←hH6];exact pre_put (P4.trans p5) (Nat.le_refl _)
    ((try simp (maxSteps:=3000000) (dsimp:=false) (disch:=first|omega|simp only[lnx];omega) only[↓ypre,ypost,↓reduceIte,reduceEqDiff,reduceAdd,reduceSub,reduceLeDiff,zz0,ynew,aggV,cellsL_cel,cel_len,ad.1,cel_all,w1,rdn_of g16,m27,t27,w27,rdn_put_same]);try simp only[yback])
    exact hQ _ _ (pre_put P6 (by omega)) (mrg_2 (fun x=>hA1 x.2) ⟨hA0,by omega⟩)
   ·skip
    ((try simp (maxSteps:=3000000) (dsimp:=false) (disch:=first|omega|simp only[lnx];omega) only[↓ypre,ypost,↓reduceIte,reduceEqDiff,reduceAdd,reduceSub,reduceLeDiff,zz0,ynew,a0,b0,e0,decide_eq_true hA0,a1,b1,e1,decide_eq_false hA1,decide_eq_false ht,yWG_un,fillL,zeros27,cel_all,cel_len,List.length_replicate,wz,rdn_put_same,tz]);try simp only[yback])
    exact hN _ (pre_put P4 (by omega)) (mrg_4 (fun x=>hA1 x.2) (fun x=>x.2 (by omega)) (fun x=>hA1 x.1))
 ·by_cases hA1:seg q 1=seg r 1
  ·by_cases ht:tms p (seg q 2) (seg r 2)≠0
   ·skip
    ((try simp (maxSteps:=3000000) (dsimp:=false) (disch:=first|omega|simp only[lnx];omega) only[↓ypre,ypost,↓reduceIte,reduceEqDiff,reduceAdd,reduceSub,reduceLeDiff,zz0,ynew,a0,b0,e0,decide_eq_false hA0,yWG_un,a1,b1,e1,decide_eq_true hA1,decide_eq_true ht]);try simp only[yback])
    refine s_l01Add (k:=tms p (seg q 2) (seg r 2)) pp (hq.b9 (j:=0) (by omega)) (hr.b9 (j:=0) (by omega)) (by omega) fun H5 p5=>?_
    have ad:=addF_by (k:=tms p (seg q 2) (seg r 2)) (b:=seg r 0) (i:=9) pp (hq.b9 (j:=0) (by omega)) (Nat.le_refl _)
    have g15:=pre_get p5 g1
    have g35:=pre_get p5 g3
    have w1:AH.wr H5 h.length 0 (cel .u8 (addF p (seg q 0) (seg r 0) (tms p (seg q 2) (seg r 2)) 9))=_:=wr_seg g15 q27 ad.1 (f:=0) (by omega)
    generalize hH6:AH.put H5 _ _=H6 at w1
    have l15:=get_lt g15
    have g16:H6.get h.length=some ⟨cel .u8 (wth q 0 (addF p (seg q 0) (seg r 0) (tms p (seg q 2) (seg r 2)) 9)),138,false,true⟩:=by rw[←hH6];exact get_put_same l15
    have g36:=(show AH.get H6 H2.length=AH.get H5 H2.length from by rw[←hH6];exact get_put_ne (by omega)).trans g35
    have m27:=wth_len (f:=0) q27 ad.1 (by omega)
    have t27:(cel .u8 (wth q 0 (addF p (seg q 0) (seg r 0) (tms p (seg q 2) (seg r 2)) 9))).take 27=cel .u8 (wth q 0 (addF p (seg q 0) (seg r 0) (tms p (seg q 2) (seg r 2)) 9)):=List.take_of_length_le (by rw[cel_len,m27];exact Nat.le_refl _)
    have w27:=wr_full (vs:=cel .u8 (wth q 0 (addF p (seg q 0) (seg r 0) (tms p (seg q 2) (seg r 2)) 9))) g36 (by rw[cel_len,m27];rfl)
    have l36:=get_lt g36
    have P6:h<+:H6:=by rw[←hH6];exact pre_put (P4.trans p5) (Nat.le_refl _)
    ((try simp (maxSteps:=3000000) (dsimp:=false) (disch:=first|omega|simp only[lnx];omega) only[↓ypre,ypost,↓reduceIte,reduceEqDiff,reduceAdd,reduceSub,reduceLeDiff,zz0,ynew,aggV,cellsL_cel,cel_len,ad.1,cel_all,w1,rdn_of g16,m27,t27,w27,rdn_put_same]);try simp only[yback])
    exact hQ _ _ (pre_put P6 (by omega)) (mrg_3 (fun x=>hA0 x.1) (fun x=>hA0 x.1) ⟨hA1,by omega⟩)
   ·skip
    ((try simp (maxSteps:=3000000) (dsimp:=false) (disch:=first|omega|simp only[lnx];omega) only[↓ypre,ypost,↓reduceIte,reduceEqDiff,reduceAdd,reduceSub,reduceLeDiff,zz0,ynew,a0,b0,e0,decide_eq_false hA0,yWG_un,a1,b1,e1,decide_eq_true hA1,decide_eq_false ht,fillL,zeros27,cel_all,cel_len,List.length_replicate,wz,rdn_put_same,tz]);try simp only[yback])
    exact hN _ (pre_put P4 (by omega)) (mrg_4 (fun x=>hA0 x.1) (fun x=>hA0 x.1) (fun x=>x.2 (by omega)))
  ·skip
   ((try simp (maxSteps:=3000000) (dsimp:=false) (disch:=first|omega|simp only[lnx];omega) only[↓ypre,ypost,↓reduceIte,reduceEqDiff,reduceAdd,reduceSub,reduceLeDiff,zz0,ynew,a0,b0,e0,decide_eq_false hA0,yWG_un,a1,b1,e1,decide_eq_false hA1,fillL,zeros27,cel_all,cel_len,List.length_replicate,wz,rdn_put_same,tz]);try simp only[yback])
   exact hN _ (pre_put P4 (by omega)) (mrg_4 (fun x=>hA0 x.1) (fun x=>hA0 x.1) (fun x=>hA1 x.1))
def RdE (h:AH) (v:Value) (R:List (List Int)):Prop:=
 (R=[]∧∃ t,v=.slice none 0 t)∨∃ n off,v=.slice (some ⟨n,off,none⟩) R.length 27∧h.rdn n off (R.length*27)=some (cel .u8 R.flatten)
section
variable {h h':AH} {v:Value} {R L:List (List Int)} {b off j m:Nat}
theorem rdn_pre {n k:Nat} {c:List Value} (p:h<+:h') (e:h.rdn n off k=some c):h'.rdn n off k=some c:=by
 rw[rdn_eq] at e ⊢
 cases hg:h.get n with
 | none=>rw[hg] at e;cases e
 | some b=>rw[pre_get p hg];rw[hg] at e;exact e
theorem RdE.pre (e:RdE h v R) (p:h<+:h'):RdE h' v R:=by
 rcases e with e|⟨n,off,e1,e2⟩
 ·exact .inl e
 ·exact .inr ⟨n,off,e1,rdn_pre p e2⟩
theorem RdE.len (e:RdE h v R):lenV v=some (I64 R.length):=by
 rcases e with⟨rfl,t,rfl⟩|⟨n,off,rfl,e2⟩<;>rfl
theorem RdE.one (e:RdE h v R):isOne v=true:=by
 rcases e with⟨rfl,t,rfl⟩|⟨n,off,rfl,e2⟩<;>rfl
theorem RdE.cells (e:RdE h v R):cellsL v=[v]:=by
 rcases e with⟨rfl,t,rfl⟩|⟨n,off,rfl,e2⟩<;>rfl
theorem flat_dr {w:Nat}:∀ {L:List (List Int)} {i:Nat},Wid w L→i≤L.length→L.flatten.drop (i*w)=(L.drop i).flatten
 | [],i,_,h=>by simp
 | r::L,0,_,_=>by simp
 | r::L,i+1,hw,h=>by
  have hr:=hw r (by simp)
  rw[List.drop_succ_cons,List.flatten_cons,Nat.succ_mul,List.drop_append,List.drop_of_length_le (by omega),List.nil_append,show i*w+w-r.length=i*w by omega,flat_dr (fun q hq=>hw q (by simp[hq])) (by simpa using h)]
theorem rdn_sub (hw:Wid 27 L) (e:h.rdn b off (L.length*27)=some (cel .u8 L.flatten)) (hj:j+m≤L.length):h.rdn b (off+j*27) (m*27)=some (cel .u8 ((L.drop j).take m).flatten):=by
 rw[rdn_eq] at e ⊢
 cases hg:h.get b with
 | none=>rw[hg] at e;cases e
 | some blk=>
  rw[hg] at e
  simp only[Option.bind_some] at e ⊢
  have hm:j*27+m*27≤L.length*27:=by rw[←Nat.add_mul];exact Nat.mul_le_mul_right _ hj
  split at e
  ·rename_i hl
   rw[if_pos (by omega)]
   have e2:=Option.some.inj e
   have e3:(blk.c.drop (off+j*27)).take (m*27)=(((blk.c.drop off).take (L.length*27)).drop (j*27)).take (m*27):=by
    rw[List.drop_take,List.drop_drop,List.take_take,Nat.min_eq_left (by omega)]
   have wd:Wid 27 (L.drop j):=fun q hq=>hw q (List.mem_of_mem_drop hq)
   rw[e3,e2,cel_drop,cel_take,flat_dr hw (by omega),flat_tk wd (by rw[List.length_drop];omega)]
  ·cases e
theorem OwnP.appR {lo:Nat} {H:AH} {sv:Value} {C:List (List Int)} (o:OwnP lo H sv C) (hv:RdE H v R) (wR:Wid 27 R) (hl:C.length+R.length≤1000) (hlo:lo≤H.length) {Q:Value→AH→Prop}
  (hQ:∀ (sv':Value) (H':AH),(∀ h0:AH,h0.length≤lo→h0<+:H→h0<+:H')→OwnP lo H' sv' (C++R)→Q sv' H'):OQ (appV 138 27 27 sv v H) Q:=by
 have wCR:Wid 27 C→Wid 27 (C++R):=fun w q hq=>by
  rcases List.mem_append.1 hq with h|h
  ·exact w q h
  ·exact wR q h
 obtain⟨wC,hs⟩:=o
 by_cases h0:R.length=0
 ·have e0:R=[]:=List.length_eq_zero_iff.1 h0
  subst e0
  have e:appV 138 27 27 sv v H=some (sv,H):=by
   rcases hs with⟨rfl,rfl⟩|⟨kb,fu,rfl,h2,h3⟩
   ·rcases hv with⟨_,t,rfl⟩|⟨n,off,rfl,e2⟩
    ·simp[appV,xop,ev]
    ·simp only[List.length_nil,Nat.zero_mul] at e2
     simp[appV,xop,ev,e2]
   ·rcases hv with⟨_,t,rfl⟩|⟨n,off,rfl,e2⟩
    ·simp only[appV,xop,ev,if_true]
     rw[if_pos (by omega)]
    ·simp only[List.length_nil,Nat.zero_mul] at e2
     simp only[appV,xop,ev,if_true,List.length_nil,Nat.zero_mul,e2]
     rw[if_pos (by omega)]
  rw[e,OQ_some]
  refine hQ sv H (fun h0 _ p=>p) ?_
  rw[List.append_nil]
  exact⟨wC,hs⟩
 ·rcases hv with⟨rfl,_⟩|⟨n,off,rfl,e2⟩
  ·simp at h0
  rcases hs with⟨rfl,rfl⟩|⟨kb,fu,rfl,h2,h3⟩
  ·have e:appV 138 27 27 (.slice none 0 0) (.slice (some ⟨n,off,none⟩) R.length 27) H=some (.slice (some ⟨H.length,0,none⟩) R.length 27,H.new ⟨cel .u8 R.flatten,138,false,false⟩):=by
    simp only[appV,xop,ev,if_true,e2]
    rw[if_pos (by omega),if_pos (by simp),if_neg (by omega)]
   rw[e,OQ_some]
   exact hQ _ _ (fun h0 _ p=>pre_new p) ⟨by simpa using wR,.inr ⟨H.length,false,by simp,hlo,by simpa using get_new_same⟩⟩
  ·have fl:=flat_len wC
   have e:appV 138 27 27 (.slice (some ⟨kb,0,none⟩) C.length 27) (.slice (some ⟨n,off,none⟩) R.length 27) H=some (.slice (some ⟨H.length,0,none⟩) (C++R).length 27,(H.kill kb).new ⟨cel .u8 (C++R).flatten,138,false,false⟩):=by
    simp only[appV,xop,ev,if_true,e2,h3]
    rw[if_pos (by omega),if_neg (by omega)]
    simp[cel_len,fl,cel_app]
   rw[e,OQ_some]
   exact hQ _ _ (fun h0 q p=>pre_new (pre_kill p (by omega))) ⟨wCR wC,.inr ⟨H.length,false,rfl,hlo,get_new_eq (by rw[len_kill])⟩⟩
end
theorem i_GrowP {n:Nat} {h:AH} {Q:Value→AH→Prop} (hn:n≤1000) (hQ:∀ w h',h<+:h'→OwnP h.length h' w []→Q w h'):WF S 338 [.slice none 0 0,I64 n] h Q:=by
 refine WF_fn (fn:=c338) rfl rfl ?_
 dsimp only[c338,oO,oM,oS,oG,oK,oE,oL,oF,oX,oN]
 have w0:Wid 27 ([]:List (List Int)):=fun q hq=>by simp at hq
 by_cases h0:(n:Int)>0
 ·((try simp (maxSteps:=3000000) (dsimp:=false) (disch:=first|omega|simp only[lnx];omega) only[↓ypre,ypost,↓reduceIte,reduceEqDiff,reduceAdd,reduceSub,reduceLeDiff,zz0,ynew,decide_eq_false (show ¬ (n:Int)<0 by omega),capV_nil,show lenV (.slice none 0 0)=some (I64 0) from rfl,wrap64_in,Int.sub_zero,decide_eq_true h0]);try simp only[yback])
  have s1:slcV 27 (.slice none 0 0) none (some (I64 0))=some (.slice none 0 0):=rfl
  have e1:appzV 138 27 27 (.slice none 0 0) (I64 n) h=some (.slice (some ⟨h.length,0,none⟩) n 27,h.new ⟨[],138,false,false⟩):=by
   rw[appzV_nil,if_pos (by omega),Int.toNat_natCast]
  have s2:slcV 27 (.slice (some ⟨h.length,0,none⟩) n 27) none (some (.int .i64 ((0:Nat):Int)))=some (.slice (some ⟨h.length,0,none⟩) 0 27):=by
   simp[slcV,boundV]
  ((try simp (maxSteps:=3000000) (dsimp:=false) (disch:=first|omega|simp only[lnx];omega) only[↓ypre,ypost,↓reduceIte,reduceEqDiff,reduceAdd,reduceSub,reduceLeDiff,zz0,ynew,omapF_none,omapF_some,s1,e1,s2]);try simp only[yback])
  exact hQ _ _ (pre_new (List.prefix_refl _)) ⟨w0,.inr ⟨h.length,false,rfl,Nat.le_refl _,get_new_same⟩⟩
 ·((try simp (maxSteps:=3000000) (dsimp:=false) (disch:=first|omega|simp only[lnx];omega) only[↓ypre,ypost,↓reduceIte,reduceEqDiff,reduceAdd,reduceSub,reduceLeDiff,zz0,ynew,decide_eq_false (show ¬ (n:Int)<0 by omega),capV_nil,show lenV (.slice none 0 0)=some (I64 0) from rfl,wrap64_in,Int.sub_zero,decide_eq_false h0]);try simp only[yback])
  exact hQ _ _ (List.prefix_refl _) ⟨w0,.inl ⟨rfl,rfl⟩⟩
def len2 (L R:List (List Int)) (i:Nat):Nat:=if i=0 then 0 else if i=1 then L.length else L.length+R.length
def cat2 (L R:List (List Int)) (i:Nat):List (List Int):=if i=0 then [] else if i=1 then L else L++R
theorem i_ConcatP {mb:Nat} {e:TypeId} {ro fl:Bool} {a b:Value} {L R:List (List Int)} {h:AH} {Q:Value→AH→Prop} (hm:h.get mb=some ⟨[a,b],e,ro,fl⟩) (ha:RdE h a L) (hb:RdE h b R) (wL:Wid 27 L) (wR:Wid 27 R) (hl:L.length+R.length≤1000)
  (hQ:∀ w h',h<+:h'→OwnP h.length h' w (L++R)→Q w h'):WF S 328 [.slice (some ⟨mb,0,none⟩) 2 1] h Q:=by
 refine WF_fn (fn:=c328) rfl rfl ?_
 dsimp only[c328,oO,oM,oS,oG,oK,oE,oL,oF,oX,oN]
 ((try simp (maxSteps:=3000000) (dsimp:=false) (disch:=first|omega|simp only[lnx];omega) only[↓ypre,ypost,↓reduceIte,reduceEqDiff,reduceAdd,reduceSub,reduceLeDiff,zz0,ynew,show lenV (.slice (some ⟨mb,0,none⟩) 2 1)=some (I64 2) from rfl]);try simp only[yback])
 have j0:ixsV 1 (.slice (some ⟨mb,0,none⟩) 2 1) (I64 0)=some (.pointer (some ⟨mb,0,none⟩)):=rfl
 have j1:ixsV 1 (.slice (some ⟨mb,0,none⟩) 2 1) (I64 1)=some (.pointer (some ⟨mb,1,none⟩)):=rfl
 refine WC_loop_inv (fun m f K1=>∃ (i:Nat),m=2-i∧i≤2∧f 0=.slice (some ⟨mb,0,none⟩) 2 1∧f 3=I64 (len2 L R i)∧f 9=.slice (some ⟨mb,0,none⟩) 2 1∧f 10=I64 2∧f 11=I64 i∧(K1=h)) ?_ (2-0) _ _ ⟨0,rfl,by omega,(by first|rfl|simp[upd_apply]),(by first|rfl|simp[upd_apply]),(by first|rfl|simp[upd_apply]),(by first|rfl|simp[upd_apply]),(by first|rfl|simp[upd_apply]),rfl⟩
 rintro m f K1 ⟨i,rfl,hi,f0,f3,f9,f10,f11,hK⟩
 subst hK
 by_cases hlt:(i:Int)<2
 ·have hi:i=0∨i=1:=by omega
  rcases hi with rfl|rfl
  ·((try simp (maxSteps:=3000000) (dsimp:=false) (disch:=first|omega|simp only[lnx];omega) only[↓ypre,ypost,↓reduceIte,reduceEqDiff,reduceAdd,reduceSub,reduceLeDiff,zz0,ynew,f0,f3,f9,f10,f11,show ((0:Nat):Int)=0 from rfl,show decide ((0:Int)<2)=true from rfl,j0,rd1_of hm,ha.len,show len2 L R 0=0 from rfl,Int.zero_add,wrap64_in,decide_eq_false (show ¬ (L.length:Int)<0 by omega)]);try simp only[yback])
   refine InvQ_go (2-(0+1)) (by omega) ⟨(0+1),rfl,by omega,(by first|rfl|exact f0|(simp only[upd_apply];rfl)|(show I64 _=_;congr 1;omega)),(rfl),(by first|rfl|exact f9|(simp only[upd_apply];rfl)|(show I64 _=_;congr 1;omega)),(by first|rfl|exact f10|(simp only[upd_apply];rfl)|(show I64 _=_;congr 1;omega)),(rfl),rfl⟩
  ·((try simp (maxSteps:=3000000) (dsimp:=false) (disch:=first|omega|simp only[lnx];omega) only[↓ypre,ypost,↓reduceIte,reduceEqDiff,reduceAdd,reduceSub,reduceLeDiff,zz0,ynew,f0,f3,f9,f10,f11,show ((1:Nat):Int)=1 from rfl,show decide ((1:Int)<2)=true from rfl,j1,rd1_of hm,hb.len,show len2 L R 1=L.length from rfl,wrap64_in,decide_eq_false (show ¬ (L.length:Int)+R.length<0 by omega)]);try simp only[yback])
   refine InvQ_go (2-(1+1)) (by omega) ⟨(1+1),rfl,by omega,(by first|rfl|exact f0|(simp only[upd_apply];rfl)|(show I64 _=_;congr 1;omega)),(rfl),(by first|rfl|exact f9|(simp only[upd_apply];rfl)|(show I64 _=_;congr 1;omega)),(by first|rfl|exact f10|(simp only[upd_apply];rfl)|(show I64 _=_;congr 1;omega)),(rfl),rfl⟩
 have ei:i=2:=by omega
 subst ei
 ((try simp (maxSteps:=3000000) (dsimp:=false) (disch:=first|omega|simp only[lnx];omega) only[↓ypre,ypost,↓reduceIte,reduceEqDiff,reduceAdd,reduceSub,reduceLeDiff,zz0,ynew,f0,f3,f9,f10,f11,decide_eq_false hlt]);try simp only[yback])
 refine i_GrowP (n:=L.length+R.length) hl fun w1 H1 p1 o1=>?_
 ((try simp (maxSteps:=3000000) (dsimp:=false) (disch:=first|omega|simp only[lnx];omega) only[↓ypre,ypost,↓reduceIte,reduceEqDiff,reduceAdd,reduceSub,reduceLeDiff,zz0,ynew,f0,f3,f9,f10,f11,show lenV (.slice (some ⟨mb,0,none⟩) 2 1)=some (I64 2) from rfl]);try simp only[yback])
 refine WC_loop_inv (fun m f K2=>∃ (i:Nat) (sv:Value),m=2-i∧i≤2∧f 6=sv∧f 25=.slice (some ⟨mb,0,none⟩) 2 1∧f 26=I64 2∧f 27=I64 i∧(K1<+:K2)∧(OwnP K1.length K2 sv (cat2 L R i))) ?_ (2-0) _ _ ⟨0,w1,rfl,by omega,(by first|rfl|simp[upd_apply]),(by first|rfl|simp[upd_apply]),(by first|rfl|simp[upd_apply]),(by first|rfl|simp[upd_apply]),p1,o1⟩
 rintro m f K2 ⟨i,sv,rfl,hi,f6,f25,f26,f27,pp,o⟩
 by_cases hlt:(i:Int)<2
 ·have hm2:=pre_get pp hm
  have hi:i=0∨i=1:=by omega
  have lK:=pre_len pp
  rcases hi with rfl|rfl
  ·((try simp (maxSteps:=3000000) (dsimp:=false) (disch:=first|omega|simp only[lnx];omega) only[↓ypre,ypost,↓reduceIte,reduceEqDiff,reduceAdd,reduceSub,reduceLeDiff,zz0,ynew,f6,f25,f26,f27,show ((0:Nat):Int)=0 from rfl,show decide ((0:Int)<2)=true from rfl,j0,rd1_of hm2]);try simp only[yback])
   refine o.appR (ha.pre pp) wL (by show 0+L.length≤1000;omega) lK fun sv' H' p' o'=>?_
   ((try simp (maxSteps:=3000000) (dsimp:=false) (disch:=first|omega|simp only[lnx];omega) only[↓ypre,ypost,↓reduceIte,reduceEqDiff,reduceAdd,reduceSub,reduceLeDiff,zz0,ynew,f6,f25,f26,f27,wrap64_in]);try simp only[yback])
   refine InvQ_go (2-(0+1)) (by omega) ⟨(0+1),sv',rfl,by omega,(by first|rfl|exact f6|(simp only[upd_apply];rfl)|(show I64 _=_;congr 1;omega)),(by first|rfl|exact f25|(simp only[upd_apply];rfl)|(show I64 _=_;congr 1;omega)),(by first|rfl|exact f26|(simp only[upd_apply];rfl)|(show I64 _=_;congr 1;omega)),(rfl),(p' _ (Nat.le_refl _) pp),o'⟩
  ·((try simp (maxSteps:=3000000) (dsimp:=false) (disch:=first|omega|simp only[lnx];omega) only[↓ypre,ypost,↓reduceIte,reduceEqDiff,reduceAdd,reduceSub,reduceLeDiff,zz0,ynew,f6,f25,f26,f27,show ((1:Nat):Int)=1 from rfl,show decide ((1:Int)<2)=true from rfl,j1,rd1_of hm2]);try simp only[yback])
   refine o.appR (hb.pre pp) wR (by show L.length+R.length≤1000;omega) lK fun sv' H' p' o'=>?_
   ((try simp (maxSteps:=3000000) (dsimp:=false) (disch:=first|omega|simp only[lnx];omega) only[↓ypre,ypost,↓reduceIte,reduceEqDiff,reduceAdd,reduceSub,reduceLeDiff,zz0,ynew,f6,f25,f26,f27,wrap64_in]);try simp only[yback])
   refine InvQ_go (2-(1+1)) (by omega) ⟨(1+1),sv',rfl,by omega,(by first|rfl|exact f6|(simp only[upd_apply];rfl)|(show I64 _=_;congr 1;omega)),(by first|rfl|exact f25|(simp only[upd_apply];rfl)|(show I64 _=_;congr 1;omega)),(by first|rfl|exact f26|(simp only[upd_apply];rfl)|(show I64 _=_;congr 1;omega)),(rfl),(p' _ (Nat.le_refl _) pp),o'⟩
 ·have ei:i=2:=by omega
  subst ei
  ((try simp (maxSteps:=3000000) (dsimp:=false) (disch:=first|omega|simp only[lnx];omega) only[↓ypre,ypost,↓reduceIte,reduceEqDiff,reduceAdd,reduceSub,reduceLeDiff,zz0,ynew,f6,f25,f26,f27,decide_eq_false hlt]);try simp only[yback])
  exact hQ _ _ pp o
theorem i_withoutAt {w:Value} {L:List (List Int)} {k:Nat} {h:AH} {Q:Value→AH→Prop} (hw:Els .u8 27 h w L) (hk:k<L.length) (hl:L.length≤1000) (hQ:∀ w' h',h<+:h'→OwnP h.length h' w' (rmv L k)→Q w' h'):WF S 282 [w,I64 k] h Q:=by
 refine WF_fn (fn:=c282) rfl rfl ?_
 dsimp only[c282,oO,oM,oS,oG,oK,oE,oL,oF,oX,oN]
 have w27:Wid 27 L:=hw.widL
 obtain⟨b,off,rfl,hrd⟩:=hw.rdAll (by omega)
 have s1:slcV 27 (.slice (some ⟨b,off,none⟩) L.length 27) none (some (I64 k))=some (.slice (some ⟨b,off,none⟩) k 27):=by
  simp only[slcV,boundV]
  by_cases h0:0<k
  ·rw[if_pos ⟨trivial,by omega,by omega,by omega⟩]
   simp
  ·rw[if_neg (fun x=>by have:=x.2.2.1;omega),if_pos ⟨trivial,trivial,trivial,by omega⟩]
   rw[show k=0 by omega]
 obtain⟨w2,s2,e2⟩:∃ w2,slcV 27 (.slice (some ⟨b,off,none⟩) L.length 27) (some (I64 ((k+1:Nat):Int))) none=some w2∧RdE h w2 (L.drop (k+1)):=by
  by_cases h1:k+1<L.length
  ·refine⟨.slice (some ⟨b,off+(k+1)*27,none⟩) (L.length-(k+1)) 27,?_,.inr ⟨b,off+(k+1)*27,by rw[List.length_drop],?_⟩⟩
   ·simp only[slcV,boundV]
    rw[if_pos ⟨trivial,by omega,by omega,by omega⟩,Int.toNat_natCast,show ((L.length:Int)-((k+1:Nat):Int)).toNat=L.length-(k+1) by omega]
   ·have:=rdn_sub w27 hrd (j:=k+1) (m:=L.length-(k+1)) (by omega)
    rw[List.take_of_length_le (by rw[List.length_drop];exact Nat.le_refl _)] at this
    rw[List.length_drop]
    exact this
  ·refine⟨.slice none 0 1,?_,.inl ⟨List.drop_of_length_le (by omega),1,rfl⟩⟩
   simp only[slcV,boundV]
   rw[if_neg (fun x=>by have:=x.2.2.1;omega),if_neg (fun x=>by have:=x.2.1;cases this),if_pos ⟨trivial,by omega,by omega,by omega⟩]
 have e1:RdE h (.slice (some ⟨b,off,none⟩) k 27) (L.take k):=by
  have lt:(L.take k).length=k:=by rw[List.length_take];omega
  have:=rdn_sub w27 hrd (j:=0) (m:=k) (by omega)
  rw[Nat.zero_mul,Nat.add_zero,List.drop_zero] at this
  exact .inr ⟨b,off,by rw[lt],by rw[lt];exact this⟩
 have q1:(k:Int)+1=((k+1:Nat):Int):=by push_cast;rfl
 have wk:IntKind.i64.wrap ((k:Int)+1)=((k+1:Nat):Int):=by rw[wrap64_in (by omega) (by omega),q1]
 ((try simp (maxSteps:=3000000) (dsimp:=false) (disch:=first|omega|simp only[lnx];omega) only[↓ypre,ypost,↓reduceIte,reduceEqDiff,reduceAdd,reduceSub,reduceLeDiff,zz0,ynew,omapF_none,omapF_some,s1,wk,s2,fillL,zrep,e1.one,e1.cells,e2.one,e2.cells]);try simp only[yback])
 generalize hH1:AH.new h _=H1
 obtain⟨hb1,p1,n1⟩:=new_facts hH1
 refine i_ConcatP hb1 (e1.pre p1) (e2.pre p1) (fun q hq=>w27 q (List.mem_of_mem_take hq)) (fun q hq=>w27 q (List.mem_of_mem_drop hq)) (by rw[List.length_take,List.length_drop];omega) fun w' H2 p2 o2=>?_
 ((try simp (maxSteps:=3000000) (dsimp:=false) (disch:=first|omega|simp only[lnx];omega) only[↓ypre,ypost,↓reduceIte,reduceEqDiff,reduceAdd,reduceSub,reduceLeDiff,zz0,ynew]);try simp only[yback])
 refine hQ w' H2 (p1.trans p2) ?_
 obtain⟨o3,o4|⟨kb,fu,o5,o6,o7⟩⟩:=o2
 ·exact⟨o3,.inl o4⟩
 ·exact⟨o3,.inr ⟨kb,fu,o5,by omega,o7⟩⟩
end Go.Proofs.Ytapafdpnmakekaa.X
