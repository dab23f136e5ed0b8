/- Texts of one claim, put together by merge.py: XB5, XS21, XS22, XB6, XS18, XN3, XV5, XN4, XM9, XR3, XR4, XB7, XB8. -/
import Derived.Test.YtapafdpnmakekaaPA11
import Derived.Test.YtapafdpnmakekaaPA10
import Derived.Test.YtapafdpnmakekaaPA8
import Derived.Test.YtapafdpnmakekaaPA9
set_option linter.unusedVariables false
set_option linter.unusedSimpArgs false
set_option maxRecDepth 20000
set_option maxHeartbeats 4000000
namespace Go.Proofs.Ytapafdpnmakekaa.X
open Go Go.RowKit
open Nat (reduceEqDiff reduceAdd reduceSub reduceLeDiff)
theorem rowd_appB {lo kb b:Nat} {H:AH} {fu f ro fz:Bool} {e':TypeId} {rows:List (List Int)} {l:List Int} {B:Nat→Nat} {cs:List Value} (r:RowD lo H kb fu rows B cs) (hl:rows.length≤100000) (hb:lo≤b) (hkb:b≠kb)
  (hB:∀ i,i<rows.length→B i<b) (hx:Lst H b l f) {Q:Value→AH→Prop}
  (hQ:∀ H':AH,H'.length=H.length+2→Kp kb H H'→RowD lo H' (H.length+1) false (rows++[l]) (fun i=>if i<rows.length then B i else b) (cs++[sl b l.length])→Q (sl (H.length+1) (rows++[l]).length) H') :
  OQ (appV 27 1 24 (sl kb rows.length) (.slice (some ⟨H.length,0,none⟩) 1 1) (H.new ⟨[sl b l.length],e',ro,fz⟩)) Q:=by
 have hn:(H.new ⟨[sl b l.length],e',ro,fz⟩).rdn H.length 0 1=some [sl b l.length]:=by rw[rdn_new_same];rfl
 have hk:(H.new ⟨[sl b l.length],e',ro,fz⟩).get kb=some ⟨cs,27,false,fu⟩:=get_new_any r.get
 have hkl:=get_lt r.get
 have hbl:=get_lt hx
 unfold sl
 unfold sl at hn hk
 rw[app_ownW (n:=rows.length) hk (by rw[r.len,Nat.mul_one]) hn (by omega),OQ_some,len_new]
 have kk:Kp kb H (((H.new ⟨[sl b l.length],e',ro,fz⟩).kill kb).new ⟨cs++[sl b l.length],27,false,false⟩):=⟨by rw[len_new,len_kill,len_new];omega,fun j hj hne=>by
   rw[show (((H.new ⟨[sl b l.length],e',ro,fz⟩).kill kb).new ⟨cs++[sl b l.length],27,false,false⟩).get j=((H.new ⟨[sl b l.length],e',ro,fz⟩).kill kb).get j from prefix_get (pre_new (List.prefix_refl _)) (by rw[len_kill,len_new];omega),get_kill_ne (Ne.symm hne)]
   exact prefix_get (pre_new (List.prefix_refl _)) hj⟩
 have:=hQ _ (by rw[len_new,len_kill,len_new]) kk ⟨get_new_eq (by rw[len_kill,len_new]),by simp[r.len],by have:=r.low;omega,fun i hi=>?_,fun i j hij hj=>?_⟩
 ·unfold sl at this
  rw[List.length_append,List.length_singleton] at this
  exact this
 ·by_cases h:i<rows.length
  ·obtain⟨h1,h2,⟨g,h3⟩,h4⟩:=r.row i h
   have lb:=get_lt h3
   simp only[if_pos h]
   refine⟨h1,?_,⟨g,?_⟩,by omega⟩
   ·rw[getD_snocD,if_pos (by rw[r.len];exact h),h2,getD_snocD,if_pos h]
   ·rw[getD_snocD,if_pos h]
    exact kk.get h4 h3
  ·have e:i=rows.length:=by simp at hi;omega
   subst e
   simp only[if_neg h]
   refine⟨hb,?_,⟨f,?_⟩,by omega⟩
   ·rw[getD_snocD,if_neg (by rw[r.len];omega),if_pos r.len.symm,getD_snocD,if_neg (by omega),if_pos rfl]
   ·rw[getD_snocD,if_neg (by omega),if_pos rfl]
    exact kk.get hkb hx
 ·simp only[List.length_append,List.length_singleton] at hj
  by_cases h:j<rows.length
  ·simp only[if_pos h,if_pos (show i<rows.length by omega)]
   exact r.inc i j hij h
  ·simp only[if_neg h,if_pos (show i<rows.length by omega)]
   exact hB i (by omega)
theorem flF_len {L:List (List Int)} {i k:Nat}:∀ {r:Nat},(flF L i k r).length≤r
 | 0=>Nat.le_refl _
 | r+1=>by
  have:=flF_len (L:=L) (i:=i) (k:=k) (r:=r)
  unfold flF
  rw[List.length_append]
  split<;>simp<;>omega
theorem flK_len {L:List (List Int)} {i:Nat}:∀ {k:Nat},(flK L i k).length≤3*k
 | 0=>Nat.le_refl _
 | k+1=>by
  have:=flK_len (L:=L) (i:=i) (k:=k)
  have h3:=flF_len (L:=L) (i:=i) (k:=k) (r:=3)
  unfold flK
  rw[List.length_append]
  split
  ·simp;omega
  ·omega
theorem flI_len {L:List (List Int)}:∀ {i:Nat},(flI L i).length≤3*L.length*i
 | 0=>Nat.le_refl _
 | i+1=>by
  have:=flI_len (L:=L) (i:=i)
  have h3:=flK_len (L:=L) (i:=i) (k:=L.length)
  unfold flI
  rw[List.length_append,Nat.mul_succ]
  omega
theorem s_l03Flips {x:Sch} {v:Value} {h:AH} {Q:Value→AH→Prop} (hv:Prods h v x.ps) (hl:x.ps.length≤30)
  (hQ:∀ kb fu B cs h',h<+:h'→RowD (h.length+1) h' kb fu (flI x.ps x.ps.length) B cs→Q (sl kb (flI x.ps x.ps.length).length) h'):WF S 156 [schV x v] h Q:=by
 refine WF_fn (fn:=c156) rfl rfl ?_
 dsimp only[c156,oO,oM,oS,oG,oK,oE,oL,oF,oX,oN]
 have o1:=hv.one
 have vl:=hv.1.len
 ((try simp (maxSteps:=3000000) (dsimp:=false) (disch:=first|omega|simp only[lnx];omega) only[↓ypre,ypost,↓reduceIte,reduceEqDiff,reduceAdd,reduceSub,reduceLeDiff,zz0,ynew,schV,o1,fillL,zrep]);try simp only[yback])
 generalize hH1:AH.new h _=H1
 obtain⟨hb1,p1,n1⟩:=new_facts hH1
 generalize hH2:AH.new H1 _=H2
 obtain⟨hb2,p2,n2⟩:=new_facts hH2
 have hb1:=pre_get p2 hb1
 have r0:RowD (h.length+1) H2 H1.length true [] (fun _=>0) []:=⟨hb2,rfl,by omega,fun i hi=>by simp at hi,fun i j _ hj=>by simp at hj⟩
 refine WC_loop_inv (fun m f K1=>∃ (i:Nat) (kb:Nat) (fu:Bool) (B:(Nat→Nat)) (cs:List Value),m=x.ps.length-i∧i≤x.ps.length∧f 1=.pointer (some ⟨h.length,0,none⟩)∧f 3=sl kb (flI x.ps i).length∧f 4=I64 i∧(h<+:K1)∧(OwnB K1 h.length [I64 x.p,I64 x.n,I64 x.m,I64 x.k,v] true)∧(RowD (h.length+1) K1 kb fu (flI x.ps i) B cs)∧(∀ j,j<(flI x.ps i).length→B j<K1.length)) ?_ (x.ps.length-0) _ _ ⟨0,H1.length,true,(fun _=>0),[],rfl,by omega,(by first|rfl|simp[upd_apply]),(by first|rfl|simp[upd_apply]),(by first|rfl|simp[upd_apply]),p1.trans p2,⟨_,hb1⟩,r0,(fun j hj=>by simp[flI] at hj)⟩
 rintro m f K1 ⟨i,kb,fu,B,cs,rfl,hi,f1,f3,f4,pp,g1,r,hB⟩
 obtain⟨e1,g1⟩:=g1
 by_cases hi:(i:Int)<x.ps.length
 ·((try simp (maxSteps:=3000000) (dsimp:=false) (disch:=first|omega|simp only[lnx];omega) only[↓ypre,ypost,↓reduceIte,reduceEqDiff,reduceAdd,reduceSub,reduceLeDiff,zz0,ynew,f1,f3,f4,rd1_of g1,vl,decide_eq_true hi]);try simp only[yback])
  have z0:flI x.ps i++flK x.ps i 0=flI x.ps i:=by rw[show flK x.ps i 0=[] from rfl,List.append_nil]
  have f3:f 3=sl kb (flI x.ps i++flK x.ps i 0).length:=by rw[z0];exact f3
  refine WC_loop_inv (fun m f K2=>∃ (k:Nat) (kb:Nat) (fu:Bool) (B:(Nat→Nat)) (cs:List Value),m=x.ps.length-k∧k≤x.ps.length∧f 1=.pointer (some ⟨h.length,0,none⟩)∧f 3=sl kb (flI x.ps i++flK x.ps i k).length∧f 4=I64 i∧f 5=I64 k∧(h<+:K2)∧(OwnB K2 h.length [I64 x.p,I64 x.n,I64 x.m,I64 x.k,v] true)∧(RowD (h.length+1) K2 kb fu (flI x.ps i++flK x.ps i k) B cs)∧(∀ j,j<(flI x.ps i++flK x.ps i k).length→B j<K2.length)) ?_ (x.ps.length-0) _ _ ⟨0,kb,fu,B,cs,rfl,by omega,(by first|rfl|exact f1|(simp[upd_apply];done)),(by first|rfl|exact f3|(simp[upd_apply];done)),(by first|rfl|exact f4|(simp[upd_apply];done)),(by first|rfl|simp[upd_apply]),pp,⟨_,g1⟩,(by rw[show flK x.ps i 0=[] from rfl,List.append_nil];exact r),(by rw[show flK x.ps i 0=[] from rfl,List.append_nil];exact hB)⟩
  rintro m f K2 ⟨k,kb,fu,B,cs,rfl,hk,f1,f3,f4,f5,pp,g1,r,hB⟩
  obtain⟨e1',g1⟩:=g1
  by_cases hk:(k:Int)<x.ps.length
  ·((try simp (maxSteps:=3000000) (dsimp:=false) (disch:=first|omega|simp only[lnx];omega) only[↓ypre,ypost,↓reduceIte,reduceEqDiff,reduceAdd,reduceSub,reduceLeDiff,zz0,ynew,f1,f3,f4,f5,rd1_of g1,vl,decide_eq_true hk]);try simp only[yback])
   have z1:flI x.ps i++flK x.ps i k++(if i=k then [] else flF x.ps i k 0)=flI x.ps i++flK x.ps i k:=by rw[show (if i=k then [] else flF x.ps i k 0)=[] from by split<;>rfl,List.append_nil]
   have f3:f 3=sl kb (flI x.ps i++flK x.ps i k++(if i=k then [] else flF x.ps i k 0)).length:=by rw[z1];exact f3
   refine WC_loop_inv (fun m f K3=>∃ (u:Nat) (kb:Nat) (fu:Bool) (B:(Nat→Nat)) (cs:List Value),m=3-u∧u≤3∧f 1=.pointer (some ⟨h.length,0,none⟩)∧f 3=sl kb (flI x.ps i++flK x.ps i k++(if i=k then [] else flF x.ps i k u)).length∧f 4=I64 i∧f 5=I64 k∧f 6=I64 u∧(h<+:K3)∧(OwnB K3 h.length [I64 x.p,I64 x.n,I64 x.m,I64 x.k,v] true)∧(RowD (h.length+1) K3 kb fu (flI x.ps i++flK x.ps i k++(if i=k then [] else flF x.ps i k u)) B cs)∧(∀ j,j<(flI x.ps i++flK x.ps i k++(if i=k then [] else flF x.ps i k u)).length→B j<K3.length)) ?_ (3-0) _ _ ⟨0,kb,fu,B,cs,rfl,by omega,(by first|rfl|exact f1|(simp[upd_apply];done)),(by first|rfl|exact f3|(simp[upd_apply];done)),(by first|rfl|exact f4|(simp[upd_apply];done)),(by first|rfl|exact f5|(simp[upd_apply];done)),(by first|rfl|simp[upd_apply]),pp,⟨_,g1⟩,(by rw[show (if i=k then [] else flF x.ps i k 0)=[] from by split<;>rfl,List.append_nil];exact r),(by rw[show (if i=k then [] else flF x.ps i k 0)=[] from by split<;>rfl,List.append_nil];exact hB)⟩
   rintro m f K3 ⟨u,kb,fu,B,cs,rfl,hu,f1,f3,f4,f5,f6,pp,g1,r,hB⟩
   obtain⟨e1'',g1⟩:=g1
   by_cases hu:(u:Int)<3
   ·by_cases hik:i=k
    ·have en:flK x.ps i (k+1)=flK x.ps i k:=by rw[show flK x.ps i (k+1)=flK x.ps i k++(if i=k then [] else flF x.ps i k 3) from rfl,if_pos hik,List.append_nil]
     rw[if_pos hik,List.append_nil] at r hB f3
     ((try simp (maxSteps:=3000000) (dsimp:=false) (disch:=first|omega|simp only[lnx];omega) only[↓ypre,ypost,↓reduceIte,reduceEqDiff,reduceAdd,reduceSub,reduceLeDiff,zz0,ynew,f1,f3,f4,f5,f6,decide_eq_true hu,decide_eq_false (show ¬ (i:Int)≠k by omega),wrap64_in]);try simp only[yback])
     refine InvQ_go (x.ps.length-(k+1)) (by omega) ⟨(k+1),kb,fu,B,cs,rfl,by omega,(by first|rfl|exact f1|(simp only[upd_apply];rfl)|(show I64 _=_;congr 1;omega)),(by rw[en];exact f3),(by first|rfl|exact f4|(simp only[upd_apply];rfl)|(show I64 _=_;congr 1;omega)),(by first|rfl|exact f5|(simp only[upd_apply];rfl)|(show I64 _=_;congr 1;omega)),pp,⟨_,g1⟩,(by rw[en];exact r),(by rw[en];exact hB)⟩
    ·rw[if_neg hik] at r hB f3
     have hi':i<x.ps.length:=by omega
     have hk':k<x.ps.length:=by omega
     obtain⟨ni,oi,ixi,rdi⟩:=((hv.pre pp).1).at hi'
     have byi:By 27 (x.ps.getD i []):=⟨hv.1.wid hi',fun j hj=>hv.2 i hi' j hj⟩
     have byk:By 27 (x.ps.getD k []):=⟨hv.1.wid hk',fun j hj=>hv.2 k hk' j hj⟩
     have nx:flF x.ps i k (u+1)=flF x.ps i k u++(if seg (x.ps.getD i []) u=seg (x.ps.getD k []) u then [[(i:Int),k,u]] else []):=rfl
     have len1:=flI_len (L:=x.ps) (i:=i)
     have len2:=flK_len (L:=x.ps) (i:=i) (k:=k)
     have len3:=flF_len (L:=x.ps) (i:=i) (k:=k) (r:=u)
     have len4:3*x.ps.length*i≤3*30*30:=Nat.mul_le_mul (Nat.mul_le_mul (Nat.le_refl 3) hl) (by omega)
     generalize x.ps.getD i []=a at rdi byi nx
     have a27:=byi.1
     have ri:K3.rdn ni oi 27=some (cel .u8 a):=by
      have:=rdi.1 0 27 (by omega)
      rwa [Nat.add_zero,List.drop_zero,List.take_of_length_le (by omega)] at this
     ((try simp (maxSteps:=3000000) (dsimp:=false) (disch:=first|omega|simp only[lnx];omega) only[↓ypre,ypost,↓reduceIte,reduceEqDiff,reduceAdd,reduceSub,reduceLeDiff,zz0,ynew,f1,f3,f4,f5,f6,decide_eq_true hu,decide_eq_true (show (i:Int)≠k by omega),rd1_of g1,ixi,ri]);try simp only[yback])
     refine s_l03Factor (q:=a) byi (by omega) fun K4 p4=>⟨p4,?_⟩
     have g1:=pre_get p4 g1
     have r:=r.pre p4
     have l4:=pre_len p4
     obtain⟨nk,ok,ixk,rdk⟩:=((hv.pre (pp.trans p4)).1).at hk'
     generalize x.ps.getD k []=b at rdk byk nx
     have b27:=byk.1
     have rk:AH.rdn K4 nk ok 27=some (cel .u8 b):=by
      have:=rdk.1 0 27 (by omega)
      rwa [Nat.add_zero,List.drop_zero,List.take_of_length_le (by omega)] at this
     ((try simp (maxSteps:=3000000) (dsimp:=false) (disch:=first|omega|simp only[lnx];omega) only[↓ypre,ypost,↓reduceIte,reduceEqDiff,reduceAdd,reduceSub,reduceLeDiff,zz0,ynew,f1,f3,f4,f5,f6,rd1_of g1,ixk,rk]);try simp only[yback])
     refine s_l03Factor (q:=b) byk (by omega) fun K5 p5=>?_
     have g1:=pre_get p5 g1
     have r:=r.pre p5
     have l5:=pre_len p5
     have ea:=eqaV_cel (k:=.u8) (seg_n9 a27 (show u<3 by omega)) (seg_n9 b27 (show u<3 by omega)) (by omega)
     have p45:=p4.trans p5
     by_cases hs:seg a u=seg b u
     ·have hb:(seg a u==seg b u)=true:=by rw[hs];simp
      rw[if_pos hs] at nx
      ((try simp (maxSteps:=3000000) (dsimp:=false) (disch:=first|omega|simp only[lnx];omega) only[↓ypre,ypost,↓reduceIte,reduceEqDiff,reduceAdd,reduceSub,reduceLeDiff,zz0,ynew,f1,f3,f4,f5,f6,aggV,ea,hb,fillL,zrep]);try simp only[yback])
      generalize hH7:AH.new K5 _=H7
      obtain⟨g7,p7,n7⟩:=new_facts hH7
      have rk':=get_lt r.get
      have rlow:=r.low
      have q7:Lst H7 K5.length [(i:Int),k,u] true:=g7
      refine rowd_appB (r.pre p7) (by rw[List.length_append,List.length_append];omega) (by have:=pp.length_le;have:=pre_len p45;omega) (by omega) (fun j hj=>by have:=hB j hj;have:=pre_len p45;omega) q7 fun HZ lZ kZ rZ=>?_
      have g1Z:=kZ.get (by omega) (pre_get p7 g1)
      have nxx:flI x.ps i++flK x.ps i k++flF x.ps i k (u+1)=flI x.ps i++flK x.ps i k++flF x.ps i k u++[[(i:Int),k,u]]:=by rw[nx];simp only[List.append_assoc]
      have hB2:∀ j,j<(flI x.ps i++flK x.ps i k++flF x.ps i k u++[[(i:Int),k,u]]).length→(if j<(flI x.ps i++flK x.ps i k++flF x.ps i k u).length then B j else K5.length)<HZ.length:=fun j hj=>by
       split
       ·rename_i hjr
        have:=hB j hjr
        have:=pre_len p45
        omega
       ·omega
      ((try simp (maxSteps:=3000000) (dsimp:=false) (disch:=first|omega|simp only[lnx];omega) only[↓ypre,ypost,↓reduceIte,reduceEqDiff,reduceAdd,reduceSub,reduceLeDiff,zz0,ynew,f1,f3,f4,f5,f6,wrap64_in]);try simp only[yback])
      refine InvQ_go (3-(u+1)) (by omega) ⟨(u+1),(H7.length+1),false,_,_,rfl,by omega,(by first|rfl|exact f1|(simp only[upd_apply];rfl)|(show I64 _=_;congr 1;omega)),(by rw[if_neg hik,nxx];rfl),(by first|rfl|exact f4|(simp only[upd_apply];rfl)|(show I64 _=_;congr 1;omega)),(by first|rfl|exact f5|(simp only[upd_apply];rfl)|(show I64 _=_;congr 1;omega)),(by first|rfl|exact f6|(simp only[upd_apply];rfl)|(show I64 _=_;congr 1;omega)),(kZ.pre (pp.trans (p45.trans p7)) (by omega)),⟨_,g1Z⟩,(by rw[if_neg hik,nxx];exact rZ),(by rw[if_neg hik,nxx];exact hB2)⟩
     ·have hb:(seg a u==seg b u)=false:=by simpa using hs
      rw[if_neg hs,List.append_nil] at nx
      ((try simp (maxSteps:=3000000) (dsimp:=false) (disch:=first|omega|simp only[lnx];omega) only[↓ypre,ypost,↓reduceIte,reduceEqDiff,reduceAdd,reduceSub,reduceLeDiff,zz0,ynew,f1,f3,f4,f5,f6,aggV,ea,hb,wrap64_in]);try simp only[yback])
      refine InvQ_go (3-(u+1)) (by omega) ⟨(u+1),kb,fu,B,cs,rfl,by omega,(by first|rfl|exact f1|(simp only[upd_apply];rfl)|(show I64 _=_;congr 1;omega)),(by rw[if_neg hik,nx];exact f3),(by first|rfl|exact f4|(simp only[upd_apply];rfl)|(show I64 _=_;congr 1;omega)),(by first|rfl|exact f5|(simp only[upd_apply];rfl)|(show I64 _=_;congr 1;omega)),(by first|rfl|exact f6|(simp only[upd_apply];rfl)|(show I64 _=_;congr 1;omega)),(pp.trans p45),⟨_,g1⟩,(by rw[if_neg hik,nx];exact r),(by rw[if_neg hik,nx];exact fun j hj=>Nat.lt_of_lt_of_le (hB j hj) (Nat.le_trans l4 l5))⟩
   ·have eu:u=3:=by omega
    subst eu
    have en:flI x.ps i++flK x.ps i (k+1)=flI x.ps i++flK x.ps i k++(if i=k then [] else flF x.ps i k 3):=by rw[List.append_assoc];rfl
    ((try simp (maxSteps:=3000000) (dsimp:=false) (disch:=first|omega|simp only[lnx];omega) only[↓ypre,ypost,↓reduceIte,reduceEqDiff,reduceAdd,reduceSub,reduceLeDiff,zz0,ynew,f1,f3,f4,f5,f6,decide_eq_false hu,wrap64_in]);try simp only[yback])
    refine InvQ_go (x.ps.length-(k+1)) (by omega) ⟨(k+1),kb,fu,B,cs,rfl,by omega,(by first|rfl|exact f1|(simp only[upd_apply];rfl)|(show I64 _=_;congr 1;omega)),(by rw[en];exact f3),(by first|rfl|exact f4|(simp only[upd_apply];rfl)|(show I64 _=_;congr 1;omega)),(by first|rfl|exact f5|(simp only[upd_apply];rfl)|(show I64 _=_;congr 1;omega)),pp,⟨_,g1⟩,(by rw[en];exact r),(by rw[en];exact hB)⟩
  ·have _t:=hk
   ((try simp (maxSteps:=3000000) (dsimp:=false) (disch:=first|omega|simp only[lnx];omega) only[↓ypre,ypost,↓reduceIte,reduceEqDiff,reduceAdd,reduceSub,reduceLeDiff,zz0,ynew,f1,f3,f4,f5,rd1_of g1,vl,decide_eq_false hk,wrap64_in]);try simp only[yback])
   have ek:k=x.ps.length:=by omega
   subst ek
   refine InvQ_go (x.ps.length-(i+1)) (by omega) ⟨(i+1),kb,fu,B,cs,rfl,by omega,(by first|rfl|exact f1|(simp only[upd_apply];rfl)|(show I64 _=_;congr 1;omega)),(by first|rfl|exact f3|(simp only[upd_apply];rfl)|(show I64 _=_;congr 1;omega)),(by first|rfl|exact f4|(simp only[upd_apply];rfl)|(show I64 _=_;congr 1;omega)),pp,⟨_,g1⟩,r,hB⟩
 ·have ei:i=x.ps.length:=by omega
  subst ei
  ((try simp (maxSteps:=3000000) (dsimp:=false) (disch:=first|omega|simp only[lnx];omega) only[↓ypre,ypost,↓reduceIte,reduceEqDiff,reduceAdd,reduceSub,reduceLeDiff,zz0,ynew,f1,f3,f4,rd1_of g1,vl,decide_eq_false hi]);try simp only[yback])
  exact hQ kb fu B cs _ pp r
end Go.Proofs.Ytapafdpnmakekaa.X

set_option linter.unusedVariables false
set_option linter.unusedSimpArgs false
set_option maxRecDepth 20000
set_option maxHeartbeats 4000000
namespace Go.Proofs.Ytapafdpnmakekaa.X
open Go Go.RowKit
def Twgs (h:AH) (v:Value) (L:List (List Int)):Prop:=Els .u8 108 h v L∧Byt 108 L
def InB (a b:Nat) (h:AH) (v:Value) (L:List (List Int)):Prop:=InE .u8 108 a b h v L∧Byt 108 L
section
variable {a b c d:Nat} {h h':AH} {v:Value} {L:List (List Int)}
theorem Twgs.pre (o:Twgs h v L) (p:h<+:h'):Twgs h' v L:=⟨o.1.pre p,o.2⟩
theorem Twgs.one (o:Twgs h v L):isOne v=true:=o.1.one
theorem InB.rd (o:InB a b h v L):Twgs h v L:=⟨o.1.rd,o.2⟩
theorem InB.pre (o:InB a b h v L) (p:h<+:h'):InB a b h' v L:=⟨o.1.pre p,o.2⟩
end
def sg (q:List Int) (i:Nat):List Int:=(q.drop (i*36)).take 36
def zeroS:Sch:=⟨0,0,0,0,[]⟩
theorem zeroS_kn {lo:Nat} {h:AH}:KN lo h fun h2=>Prods h2 (.slice none 0 0) zeroS.ps:=fun h2 _ _=>⟨.inl ⟨rfl,0,by omega,rfl⟩,fun _ h=>by simp[zeroS] at h⟩
def like (x y:Sch):Prop:=x.p=y.p∧x.n=y.n∧x.m=y.m∧x.k=y.k
instance {x y:Sch}:Decidable (like x y):=by unfold like;infer_instance
end Go.Proofs.Ytapafdpnmakekaa.X

set_option linter.unusedVariables false
set_option linter.unusedSimpArgs false
set_option maxRecDepth 20000
set_option maxHeartbeats 4000000
namespace Go.Proofs.Ytapafdpnmakekaa.X
open Go Go.RowKit
open Nat (reduceEqDiff reduceAdd reduceSub reduceLeDiff)
theorem RowD.put {lo kb m:Nat} {H:AH} {fu:Bool} {rows:List (List Int)} {B:Nat→Nat} {cs:List Value} {b:Blk} (r:RowD lo H kb fu rows B cs) (hm:m≠kb) (hB:∀ i,i<rows.length→B i<m):RowD lo (H.put m b) kb fu rows B cs:=
 ⟨by rw[get_put_ne hm];exact r.get,r.len,r.low,fun i hi=>by
  obtain⟨h1,h2,⟨f,h3⟩,h4⟩:=r.row i hi
  have:=hB i hi
  exact⟨h1,h2,⟨f,by unfold Lst;rw[get_put_ne (by omega)];exact h3⟩,h4⟩,r.inc⟩
theorem len_slN {n I:Nat}:lenV (sl n I)=some (.int .i64 I):=rfl
def crR (x:Sch):Bool×Int:=if isX x=true then (decide (wrX x=[]),0) else (false,1)
theorem wr_dec {x:Sch}:decide (((wrX x).length:Int)=0)=decide (wrX x=[]):=by
 by_cases h:wrX x=[]
 ·rw[decide_eq_true h,h]
  rfl
 ·have:0<(wrX x).length:=List.length_pos_iff.2 h
  rw[decide_eq_false h,decide_eq_false (by omega)]
theorem i_IsCorrect {v:Value} {x:Sch} {h:AH} {Q:Value→AH→Prop} (hv:Prods h v x.ps) (hl:SmallX x.ps)
  (hQ:∀ h',h<+:h'→Q (.tuple #[.bool (crR x).1,I64 (crR x).2]) h'):WF S 17 [schV x v] h Q:=by
 refine WF_fn (fn:=c17) rfl rfl ?_
 dsimp only[c17,oO,oM,oS,oG,oK,oE,oL,oF,oX,oN]
 have o1:=hv.one
 ((try simp (maxSteps:=3000000) (dsimp:=false) (disch:=first|omega|simp only[lnx];omega) only[↓ypre,ypost,↓reduceIte,reduceEqDiff,reduceAdd,reduceSub,reduceLeDiff,zz0,ynew,schV,o1]);try simp only[yback])
 generalize hH1:AH.new h _=H1
 obtain⟨hb1,p1,n1⟩:=new_facts hH1
 ((try simp (maxSteps:=3000000) (dsimp:=false) (disch:=first|omega|simp only[lnx];omega) only[↓ypre,ypost,↓reduceIte,reduceEqDiff,reduceAdd,reduceSub,reduceLeDiff,zz0,ynew,rdn_of hb1]);try simp only[yback])
 refine i_IsScheme (x:=x) (hv.pre p1) hl fun H2 p2=>?_
 have g2:=pre_get p2 hb1
 by_cases hx:isX x=true
 case neg=>
  ((try simp (maxSteps:=3000000) (dsimp:=false) (disch:=first|omega|simp only[lnx];omega) only[↓ypre,ypost,↓reduceIte,reduceEqDiff,reduceAdd,reduceSub,reduceLeDiff,zz0,ynew,hx]);try simp only[yback])
  have e:crR x=(false,1):=if_neg hx
  rw[e] at hQ
  exact hQ _ (p1.trans p2)
 have e:crR x=(decide (wrX x=[]),0):=if_pos hx
 rw[e] at hQ
 ((try simp (maxSteps:=3000000) (dsimp:=false) (disch:=first|omega|simp only[lnx];omega) only[↓ypre,ypost,↓reduceIte,reduceEqDiff,reduceAdd,reduceSub,reduceLeDiff,zz0,ynew,hx,rdn_of g2]);try simp only[yback])
 refine i_wrong (x:=x) (hv.pre (p1.trans p2)) hx fun kb fu B cs H3 p3 r=>?_
 ((try simp (maxSteps:=3000000) (dsimp:=false) (disch:=first|omega|simp only[lnx];omega) only[↓ypre,ypost,↓reduceIte,reduceEqDiff,reduceAdd,reduceSub,reduceLeDiff,zz0,ynew,len_slN,wr_dec]);try simp only[yback])
 exact hQ _ (p1.trans (p2.trans p3))
def pvF (p:Int) (row:List Int) (R:List (List Int)) (l:Nat):Nat→Int
 | 0=>0
 | j+1=>(pvF p row R l j+row.getD j 0*(R.getD j []).getD l 0).tmod p
def ppF (p:Int) (L R:List (List Int)) (k:Nat):List (List Int):=(List.range L.length).map fun i=>gen k fun l=>pvF p (L.getD i []) R l R.length
def ppN (p:Int) (L R:List (List Int)) (k:Nat) (i:Nat):List (List Int):=(List.range i).map fun i=>gen k fun l=>pvF p (L.getD i []) R l R.length
theorem ppN_len {p:Int} {L R:List (List Int)} {k i:Nat}:(ppN p L R k i).length=i:=by simp[ppN]
theorem ppN_next {p:Int} {L R:List (List Int)} {k i:Nat}:ppN p L R k (i+1)=ppN p L R k i++[gen k fun l=>pvF p (L.getD i []) R l R.length]:=by
 simp[ppN,List.range_succ]
structure PM (p:Int) (L R:List (List Int)) (k:Nat):Prop where
 pr:isP p=true
 bn:1≤L.length∧L.length≤3
 bm:1≤R.length∧R.length≤3
 bk:1≤k∧k≤3
 hL:isMat p R.length L=true
 hR:isMat p k R=true
 k0:(R.getD 0 []).length=k
def ppOK (p:Int) (L R:List (List Int)):Bool:=isP p&&(decide (1≤L.length∧L.length≤3)&&(decide (1≤R.length∧R.length≤3)&&(decide (1≤(R.getD 0 []).length∧(R.getD 0 []).length≤3)&&(isMat p R.length L&&isMat p (R.getD 0 []).length R))))
theorem ppOK_iff {p:Int} {L R:List (List Int)}:ppOK p L R=true↔PM p L R (R.getD 0 []).length:=by
 unfold ppOK
 simp only[Bool.and_eq_true,decide_eq_true_eq]
 constructor
 ·rintro⟨h1,h2,h3,h4,h5,h6⟩
  exact⟨h1,h2,h3,h4,h5,h6,rfl⟩
 ·rintro⟨h1,h2,h3,h4,h5,h6,_⟩
  exact⟨h1,h2,h3,h4,h5,h6⟩
def ppR (p:Int) (L R:List (List Int)):List (List Int)×Int:=if ppOK p L R=true then (ppF p L R (R.getD 0 []).length,0) else ([],2)
theorem pv_in {p:Int} {L R:List (List Int)} {k i l:Nat} (pm:PM p L R k) (hi:i<L.length) (hl:l<k):∀ {j:Nat},j≤R.length→0≤pvF p (L.getD i []) R l j∧pvF p (L.getD i []) R l j<p
 | 0,_=>by
  have:=isP_in pm.pr
  unfold pvF
  omega
 | j+1,hj=>by
  have hp:=isP_in pm.pr
  have ih:=pv_in pm hi hl (j:=j) (by omega)
  obtain⟨m1,m2⟩:=isMat_iff.1 pm.hL i hi
  obtain⟨r1,r2⟩:=isMat_iff.1 pm.hR j (by omega)
  have a:=allIn_iff.1 m2 j (by omega)
  have b:=allIn_iff.1 r2 l (by omega)
  have m:=mul_in (A:=4) (B:=4) (a:=(L.getD i []).getD j 0) (b:=(R.getD j []).getD l 0) (by omega) (by omega)
  unfold pvF
  exact tmod_nn (by omega) (by omega)
theorem pv_step {p:Int} {L R:List (List Int)} {k i l j:Nat} (pm:PM p L R k) (hi:i<L.length) (hl:l<k) (hj:j<R.length) :
  (0≤(L.getD i []).getD j 0∧(L.getD i []).getD j 0≤4)∧(0≤(R.getD j []).getD l 0∧(R.getD j []).getD l 0≤4)∧(0≤(L.getD i []).getD j 0*(R.getD j []).getD l 0∧(L.getD i []).getD j 0*(R.getD j []).getD l 0≤4*4)∧(0≤pvF p (L.getD i []) R l j∧pvF p (L.getD i []) R l j≤4)∧(L.getD i []).length=R.length∧(R.getD j []).length=k:=by
 have hp:=isP_in pm.pr
 have ih:=pv_in pm hi hl (j:=j) (by omega)
 obtain⟨m1,m2⟩:=isMat_iff.1 pm.hL i hi
 obtain⟨r1,r2⟩:=isMat_iff.1 pm.hR j (by omega)
 have a:=allIn_iff.1 m2 j (by omega)
 have b:=allIn_iff.1 r2 l (by omega)
 have m:=mul_in (A:=4) (B:=4) (a:=(L.getD i []).getD j 0) (b:=(R.getD j []).getD l 0) (by omega) (by omega)
 refine⟨by omega,by omega,m,by omega,by omega,by omega⟩
theorem rd1_pre {h h':AH} {n o:Nat} {v:Value} (p:h<+:h') (e:h.rd1 n o=some v):h'.rd1 n o=some v:=by
 unfold AH.rd1 at e ⊢
 obtain⟨b,hb,hc⟩:=Option.bind_eq_some_iff.1 e
 rw[pre_get p hb]
 exact hc
theorem i_multiply {u z:Value} {p:Int} {L R:List (List Int)} {k:Nat} {h:AH} {Q:Value→AH→Prop} (hu:Rows h u L) (hz:Rows h z R) (pm:PM p L R k)
  (hQ:∀ v' h',h<+:h'→Rows h' v' (ppF p L R k)→Q v' h'):WF S 169 [I64 p,u,z] h Q:=by
 refine WF_fn (fn:=c169) rfl rfl ?_
 dsimp only[c169,oO,oM,oS,oG,oK,oE,oL,oF,oX,oN]
 have hp:=isP_in pm.pr
 have bn:=pm.bn
 have bm:=pm.bm
 have bk:=pm.bk
 ((try simp (maxSteps:=3000000) (dsimp:=false) (disch:=first|omega|simp only[lnx];omega) only[↓ypre,ypost,↓reduceIte,reduceEqDiff,reduceAdd,reduceSub,reduceLeDiff,zz0,ynew,hu.len,fillL,zrep]);try simp only[yback])
 generalize hH1:AH.new h _=H1
 obtain⟨hb1,p1,n1⟩:=new_facts hH1
 have r0:RowD h.length H1 h.length true (ppN p L R k 0) (fun _=>0) []:=⟨hb1,rfl,Nat.le_refl _,fun i hi=>by simp[ppN] at hi,fun i j _ hj=>by simp[ppN] at hj⟩
 ((try simp (maxSteps:=3000000) (dsimp:=false) (disch:=first|omega|simp only[lnx];omega) only[↓ypre,ypost,↓reduceIte,reduceEqDiff,reduceAdd,reduceSub,reduceLeDiff,zz0,ynew,hu.len]);try simp only[yback])
 refine WC_loop_inv (fun m f K1=>∃ (i:Nat) (kb:Nat) (fu:Bool) (B:(Nat→Nat)) (cs:List Value),m=L.length-i∧i≤L.length∧f 0=I64 p∧f 2=z∧f 7=sl kb i∧f 15=u∧f 16=I64 L.length∧f 17=I64 i∧(h<+:K1)∧(RowD h.length K1 kb fu (ppN p L R k i) B cs)∧(∀ j,j<i→B j<K1.length)) ?_ (L.length-0) _ _ ⟨0,h.length,true,(fun _=>0),[],rfl,by omega,(by first|rfl|simp[upd_apply]),(by first|rfl|simp[upd_apply]),(by first|rfl|simp[upd_apply]),(by first|rfl|simp[upd_apply]),(by first|rfl|simp[upd_apply]),(by first|rfl|simp[upd_apply]),p1,r0,(fun j hj=>by omega)⟩
 rintro m f K1 ⟨i,kb,fu,B,cs,rfl,hi,f0,f2,f7,f15,f16,f17,pp,r,hB⟩
 have hu1:=hu.pre pp
 have hz1:=hz.pre pp
 by_cases hli:(i:Int)<L.length
 ·obtain⟨m0,q0,y0,ix0,rd0,iy0⟩:=hz1.row (i:=0) (by omega)
  have ix0:ixsV 1 z (I64 0)=some (.pointer (some ⟨m0,q0,none⟩)):=ix0 .i64
  have l0:=iy0.len
  rw[pm.k0] at l0
  obtain⟨m1,q1,y1,ix1,rd1,iy1⟩:=hu.row (i:=i) (by omega)
  have rd1:=rd1_pre pp rd1
  ((try simp (maxSteps:=3000000) (dsimp:=false) (disch:=first|omega|simp only[lnx];omega) only[↓ypre,ypost,↓reduceIte,reduceEqDiff,reduceAdd,reduceSub,reduceLeDiff,zz0,ynew,f0,f2,f7,f15,f16,f17,decide_eq_true hli,ix1,rd1,ix0,rd0,l0,mks_gen (N:=k) (h:=K1) (by omega)]);try simp only[yback])
  generalize hH2:AH.new K1 _=H2
  obtain⟨g2,p2,n2⟩:=new_facts hH2
  have q2:Lst H2 K1.length (gen k fun l=>if l<0 then pvF p (L.getD i []) R l R.length else 0) true:=by
   have e:(gen k fun l=>if l<0 then pvF p (L.getD i []) R l R.length else 0)=gen k fun _=>0:=gen_congr fun c hc=>if_neg (by omega)
   rw[e]
   exact g2
  have rlow:=r.low
  have rlt:=get_lt r.get
  have iyL:=iy1.pre (pp.trans p2)
  ((try simp (maxSteps:=3000000) (dsimp:=false) (disch:=first|omega|simp only[lnx];omega) only[↓ypre,ypost,↓reduceIte,reduceEqDiff,reduceAdd,reduceSub,reduceLeDiff,zz0,ynew,f0,f2,f7,f15,f16,f17,len_slN]);try simp only[yback])
  refine WC_loop_inv (fun m f K2=>∃ (l:Nat),m=k-l∧l≤k∧f 0=I64 p∧f 2=z∧f 7=sl kb i∧f 9=y1∧f 10=sl K1.length k∧f 15=u∧f 16=I64 L.length∧f 17=I64 i∧f 27=I64 k∧f 28=I64 l∧(h<+:K2)∧(RowD h.length K2 kb fu (ppN p L R k i) B cs)∧(Ints K2 y1 (L.getD i []))∧(Lst K2 K1.length (gen k fun l'=>if l'<l then pvF p (L.getD i []) R l' R.length else 0) true)) ?_ (k-0) _ _ ⟨0,rfl,by omega,(by first|rfl|exact f0|(simp[upd_apply];done)),(by first|rfl|exact f2|(simp[upd_apply];done)),(by first|rfl|exact f7|(simp[upd_apply];done)),(by first|rfl|simp[upd_apply]),(by first|rfl|simp[upd_apply]),(by first|rfl|exact f15|(simp[upd_apply];done)),(by first|rfl|exact f16|(simp[upd_apply];done)),(by first|rfl|exact f17|(simp[upd_apply];done)),(by first|rfl|simp[upd_apply]),(by first|rfl|simp[upd_apply]),pp.trans p2,r.pre p2,iyL,q2⟩
  rintro m f K2 ⟨l,rfl,hl,f0,f2,f7,f9,f10,f15,f16,f17,f27,f28,pp,r,iy,q⟩
  by_cases hll:(l:Int)<k
  ·have el:=(pv_step pm (i:=i) (l:=l) (j:=0) (by omega) (by omega) (by omega)).2.2.2.2.1
   have ly:=iy.len
   rw[el] at ly
   ((try simp (maxSteps:=3000000) (dsimp:=false) (disch:=first|omega|simp only[lnx];omega) only[↓ypre,ypost,↓reduceIte,reduceEqDiff,reduceAdd,reduceSub,reduceLeDiff,zz0,ynew,f0,f2,f7,f9,f10,f15,f16,f17,f27,f28,decide_eq_true hll,ly]);try simp only[yback])
   have q0:Lst K2 K1.length ((gen k fun l'=>if l'<l then pvF p (L.getD i []) R l' R.length else 0).set l (pvF p (L.getD i []) R l 0)) true:=by
    have e:(gen k fun l'=>if l'<l then pvF p (L.getD i []) R l' R.length else 0).set l (pvF p (L.getD i []) R l 0)=gen k fun l'=>if l'<l then pvF p (L.getD i []) R l' R.length else 0:=by
     refine gen_ext (by rw[List.length_set,gen_len]) fun c hc=>?_
     rw[set_getD (by rw[gen_len];omega)]
     split
     ·rename_i h
      rw[h,if_neg (by omega)]
      rfl
     ·rw[gen_get hc]
    rw[e]
    exact q
   refine WC_loop_inv (fun m f K3=>∃ (j:Nat),m=R.length-j∧j≤R.length∧f 0=I64 p∧f 2=z∧f 7=sl kb i∧f 9=y1∧f 10=sl K1.length k∧f 11=I64 l∧f 15=u∧f 16=I64 L.length∧f 17=I64 i∧f 27=I64 k∧f 28=I64 l∧f 31=y1∧f 32=I64 R.length∧f 33=I64 j∧(h<+:K3)∧(RowD h.length K3 kb fu (ppN p L R k i) B cs)∧(Ints K3 y1 (L.getD i []))∧(Lst K3 K1.length ((gen k fun l'=>if l'<l then pvF p (L.getD i []) R l' R.length else 0).set l (pvF p (L.getD i []) R l j)) true)) ?_ (R.length-0) _ _ ⟨0,rfl,by omega,(by first|rfl|exact f0|(simp[upd_apply];done)),(by first|rfl|exact f2|(simp[upd_apply];done)),(by first|rfl|exact f7|(simp[upd_apply];done)),(by first|rfl|exact f9|(simp[upd_apply];done)),(by first|rfl|exact f10|(simp[upd_apply];done)),(by first|rfl|simp[upd_apply]),(by first|rfl|exact f15|(simp[upd_apply];done)),(by first|rfl|exact f16|(simp[upd_apply];done)),(by first|rfl|exact f17|(simp[upd_apply];done)),(by first|rfl|exact f27|(simp[upd_apply];done)),(by first|rfl|exact f28|(simp[upd_apply];done)),(by first|rfl|simp[upd_apply]),(by first|rfl|simp[upd_apply]),(by first|rfl|simp[upd_apply]),pp,r,iy,q0⟩
   rintro m f K3 ⟨j,rfl,hj,f0,f2,f7,f9,f10,f11,f15,f16,f17,f27,f28,f31,f32,f33,pp,r,iy,q⟩
   have hz3:=hz.pre pp
   by_cases hlj:(j:Int)<R.length
   ·obtain⟨b1,b2,b3,b4,e1,e2⟩:=pv_step pm (i:=i) (l:=l) (j:=j) (by omega) (by omega) (by omega)
    obtain⟨m2,q2',y2,ix2,rd2,iy2⟩:=hz3.row (i:=j) (by omega)
    obtain⟨m3,q3,ix3,rd3⟩:=iy.cell (j:=j) (by omega)
    obtain⟨m4,q4,ix4,rd4⟩:=iy2.cell (j:=l) (by omega)
    have ixn:ixsV 1 (sl K1.length k) (I64 l)=some (.pointer (some ⟨K1.length,l,none⟩)):=Lst.ix (j:=(l:Int)) ⟨by omega,by omega⟩
    have rdn:=q.rd (j:=l) (by rw[List.length_set,gen_len];omega)
    rw[set_getD (by rw[gen_len];omega),if_pos rfl] at rdn
    obtain⟨H5,w5,e5,q5⟩:=q.wr (j:=l) (x:=pvF p (L.getD i []) R l (j+1)) (by rw[List.length_set,gen_len];omega)
    rw[List.set_set] at q5
    have ev:(pvF p (L.getD i []) R l j+(L.getD i []).getD j 0*(R.getD j []).getD l 0).tmod p=pvF p (L.getD i []) R l (j+1):=rfl
    have pp5:h<+:H5:=e5▸pre_put pp (by omega)
    have r5:RowD h.length H5 kb fu (ppN p L R k i) B cs:=e5▸r.put (by omega) (fun a ha=>by rw[ppN_len] at ha;exact hB a ha)
    have iy5:Ints H5 y1 (L.getD i []):=iy1.pre pp5
    ((try simp (maxSteps:=3000000) (dsimp:=false) (disch:=first|omega|simp only[lnx];omega) only[↓ypre,ypost,↓reduceIte,reduceEqDiff,reduceAdd,reduceSub,reduceLeDiff,zz0,ynew,f0,f2,f7,f9,f10,f11,f15,f16,f17,f27,f28,f31,f32,f33,decide_eq_true hlj,ixn,rdn,ix2,rd2,ix3,rd3,ix4,rd4,wrap64_in,bin_rem (show p≠0 by omega),ev,w5]);try simp only[yback])
    refine InvQ_go (R.length-(j+1)) (by omega) ⟨(j+1),rfl,by omega,(by first|rfl|exact f0|(simp only[upd_apply];rfl)|(show I64 _=_;congr 1;omega)),(by first|rfl|exact f2|(simp only[upd_apply];rfl)|(show I64 _=_;congr 1;omega)),(by first|rfl|exact f7|(simp only[upd_apply];rfl)|(show I64 _=_;congr 1;omega)),(by first|rfl|exact f9|(simp only[upd_apply];rfl)|(show I64 _=_;congr 1;omega)),(by first|rfl|exact f10|(simp only[upd_apply];rfl)|(show I64 _=_;congr 1;omega)),(by first|rfl|exact f11|(simp only[upd_apply];rfl)|(show I64 _=_;congr 1;omega)),(by first|rfl|exact f15|(simp only[upd_apply];rfl)|(show I64 _=_;congr 1;omega)),(by first|rfl|exact f16|(simp only[upd_apply];rfl)|(show I64 _=_;congr 1;omega)),(by first|rfl|exact f17|(simp only[upd_apply];rfl)|(show I64 _=_;congr 1;omega)),(by first|rfl|exact f27|(simp only[upd_apply];rfl)|(show I64 _=_;congr 1;omega)),(by first|rfl|exact f28|(simp only[upd_apply];rfl)|(show I64 _=_;congr 1;omega)),(by first|rfl|exact f31|(simp only[upd_apply];rfl)|(show I64 _=_;congr 1;omega)),(by first|rfl|exact f32|(simp only[upd_apply];rfl)|(show I64 _=_;congr 1;omega)),(by first|rfl|exact f33|(simp only[upd_apply];rfl)|(show I64 _=_;congr 1;omega)),pp5,r5,iy5,q5⟩
   ·have ej:j=R.length:=by omega
    ((try simp (maxSteps:=3000000) (dsimp:=false) (disch:=first|omega|simp only[lnx];omega) only[↓ypre,ypost,↓reduceIte,reduceEqDiff,reduceAdd,reduceSub,reduceLeDiff,zz0,ynew,f0,f2,f7,f9,f10,f11,f15,f16,f17,f27,f28,f31,f32,f33,decide_eq_false hlj,wrap64_in]);try simp only[yback])
    have qq:Lst K3 K1.length (gen k fun l'=>if l'<l+1 then pvF p (L.getD i []) R l' R.length else 0) true:=by
     have e:=gen_set (N:=k) (c:=l) (f:=fun l'=>pvF p (L.getD i []) R l' R.length) (g:=fun _=>0) (by omega) (pvF p (L.getD i []) R l j) (by rw[ej])
     rw[←e]
     exact q
    refine InvQ_go (k-(l+1)) (by omega) ⟨(l+1),rfl,by omega,(by first|rfl|exact f0|(simp only[upd_apply];rfl)|(show I64 _=_;congr 1;omega)),(by first|rfl|exact f2|(simp only[upd_apply];rfl)|(show I64 _=_;congr 1;omega)),(by first|rfl|exact f7|(simp only[upd_apply];rfl)|(show I64 _=_;congr 1;omega)),(by first|rfl|exact f9|(simp only[upd_apply];rfl)|(show I64 _=_;congr 1;omega)),(by first|rfl|exact f10|(simp only[upd_apply];rfl)|(show I64 _=_;congr 1;omega)),(by first|rfl|exact f15|(simp only[upd_apply];rfl)|(show I64 _=_;congr 1;omega)),(by first|rfl|exact f16|(simp only[upd_apply];rfl)|(show I64 _=_;congr 1;omega)),(by first|rfl|exact f17|(simp only[upd_apply];rfl)|(show I64 _=_;congr 1;omega)),(by first|rfl|exact f27|(simp only[upd_apply];rfl)|(show I64 _=_;congr 1;omega)),(by first|rfl|exact f28|(simp only[upd_apply];rfl)|(show I64 _=_;congr 1;omega)),pp,r,iy,qq⟩
  ·have el:l=k:=by omega
   ((try simp (maxSteps:=3000000) (dsimp:=false) (disch:=first|omega|simp only[lnx];omega) only[↓ypre,ypost,↓reduceIte,reduceEqDiff,reduceAdd,reduceSub,reduceLeDiff,zz0,ynew,f0,f2,f7,f9,f10,f15,f16,f17,f27,f28,decide_eq_false hll,fillL,zrep,sl_cells,sl_one]);try simp only[yback])
   have ei:(ppN p L R k i).length=i:=ppN_len
   have qq:Lst K2 K1.length (gen k fun l=>pvF p (L.getD i []) R l R.length) true:=by
    have e:(gen k fun l'=>if l'<l then pvF p (L.getD i []) R l' R.length else 0)=gen k fun l=>pvF p (L.getD i []) R l R.length:=gen_congr fun c hc=>if_pos (by omega)
    rw[←e]
    exact q
   have e2:(gen k fun l=>pvF p (L.getD i []) R l R.length).length=k:=gen_len
   rw[show sl kb i=sl kb (ppN p L R k i).length by rw[ei],show sl K1.length k=sl K1.length (gen k fun l=>pvF p (L.getD i []) R l R.length).length by rw[e2]]
   refine rowd_app r (by omega) (by have:=pp.length_le;have:=p1.length_le;omega) (by omega) (fun a ha=>by rw[ei] at ha;exact hB a ha) qq fun HZ lZ kZ rZ=>?_
   have eN:ppN p L R k i++[gen k fun l=>pvF p (L.getD i []) R l R.length]=ppN p L R k (i+1):=ppN_next.symm
   rw[eN] at rZ ⊢
   have lq:=q.lt
   ((try simp (maxSteps:=3000000) (dsimp:=false) (disch:=first|omega|simp only[lnx];omega) only[↓ypre,ypost,↓reduceIte,reduceEqDiff,reduceAdd,reduceSub,reduceLeDiff,zz0,ynew,f0,f2,f7,f9,f10,f15,f16,f17,f27,f28,wrap64_in]);try simp only[yback])
   have hB2:∀ a,a<i+1→(if a<(ppN p L R k i).length then B a else K1.length)<HZ.length:=fun a ha=>by
    rw[ei]
    split
    ·rename_i h
     have:=hB a h
     omega
    ·omega
   refine InvQ_go (L.length-(i+1)) (by omega) ⟨(i+1),(K2.length+1),false,_,_,rfl,by omega,(by first|rfl|exact f0|(simp only[upd_apply];rfl)|(show I64 _=_;congr 1;omega)),(by first|rfl|exact f2|(simp only[upd_apply];rfl)|(show I64 _=_;congr 1;omega)),(by show sl _ _=sl _ _;rw[ppN_len]),(by first|rfl|exact f15|(simp only[upd_apply];rfl)|(show I64 _=_;congr 1;omega)),(by first|rfl|exact f16|(simp only[upd_apply];rfl)|(show I64 _=_;congr 1;omega)),(by first|rfl|exact f17|(simp only[upd_apply];rfl)|(show I64 _=_;congr 1;omega)),(kZ.pre pp rlow),rZ,hB2⟩
 ·have ei:i=L.length:=by omega
  ((try simp (maxSteps:=3000000) (dsimp:=false) (disch:=first|omega|simp only[lnx];omega) only[↓ypre,ypost,↓reduceIte,reduceEqDiff,reduceAdd,reduceSub,reduceLeDiff,zz0,ynew,f0,f2,f7,f15,f16,f17,decide_eq_false hli]);try simp only[yback])
  have rr:=r.rows
  rw[ppN_len] at rr
  refine hQ _ _ pp ?_
  have e:ppN p L R k i=ppF p L R k:=by rw[ei];rfl
  rw[←e]
  exact rr
theorem i_PlainProduct {u z:Value} {p:Int} {L R:List (List Int)} {h:AH} {Q:Value→AH→Prop} (hu:Rows h u L) (sL:BigM L) (hz:Rows h z R) (sR:BigM R)
  (hQ:∀ v' h',h<+:h'→Rows h' v' (ppR p L R).1→Q (.tuple #[v',I64 (ppR p L R).2]) h'):WF S 22 [I64 p,u,z] h Q:=by
 refine WF_fn (fn:=c22) rfl rfl ?_
 dsimp only[c22,oO,oM,oS,oG,oK,oE,oL,oF,oX,oN]
 have lu:=hu.len
 have lz:=hz.len
 have no:∀ H,h<+:H→ppOK p L R≠true→Q (.tuple #[.slice none 0 0,I64 2]) H:=fun H p hh=>by
  have:=hQ (.slice none 0 0) H p
  unfold ppR at this
  rw[if_neg hh] at this
  exact this ⟨[],.inl ⟨rfl,0,by omega,rfl⟩,rfl,fun i hi=>by simp at hi⟩
 have un:ppOK p L R=(isP p&&(decide (1≤L.length∧L.length≤3)&&(decide (1≤R.length∧R.length≤3)&&(decide (1≤(R.getD 0 []).length∧(R.getD 0 []).length≤3)&&(isMat p R.length L&&isMat p (R.getD 0 []).length R))))):=rfl
 ((try simp (maxSteps:=3000000) (dsimp:=false) (disch:=first|omega|simp only[lnx];omega) only[↓ypre,ypost,↓reduceIte,reduceEqDiff,reduceAdd,reduceSub,reduceLeDiff,zz0,ynew,lu,lz]);try simp only[yback])
 refine i_isPrime ?_
 cases h1:isP p with
 | false=>
  ((try simp (maxSteps:=3000000) (dsimp:=false) (disch:=first|omega|simp only[lnx];omega) only[↓ypre,ypost,↓reduceIte,reduceEqDiff,reduceAdd,reduceSub,reduceLeDiff,zz0,ynew]);try simp only[yback])
  exact no _ (List.prefix_refl _) (by rw[un,h1];simp)
 | true=>
 ((try simp (maxSteps:=3000000) (dsimp:=false) (disch:=first|omega|simp only[lnx];omega) only[↓ypre,ypost,↓reduceIte,reduceEqDiff,reduceAdd,reduceSub,reduceLeDiff,zz0,ynew,fillL,zrep]);try simp only[yback])
 generalize hH1:AH.new h _=H1
 obtain⟨g1,p1,n1⟩:=new_facts hH1
 refine i_isSize (ns:=[(L.length:Int),(R.length:Int)]) (Ints.own g1 rfl) (by simp) ?_
 by_cases h2:([(L.length:Int),(R.length:Int)]:List Int).all sz=true
 case neg=>
  ((try simp (maxSteps:=3000000) (dsimp:=false) (disch:=first|omega|simp only[lnx];omega) only[↓ypre,ypost,↓reduceIte,reduceEqDiff,reduceAdd,reduceSub,reduceLeDiff,zz0,ynew,h2]);try simp only[yback])
  refine no _ p1 ?_
  intro hh
  have pm:=ppOK_iff.1 hh
  have a:=pm.bn
  have b:=pm.bm
  refine h2 ?_
  simp only[List.all_cons,List.all_nil,Bool.and_true,Bool.and_eq_true]
  unfold sz
  exact⟨decide_eq_true (by omega),decide_eq_true (by omega)⟩
 have h2':=h2
 simp only[List.all_cons,List.all_nil,Bool.and_true,Bool.and_eq_true] at h2'
 unfold sz at h2'
 rw[decide_eq_true_eq,decide_eq_true_eq] at h2'
 have hz1:=hz.pre p1
 obtain⟨m0,q0,y0,ix0,rd0,iy0⟩:=hz1.row (i:=0) (by omega)
 have ix0:ixsV 1 z (I64 0)=some (.pointer (some ⟨m0,q0,none⟩)):=ix0 .i64
 have l0:=iy0.len
 ((try simp (maxSteps:=3000000) (dsimp:=false) (disch:=first|omega|simp only[lnx];omega) only[↓ypre,ypost,↓reduceIte,reduceEqDiff,reduceAdd,reduceSub,reduceLeDiff,zz0,ynew,h2,ix0,rd0,l0,fillL,zrep]);try simp only[yback])
 generalize hH2:AH.new H1 _=H2
 obtain⟨g2,p2,n2⟩:=new_facts hH2
 refine i_isSize (ns:=[((R.getD 0 []).length:Int)]) (Ints.own g2 rfl) (by simp) ?_
 have p12:=p1.trans p2
 by_cases h3:([((R.getD 0 []).length:Int)]:List Int).all sz=true
 case neg=>
  ((try simp (maxSteps:=3000000) (dsimp:=false) (disch:=first|omega|simp only[lnx];omega) only[↓ypre,ypost,↓reduceIte,reduceEqDiff,reduceAdd,reduceSub,reduceLeDiff,zz0,ynew,h3]);try simp only[yback])
  refine no _ p12 ?_
  intro hh
  have a:=(ppOK_iff.1 hh).bk
  refine h3 ?_
  simp only[List.all_cons,List.all_nil,Bool.and_true]
  unfold sz
  exact decide_eq_true (by omega)
 have h3':=h3
 simp only[List.all_cons,List.all_nil,Bool.and_true] at h3'
 unfold sz at h3'
 rw[decide_eq_true_eq] at h3'
 ((try simp (maxSteps:=3000000) (dsimp:=false) (disch:=first|omega|simp only[lnx];omega) only[↓ypre,ypost,↓reduceIte,reduceEqDiff,reduceAdd,reduceSub,reduceLeDiff,zz0,ynew,h3]);try simp only[yback])
 refine i_isMatrix (hu.pre p12) (by omega) (fun i hi=>by have:=sL.2 i hi;omega) ?_
 rw[decide_eq_true rfl,Bool.and_true]
 cases h7:isMat p (R.length:Int) L with
 | false=>
  ((try simp (maxSteps:=3000000) (dsimp:=false) (disch:=first|omega|simp only[lnx];omega) only[↓ypre,ypost,↓reduceIte,reduceEqDiff,reduceAdd,reduceSub,reduceLeDiff,zz0,ynew]);try simp only[yback])
  exact no _ p12 (by rw[un,h7];simp)
 | true=>
 ((try simp (maxSteps:=3000000) (dsimp:=false) (disch:=first|omega|simp only[lnx];omega) only[↓ypre,ypost,↓reduceIte,reduceEqDiff,reduceAdd,reduceSub,reduceLeDiff,zz0,ynew]);try simp only[yback])
 refine i_isMatrix (hz.pre p12) (by omega) (fun i hi=>by have:=sR.2 i hi;omega) ?_
 rw[decide_eq_true rfl,Bool.and_true]
 cases h8:isMat p ((R.getD 0 []).length:Int) R with
 | false=>
  ((try simp (maxSteps:=3000000) (dsimp:=false) (disch:=first|omega|simp only[lnx];omega) only[↓ypre,ypost,↓reduceIte,reduceEqDiff,reduceAdd,reduceSub,reduceLeDiff,zz0,ynew]);try simp only[yback])
  exact no _ p12 (by rw[un,h8];simp)
 | true=>
 have ok:ppOK p L R=true:=by rw[un,h1,h7,h8,decide_eq_true (show 1≤L.length∧L.length≤3 by omega),decide_eq_true (show 1≤R.length∧R.length≤3 by omega),decide_eq_true (show 1≤(R.getD 0 []).length∧(R.getD 0 []).length≤3 by omega)];rfl
 ((try simp (maxSteps:=3000000) (dsimp:=false) (disch:=first|omega|simp only[lnx];omega) only[↓ypre,ypost,↓reduceIte,reduceEqDiff,reduceAdd,reduceSub,reduceLeDiff,zz0,ynew]);try simp only[yback])
 refine i_multiply (hu.pre p12) (hz.pre p12) (ppOK_iff.1 ok) fun v' h' p' r'=>?_
 have e:ppR p L R=(ppF p L R (R.getD 0 []).length,0):=if_pos ok
 rw[e] at hQ
 ((try simp (maxSteps:=3000000) (dsimp:=false) (disch:=first|omega|simp only[lnx];omega) only[↓ypre,ypost,↓reduceIte,reduceEqDiff,reduceAdd,reduceSub,reduceLeDiff,zz0,ynew]);try simp only[yback])
 exact hQ _ _ (p12.trans p') r'
theorem pv_sm {p:Int} {row:List Int} {R:List (List Int)} {l:Nat}:∀ {j:Nat},Cg p (pvF p row R l j) (sm j fun a=>row.getD a 0*(R.getD a []).getD l 0)
 | 0=>Cg.rfl'
 | j+1=>(cg_md _ _).trans (pv_sm.add Cg.rfl')
def zt (bs:List Nat) (n k:Nat) (g:Nat→Nat→Int):List (Nat×List Int):=(List.range n).map fun a=>(bs.getD a 0,gen k (g a))
section
variable {bs:List Nat} {n k:Nat} {g g':Nat→Nat→Int}
theorem zt_len:(zt bs n k g).length=n:=by simp[zt]
theorem zt_at {i:Nat} (hi:i<(zt bs n k g).length):(zt bs n k g)[i]=(bs.getD i 0,gen k (g i)):=by simp[zt]
theorem zt_congr (h:∀ a,a<n→∀ b,b<k→g a b=g' a b):zt bs n k g=zt bs n k g':=by
 refine List.map_congr_left fun a ha=>?_
 rw[gen_congr (h a (List.mem_range.1 ha))]
theorem zt_app (hb:bs.length=n) (b:Nat):zt bs n k g++[(b,gen k (g n))]=zt (bs++[b]) (n+1) k g:=by
 unfold zt
 rw[List.range_succ,List.map_append]
 congr 1
 ·refine List.map_congr_left fun a ha=>?_
  have:=List.mem_range.1 ha
  rw[getD_app_l (by omega)]
 ·simp[getD_app_r (show bs.length≤n by omega),hb]
theorem zt_set {i:Nat} (hi:i<n) (f:Nat→Int):(zt bs n k g).set i (bs.getD i 0,gen k f)=zt bs n k (fun a=>if a=i then f else g a):=by
 refine List.ext_getElem? fun j=>?_
 rw[List.getElem?_set]
 by_cases hj:j<n
 ·by_cases e:i=j
  ·subst e
   rw[if_pos rfl,if_pos (by rw[zt_len];exact hi)]
   simp[zt,hi]
  ·rw[if_neg e]
   simp[zt,hj,show ¬ j=i from fun q=>e q.symm]
 ·by_cases e:i=j
  ·omega
  ·rw[if_neg e,List.getElem?_eq_none (by rw[zt_len];omega),List.getElem?_eq_none (by rw[zt_len];omega)]
theorem zt_snd:(zt bs n k g).map Prod.snd=(List.range n).map fun a=>gen k (g a):=by simp[zt]
theorem zt_mem (hb:n≤bs.length) {a:Nat} (ha:a<n):(bs.getD a 0,gen k (g a))∈zt bs n k g:=List.mem_map.2 ⟨a,List.mem_range.2 ha,rfl⟩
end
theorem parts_gen {n k:Nat} {F:Nat→Int}:parts (gen (n*k) F) k n=(List.range n).map fun a=>gen k fun b=>F (a*k+b):=by
 unfold parts
 refine List.map_congr_left fun a ha=>?_
 have hm:=mul_row (w:=k) (List.mem_range.1 ha)
 refine gen_ext (by rw[List.length_take,List.length_drop,gen_len];omega) fun b hb=>?_
 rw[List.getD_eq_getElem?_getD,List.getElem?_take,if_pos hb,List.getElem?_drop,←List.getD_eq_getElem?_getD,gen_get (by omega)]
theorem tmod_mul {o c v p:Int} (ho:0≤o) (hc:0≤c) (hv:0≤v) (hp:1≤p):(o+c*v.tmod p).tmod p=(o+c*v).tmod p:=by
 have h1:=(tmod_nn hv hp).1
 have a3:v.tmod p=v%p:=Int.tmod_eq_emod_of_nonneg hv
 have e:o+c*v=o+c*(v%p)+p*(c*(v / p)):=by
  have:=Int.emod_add_mul_ediv v p
  have h2:c*v=c*(v%p+p*(v / p)):=by rw[this]
  rw[h2,Int.mul_add,Int.mul_left_comm]
  omega
 have a1:(o+c*v.tmod p).tmod p=(o+c*v.tmod p)%p:=Int.tmod_eq_emod_of_nonneg (by have:=Int.mul_nonneg hc h1;omega)
 have a2:(o+c*v).tmod p=(o+c*v)%p:=Int.tmod_eq_emod_of_nonneg (by have:=Int.mul_nonneg hc hv;omega)
 rw[a1,a2,a3,e,Int.add_mul_emod_self_left]
theorem TabS.rdz {h0 h:AH} {nb n k:Nat} {fl:Bool} {bs:List Nat} {g:Nat→Nat→Int} (s:TabS h0 h nb fl (zt bs n k g)) {a c:Nat} (ha:a<n) (hc:c<k) (x:Int) :
  h.rd1 (bs.getD a 0) c=some (I64 (g a c))∧∃ h',h.wr (bs.getD a 0) c [I64 x]=some h'∧h'.length=h.length∧(∀ m bl,m≠bs.getD a 0→h.get m=some bl→h'.get m=some bl) ∧
   TabS h0 h' nb fl (zt bs n k fun a' b'=>if a'=a∧b'=c then x else g a' b'):=by
 have hl:a<(zt bs n k g).length:=by rw[zt_len];exact ha
 obtain⟨e,fu,he,st⟩:=s.cell (x:=x) (j:=c) hl (zt_at hl) (by rw[gen_len];exact hc)
 refine⟨by rw[rd1_of he];show ((gen k (g a)).map (Value.int .i64))[c]?=_;rw[map_get (by rw[gen_len];exact hc),gen_get hc],h.put (bs.getD a 0) ⟨((gen k (g a)).set c x).map (Value.int .i64),e,false,fu⟩,?_,?_,?_,?_⟩
 ·rw[wr_of he,if_pos ⟨rfl,by simp[gen_len];omega⟩]
  show some (h.put _ ⟨splice ((gen k (g a)).map (Value.int .i64)) c [I64 x],e,false,fu⟩)=_
  rw[map_set (by rw[gen_len];exact hc)]
 ·rw[len_put]
 ·intro m bl hm g1
  rw[get_put_ne (fun e=>hm e.symm)]
  exact g1
 ·have e1:(gen k (g a)).set c x=gen k fun b'=>if b'=c then x else g a b':=by
   refine gen_ext (by rw[List.length_set,gen_len]) fun j hj=>?_
   rw[List.getD_eq_getElem?_getD,List.getElem?_set]
   by_cases e:c=j
   ·subst e
    rw[if_pos rfl,if_pos (by rw[gen_len];exact hc),if_pos rfl]
    rfl
   ·rw[if_neg e,←List.getD_eq_getElem?_getD,gen_get hj,if_neg (fun q=>e q.symm)]
  rw[e1] at st ⊢
  rw[zt_set ha] at st
  rw[zt_congr (g':=fun a'=>if a'=a then fun b'=>if b'=c then x else g a b' else g a') (fun a' _ b' _=>?_)]
  ·exact st
  ·by_cases q:a'=a
   ·rw[if_pos q,q]
    by_cases q2:b'=c
    ·rw[if_pos ⟨rfl,q2⟩,if_pos q2]
    ·rw[if_neg (fun w=>q2 w.2),if_neg q2]
   ·rw[if_neg (fun w=>q w.1),if_neg q]
theorem s_l01Make {v u z:Value} {x:Sch} {L R:List (List Int)} {n m k:Nat} {h:AH} {Q:Value→AH→Prop} (hv:Prods h v x.ps) (mf:MF x L R n m k) (hl:x.ps.length≤30) (hp:2≤x.p∧x.p≤5) (hu:Rows h u L) (hz:Rows h z R)
  (hQ:∀ v' h',h<+:h'→OwnRows h h' v' (mpF x L R)→Q v' h'):WF S 215 [schV x v,u,z] h Q:=by
 refine WF_fn (fn:=c215) rfl rfl ?_
 dsimp only[c215,oO,oM,oS,oG,oK,oE,oL,oF,oX,oN]
 obtain⟨en,em,ek,b,nk,wL,wR,lL,lR,fL,fR,aL,aR,hm,hr⟩:=mf
 ((try simp (maxSteps:=3000000) (dsimp:=false) (disch:=first|omega|simp only[lnx];omega) only[↓ypre,ypost,↓reduceIte,reduceEqDiff,reduceAdd,reduceSub,reduceLeDiff,zz0,ynew,schV,hv.one]);try simp only[yback])
 generalize hH1:AH.new h _=H1
 obtain⟨hb1,p1,n1⟩:=new_facts hH1
 generalize hH2:AH.new H1 _=H2
 obtain⟨hb2,p2,n2⟩:=new_facts hH2
 have st0:TabS H1 H2 H1.length true (zt [] 0 k fun _ _=>0):=⟨p2,Nat.le_refl _,hb2,by simp[zt],by simp[zt]⟩
 rw[ek] at hb1
 refine WC_loop_inv (fun m f K1=>∃ (i:Nat) (nb:Nat) (fl:Bool) (bs:List Nat),m=n-i∧i≤n∧f 1=u∧f 2=z∧f 3=.pointer (some ⟨h.length,0,none⟩)∧f 7=sl nb i∧f 8=I64 i∧(bs.length=i)∧(TabS H1 K1 nb fl (zt bs i k fun _ _=>0))) ?_ (n-0) _ _ ⟨0,H1.length,true,[],rfl,by omega,(by first|rfl|simp[upd_apply]),(by first|rfl|simp[upd_apply]),(by first|rfl|simp[upd_apply]),(by first|rfl|simp[upd_apply]),(by first|rfl|simp[upd_apply]),rfl,st0⟩
 rintro m f K1 ⟨i,nb,fl,bs,rfl,hi,f1,f2,f3,f7,f8,hb,st⟩
 have lt:=st.lt
 have kh:=pre_len st.hp
 have bK:=pre_get st.hp hb1
 by_cases hlt:(i:Int)<n
 ·have hi':i<n:=by omega
  ((try simp (maxSteps:=3000000) (dsimp:=false) (disch:=first|omega|simp only[lnx];omega) only[↓ypre,ypost,↓reduceIte,reduceEqDiff,reduceAdd,reduceSub,reduceLeDiff,zz0,ynew,f1,f2,f3,f7,f8,rd1_of bK,en,decide_eq_true hlt,mks_gen (N:=k) (h:=K1) (by omega)]);try simp only[yback])
  generalize hH3:AH.new K1 _=H3
  obtain⟨hb3,p3,n3⟩:=new_facts hH3
  have o3:OwnB H3 K1.length ((gen k fun _=>0).map (Value.int .i64)) true:=⟨_,hb3⟩
  ((try simp (maxSteps:=3000000) (dsimp:=false) (disch:=first|omega|simp only[lnx];omega) only[↓ypre,ypost,↓reduceIte,reduceEqDiff,reduceAdd,reduceSub,reduceLeDiff,zz0,ynew,f1,f2,f3,f7,f8,sl_cells,sl_one]);try simp only[yback])
  have e1:sl nb i=sl nb (zt bs i k fun _ _=>0).length:=by rw[zt_len]
  have e2:sl K1.length k=sl K1.length (gen k fun _=>0).length:=by rw[gen_len]
  rw[e1,e2]
  refine (st.pre p3).app2 ⟨by omega,by omega,fun q hq=>by have:=lt.2 q hq;omega⟩ o3 (by rw[zt_len];omega) fun nb' H' st' l' e' own' pre'=>?_
  have e3:zt bs i k (fun _ _=>0)++[(K1.length,gen k fun _=>0)]=zt (bs++[K1.length]) (i+1) k fun _ _=>0:=zt_app hb _
  rw[e3] at st' ⊢
  rw[zt_len,zt_len]
  ((try simp (maxSteps:=3000000) (dsimp:=false) (disch:=first|omega|simp only[lnx];omega) only[↓ypre,ypost,↓reduceIte,reduceEqDiff,reduceAdd,reduceSub,reduceLeDiff,zz0,ynew,f1,f2,f3,f7,f8,wrap64_in]);try simp only[yback])
  refine InvQ_go (n-(i+1)) (by omega) ⟨(i+1),nb',false,(bs++[K1.length]),rfl,by omega,(by first|rfl|exact f1|(simp only[upd_apply];rfl)|(show I64 _=_;congr 1;omega)),(by first|rfl|exact f2|(simp only[upd_apply];rfl)|(show I64 _=_;congr 1;omega)),(by first|rfl|exact f3|(simp only[upd_apply];rfl)|(show I64 _=_;congr 1;omega)),(by first|rfl|exact f7|(simp only[upd_apply];rfl)|(show I64 _=_;congr 1;omega)),(by first|rfl|exact f8|(simp only[upd_apply];rfl)|(show I64 _=_;congr 1;omega)),(by simp[hb]),st'⟩
 have ei:i=n:=by omega
 subst ei
 ((try simp (maxSteps:=3000000) (dsimp:=false) (disch:=first|omega|simp only[lnx];omega) only[↓ypre,ypost,↓reduceIte,reduceEqDiff,reduceAdd,reduceSub,reduceLeDiff,zz0,ynew,f1,f2,f3,f7,f8,rd1_of bK,en,decide_eq_false hlt]);try simp only[yback])
 have z27:=zeros27
 have st1:TabS H1 K1 nb fl (zt bs i k fun a b=>stM x.p L.flatten R.flatten x.ps 0 (a*k+b)):=st
 have hnb:=lt.1
 have hbs:∀ a,a<i→bs.getD a 0<K1.length∧H1.length≤bs.getD a 0:=fun a ha=>⟨lt.2 _ (zt_mem (by omega) ha),(st.rows _ (zt_mem (by omega) ha)).1.1⟩
 refine WC_loop_inv (fun m f K2=>∃ (t:Nat),m=x.ps.length-t∧t≤x.ps.length∧f 1=u∧f 2=z∧f 3=.pointer (some ⟨h.length,0,none⟩)∧f 7=sl nb i∧f 9=I64 t∧(K1.length≤K2.length)∧(TabS H1 K2 nb fl (zt bs i k fun a b=>stM x.p L.flatten R.flatten x.ps t (a*k+b)))) ?_ (x.ps.length-0) _ _ ⟨0,rfl,by omega,(by first|rfl|exact f1|(simp[upd_apply];done)),(by first|rfl|exact f2|(simp[upd_apply];done)),(by first|rfl|exact f3|(simp[upd_apply];done)),(by first|rfl|exact f7|(simp[upd_apply];done)),(by first|rfl|simp[upd_apply]),Nat.le_refl _,st1⟩
 rintro m f K2 ⟨t,rfl,ht,f1,f2,f3,f7,f9,kl,s2⟩
 have pp:=p1.trans s2.hp
 have bK2:=pre_get s2.hp hb1
 have hvK:=hv.pre pp
 by_cases hlt2:(t:Int)<x.ps.length
 ·have hj':t<x.ps.length:=by omega
  obtain⟨n5',off5,hix,hrn,hr1⟩:=hvK.1.at hj'
  have r27:=hrn 0 27 (by omega)
  have wi:=hvK.1.wid hj'
  have hby:=hvK.by hj'
  have tk:(x.ps.getD t []).take 27=x.ps.getD t []:=List.take_of_length_le (by omega)
  rw[List.drop_zero,tk,Nat.add_zero] at r27
  have sin:=stM_in hp hv.2 hvK.1.widL fL fR aL aR (t:=t) ht
  have stn:∀ j,stM x.p L.flatten R.flatten x.ps (t+1) j=(stM x.p L.flatten R.flatten x.ps t j+(x.ps.getD t []).getD (18+j) 0*valI x.p L.flatten R.flatten (x.ps.getD t [])).tmod x.p:=fun _=>rfl
  generalize hq:x.ps.getD t []=q at *
  have w1:∀ (h1:AH) (e:TypeId),(h1.new ⟨[.int .u8 0,.int .u8 0,.int .u8 0,.int .u8 0,.int .u8 0,.int .u8 0,.int .u8 0,.int .u8 0,.int .u8 0,.int .u8 0,.int .u8 0,.int .u8 0,.int .u8 0,.int .u8 0,.int .u8 0,.int .u8 0,.int .u8 0,.int .u8 0,.int .u8 0,.int .u8 0,.int .u8 0,.int .u8 0,.int .u8 0,.int .u8 0,.int .u8 0,.int .u8 0,.int .u8 0],e,false,true⟩).wr h1.length 0 (cel .u8 q)=some (h1.new ⟨cel .u8 q,e,false,true⟩):=fun h1 e=>wr_all (by rw[cel_len,wi];rfl)
  ((try simp (maxSteps:=3000000) (dsimp:=false) (disch:=first|omega|simp only[lnx];omega) only[↓ypre,ypost,↓reduceIte,reduceEqDiff,reduceAdd,reduceSub,reduceLeDiff,zz0,ynew,f1,f2,f3,f7,f9,rd1_of bK2,hvK.1.len,decide_eq_true hlt2,hix,r27,cel_all,cellsL_cel,cel_len,wi,↓w1,cel_take,tk,wrap64_in]);try simp only[yback])
  have s0:Value.agg (cel .u8 (q.take 9)).toArray=aggV .u8 (seg q 0):=by simp[aggV,seg]
  have s1:Value.agg (cel .u8 ((q.drop 9).take 9)).toArray=aggV .u8 (seg q 1):=by simp[aggV,seg]
  rw[s0]
  generalize hH3:AH.new K2 _=H3
  obtain⟨hb3,p3,n3⟩:=new_facts hH3
  refine s_l01At (hby.seg (by omega)) (hu.pre (pp.trans p3)) hm (by rw[flat_len wL] at fL;exact fL) hp (by omega) fun H4 p4=>?_
  have hb4:=pre_get p4 hb3
  refine⟨p4,?_⟩
  have bK4:=pre_get (p3.trans p4) bK2
  ((try simp (maxSteps:=3000000) (dsimp:=false) (disch:=first|omega|simp only[lnx];omega) only[↓ypre,ypost,↓reduceIte,reduceEqDiff,reduceAdd,reduceSub,reduceLeDiff,zz0,ynew,f1,f2,f3,f7,f9,rdn_of hb4,cel_len,wi,cel_drop,cel_take,rd1_of bK4,bin_rem (show x.p≠0 by omega)]);try simp only[yback])
  rw[s1]
  refine s_l01At (hby.seg (by omega)) (hz.pre (pp.trans (p3.trans p4))) hr (by rw[flat_len wR] at fR;exact fR) hp (by omega) fun H5 p5=>?_
  refine⟨p5,?_⟩
  have p35:=p3.trans (p4.trans p5)
  have hb5:=pre_get p5 hb4
  have bK5:=pre_get p5 bK4
  have vin:=valI_in hp hby fL fR aL aR
  have evq:(dot (seg q 0) L.flatten L.flatten.length).tmod x.p*(dot (seg q 1) R.flatten R.flatten.length).tmod x.p=valI x.p L.flatten R.flatten q:=rfl
  have k5:=pre_len p35
  ((try simp (maxSteps:=3000000) (dsimp:=false) (disch:=first|omega|simp only[lnx];omega) only[↓ypre,ypost,↓reduceIte,reduceEqDiff,reduceAdd,reduceSub,reduceLeDiff,zz0,ynew,f1,f2,f3,f7,f9,rd1_of bK5,bin_rem (show x.p≠0 by omega),evq,wrap64_in]);try simp only[yback])
  have s5:TabS H1 H5 nb fl (zt bs i k fun a' b'=>if a'<0 then stM x.p L.flatten R.flatten x.ps (t+1) (a'*k+b') else stM x.p L.flatten R.flatten x.ps t (a'*k+b')):=s2.pre p35
  refine WC_loop_inv (fun m f K3=>∃ (a:Nat),m=i-a∧a≤i∧f 1=u∧f 2=z∧f 3=.pointer (some ⟨h.length,0,none⟩)∧f 7=sl nb i∧f 9=I64 t∧f 10=.pointer (some ⟨K2.length,0,none⟩)∧f 11=I64 ((valI x.p L.flatten R.flatten q).tmod x.p)∧f 12=I64 a∧(K2.length≤K3.length)∧(∃ e,K3.get K2.length=some ⟨cel .u8 q,e,false,true⟩)∧(TabS H1 K3 nb fl (zt bs i k fun a' b'=>if a'<a then stM x.p L.flatten R.flatten x.ps (t+1) (a'*k+b') else stM x.p L.flatten R.flatten x.ps t (a'*k+b')))) ?_ (i-0) _ _ ⟨0,rfl,by omega,(by first|rfl|exact f1|(simp[upd_apply];done)),(by first|rfl|exact f2|(simp[upd_apply];done)),(by first|rfl|exact f3|(simp[upd_apply];done)),(by first|rfl|exact f7|(simp[upd_apply];done)),(by first|rfl|exact f9|(simp[upd_apply];done)),(by first|rfl|simp[upd_apply]),(by first|rfl|simp[upd_apply]),(by first|rfl|simp[upd_apply]),k5,⟨_,hb5⟩,s5⟩
  rintro m f K3 ⟨a,rfl,ha,f1,f2,f3,f7,f9,f10,f11,f12,kl3,b3,s3⟩
  have bK3:=pre_get s3.hp hb1
  by_cases hla:(a:Int)<i
  ·have ha':a<i:=by omega
   have hma:=mul_row (w:=k) ha'
   have gt:=s3.get (i:=a) (by rw[zt_len];exact ha')
   rw[zt_at] at gt
   simp only[gen_len] at gt
   have ixa0:ixsV 1 (sl nb i) (I64 a)=some (.pointer (some ⟨nb,a,none⟩)):=by rw[Lst.ix (by omega),Int.toNat_natCast]
   ((try simp (maxSteps:=3000000) (dsimp:=false) (disch:=first|omega|simp only[lnx];omega) only[↓ypre,ypost,↓reduceIte,reduceEqDiff,reduceAdd,reduceSub,reduceLeDiff,zz0,ynew,f1,f2,f3,f7,f9,f10,f11,f12,rd1_of bK3,en,decide_eq_true hla,ixa0,gt]);try simp only[yback])
   have s6:TabS H1 K3 nb fl (zt bs i k fun a' b'=>if a'<a∨(a'=a∧b'<0) then stM x.p L.flatten R.flatten x.ps (t+1) (a'*k+b') else stM x.p L.flatten R.flatten x.ps t (a'*k+b')):=by
    rw[zt_congr (g':=fun a' b'=>if a'<a then stM x.p L.flatten R.flatten x.ps (t+1) (a'*k+b') else stM x.p L.flatten R.flatten x.ps t (a'*k+b')) (fun a' _ b' _=>by simp)]
    exact s3
   refine WC_loop_inv (fun m f K4=>∃ (c:Nat),m=k-c∧c≤k∧f 1=u∧f 2=z∧f 3=.pointer (some ⟨h.length,0,none⟩)∧f 7=sl nb i∧f 9=I64 t∧f 10=.pointer (some ⟨K2.length,0,none⟩)∧f 11=I64 ((valI x.p L.flatten R.flatten q).tmod x.p)∧f 12=I64 a∧f 13=sl (bs.getD a 0) k∧f 14=I64 c∧(K3.length≤K4.length)∧(∃ e,K4.get K2.length=some ⟨cel .u8 q,e,false,true⟩)∧(TabS H1 K4 nb fl (zt bs i k fun a' b'=>if a'<a∨(a'=a∧b'<c) then stM x.p L.flatten R.flatten x.ps (t+1) (a'*k+b') else stM x.p L.flatten R.flatten x.ps t (a'*k+b')))) ?_ (k-0) _ _ ⟨0,rfl,by omega,(by first|rfl|exact f1|(simp[upd_apply];done)),(by first|rfl|exact f2|(simp[upd_apply];done)),(by first|rfl|exact f3|(simp[upd_apply];done)),(by first|rfl|exact f7|(simp[upd_apply];done)),(by first|rfl|exact f9|(simp[upd_apply];done)),(by first|rfl|exact f10|(simp[upd_apply];done)),(by first|rfl|exact f11|(simp[upd_apply];done)),(by first|rfl|exact f12|(simp[upd_apply];done)),(by first|rfl|simp[upd_apply]),(by first|rfl|simp[upd_apply]),Nat.le_refl _,b3,s6⟩
   rintro m f K4 ⟨c,rfl,hc,f1,f2,f3,f7,f9,f10,f11,f12,f13,f14,kl4,b4,s4⟩
   have bK4':=pre_get s4.hp hb1
   obtain⟨e4,b4⟩:=b4
   by_cases hlc:(c:Int)<k
   ·have hc':c<k:=by omega
    have ixd:ixsV 1 (sl (bs.getD a 0) k) (I64 c)=some (.pointer (some ⟨bs.getD a 0,c,none⟩)):=by rw[Lst.ix (by omega),Int.toNat_natCast]
    obtain⟨rd,H6,w6,l6,k6,t6⟩:=s4.rdz ha' hc' ((stM x.p L.flatten R.flatten x.ps t (a*k+c)+q.getD (18+(a*k+c)) 0*(valI x.p L.flatten R.flatten q).tmod x.p).tmod x.p)
    simp only[Nat.lt_irrefl,and_false,or_false,if_false] at rd
    have g1:=cel_get (k:=.u8) (q:=q) (j:=18+(a*k+c)) (by omega)
    have ixa:=ixa_u (n:=K2.length) (off:=18) (len:=9) (kk:=.i64) (j:=a*k+c) (by omega)
    have c1:=hby.2 (18+(a*k+c)) (by omega)
    have c2:=sin (a*k+c) (by omega)
    have vt:=tmod_nn (J:=x.p) vin.1 (by omega)
    have c3:=Int.mul_nonneg c1.1 vt.1
    have c4:q.getD (18+(a*k+c)) 0*(valI x.p L.flatten R.flatten q).tmod x.p≤255*5:=Int.le_trans (Int.mul_le_mul_of_nonneg_right c1.2 vt.1) (Int.mul_le_mul_of_nonneg_left (by omega) (by decide))
    have emul:(a:Int)*(k:Int)+(c:Int)=((a*k+c:Nat):Int):=by rw[Int.natCast_add,Int.natCast_mul]
    have emul0:(a:Int)*(k:Int)=((a*k:Nat):Int):=by rw[Int.natCast_mul]
    have emul2:((a*k:Nat):Int)+(c:Int)=((a*k+c:Nat):Int):=by rw[Int.natCast_add]
    ((try simp (maxSteps:=3000000) (dsimp:=false) (disch:=first|omega|simp only[lnx];omega) only[↓ypre,ypost,↓reduceIte,reduceEqDiff,reduceAdd,reduceSub,reduceLeDiff,zz0,ynew,f1,f2,f3,f7,f9,f10,f11,f12,f13,f14,rd1_of bK4',ek,decide_eq_true hlc,ixd,rd,emul0,emul2,ixa,rd1_of b4,g1,wrap64_in,bin_rem (show x.p≠0 by omega),w6]);try simp only[yback])
    have b6:∃ e,H6.get K2.length=some ⟨cel .u8 q,e,false,true⟩:=⟨e4,k6 _ _ (by have:=hbs a ha';omega) b4⟩
    have t6':TabS H1 H6 nb fl (zt bs i k fun a' b'=>if a'<a∨(a'=a∧b'<c+1) then stM x.p L.flatten R.flatten x.ps (t+1) (a'*k+b') else stM x.p L.flatten R.flatten x.ps t (a'*k+b')):=by
     rw[zt_congr (fun a' _ b' _=>?_)] at t6
     ·exact t6
     ·by_cases q1:a'=a∧b'=c
      ·obtain⟨rfl,rfl⟩:=q1
       rw[if_pos ⟨rfl,rfl⟩,if_pos (.inr ⟨rfl,by omega⟩),stn,tmod_mul c2.1 c1.1 vin.1 (by omega)]
      ·rw[if_neg q1]
       by_cases q2:a'<a∨(a'=a∧b'<c)
       ·rw[if_pos q2,if_pos (by omega)]
       ·rw[if_neg q2,if_neg (by omega)]
    refine InvQ_go (k-(c+1)) (by omega) ⟨(c+1),rfl,by omega,(by first|rfl|exact f1|(simp only[upd_apply];rfl)|(show I64 _=_;congr 1;omega)),(by first|rfl|exact f2|(simp only[upd_apply];rfl)|(show I64 _=_;congr 1;omega)),(by first|rfl|exact f3|(simp only[upd_apply];rfl)|(show I64 _=_;congr 1;omega)),(by first|rfl|exact f7|(simp only[upd_apply];rfl)|(show I64 _=_;congr 1;omega)),(by first|rfl|exact f9|(simp only[upd_apply];rfl)|(show I64 _=_;congr 1;omega)),(by first|rfl|exact f10|(simp only[upd_apply];rfl)|(show I64 _=_;congr 1;omega)),(by first|rfl|exact f11|(simp only[upd_apply];rfl)|(show I64 _=_;congr 1;omega)),(by first|rfl|exact f12|(simp only[upd_apply];rfl)|(show I64 _=_;congr 1;omega)),(by first|rfl|exact f13|(simp only[upd_apply];rfl)|(show I64 _=_;congr 1;omega)),(by first|rfl|exact f14|(simp only[upd_apply];rfl)|(show I64 _=_;congr 1;omega)),(by omega),b6,t6'⟩
   have ec:c=k:=by omega
   subst ec
   ((try simp (maxSteps:=3000000) (dsimp:=false) (disch:=first|omega|simp only[lnx];omega) only[↓ypre,ypost,↓reduceIte,reduceEqDiff,reduceAdd,reduceSub,reduceLeDiff,zz0,ynew,f1,f2,f3,f7,f9,f10,f11,f12,f13,f14,rd1_of bK4',ek,decide_eq_false hlc,wrap64_in]);try simp only[yback])
   have s7:TabS H1 K4 nb fl (zt bs i c fun a' b'=>if a'<a+1 then stM x.p L.flatten R.flatten x.ps (t+1) (a'*c+b') else stM x.p L.flatten R.flatten x.ps t (a'*c+b')):=by
    rw[zt_congr (fun a' _ b' hb'=>?_)] at s4
    ·exact s4
    ·by_cases q2:a'<a∨(a'=a∧b'<c)
     ·rw[if_pos q2,if_pos (by omega)]
     ·rw[if_neg q2,if_neg (by omega)]
   refine InvQ_go (i-(a+1)) (by omega) ⟨(a+1),rfl,by omega,(by first|rfl|exact f1|(simp only[upd_apply];rfl)|(show I64 _=_;congr 1;omega)),(by first|rfl|exact f2|(simp only[upd_apply];rfl)|(show I64 _=_;congr 1;omega)),(by first|rfl|exact f3|(simp only[upd_apply];rfl)|(show I64 _=_;congr 1;omega)),(by first|rfl|exact f7|(simp only[upd_apply];rfl)|(show I64 _=_;congr 1;omega)),(by first|rfl|exact f9|(simp only[upd_apply];rfl)|(show I64 _=_;congr 1;omega)),(by first|rfl|exact f10|(simp only[upd_apply];rfl)|(show I64 _=_;congr 1;omega)),(by first|rfl|exact f11|(simp only[upd_apply];rfl)|(show I64 _=_;congr 1;omega)),(by first|rfl|exact f12|(simp only[upd_apply];rfl)|(show I64 _=_;congr 1;omega)),(by omega),⟨_,b4⟩,s7⟩
  have ea:a=i:=by omega
  subst ea
  ((try simp (maxSteps:=3000000) (dsimp:=false) (disch:=first|omega|simp only[lnx];omega) only[↓ypre,ypost,↓reduceIte,reduceEqDiff,reduceAdd,reduceSub,reduceLeDiff,zz0,ynew,f1,f2,f3,f7,f9,f10,f11,f12,rd1_of bK3,en,decide_eq_false hla,wrap64_in]);try simp only[yback])
  rw[zt_congr (g':=fun a' b'=>stM x.p L.flatten R.flatten x.ps (t+1) (a'*k+b')) (fun a' ha' b' _=>by rw[if_pos ha'])] at s3
  refine InvQ_go (x.ps.length-(t+1)) (by omega) ⟨(t+1),rfl,by omega,(by first|rfl|exact f1|(simp only[upd_apply];rfl)|(show I64 _=_;congr 1;omega)),(by first|rfl|exact f2|(simp only[upd_apply];rfl)|(show I64 _=_;congr 1;omega)),(by first|rfl|exact f3|(simp only[upd_apply];rfl)|(show I64 _=_;congr 1;omega)),(by first|rfl|exact f7|(simp only[upd_apply];rfl)|(show I64 _=_;congr 1;omega)),(by first|rfl|exact f9|(simp only[upd_apply];rfl)|(show I64 _=_;congr 1;omega)),(by omega),s3⟩
 have et:t=x.ps.length:=by omega
 subst et
 ((try simp (maxSteps:=3000000) (dsimp:=false) (disch:=first|omega|simp only[lnx];omega) only[↓ypre,ypost,↓reduceIte,reduceEqDiff,reduceAdd,reduceSub,reduceLeDiff,zz0,ynew,f1,f2,f3,f7,f9,rd1_of bK2,hvK.1.len,decide_eq_false hlt2]);try simp only[yback])
 have o:=s2.own
 rw[zt_snd,zt_len,←parts_gen] at o
 have eF:parts (gen (i*k) (stM x.p L.flatten R.flatten x.ps x.ps.length)) k i=mpF x L R:=by
  unfold mpF
  rw[en,ek,←Int.natCast_mul,Int.toNat_natCast,Int.toNat_natCast,Int.toNat_natCast]
 rw[eF] at o
 exact hQ _ _ pp (o.lo (pre_len p1))
theorem s_MakeProduct {v u z:Value} {x:Sch} {L R:List (List Int)} {h:AH} {Q:Value→AH→Prop} (hv:Prods h v x.ps) (hl:SmallX x.ps) (hu:Rows h u L) (hL:BigM L) (hz:Rows h z R) (hR:BigM R)
  (hQ:∀ v' h',h<+:h'→OwnRows h h' v' (mpR x L R).1→Q (.tuple #[v',I64 (mpR x L R).2]) h'):WF S 68 [schV x v,u,z] h Q:=by
 refine WF_fn (fn:=c68) rfl rfl ?_
 dsimp only[c68,oO,oM,oS,oG,oK,oE,oL,oF,oX,oN]
 ((try simp (maxSteps:=3000000) (dsimp:=false) (disch:=first|omega|simp only[lnx];omega) only[↓ypre,ypost,↓reduceIte,reduceEqDiff,reduceAdd,reduceSub,reduceLeDiff,zz0,ynew,schV,hv.one]);try simp only[yback])
 generalize hH1:AH.new h _=H1
 obtain⟨hb1,p1,n1⟩:=new_facts hH1
 ((try simp (maxSteps:=3000000) (dsimp:=false) (disch:=first|omega|simp only[lnx];omega) only[↓ypre,ypost,↓reduceIte,reduceEqDiff,reduceAdd,reduceSub,reduceLeDiff,zz0,ynew,rdn_of hb1]);try simp only[yback])
 refine s_l01Is (x:=x) (hv.pre p1) hl fun H2 p2=>?_
 have p12:=p1.trans p2
 have hb2:=pre_get p2 hb1
 unfold mpR at hQ
 have no:∀ c,mcX x L R=c→c≠0→Q (.tuple #[.slice none 0 0,I64 c]) H2:=fun c e hc=>by
  rw[if_neg (by omega),e] at hQ
  exact hQ _ _ p12 (.inl ⟨rfl,rfl⟩)
 cases h1:isX x with
 | false=>
  ((try simp (maxSteps:=3000000) (dsimp:=false) (disch:=first|omega|simp only[lnx];omega) only[↓ypre,ypost,↓reduceIte,reduceEqDiff,reduceAdd,reduceSub,reduceLeDiff,zz0,ynew]);try simp only[yback])
  exact no 1 (by unfold mcX;rw[h1];rfl) (by decide)
 | true=>
  obtain⟨zz,hp,hl30,ho⟩:=isX_facts h1
  have hp5:=isP_in hp
  ((try simp (maxSteps:=3000000) (dsimp:=false) (disch:=first|omega|simp only[lnx];omega) only[↓ypre,ypost,↓reduceIte,reduceEqDiff,reduceAdd,reduceSub,reduceLeDiff,zz0,ynew,rd1_of hb2]);try simp only[yback])
  refine s_l01Matrix (hu.pre p12) hL hp5 ?_
  cases h2:(isMat x.p x.m L&&decide ((L.length:Int)=x.n)) with
  | false=>
   ((try simp (maxSteps:=3000000) (dsimp:=false) (disch:=first|omega|simp only[lnx];omega) only[↓ypre,ypost,↓reduceIte,reduceEqDiff,reduceAdd,reduceSub,reduceLeDiff,zz0,ynew]);try simp only[yback])
   exact no 2 (by unfold mcX mOK;rw[h1,h2];rfl) (by decide)
  | true=>
   ((try simp (maxSteps:=3000000) (dsimp:=false) (disch:=first|omega|simp only[lnx];omega) only[↓ypre,ypost,↓reduceIte,reduceEqDiff,reduceAdd,reduceSub,reduceLeDiff,zz0,ynew,rd1_of hb2]);try simp only[yback])
   refine s_l01Matrix (hz.pre p12) hR hp5 ?_
   cases h3:(isMat x.p x.k R&&decide ((R.length:Int)=x.m)) with
   | false=>
    ((try simp (maxSteps:=3000000) (dsimp:=false) (disch:=first|omega|simp only[lnx];omega) only[↓ypre,ypost,↓reduceIte,reduceEqDiff,reduceAdd,reduceSub,reduceLeDiff,zz0,ynew]);try simp only[yback])
    exact no 2 (by unfold mcX mOK;rw[h1,h2,h3];rfl) (by decide)
   | true=>
    have hc:mcX x L R=0:=by unfold mcX mOK;rw[h1,h2,h3];rfl
    rw[if_pos hc] at hQ
    obtain⟨n,m,k,mf⟩:=mf_of hc
    ((try simp (maxSteps:=3000000) (dsimp:=false) (disch:=first|omega|simp only[lnx];omega) only[↓ypre,ypost,↓reduceIte,reduceEqDiff,reduceAdd,reduceSub,reduceLeDiff,zz0,ynew,rdn_of hb2]);try simp only[yback])
    refine s_l01Make (hv.pre p12) mf hl30 hp5 (hu.pre p12) (hz.pre p12) fun v6 H6 p6 o6=>?_
    ((try simp (maxSteps:=3000000) (dsimp:=false) (disch:=first|omega|simp only[lnx];omega) only[↓ypre,ypost,↓reduceIte,reduceEqDiff,reduceAdd,reduceSub,reduceLeDiff,zz0,ynew]);try simp only[yback])
    exact hQ _ _ (p12.trans p6) (o6.lo (pre_len p12))
theorem mpR_small (x:Sch) (L R:List (List Int)):SmallM (mpR x L R).1:=by
 unfold mpR
 by_cases hc:mcX x L R=0
 ·rw[if_pos hc]
  obtain⟨n,m,k,mf⟩:=mf_of hc
  have b:=mf.b
  have eF:mpF x L R=parts (gen (n*k) (stM x.p L.flatten R.flatten x.ps x.ps.length)) k n:=by
   unfold mpF
   rw[mf.en,mf.ek,←Int.natCast_mul,Int.toNat_natCast,Int.toNat_natCast,Int.toNat_natCast]
  have hlen:(mpF x L R).length=n:=by rw[eF,parts_len]
  have hrow:∀ i,i<n→((mpF x L R).getD i []).length=k:=fun i hi=>by
   rw[eF,parts_get hi,List.length_take,List.length_drop,gen_len]
   have:=mul_row (w:=k) hi
   omega
  show SmallM (mpF x L R)
  exact smallM_of2 (A:=3) (B:=3) (by omega) (fun i hi=>by rw[hrow i (by omega)];omega) (by omega)
 ·rw[if_neg hc]
  exact⟨by simp,by simp,by simp[tot]⟩
end Go.Proofs.Ytapafdpnmakekaa.X

set_option linter.unusedVariables false
set_option linter.unusedSimpArgs false
set_option maxRecDepth 20000
set_option maxHeartbeats 4000000
namespace Go.Proofs.Ytapafdpnmakekaa.X
open Go Go.RowKit
theorem smT_sm {g:Nat→Int}:∀ {n:Nat},smT g n=sm n g
 | 0=>rfl
 | n+1=>by rw[smT,sm,smT_sm]
theorem sm_nn {g:Nat→Int}:∀ {n:Nat},(∀ i,i<n→0≤g i)→0≤sm n g
 | 0,_=>Int.le_refl _
 | n+1,h=>by
  have a:=sm_nn (n:=n) fun i hi=>h i (by omega)
  have b:=h n (by omega)
  simp only[sm]
  omega
theorem wrX_sum {x:Sch} {n m k:Nat} (z:SZ x) (en:x.n=n) (em:x.m=m) (ek:x.k=k) (hw:wrX x=[]) {a b c:Nat} (ha:a<n*m) (hb:b<m*k) (hc:c<n*k) :
  Cg x.p (Sx x.ps x.ps.length a b c) (wn m k a b c):=by
 obtain⟨I,J,K,eI,eJ,eK,bI,bJ,bK,eW⟩:=sz_nat z
 rw[en,em] at eI
 rw[em,ek] at eJ
 rw[en,ek] at eK
 have eI:I=n*m:=by rw[←Int.natCast_mul] at eI;exact (Int.ofNat.inj eI).symm
 have eJ:J=m*k:=by rw[←Int.natCast_mul] at eJ;exact (Int.ofNat.inj eJ).symm
 have eK:K=n*k:=by rw[←Int.natCast_mul] at eK;exact (Int.ofNat.inj eK).symm
 rw[eW] at hw
 have lt:a*(J*K)+b*K+c<I*(J*K):=by
  have h2:b*K+c<J*K:=by
   have:=Nat.mul_le_mul_right K (show b+1≤J by omega)
   rw[Nat.add_mul,Nat.one_mul] at this
   omega
  have h3:=Nat.mul_le_mul_right (J*K) (show a+1≤I by omega)
  rw[Nat.add_mul,Nat.one_mul] at h3
  omega
 have bad:=wrS_nil hw _ lt
 obtain⟨d1,d2,d3⟩:=eDec (e:=a*(J*K)+b*K+c) rfl (show b<J by omega) (show c<K by omega)
 unfold badE at bad
 rw[d1,d2,d3] at bad
 have e:lsX x a b c=wnX x a b c:=by simpa using bad
 have ew:wnX x a b c=wn m k a b c:=by unfold wnX;rw[em,ek];rfl
 rw[←ew,←e]
 unfold lsX lsS
 rw[smT_sm]
 exact (cg_md _ _).symm
theorem mp_pp {h:AH} {v:Value} {x:Sch} {L R:List (List Int)} (hv:Prods h v x.ps) (hx:isX x=true) (hc:mcX x L R=0) (hw:wrX x=[]):ppR x.p L R=(mpF x L R,0):=by
 obtain⟨z,hP,hl30,-⟩:=isX_facts hx
 have hp:=isP_in hP
 obtain⟨n,m,k,mf⟩:=mf_of hc
 obtain⟨en,em,ek,b,nk,wL,wR,lL,lR,fL,fR,aL,aR,hm,hr⟩:=id mf
 have hk0:(R.getD 0 []).length=k:=wR _ (by
  rw[List.getD_eq_getElem?_getD,List.getElem?_eq_getElem (show 0<R.length by omega)]
  exact List.getElem_mem _)
 have zn:=z.n
 have zm:=z.m
 have zk:=z.k
 have pm:PM x.p L R (R.getD 0 []).length:=by
  rw[hk0]
  exact⟨hP,by omega,by omega,by omega,by rw[lR];exact hm,hr,hk0⟩
 have ok:=ppOK_iff.2 pm
 rw[hk0] at pm
 unfold ppR
 rw[if_pos ok,hk0]
 congr 1
 rw[mp_plain hp hv.1.widL hv.2 mf (fun a b c ha hb hc=>wrX_sum z en em ek hw ha hb hc),parts_gen]
 unfold ppF
 rw[lL]
 refine List.map_congr_left fun i hi=>?_
 have hi:=List.mem_range.1 hi
 refine gen_congr fun l hl=>?_
 have a:=pv_in pm (i:=i) (l:=l) (by omega) hl (j:=R.length) (Nat.le_refl _)
 unfold ppG
 rw[(dm hl).1,(dm hl).2]
 have nn:0≤sm m fun j=>L.flatten.getD (i*m+j) 0*R.flatten.getD (j*k+l) 0:=sm_nn fun j hj=>by
  rw[flat_at wL (by omega) hj,flat_at wR (by omega) hl]
  have:=pv_step pm (i:=i) (l:=l) (j:=j) (by omega) hl (by omega)
  exact this.2.2.1.1
 refine cg_eq a (tmod_nn nn (by omega)) (pv_sm.trans (Cg.trans (Cg.of ?_) (cg_md _ _).symm))
 rw[lR]
 refine sm_ext fun j hj=>?_
 rw[flat_at wL (by omega) hj,flat_at wR (by omega) hl]
def sT:List (List Int)→Nat→Nat→Nat→Int
 | [],_,_,_=>0
 | q::L,a,b,c=>tm q a b c+sT L a b c
section
variable {L R:List (List Int)} {q r:List Int} {a b c i k f:Nat} {p s:Int}
theorem sT_app:sT (L++R) a b c=sT L a b c+sT R a b c:=by
 induction L with
 | nil=>simp[sT]
 | cons q L ih=>
  rw[List.cons_append,sT,sT,ih]
  omega
theorem sT_set:∀ {L:List (List Int)} {i:Nat},i<L.length→sT (L.set i q) a b c+tm (L.getD i []) a b c=sT L a b c+tm q a b c
 | [],i,h=>by simp at h
 | r::L,0,h=>by
  rw[List.set_cons_zero,List.getD_cons_zero,sT,sT]
  omega
 | r::L,i+1,h=>by
  have:=sT_set (L:=L) (i:=i) (by simpa using h)
  rw[List.set_cons_succ,List.getD_cons_succ,sT,sT]
  omega
theorem lsS_sT:∀ {i:Nat},i≤L.length→lsS L a b c i=sT (L.take i) a b c
 | 0,_=>by simp[lsS,smT,sT]
 | i+1,h=>by
  have ih:=lsS_sT (i:=i) (by omega)
  unfold lsS at ih ⊢
  rw[smT,ih,takeD (by omega),sT_app]
  simp[sT]
theorem lsS_all:lsS L a b c L.length=sT L a b c:=by rw[lsS_sT (Nat.le_refl _),List.take_length]
theorem Sx_sT:Sx L L.length a b c=sT L a b c:=by
 rw[←lsS_all]
 unfold Sx lsS
 rw[smT_sm]
theorem tm_seg (ha:a<9) (hb:b<9) (hc:c<9):tm q a b c=(seg q 0).getD a 0*(seg q 1).getD b 0*(seg q 2).getD c 0:=by
 unfold tm
 rw[seg_at ha,seg_at hb,seg_at hc,Nat.zero_mul,Nat.zero_add,Nat.one_mul]
theorem isZ_at (hz:isZ q=true):q.getD a 0=0:=by
 have e:q=z9:=by simpa [isZ] using hz
 subst e
 unfold z9
 have:a=0∨a=1∨a=2∨a=3∨a=4∨a=5∨a=6∨a=7∨a=8∨9≤a:=by omega
 rcases this with rfl|rfl|rfl|rfl|rfl|rfl|rfl|rfl|rfl|h
 all_goals first|rfl|(rw[List.getD_eq_getElem?_getD,List.getElem?_eq_none (by simpa using h)];rfl)
theorem tm_zero (ha:a<9) (hb:b<9) (hc:c<9) (hz:hasZ q=true):tm q a b c=0:=by
 rw[tm_seg ha hb hc]
 unfold hasZ at hz
 rw[Bool.or_eq_true,Bool.or_eq_true] at hz
 rcases hz with (h|h)|h
 ·rw[isZ_at h,Int.zero_mul,Int.zero_mul]
 ·rw[isZ_at h,Int.mul_zero,Int.zero_mul]
 ·rw[isZ_at h,Int.mul_zero]
theorem sT_told (ha:a<9) (hb:b<9) (hc:c<9):sT (toldL L) a b c=sT L a b c:=by
 induction L with
 | nil=>rfl
 | cons q L ih=>
  unfold toldL at ih ⊢
  rw[List.filter_cons]
  cases hz:hasZ q with
  | true=>
   rw[if_neg (by simp),ih,sT,tm_zero ha hb hc hz]
   omega
  | false=>
   rw[if_pos (by simp),sT,sT,ih]
theorem seg_wth {j:Nat} (hq:q.length=27) (hr:r.length=9) (hf:f<3) (hj:j<3):seg (wth q f r) j=if j=f then r else seg q j:=by
 have lt:(q.take (f*9)).length=f*9:=by rw[List.length_take,hq];omega
 unfold wth seg
 split
 ·rename_i e
  subst e
  rw[List.append_assoc,List.drop_append_of_le_length (by omega),List.drop_of_length_le (by omega),List.nil_append,List.take_append_of_le_length (by omega),List.take_of_length_le (by omega)]
 ·rename_i e
  by_cases h:j<f
  ·rw[List.append_assoc,List.drop_append_of_le_length (by omega),List.take_append_of_le_length (by rw[List.length_drop];omega),List.drop_take,List.take_take,Nat.min_eq_left (by omega)]
  ·have:(q.take (f*9)++r).length=f*9+9:=by rw[List.length_append,lt,hr]
   rw[List.drop_append,List.drop_of_length_le (by omega),List.nil_append,this,List.drop_drop,show f*9+9+(j*9-(f*9+9))=j*9 by omega]
theorem md_cg {x:Int}:Cg p (md p x) x:=Cg.symm (md_dvd p x)
theorem addF_get {x y:List Int} {j:Nat} (hj:j<9):(addF p x y s 9).getD j 0=md p (x.getD j 0+s*y.getD j 0):=by
 unfold addF
 rw[getD_app_l (by rw[gen_len];exact hj),gen_get hj]
theorem flG_lt:flG' f<3:=Nat.mod_lt _ (by omega)
theorem flH_lt:flH' f<3:=Nat.mod_lt _ (by omega)
theorem flip_tm {A B:List Int} (hA:A.length=27) (hB:B.length=27) (hf:f<3) (e:seg A f=seg B f) (ha:a<9) (hb:b<9) (hc:c<9):Cg p (tm (flOne p A B f s) a b c+tm (flTwo p A B f s) a b c) (tm A a b c+tm B a b c):=by
 have lA:∀ j,j<3→(seg A j).length=9:=fun j hj=>seg_n9 hA hj
 have lB:∀ j,j<3→(seg B j).length=9:=fun j hj=>seg_n9 hB hj
 have s1:∀ j,j<3→seg (flOne p A B f s) j=if j=flG' f then addF p (seg A (flG' f)) (seg B (flG' f)) s 9 else seg A j:=fun j hj=>seg_wth hA (addF_len (lA _ flG_lt) (Nat.le_refl _)) flG_lt hj
 have s2:∀ j,j<3→seg (flTwo p A B f s) j=if j=flH' f then addF p (seg B (flH' f)) (seg A (flH' f)) (-s) 9 else seg B j:=fun j hj=>seg_wth hB (addF_len (lB _ flH_lt) (Nat.le_refl _)) flH_lt hj
 rw[tm_seg ha hb hc,tm_seg ha hb hc,tm_seg ha hb hc,tm_seg ha hb hc,s1 0 (by omega),s1 1 (by omega),s1 2 (by omega),s2 0 (by omega),s2 1 (by omega),s2 2 (by omega)]
 have h:f=0∨f=1∨f=2:=by omega
 rcases h with rfl|rfl|rfl
 ·rw[show flG' 0=1 from rfl,show flH' 0=2 from rfl,if_neg (by decide),if_pos rfl,if_neg (by decide),if_neg (by decide),if_neg (by decide),if_pos rfl,addF_get hb,addF_get hc,e]
  obtain⟨w,hw⟩:=md_cg (p:=p) (x:=(seg A 1).getD b 0+s*(seg B 1).getD b 0)
  obtain⟨v,hv⟩:=md_cg (p:=p) (x:=(seg B 2).getD c 0 + -s*(seg A 2).getD c 0)
  generalize md p _=M1 at hw ⊢
  generalize md p _=M2 at hv ⊢
  generalize (seg A 1).getD b 0=a1 at *
  generalize (seg B 1).getD b 0=b1 at *
  generalize (seg A 2).getD c 0=a2 at *
  generalize (seg B 2).getD c 0=b2 at *
  generalize (seg B 0).getD a 0=b0 at *
  exact⟨b0*w*a2+b0*b1*v,by grind⟩
 ·rw[show flG' 1=2 from rfl,show flH' 1=0 from rfl,if_neg (by decide),if_neg (by decide),if_pos rfl,if_pos rfl,if_neg (by decide),if_neg (by decide),addF_get hc,addF_get ha,e]
  obtain⟨w,hw⟩:=md_cg (p:=p) (x:=(seg A 2).getD c 0+s*(seg B 2).getD c 0)
  obtain⟨v,hv⟩:=md_cg (p:=p) (x:=(seg B 0).getD a 0 + -s*(seg A 0).getD a 0)
  generalize md p _=M1 at hw ⊢
  generalize md p _=M2 at hv ⊢
  generalize (seg A 2).getD c 0=a1 at *
  generalize (seg B 2).getD c 0=b1 at *
  generalize (seg A 0).getD a 0=a2 at *
  generalize (seg B 0).getD a 0=b2 at *
  generalize (seg B 1).getD b 0=b0 at *
  exact⟨b0*w*a2+b0*b1*v,by grind⟩
 ·rw[show flG' 2=0 from rfl,show flH' 2=1 from rfl,if_pos rfl,if_neg (by decide),if_neg (by decide),if_neg (by decide),if_pos rfl,if_neg (by decide),addF_get ha,addF_get hb,e]
  obtain⟨w,hw⟩:=md_cg (p:=p) (x:=(seg A 0).getD a 0+s*(seg B 0).getD a 0)
  obtain⟨v,hv⟩:=md_cg (p:=p) (x:=(seg B 1).getD b 0 + -s*(seg A 1).getD b 0)
  generalize md p _=M1 at hw ⊢
  generalize md p _=M2 at hv ⊢
  generalize (seg A 0).getD a 0=a1 at *
  generalize (seg B 0).getD a 0=b1 at *
  generalize (seg A 1).getD b 0=a2 at *
  generalize (seg B 1).getD b 0=b2 at *
  generalize (seg B 2).getD c 0=b0 at *
  exact⟨b0*w*a2+b0*b1*v,by grind⟩
theorem getD_setne {l:List (List Int)} {x:List Int} (h:i≠k):(l.set i x).getD k []=l.getD k []:=by
 rw[List.getD_eq_getElem?_getD,List.getElem?_set_ne h,←List.getD_eq_getElem?_getD]
theorem getD_len27 (hw:Wid 27 L) (hi:i<L.length):(L.getD i []).length=27:=by
 refine hw _ ?_
 rw[List.getD_eq_getElem?_getD,List.getElem?_eq_getElem hi]
 exact List.getElem_mem hi
theorem getD_by (hw:Wid 27 L) (hb:Byt 27 L) (hi:i<L.length):By 27 (L.getD i []):=⟨getD_len27 hw hi,fun j hj=>hb i hi j hj⟩
theorem flip_sT (hw:Wid 27 L) (hi:i<L.length) (hk:k<L.length) (hik:i≠k) (hf:f<3) (e:seg (L.getD i []) f=seg (L.getD k []) f) (ha:a<9) (hb:b<9) (hc:c<9):Cg p (sT (flipL p L i k f s) a b c) (sT L a b c):=by
 have h1:=sT_set (q:=flOne p (L.getD i []) (L.getD k []) f s) (a:=a) (b:=b) (c:=c) hi
 have h2:=sT_set (L:=L.set i (flOne p (L.getD i []) (L.getD k []) f s)) (i:=k) (q:=flTwo p (L.getD i []) (L.getD k []) f s) (a:=a) (b:=b) (c:=c) (by rw[List.length_set];exact hk)
 rw[getD_setne hik] at h2
 obtain⟨w,hw'⟩:=flip_tm (p:=p) (s:=s) (getD_len27 hw hi) (getD_len27 hw hk) hf e ha hb hc
 refine⟨w,?_⟩
 show sT (flipL p L i k f s) a b c-_=_
 unfold flipL
 omega
theorem okForm_gt {n:Int} {q:List Int} {j:Nat} (h:okForm p n q=true) (hj:j<9):q.getD j 0<p∧(n≤(j:Int)→q.getD j 0=0):=by
 unfold okForm at h
 rw[List.all_eq_true] at h
 exact of_decide_eq_true (h j (List.mem_range.2 hj))
theorem okForm_add {n:Int} {x y:List Int} (hp:2≤p) (hx:okForm p n x=true) (hy:okForm p n y=true):okForm p n (addF p x y s 9)=true:=by
 refine okForm_t fun j hj=>?_
 have h1:=okForm_gt hx hj
 have h2:=okForm_gt hy hj
 unfold okAt
 rw[addF_get hj]
 refine decide_eq_true ⟨(md_in hp).2,fun hn=>?_⟩
 rw[h1.2 hn,h2.2 hn,Int.mul_zero,Int.add_zero]
 exact md_small (by omega)
theorem okProd_iff {x:Sch}:okProd x q=true↔(∀ j,j<3→okForm x.p (pl x j) (seg q j)=true)∧hasZ q=false:=by
 unfold okProd
 simp only[Bool.and_eq_true,Bool.not_eq_true']
 constructor
 ·rintro⟨⟨⟨h0,h1⟩,h2⟩,h3⟩
  refine⟨fun j hj=>?_,h3⟩
  have:j=0∨j=1∨j=2:=by omega
  rcases this with rfl|rfl|rfl
  ·exact h0
  ·exact h1
  ·exact h2
 ·rintro⟨h,h3⟩
  exact⟨⟨⟨h 0 (by omega),h 1 (by omega)⟩,h 2 (by omega)⟩,h3⟩
def okL (x:Sch) (L:List (List Int)):Prop:=∀ q∈L,∀ j,j<3→okForm x.p (pl x j) (seg q j)=true
abbrev wps (x:Sch) (L:List (List Int)):Sch:=⟨x.p,x.n,x.m,x.k,L⟩
theorem okL_of {x:Sch} (hx:isX x=true):okL x x.ps:=fun q hq=>by
 obtain⟨_,_,_,h⟩:=isX_facts hx
 exact (okProd_iff.1 (List.all_eq_true.1 (by unfold isX at hx;exact (Bool.and_eq_true _ _▸hx).2) q hq)).1
theorem told_id {x:Sch} (hx:isX x=true):toldL x.ps=x.ps:=by
 unfold toldL
 rw[List.filter_eq_self]
 intro q hq
 have h:=List.all_eq_true.1 (by unfold isX at hx;exact (Bool.and_eq_true _ _▸hx).2) q hq
 rw[(okProd_iff.1 h).2]
 rfl
theorem isX_told {x:Sch} (hx:isX x=true) (hl:L.length≤30) (ok:okL x L):isX (wps x (toldL L))=true:=by
 have h1:szX x=true:=by
  unfold isX at hx
  simp only[Bool.and_eq_true] at hx
  exact hx.1.1
 unfold isX
 have tl:=toldL_len (L:=L)
 simp only[Bool.and_eq_true]
 refine⟨⟨h1,decide_eq_true (by show (toldL L).length≤30;omega)⟩,List.all_eq_true.2 fun q hq=>?_⟩
 have hm:=List.mem_filter.1 hq
 exact okProd_iff.2 ⟨ok q hm.1,by simpa using hm.2⟩
theorem flip_okL {x:Sch} (hp:2≤x.p) (hw:Wid 27 L) (ok:okL x L) (hi:i<L.length) (hk:k<L.length) (hf:f<3):okL x (flipL x.p L i k f s):=by
 have gm:∀ {i},i<L.length→L.getD i []∈L:=fun {i} hi=>by
  rw[List.getD_eq_getElem?_getD,List.getElem?_eq_getElem hi]
  exact List.getElem_mem hi
 have lA:∀ j,j<3→(seg (L.getD i []) j).length=9:=fun j hj=>seg_n9 (getD_len27 hw hi) hj
 have lB:∀ j,j<3→(seg (L.getD k []) j).length=9:=fun j hj=>seg_n9 (getD_len27 hw hk) hj
 intro q hq j hj
 unfold flipL at hq
 rcases List.mem_or_eq_of_mem_set hq with hq|rfl
 ·rcases List.mem_or_eq_of_mem_set hq with hq|rfl
  ·exact ok q hq j hj
  ·unfold flOne
   rw[seg_wth (getD_len27 hw hi) (addF_len (lA _ flG_lt) (Nat.le_refl _)) flG_lt hj]
   split
   ·rename_i e
    rw[e]
    exact okForm_add hp (ok _ (gm hi) _ flG_lt) (ok _ (gm hk) _ flG_lt)
   ·exact ok _ (gm hi) j hj
 ·unfold flTwo
  rw[seg_wth (getD_len27 hw hk) (addF_len (lB _ flH_lt) (Nat.le_refl _)) flH_lt hj]
  split
  ·rename_i e
   rw[e]
   exact okForm_add hp (ok _ (gm hk) _ flH_lt) (ok _ (gm hi) _ flH_lt)
  ·exact ok _ (gm hk) j hj
theorem flipL_len:(flipL p L i k f s).length=L.length:=by unfold flipL;rw[List.length_set,List.length_set]
theorem told_wid (hw:Wid 27 L):Wid 27 (toldL L):=fun q hq=>hw q (List.mem_filter.1 hq).1
theorem byt_iff (hw:Wid 27 L):Byt 27 L↔∀ q∈L,By 27 q:=by
 constructor
 ·intro hb q hq
  obtain⟨i,hi,rfl⟩:=List.getElem_of_mem hq
  have:=getD_by hw hb hi
  rwa [List.getD_eq_getElem?_getD,List.getElem?_eq_getElem hi] at this
 ·intro h i hi j hj
  refine (h _ ?_).2 j hj
  rw[List.getD_eq_getElem?_getD,List.getElem?_eq_getElem hi]
  exact List.getElem_mem hi
theorem told_byt (hw:Wid 27 L) (hb:Byt 27 L):Byt 27 (toldL L):=(byt_iff (told_wid hw)).2 fun q hq=>(byt_iff hw).1 hb q (List.mem_filter.1 hq).1
theorem flip_wb (hp:2≤p∧p≤5) (hw:Wid 27 L) (hb:Byt 27 L) (hi:i<L.length) (hk:k<L.length) (hf:f<3):Wid 27 (flipL p L i k f s)∧Byt 27 (flipL p L i k f s):=by
 have byi:=getD_by hw hb hi
 have byk:=getD_by hw hb hk
 have b1:By 27 (flOne p (L.getD i []) (L.getD k []) f s):=wth_by byi (addF_by hp (seg_by byi flG_lt) (Nat.le_refl _)) flG_lt
 have b2:By 27 (flTwo p (L.getD i []) (L.getD k []) f s):=wth_by byk (addF_by hp (seg_by byk flH_lt) (Nat.le_refl _)) flH_lt
 exact⟨wid_set (wid_set hw b1.1) b2.1,byt_setq (byt_setq hb b1) b2⟩
theorem flF_mem {l:List Int}:∀ {r:Nat},l∈flF L i k r→∃ u:Nat,u<r∧l=[(i:Int),k,u]∧seg (L.getD i []) u=seg (L.getD k []) u
 | 0,h=>by simp[flF] at h
 | r+1,h=>by
  unfold flF at h
  rcases List.mem_append.1 h with h|h
  ·obtain⟨u,h1,h2⟩:=flF_mem h
   exact⟨u,by omega,h2⟩
  ·split at h
   ·rename_i e
    exact⟨r,by omega,List.mem_singleton.1 h,e⟩
   ·simp at h
theorem flK_mem {l:List Int}:∀ {K:Nat},l∈flK L i K→∃ k u:Nat,k<K∧i≠k∧u<3∧l=[(i:Int),k,u]∧seg (L.getD i []) u=seg (L.getD k []) u
 | 0,h=>by simp[flK] at h
 | K+1,h=>by
  unfold flK at h
  rcases List.mem_append.1 h with h|h
  ·obtain⟨k,u,h1,h2⟩:=flK_mem h
   exact⟨k,u,by omega,h2⟩
  ·split at h
   ·simp at h
   ·rename_i e
    obtain⟨u,h1,h2,h3⟩:=flF_mem h
    exact⟨K,u,by omega,e,h1,h2,h3⟩
theorem flI_mem {l:List Int}:∀ {I:Nat},l∈flI L I→∃ i k u:Nat,i<I∧k<L.length∧i≠k∧u<3∧l=[(i:Int),k,u]∧seg (L.getD i []) u=seg (L.getD k []) u
 | 0,h=>by simp[flI] at h
 | I+1,h=>by
  unfold flI at h
  rcases List.mem_append.1 h with h|h
  ·obtain⟨i,k,u,h1,h2⟩:=flI_mem h
   exact⟨i,k,u,by omega,h2⟩
  ·obtain⟨k,u,h1,h2⟩:=flK_mem h
   exact⟨I,k,u,by omega,h1,h2⟩
abbrev flA (L:List (List Int)):List (List Int):=flI L L.length
def pickF (L:List (List Int)) (n:Int):List Int:=(flA L).getD (n.tmod ((flA L).length:Int)).toNat []
def stepW (p:Int) (L:List (List Int)) (n:Int):List (List Int):=
 if flA L=[] then L else toldL (flipL p L ((pickF L n).getD 0 0).toNat ((pickF L n).getD 1 0).toNat ((pickF L n).getD 2 0).toNat 1)
def walkL (p:Int) (L:List (List Int)) (ns:List Int):List (List Int):=ns.foldl (stepW p) L
theorem pickF_of {n:Int} (hn:0≤n) (h:flA L≠[]):∃ i k u:Nat,i<L.length∧k<L.length∧i≠k∧u<3∧pickF L n=[(i:Int),k,u]∧seg (L.getD i []) u=seg (L.getD k []) u∧(n.tmod ((flA L).length:Int)).toNat<(flA L).length:=by
 have hl:0<(flA L).length:=List.length_pos_iff.2 h
 have h1:0≤n.tmod ((flA L).length:Int):=Int.tmod_nonneg _ hn
 have h2:n.tmod ((flA L).length:Int)<(flA L).length:=Int.tmod_lt_of_pos _ (by omega)
 have h3:(n.tmod ((flA L).length:Int)).toNat<(flA L).length:=by omega
 have hm:pickF L n∈flA L:=by
  unfold pickF
  rw[List.getD_eq_getElem?_getD,List.getElem?_eq_getElem h3]
  exact List.getElem_mem h3
 obtain⟨i,k,u,g1,g2,g3,g4,g5,g6⟩:=flI_mem hm
 exact⟨i,k,u,g1,g2,g3,g4,g5,g6,h3⟩
structure GX (x:Sch):Prop where
 ok:isX x=true
 w:Wid 27 x.ps
 b:Byt 27 x.ps
structure EqS (x y:Sch):Prop where
 l:like x y
 s:∀ a b c,a<9→b<9→c<9→Cg x.p (sT x.ps a b c) (sT y.ps a b c)
theorem EqS.rfl' {x:Sch}:EqS x x:=⟨⟨rfl,rfl,rfl,rfl⟩,fun _ _ _ _ _ _=>Cg.rfl'⟩
theorem EqS.trans {x y z:Sch} (h:EqS x y) (g:EqS y z):EqS x z:=⟨⟨h.l.1.trans g.l.1,h.l.2.1.trans g.l.2.1,h.l.2.2.1.trans g.l.2.2.1,h.l.2.2.2.trans g.l.2.2.2⟩,fun a b c ha hb hc=>(h.s a b c ha hb hc).trans (by rw[h.l.1];exact g.s a b c ha hb hc)⟩
theorem flip_GX {x:Sch} (g:GX x) (hi:i<x.ps.length) (hk:k<x.ps.length) (hf:f<3):GX (wps x (toldL (flipL x.p x.ps i k f s))):=by
 obtain⟨z,h30⟩:=isX_sz g.ok
 have zp:=z.p
 obtain⟨w,b⟩:=flip_wb (s:=s) zp g.w g.b hi hk hf
 exact⟨isX_told g.ok (by rw[flipL_len];exact h30) (flip_okL zp.1 g.w (okL_of g.ok) hi hk hf),told_wid w,told_byt w b⟩
theorem flip_EqS {x:Sch} (g:GX x) (hi:i<x.ps.length) (hk:k<x.ps.length) (hik:i≠k) (hf:f<3) (e:seg (x.ps.getD i []) f=seg (x.ps.getD k []) f):EqS x (wps x (toldL (flipL x.p x.ps i k f s))):=
 ⟨⟨rfl,rfl,rfl,rfl⟩,fun a b c ha hb hc=>by
  show Cg x.p _ (sT (toldL (flipL x.p x.ps i k f s)) a b c)
  rw[sT_told ha hb hc]
  exact (flip_sT g.w hi hk hik hf e ha hb hc).symm⟩
theorem step_ok {x:Sch} {n:Int} (g:GX x) (hn:0≤n):GX (wps x (stepW x.p x.ps n))∧EqS x (wps x (stepW x.p x.ps n)):=by
 unfold stepW
 by_cases h:flA x.ps=[]
 ·rw[if_pos h]
  exact⟨g,.rfl'⟩
 ·rw[if_neg h]
  obtain⟨i,k,u,h1,h2,h3,h4,h5,h6,-⟩:=pickF_of hn h
  rw[h5]
  simp only[List.getD_cons_zero,List.getD_cons_succ,Int.toNat_natCast]
  exact⟨flip_GX g h1 h2 h4,flip_EqS g h1 h2 h3 h4 h6⟩
theorem walk_ok {x:Sch} (g:GX x) {ns:List Int} (hn:∀ n∈ns,0≤n):GX (wps x (walkL x.p x.ps ns))∧EqS x (wps x (walkL x.p x.ps ns)):=by
 induction ns generalizing x with
 | nil=>exact⟨g,.rfl'⟩
 | cons n ns ih=>
  obtain⟨h1,h2⟩:=step_ok g (hn n (by simp))
  obtain⟨h3,h4⟩:=ih h1 (fun m hm=>hn m (by simp[hm]))
  exact⟨h3,h2.trans h4⟩
theorem walk_stop (h:flA L=[]) {ns:List Int}:walkL p L ns=L:=by
 induction ns with
 | nil=>rfl
 | cons n ns ih=>
  unfold walkL at ih ⊢
  rw[List.foldl_cons,show stepW p L n=L from if_pos h]
  exact ih
theorem lsX_eq {x y:Sch} (gx:GX x) (gy:GX y) (e:EqS x y) (ha:a<9) (hb:b<9) (hc:c<9):lsX x a b c=lsX y a b c:=by
 have nn:∀ {x:Sch},GX x→0≤sT x.ps a b c:=fun {x} g=>by
  rw[←lsS_all]
  exact (smT_in (b:=16581375) fun j hj=>(tm_in (getD_by g.w g.b hj) ha hb hc).2).1
 have h1:=nn gx
 have h2:=nn gy
 have zp:=(isX_sz gx.ok).1.p
 unfold lsX
 rw[lsS_all,lsS_all,←e.l.1]
 exact dvd_eq (((Cg.tmod _ _).trans (e.s a b c ha hb hc)).trans (Cg.tmod _ _).symm) ⟨Int.tmod_nonneg _ h1,Int.tmod_lt_of_pos _ (by omega)⟩ ⟨Int.tmod_nonneg _ h2,Int.tmod_lt_of_pos _ (by omega)⟩
end
end Go.Proofs.Ytapafdpnmakekaa.X

set_option linter.unusedVariables false
set_option linter.unusedSimpArgs false
set_option maxRecDepth 20000
set_option maxHeartbeats 4000000
namespace Go.Proofs.Ytapafdpnmakekaa.X
open Go Go.RowKit
open Nat (reduceEqDiff reduceAdd reduceSub reduceLeDiff)
theorem md_tmod {p x:Int} (hp:2≤p) (hx:0≤x):md p x=x.tmod p:=by
 unfold md
 have h:=tmod_nn (a:=x) (J:=p) hx (by omega)
 rw[Int.tmod_eq_emod_of_nonneg (a:=x.tmod p+p) (by omega),Int.add_emod_right,Int.emod_eq_of_lt h.1 h.2]
theorem i_sum {p k:Int} {a b:List Int} {h:AH} {Q:Value→AH→Prop} (hp:2≤p∧p≤5) (ha:By 9 a) (hb:By 9 b) (hk:0≤k∧k≤1000) (hQ:∀ h',h<+:h'→Q (aggV .u8 (addF p a b k 9)) h'):WF S 272 [I64 p,aggV .u8 a,aggV .u8 b,I64 k] h Q:=by
 refine WF_fn (fn:=c272) rfl rfl ?_
 dsimp only[c272,oO,oM,oS,oG,oK,oE,oL,oF,oX,oN]
 have a9:=ha.1
 have b9:=hb.1
 ((try simp (maxSteps:=3000000) (dsimp:=false) (disch:=first|omega|simp only[lnx];omega) only[↓ypre,ypost,↓reduceIte,reduceEqDiff,reduceAdd,reduceSub,reduceLeDiff,zz0,ynew,aggV,cellsL_cel,cel_all,zeros9]);try simp only[yback])
 generalize hH1:AH.new h _=H1
 obtain⟨hb1,p1,n1⟩:=new_facts hH1
 generalize hH2:AH.new H1 _=H2
 obtain⟨hb2,p2,n2⟩:=new_facts hH2
 generalize hH3:AH.new H2 _=H3
 obtain⟨hb3,p3,n3⟩:=new_facts hH3
 have e0:addF p a b k 0=a:=by simp[addF,gen]
 refine WC_loop_inv (fun m f K1=>∃ (i:Nat),m=9-i∧i≤9∧f 0=I64 p∧f 3=I64 k∧f 5=.pointer (some ⟨h.length,0,none⟩)∧f 6=.pointer (some ⟨H1.length,0,none⟩)∧f 8=.pointer (some ⟨H2.length,0,none⟩)∧f 10=I64 i∧(h<+:K1)∧(K1.get h.length=some ⟨cel .u8 (addF p a b k i),136,false,true⟩)∧(K1.get H1.length=some ⟨cel .u8 b,136,false,true⟩)∧(K1.get H2.length=some ⟨cel .u8 (List.replicate 9 0),136,false,true⟩)) ?_ (9-0) _ _ ⟨0,rfl,by omega,(by first|rfl|simp[upd_apply]),(by first|rfl|simp[upd_apply]),(by first|rfl|simp[upd_apply]),(by first|rfl|simp[upd_apply]),(by first|rfl|simp[upd_apply]),(by first|rfl|simp[upd_apply]),p1.trans (p2.trans p3),(by rw[e0];exact pre_get (p2.trans p3) hb1),pre_get p3 hb2,hb3⟩
 rintro m f K1 ⟨i,rfl,hi,f0,f3,f5,f6,f8,f10,pp,g1,g2,g3⟩
 have lF:=addF_len (p:=p) (k:=k) (a:=a) (b:=b) (i:=i) a9 (by omega)
 by_cases hlt:(i:Int)<9
 ·have ba:=ha.2 i (by omega)
  have bb:=hb.2 i (by omega)
  have c1:=cel_get (k:=.u8) (q:=addF p a b k i) (j:=i) (by omega)
  rw[addF_at (Nat.le_refl _)] at c1
  have c2:=cel_get (k:=.u8) (q:=b) (j:=i) (by omega)
  have kb:0≤k*b.getD i 0∧k*b.getD i 0≤255000:=mul_in (A:=1000) (B:=255) hk bb
  have mi:=md_in (x:=a.getD i 0+k*b.getD i 0) hp.1
  have st:=cel_set (k:=.u8) (q:=addF p a b k i) (j:=i) (x:=md p (a.getD i 0+k*b.getD i 0)) (by omega)
  rw[addF_set a9 (by omega)] at st
  have ia:∀ m:Nat,ixaV 9 1 (.pointer (some ⟨m,0,none⟩)) (I64 i)=_:=fun m=>ixaV_ptr ⟨by omega,by omega⟩
  have w1:IntKind.i64.wrap (k*b.getD i 0)=k*b.getD i 0:=wrap64_in (by omega) (by omega)
  have w2:IntKind.i64.wrap (a.getD i 0+k*b.getD i 0)=a.getD i 0+k*b.getD i 0:=wrap64_in (by omega) (by omega)
  have em:=(md_tmod (x:=a.getD i 0+k*b.getD i 0) hp.1 (by omega)).symm
  have w3:IntKind.u8.wrap (md p (a.getD i 0+k*b.getD i 0))=md p (a.getD i 0+k*b.getD i 0):=wrap8_in (by omega) (by omega)
  ((try simp (maxSteps:=3000000) (dsimp:=false) (disch:=first|omega|simp only[lnx];omega) only[↓ypre,ypost,↓reduceIte,reduceEqDiff,reduceAdd,reduceSub,reduceLeDiff,zz0,ynew,f0,f3,f5,f6,f8,f10,decide_eq_true hlt,↓WX_ixa,ia,Int.toNat_natCast,Nat.mul_one,rd1_of g1,rd1_of g2,c1,c2,wrap64_in,w1,w2,bin_rem (show p≠0 by omega),em,w3,wr_of g1,st,cel_len,lF]);try simp only[yback])
  refine⟨by omega,?_⟩
  ((try simp (maxSteps:=3000000) (dsimp:=false) (disch:=first|omega|simp only[lnx];omega) only[↓ypre,ypost,↓reduceIte,reduceEqDiff,reduceAdd,reduceSub,reduceLeDiff,zz0,ynew,f0,f3,f5,f6,f8,f10,wrap64_in]);try simp only[yback])
  refine InvQ_go (9-(i+1)) (by omega) ⟨(i+1),rfl,by omega,(by first|rfl|exact f0|(simp only[upd_apply];rfl)|(show I64 _=_;congr 1;omega)),(by first|rfl|exact f3|(simp only[upd_apply];rfl)|(show I64 _=_;congr 1;omega)),(by first|rfl|exact f5|(simp only[upd_apply];rfl)|(show I64 _=_;congr 1;omega)),(by first|rfl|exact f6|(simp only[upd_apply];rfl)|(show I64 _=_;congr 1;omega)),(by first|rfl|exact f8|(simp only[upd_apply];rfl)|(show I64 _=_;congr 1;omega)),(by first|rfl|exact f10|(simp only[upd_apply];rfl)|(show I64 _=_;congr 1;omega)),(pre_put pp (Nat.le_refl _)),(get_put_same (get_lt g1)),(by rw[get_put_ne (by omega)];exact g2),(by rw[get_put_ne (by omega)];exact g3)⟩
 ·have ei:i=9:=by omega
  subst ei
  have t9:(cel .u8 (addF p a b k 9)).take 9=cel .u8 (addF p a b k 9):=List.take_of_length_le (by rw[cel_len,lF];exact Nat.le_refl _)
  have w9:=wr_full (vs:=cel .u8 (addF p a b k 9)) g3 (by rw[cel_len,lF];rfl)
  have l3:=get_lt g3
  ((try simp (maxSteps:=3000000) (dsimp:=false) (disch:=first|omega|simp only[lnx];omega) only[↓ypre,ypost,↓reduceIte,reduceEqDiff,reduceAdd,reduceSub,reduceLeDiff,zz0,ynew,f0,f3,f5,f6,f8,f10,decide_eq_false hlt,rdn_of g1,cel_len,lF,t9,cel_all,w9,rdn_put_same]);try simp only[yback])
  exact hQ _ (pre_put pp (by omega))
theorem i_productOf {q:List Int} {h:AH} {Q:Value→AH→Prop} (hq:q.length=27) (hQ:∀ h',h<+:h'→Q (aggV .u8 q) h'):WF S 273 [aggV .u8 q] h Q:=by
 refine WF_fn (fn:=c273) rfl rfl ?_
 dsimp only[c273,oO,oM,oS,oG,oK,oE,oL,oF,oX,oN]
 have a1:=seg_n9 hq (show 0<3 by omega)
 have a2:=seg_n9 hq (show 1<3 by omega)
 have a3:=seg_n9 hq (show 2<3 by omega)
 have c0:(cel .u8 q).take 9=cel .u8 (seg q 0):=by have:=cel_seg (q:=q) (f:=0);rwa [Nat.zero_mul,List.drop_zero] at this
 have c1:((cel .u8 q).drop 9).take 9=cel .u8 (seg q 1):=cel_seg (f:=1)
 have c2:((cel .u8 q).drop 18).take 9=cel .u8 (seg q 2):=cel_seg (f:=2)
 have s3:seg q 0++seg q 1++seg q 2=q:=by
  unfold seg
  rw[Nat.zero_mul,List.drop_zero,Nat.one_mul,List.append_assoc,show (q.drop (2*9)).take 9=(q.drop 9).drop 9 from by rw[List.drop_drop,List.take_of_length_le (by rw[List.length_drop];omega)],List.take_append_drop,List.take_append_drop]
 obtain⟨sa,sb,sc⟩:=sp27 a1 a2 a3
 rw[s3] at sc
 ((try simp (maxSteps:=3000000) (dsimp:=false) (disch:=first|omega|simp only[lnx];omega) only[↓ypre,ypost,↓reduceIte,reduceEqDiff,reduceAdd,reduceSub,reduceLeDiff,zz0,ynew,aggV,cellsL_cel,cel_all,zeros27]);try simp only[yback])
 generalize hH1:AH.new h _=H1
 obtain⟨hb1,p1,n1⟩:=new_facts hH1
 generalize hH2:AH.new H1 _=H2
 obtain⟨hb2,p2,n2⟩:=new_facts hH2
 have g1:=pre_get p2 hb1
 have i0:ixaV 3 9 (.pointer (some ⟨h.length,0,none⟩)) (I64 0)=some (.pointer (some ⟨h.length,0,none⟩)):=rfl
 have i1:ixaV 3 9 (.pointer (some ⟨h.length,0,none⟩)) (I64 1)=some (.pointer (some ⟨h.length,9,none⟩)):=rfl
 have i2:ixaV 3 9 (.pointer (some ⟨h.length,0,none⟩)) (I64 2)=some (.pointer (some ⟨h.length,18,none⟩)):=rfl
 have t27:(cel .u8 q).take 27=cel .u8 q:=List.take_of_length_le (by rw[cel_len,hq];exact Nat.le_refl _)
 have w27:=wr_full (vs:=cel .u8 q) hb2 (by rw[cel_len,hq];rfl)
 have l2:=get_lt hb2
 ((try simp (maxSteps:=3000000) (dsimp:=false) (disch:=first|omega|simp only[lnx];omega) only[↓ypre,ypost,↓reduceIte,reduceEqDiff,reduceAdd,reduceSub,reduceLeDiff,zz0,ynew,↓WX_ixa,i0,i1,i2,rdn_of g1,cel_len,hq,c0,c1,c2,a1,a2,a3,cel_all,sa,sb,sc,w27,rdn_put_same,t27,List.length_replicate]);try simp only[yback])
 exact hQ _ (pre_put (p1.trans p2) (by omega))
theorem i_with {x:Sch} {v w:Value} {L:List (List Int)} {h:AH} {Q:Value→AH→Prop} (hv:isOne v=true) (hw:isOne w=true) (cw:cellsL w=[w]) (hQ:∀ h',h<+:h'→Q (schV (wps x L) w) h'):WF S 150 [schV x v,w] h Q:=by
 refine WF_fn (fn:=c150) rfl rfl ?_
 dsimp only[c150,oO,oM,oS,oG,oK,oE,oL,oF,oX,oN]
 ((try simp (maxSteps:=3000000) (dsimp:=false) (disch:=first|omega|simp only[lnx];omega) only[↓ypre,ypost,↓reduceIte,reduceEqDiff,reduceAdd,reduceSub,reduceLeDiff,zz0,ynew,schV,hv,cw,hw,splice_eq,len_new]);try simp only[yback])
 generalize hH1:AH.new h _=H1
 obtain⟨hb1,p1,n1⟩:=new_facts hH1
 generalize hH2:AH.new H1 _=H2
 obtain⟨hb2,p2,n2⟩:=new_facts hH2
 rw[n1] at hb2
 have g1:=pre_get p2 hb1
 have l2:=get_lt hb2
 ((try simp (maxSteps:=3000000) (dsimp:=false) (disch:=first|omega|simp only[lnx];omega) only[↓ypre,ypost,↓reduceIte,reduceEqDiff,reduceAdd,reduceSub,reduceLeDiff,zz0,ynew,rdn_of g1,wr_of hb2,splice_eq,rdn_put_same]);try simp only[yback])
 exact hQ _ (pre_put (p1.trans p2) (by omega))
def OwnP (lo:Nat) (h:AH) (w:Value) (L:List (List Int)):Prop:=
 Wid 27 L∧((w=.slice none 0 0∧L=[])∨∃ kb full,w=.slice (some ⟨kb,0,none⟩) L.length 27∧lo≤kb∧h.get kb=some ⟨cel .u8 L.flatten,138,false,full⟩)
theorem OwnP.nk {lo:Nat} {h:AH} {w:Value} {L:List (List Int)} (o:OwnP lo h w L):NK w:=by
 obtain⟨_,⟨rfl,_⟩|⟨kb,full,rfl,_⟩⟩:=o
 ·exact .inl (.inl rfl)
 ·exact .inr ⟨_,_,_,rfl⟩
theorem NK.one {v:Value} (o:NK v):isOne v=true:=by
 obtain (rfl|rfl)|⟨b,n,w,rfl⟩:=o<;>rfl
theorem NK.cells {v:Value} (o:NK v):cellsL v=[v]:=by
 obtain (rfl|rfl)|⟨b,n,w,rfl⟩:=o<;>rfl
theorem OwnP.inE {lo:Nat} {h:AH} {w:Value} {L:List (List Int)} (o:OwnP lo h w L):InE .u8 27 lo h.length h w L:=by
 obtain⟨hw,o|⟨kb,full,h1,h2,h3⟩⟩:=o
 ·exact .inl o
 ·exact .inr ⟨kb,_,full,⟨h2,get_lt h3⟩,h1,h3,hw⟩
theorem OwnP.kN {lo lo':Nat} {h:AH} {w:Value} {L:List (List Int)} (o:OwnP lo h w L) (b:Byt 27 L) (hl:lo'≤lo):KN lo' h fun h'=>Prods h' w L:=fun h' d d'=>⟨o.inE.kN hl h' d d',b⟩
theorem app_00 {e:TypeId} {w bytes:Nat} {h:AH} {k n':Nat} {b:Blk} (hn:h.get n'=some b):appV e w bytes (.slice (some ⟨k,0,none⟩) 0 w) (.slice (some ⟨n',0,none⟩) 0 w) h=some (.slice (some ⟨k,0,none⟩) 0 w,h):=by
 have:h.rdn n' 0 (0*w)=some []:=by
  rw[Nat.zero_mul,rdn_of hn]
  simp
 simp only[appV,xop,ev,if_true,this]
 simp
theorem app_03 {e:TypeId} {w bytes:Nat} {h:AH} {k t:Nat}:appV e w bytes (.slice (some ⟨k,0,none⟩) 0 w) (.slice none 0 t) h=some (.slice (some ⟨k,0,none⟩) 0 w,h):=by
 simp[appV,xop,ev]
theorem i_CloneP {v:Value} {L:List (List Int)} {h:AH} {Q:Value→AH→Prop} (hv:Els .u8 27 h v L) (nk:NK v) (hl:L.length≤1000) (hQ:∀ w h',h<+:h'→OwnP h.length h' w L→Q w h'):WF S 151 [v] h Q:=by
 refine WF_fn (fn:=c151) rfl rfl ?_
 dsimp only[c151,oO,oM,oS,oG,oK,oE,oL,oF,oX,oN]
 rcases nk with (rfl|rfl)|⟨b0,n0,w0,rfl⟩
 ·have e:L=[]:=by
   rcases hv with⟨e,_⟩|⟨b,off,blk,e,_⟩
   ·exact e
   ·cases e
  subst e
  ((try simp (maxSteps:=3000000) (dsimp:=false) (disch:=first|omega|simp only[lnx];omega) only[↓ypre,ypost,↓reduceIte,reduceEqDiff,reduceAdd,reduceSub,reduceLeDiff,zz0,ynew,↓WX_isnil,isnilV_nil]);try simp only[yback])
  exact hQ _ _ (List.prefix_refl _) ⟨fun q hq=>by simp at hq,.inl ⟨rfl,rfl⟩⟩
 ·have e:L=[]:=by
   rcases hv with⟨e,_⟩|⟨b,off,blk,e,_⟩
   ·exact e
   ·cases e
  subst e
  ((try simp (maxSteps:=3000000) (dsimp:=false) (disch:=first|omega|simp only[lnx];omega) only[↓ypre,ypost,↓reduceIte,reduceEqDiff,reduceAdd,reduceSub,reduceLeDiff,zz0,ynew,↓WX_isnil,isnilV_emp,fillL,zrep]);try simp only[yback])
  generalize hH1:AH.new h _=H1
  obtain⟨hb1,p1,n1⟩:=new_facts hH1
  ((try simp (maxSteps:=3000000) (dsimp:=false) (disch:=first|omega|simp only[lnx];omega) only[↓ypre,ypost,↓reduceIte,reduceEqDiff,reduceAdd,reduceSub,reduceLeDiff,zz0,ynew,app_03]);try simp only[yback])
  exact hQ _ _ p1 ⟨fun q hq=>by simp at hq,.inr ⟨h.length,true,rfl,Nat.le_refl _,hb1⟩⟩
 ·((try simp (maxSteps:=3000000) (dsimp:=false) (disch:=first|omega|simp only[lnx];omega) only[↓ypre,ypost,↓reduceIte,reduceEqDiff,reduceAdd,reduceSub,reduceLeDiff,zz0,ynew,↓WX_isnil,isnilV_some,fillL,zrep]);try simp only[yback])
  by_cases h0:L.length=0
  ·have e0:L=[]:=List.length_eq_zero_iff.1 h0
   subst e0
   rcases hv with⟨_,t,_,e⟩|⟨b,off,blk,e,hg,_⟩
   ·cases e
   ·simp only[Value.slice.injEq,Option.some.injEq,Addr.mk.injEq] at e
    obtain⟨⟨rfl,rfl,-⟩,rfl,rfl⟩:=e
    generalize hH1:AH.new h _=H1
    obtain⟨hb1,p1,n1⟩:=new_facts hH1
    ((try simp (maxSteps:=3000000) (dsimp:=false) (disch:=first|omega|simp only[lnx];omega) only[↓ypre,ypost,↓reduceIte,reduceEqDiff,reduceAdd,reduceSub,reduceLeDiff,zz0,ynew,List.length_nil,app_00 (pre_get p1 hg)]);try simp only[yback])
    exact hQ _ _ p1 ⟨fun q hq=>by simp at hq,.inr ⟨h.length,true,rfl,Nat.le_refl _,hb1⟩⟩
  ·have w27:Wid 27 L:=hv.widL
   refine copy_zero hv (by omega) (by omega) fun H3 l3 p3 gB=>?_
   ((try simp (maxSteps:=3000000) (dsimp:=false) (disch:=first|omega|simp only[lnx];omega) only[↓ypre,ypost,↓reduceIte,reduceEqDiff,reduceAdd,reduceSub,reduceLeDiff,zz0,ynew]);try simp only[yback])
   exact hQ _ _ p3 ⟨w27,.inr ⟨_,false,rfl,by omega,gB⟩⟩
theorem i_IndexP {v:Value} {L:List (List Int)} {h:AH} {Q:Value→AH→Prop} (hv:Prods h v L) (hl:L.length≤1000) (hQ:∀ h',h<+:h'→Q (I64 (firstAt (fun n=>hasZ (L.getD n [])) L.length 0)) h') :
  WF S 337 [v,.func (.func 283) #[] #[]] h Q:=by
 refine WF_fn (fn:=c337) rfl rfl ?_
 dsimp only[c337,oO,oM,oS,oG,oK,oE,oL,oF,oX,oN]
 obtain⟨q,hq⟩:∃ q:Nat→Bool,q=fun n=>hasZ (L.getD n []):=⟨_,rfl⟩
 rw[←hq] at hQ
 ((try simp (maxSteps:=3000000) (dsimp:=false) (disch:=first|omega|simp only[lnx];omega) only[↓ypre,ypost,↓reduceIte,reduceEqDiff,reduceAdd,reduceSub,reduceLeDiff,zz0,ynew,hv.1.len]);try simp only[yback])
 refine WC_loop_inv (fun m f K1=>∃ (i:Nat),m=L.length-i∧i≤L.length∧f 0=v∧f 1=.func (.func 283) #[] #[]∧f 7=I64 L.length∧f 8=I64 i∧(h<+:K1)∧(firstAt q (L.length-i) i=firstAt q L.length 0)) ?_ (L.length-0) _ _ ⟨0,rfl,by omega,(by first|rfl|simp[upd_apply]),(by first|rfl|simp[upd_apply]),(by first|rfl|simp[upd_apply]),(by first|rfl|simp[upd_apply]),List.prefix_refl _,rfl⟩
 rintro m f K1 ⟨i,rfl,hi,f0,f1,f7,f8,pp,hj⟩
 by_cases hlt:(i:Int)<L.length
 ·have hi:i<L.length:=by omega
  obtain⟨nn,off,ix,rd⟩:=((hv.pre pp).1).at hi
  have by27:=hv.by hi
  have rd27:=rd.1 0 27 (by omega)
  rw[Nat.add_zero,List.drop_zero,List.take_of_length_le (by rw[by27.1];exact Nat.le_refl _)] at rd27
  have hstep:firstAt q (L.length-i) i=if q i=true then (i:Int) else firstAt q (L.length-(i+1)) (i+1):=by
   rw[show L.length-i=(L.length-(i+1))+1 by omega]
   rfl
  have hqi:q i=hasZ (L.getD i []):=by rw[hq]
  ((try simp (maxSteps:=3000000) (dsimp:=false) (disch:=first|omega|simp only[lnx];omega) only[↓ypre,ypost,↓reduceIte,reduceEqDiff,reduceAdd,reduceSub,reduceLeDiff,zz0,ynew,f0,f1,f7,f8,decide_eq_true hlt,ix,rd27,WK_func,args_nil]);try simp only[yback])
  refine i_hasZero by27 fun K2 p2=>?_
  rw[←hqi]
  cases h1:q i with
  | true=>
   ((try simp (maxSteps:=3000000) (dsimp:=false) (disch:=first|omega|simp only[lnx];omega) only[↓ypre,ypost,↓reduceIte,reduceEqDiff,reduceAdd,reduceSub,reduceLeDiff,zz0,ynew,f0,f1,f7,f8]);try simp only[yback])
   have:=hQ _ (pp.trans p2)
   rw[←hj,hstep,if_pos h1] at this
   exact this
  | false=>
   ((try simp (maxSteps:=3000000) (dsimp:=false) (disch:=first|omega|simp only[lnx];omega) only[↓ypre,ypost,↓reduceIte,reduceEqDiff,reduceAdd,reduceSub,reduceLeDiff,zz0,ynew,f0,f1,f7,f8,wrap64_in]);try simp only[yback])
   refine InvQ_go (L.length-(i+1)) (by omega) ⟨(i+1),rfl,by omega,(by first|rfl|exact f0|(simp only[upd_apply];rfl)|(show I64 _=_;congr 1;omega)),(by first|rfl|exact f1|(simp only[upd_apply];rfl)|(show I64 _=_;congr 1;omega)),(by first|rfl|exact f7|(simp only[upd_apply];rfl)|(show I64 _=_;congr 1;omega)),(by first|rfl|exact f8|(simp only[upd_apply];rfl)|(show I64 _=_;congr 1;omega)),(pp.trans p2),?_⟩
   rw[←hj,hstep,if_neg (by rw[h1];simp)]
 ·have ei:i=L.length:=by omega
  subst ei
  ((try simp (maxSteps:=3000000) (dsimp:=false) (disch:=first|omega|simp only[lnx];omega) only[↓ypre,ypost,↓reduceIte,reduceEqDiff,reduceAdd,reduceSub,reduceLeDiff,zz0,ynew,f0,f1,f7,f8,decide_eq_false hlt]);try simp only[yback])
  have:=hQ _ pp
  rw[←hj,Nat.sub_self] at this
  exact this
theorem clr_some {n off len sz:Nat} {z:List Value} {h:AH} {b:Blk} (hg:h.get n=some b) (hr:b.ro=false) (hl:0<len) (hb:off+(zrep len z).length≤b.c.length) :
  clrV sz z (.slice (some ⟨n,off,none⟩) len sz) h=some (undef,h.put n { b with c:=splice b.c off (zrep len z) }):=by
 simp only[clrV,xop,ev]
 rw[if_pos ⟨trivial,hl⟩,wr_of hg,if_pos ⟨hr,hb⟩]
theorem zrep_flat {z:List Int}:∀ {m:Nat},zrep m (cel .u8 z)=cel .u8 (List.replicate m z).flatten
 | 0=>rfl
 | m+1=>by
  rw[List.replicate_succ,List.flatten_cons,←cel_app,←zrep_flat]
  rfl
theorem getD_byL {L:List (List Int)} {i:Nat} (hw:Wid 27 L) (hb:Byt 27 L) (hi:i<L.length):By 27 (L.getD i []):=⟨hw _ (by rw[List.getD_eq_getElem?_getD,List.getElem?_eq_getElem hi];exact List.getElem_mem hi),fun j hj=>hb i hi j hj⟩
theorem firstAt_lt {q:Nat→Bool} {r:Nat}:∀ {m i:Nat},firstAt q m i=r→∀ j,i≤j→j<r→q j=false
 | 0,i,h,j,_,_=>by simp[firstAt] at h
 | m+1,i,h,j,h1,h2=>by
  unfold firstAt at h
  by_cases e:q i=true
  ·rw[if_pos e] at h
   omega
  ·rw[if_neg e] at h
   by_cases e2:j=i
   ·rw[e2]
    simpa using e
   ·exact firstAt_lt h j (by omega) h2
theorem flat_tk {w:Nat}:∀ {L:List (List Int)} {i:Nat},Wid w L→i≤L.length→L.flatten.take (i*w)=(L.take i).flatten
 | [],i,_,h=>by simp
 | r::L,0,_,_=>by simp
 | r::L,i+1,hw,h=>by
  have hr:=hw r (by simp)
  rw[List.take_succ_cons,List.flatten_cons,List.flatten_cons,Nat.succ_mul,List.take_append,List.take_of_length_le (by omega),show i*w+w-r.length=i*w by omega,flat_tk (fun q hq=>hw q (by simp[hq])) (by simpa using h)]
theorem told_all {L:List (List Int)} (h:∀ q∈L,hasZ q=false):toldL L=L:=by
 unfold toldL
 rw[List.filter_eq_self]
 intro q hq
 rw[h q hq]
 rfl
theorem zeros27':([.int .u8 0,.int .u8 0,.int .u8 0,.int .u8 0,.int .u8 0,.int .u8 0,.int .u8 0,.int .u8 0,.int .u8 0,.int .u8 0,.int .u8 0,.int .u8 0,.int .u8 0,.int .u8 0,.int .u8 0,.int .u8 0,.int .u8 0,.int .u8 0,.int .u8 0,.int .u8 0,.int .u8 0,.int .u8 0,.int .u8 0,.int .u8 0,.int .u8 0,.int .u8 0,.int .u8 0]:List Value)=cel .u8 (List.replicate 27 0):=rfl
theorem i_DeleteP {n:Nat} {L:List (List Int)} {full:Bool} {h:AH} {Q:Value→AH→Prop} (hg:h.get n=some ⟨cel .u8 L.flatten,138,false,full⟩) (hw:Wid 27 L) (hb:Byt 27 L) (hl:L.length≤1000)
  (hQ:∀ R h',Kp n h h'→Wid 27 R→h'.get n=some ⟨cel .u8 (toldL L++R).flatten,138,false,full⟩→Q (.slice (some ⟨n,0,none⟩) (toldL L).length 27) h') :
  WF S 323 [.slice (some ⟨n,0,none⟩) L.length 27,.func (.func 283) #[] #[]] h Q:=by
 refine WF_fn (fn:=c323) rfl rfl ?_
 dsimp only[c323,oO,oM,oS,oG,oK,oE,oL,oF,oX,oN]
 have pr:Prods h (.slice (some ⟨n,0,none⟩) L.length 27) L:=⟨(blk_kN (lo:=0) hg hw (Nat.zero_le _)).now,hb⟩
 ((try simp (maxSteps:=3000000) (dsimp:=false) (disch:=first|omega|simp only[lnx];omega) only[↓ypre,ypost,↓reduceIte,reduceEqDiff,reduceAdd,reduceSub,reduceLeDiff,zz0,ynew]);try simp only[yback])
 refine i_IndexP pr hl fun H1 p1=>?_
 rcases firstAt_spec (q:=fun n=>hasZ (L.getD n [])) (m:=L.length) (i:=0) with⟨e1,e2⟩|⟨r,e1,e2,e3,e4⟩
 ·rw[e1]
  ((try simp (maxSteps:=3000000) (dsimp:=false) (disch:=first|omega|simp only[lnx];omega) only[↓ypre,ypost,↓reduceIte,reduceEqDiff,reduceAdd,reduceSub,reduceLeDiff,zz0,ynew,show decide ((-1:Int) = -1)=true from rfl]);try simp only[yback])
  have et:toldL L=L:=told_all fun q hq=>by
   obtain⟨j,hj,rfl⟩:=List.getElem_of_mem hq
   have:=e2 j (Nat.zero_le _) (by omega)
   rwa [List.getD_eq_getElem?_getD,List.getElem?_eq_getElem hj,Option.getD_some] at this
  have:=hQ [] H1 (Kp.of p1) (fun q hq=>by simp at hq) (by rw[et,List.append_nil];exact pre_get p1 hg)
  rw[et] at this
  exact this
 ·have e5:=firstAt_lt e1
  rw[e1]
  have t0:L.take r=toldL (L.take (r+1)):=by
   rw[take_next (d:=[]) (show r<L.length by omega),toldL_snoc,if_pos e4,told_all]
   intro q hq
   obtain⟨j,hj,rfl⟩:=List.getElem_of_mem hq
   rw[List.length_take] at hj
   have:=e5 j (Nat.zero_le _) (by omega)
   rw[List.getD_eq_getElem?_getD,List.getElem?_eq_getElem (by omega),Option.getD_some] at this
   rwa [List.getElem_take]
  ((try simp (maxSteps:=3000000) (dsimp:=false) (disch:=first|omega|simp only[lnx];omega) only[↓ypre,ypost,↓reduceIte,reduceEqDiff,reduceAdd,reduceSub,reduceLeDiff,zz0,ynew,decide_eq_false (show ¬ (r:Int) = -1 by omega),wrap64_in]);try simp only[yback])
  have q1:(r:Int)+1=((r+1:Nat):Int):=by push_cast;rfl
  rw[q1]
  refine WC_loop_inv (fun m f K1=>∃ (j:Nat) (i:Nat) (C:List (List Int)),m=L.length-j∧j≤L.length∧f 0=.slice (some ⟨n,0,none⟩) L.length 27∧f 1=.func (.func 283) #[] #[]∧f 5=I64 i∧f 6=I64 j∧(Kp n h K1)∧(K1.get n=some ⟨cel .u8 C.flatten,138,false,full⟩)∧(Wid 27 C)∧(C.length=L.length)∧(i<j)∧(C.take i=toldL (L.take j))∧(C.drop j=L.drop j)) ?_ (L.length-(r+1)) _ _ ⟨(r+1),r,L,rfl,by omega,(by first|rfl|simp[upd_apply]),(by first|rfl|simp[upd_apply]),(by first|rfl|simp[upd_apply]),(by first|rfl|simp[upd_apply]),Kp.of p1,pre_get p1 hg,hw,rfl,(by omega),t0,rfl⟩
  rintro m f K1 ⟨j,i,C,rfl,hj,f0,f1,f5,f6,kk,g,wC,lC,ij,tk,dr⟩
  by_cases hlt:(j:Int)<L.length
  ·have hj:j<L.length:=by omega
   have el:Els .u8 27 K1 (.slice (some ⟨n,0,none⟩) C.length 27) C:=(blk_kN (lo:=0) g wC (Nat.zero_le _)).now
   rw[lC] at el
   have ej:C.getD j []=L.getD j []:=by
    have:=congrArg (fun l=>l.getD 0 []) dr
    simpa [List.getD_eq_getElem?_getD] using this
   obtain⟨nn,off,ix,rd⟩:=el.at (i:=j) (by omega)
   have by27:By 27 (L.getD j []):=getD_byL hw hb hj
   rw[ej] at rd
   have tn:L.take (j+1)=L.take j++[L.getD j []]:=take_next (d:=[]) hj
   have dn:C.drop (j+1)=L.drop (j+1):=by
    have:=congrArg (fun l=>l.drop 1) dr
    simpa [List.drop_drop,Nat.add_comm] using this
   generalize L.getD j []=q at *
   have q27:=by27.1
   have r27:K1.rdn nn off 27=some (cel .u8 q):=by
    have:=rd.1 0 27 (by omega)
    rwa [Nat.add_zero,List.drop_zero,List.take_of_length_le (by omega)] at this
   have t27:(cel .u8 q).take 27=cel .u8 q:=List.take_of_length_le (by rw[cel_len,q27];exact Nat.le_refl _)
   ((try simp (maxSteps:=3000000) (dsimp:=false) (disch:=first|omega|simp only[lnx];omega) only[↓ypre,ypost,↓reduceIte,reduceEqDiff,reduceAdd,reduceSub,reduceLeDiff,zz0,ynew,f0,f1,f5,f6,decide_eq_true hlt,ix,r27,cel_all,cel_len,q27,sp27z q27,zrep27,splice_27 q27]);try simp only[yback])
   generalize hK2:AH.new K1 _=K2
   obtain⟨hb7,p7,n7⟩:=new_facts hK2
   ((try simp (maxSteps:=3000000) (dsimp:=false) (disch:=first|omega|simp only[lnx];omega) only[↓ypre,ypost,↓reduceIte,reduceEqDiff,reduceAdd,reduceSub,reduceLeDiff,zz0,ynew,f0,f1,f5,f6,rdn_of hb7,cel_len,q27,t27,WK_func,args_nil]);try simp only[yback])
   refine i_hasZero by27 fun K3 p3=>?_
   have P3:=p7.trans p3
   have g3:=pre_get P3 g
   have k3:=kk.trans (Kp.of P3)
   cases hz:hasZ q with
   | true=>
    ((try simp (maxSteps:=3000000) (dsimp:=false) (disch:=first|omega|simp only[lnx];omega) only[↓ypre,ypost,↓reduceIte,reduceEqDiff,reduceAdd,reduceSub,reduceLeDiff,zz0,ynew,f0,f1,f5,f6,wrap64_in]);try simp only[yback])
    refine InvQ_go (L.length-(j+1)) (by omega) ⟨(j+1),i,C,rfl,by omega,(by first|rfl|exact f0|(simp only[upd_apply];rfl)|(show I64 _=_;congr 1;omega)),(by first|rfl|exact f1|(simp only[upd_apply];rfl)|(show I64 _=_;congr 1;omega)),(by first|rfl|exact f5|(simp only[upd_apply];rfl)|(show I64 _=_;congr 1;omega)),(by first|rfl|exact f6|(simp only[upd_apply];rfl)|(show I64 _=_;congr 1;omega)),k3,g3,wC,lC,(by omega),(by rw[tn,toldL_snoc,if_pos hz];exact tk),dn⟩
   | false=>
    have b7:=pre_get p3 hb7
    have ie:ixsV 27 (.slice (some ⟨n,0,none⟩) L.length 27) (I64 i)=some (.pointer (some ⟨n,i*27,none⟩)):=by
     rw[ixsV_some,if_pos (by omega),Int.toNat_natCast,Nat.zero_add]
    have fl:=flat_len wC
    have sf:=splice_flat (k:=.u8) q27 wC (j:=i) (by omega)
    have q2:(i:Int)+1=((i+1:Nat):Int):=by push_cast;rfl
    have wI:IntKind.i64.wrap ((i:Int)+1)=((i+1:Nat):Int):=by rw[wrap64_in (by omega) (by omega),q2]
    ((try simp (maxSteps:=3000000) (dsimp:=false) (disch:=first|omega|simp only[lnx];omega) only[↓ypre,ypost,↓reduceIte,reduceEqDiff,reduceAdd,reduceSub,reduceLeDiff,zz0,ynew,f0,f1,f5,f6,rdn_of b7,cel_len,q27,t27,ie,wr_of g3,sf,fl,cel_all]);try simp only[yback])
    refine⟨by omega,?_⟩
    ((try simp (maxSteps:=3000000) (dsimp:=false) (disch:=first|omega|simp only[lnx];omega) only[↓ypre,ypost,↓reduceIte,reduceEqDiff,reduceAdd,reduceSub,reduceLeDiff,zz0,ynew,f0,f1,f5,f6,wI,wrap64_in]);try simp only[yback])
    refine InvQ_go (L.length-(j+1)) (by omega) ⟨(j+1),(i+1),(C.set i q),rfl,by omega,(by first|rfl|exact f0|(simp only[upd_apply];rfl)|(show I64 _=_;congr 1;omega)),(by first|rfl|exact f1|(simp only[upd_apply];rfl)|(show I64 _=_;congr 1;omega)),(by first|rfl|exact f5|(simp only[upd_apply];rfl)|(show I64 _=_;congr 1;omega)),(by first|rfl|exact f6|(simp only[upd_apply];rfl)|(show I64 _=_;congr 1;omega)),k3.put,(get_put_same (get_lt g3)),(wid_set wC q27),(by rw[List.length_set];exact lC),(by omega),(by rw[tn,toldL_snoc,if_neg (by rw[hz];decide),←tk,List.take_succ_eq_append_getElem (by rw[List.length_set];omega),List.take_set_of_le (Nat.le_refl _),List.getElem_set_self]),(by rw[List.drop_set_of_lt (by omega)];exact dn)⟩
  ·have ej:j=L.length:=by omega
   subst ej
   rw[List.take_length] at tk
   have s1:slcV 27 (.slice (some ⟨n,0,none⟩) L.length 27) (some (I64 i)) none=some (.slice (some ⟨n,i*27,none⟩) (L.length-i) 27):=by
    simp only[slcV,boundV]
    rw[if_pos ⟨trivial,by omega,by omega,by omega⟩,Int.toNat_natCast,Nat.zero_add,show ((L.length:Int)-(i:Int)).toNat=L.length-i by omega]
   have s2:slcV 27 (.slice (some ⟨n,0,none⟩) L.length 27) none (some (I64 i))=some (.slice (some ⟨n,0,none⟩) i 27):=by
    simp only[slcV,boundV]
    by_cases hi:0<i
    ·rw[if_pos ⟨trivial,by omega,by omega,by omega⟩]
     simp
    ·rw[if_neg (fun h=>by have:=h.2.2.1;omega),if_pos ⟨trivial,trivial,trivial,by omega⟩]
     have:i=0:=by omega
     rw[this]
   have fl:=flat_len wC
   rw[lC] at fl
   have zl:(zrep (L.length-i) (cel .u8 (List.replicate 27 0))).length=(L.length-i)*27:=by
    rw[zrep_flat,cel_len,flat_len (w:=27) (fun q hq=>by rw[List.eq_of_mem_replicate hq,List.length_replicate]),List.length_replicate]
   have mm:i*27+(L.length-i)*27=L.length*27:=by rw[←Nat.add_mul];congr 1;omega
   have sc:splice (cel .u8 C.flatten) (i*27) (zrep (L.length-i) (cel .u8 (List.replicate 27 0)))=cel .u8 (toldL L++List.replicate (L.length-i) (List.replicate 27 0)).flatten:=by
    unfold splice
    rw[List.drop_of_length_le (by rw[cel_len,zl,fl];omega),List.append_nil,cel_take,flat_tk wC (by omega),tk,zrep_flat,cel_app,List.flatten_append]
   have e1:=clr_some (sz:=27) (z:=cel .u8 (List.replicate 27 0)) (off:=i*27) (len:=L.length-i) g rfl (by omega) (by rw[zl];show _≤(cel .u8 C.flatten).length;rw[cel_len,fl];omega)
   rw[sc] at e1
   have li:(toldL L).length=i:=by rw[←tk,List.length_take];omega
   ((try simp (maxSteps:=3000000) (dsimp:=false) (disch:=first|omega|simp only[lnx];omega) only[↓ypre,ypost,↓reduceIte,reduceEqDiff,reduceAdd,reduceSub,reduceLeDiff,zz0,ynew,f0,f1,f5,f6,decide_eq_false hlt,omapF_none,omapF_some,s1,zeros27',e1,s2]);try simp only[yback])
   have:=hQ (List.replicate (L.length-i) (List.replicate 27 0)) _ (kk.put) (fun q hq=>by rw[List.eq_of_mem_replicate hq,List.length_replicate]) (get_put_same (get_lt g))
   rw[li] at this
   exact this
theorem i_keptP {n:Nat} {L:List (List Int)} {full:Bool} {h:AH} {Q:Value→AH→Prop} (hg:h.get n=some ⟨cel .u8 L.flatten,138,false,full⟩) (hw:Wid 27 L) (hb:Byt 27 L) (hl:L.length≤1000)
  (hQ:∀ R h',Kp n h h'→Wid 27 R→h'.get n=some ⟨cel .u8 (toldL L++R).flatten,138,false,full⟩→Q (.slice (some ⟨n,0,none⟩) (toldL L).length 27) h') :
  WF S 274 [.slice (some ⟨n,0,none⟩) L.length 27] h Q:=by
 refine WF_fn (fn:=c274) rfl rfl ?_
 dsimp only[c274,oO,oM,oS,oG,oK,oE,oL,oF,oX,oN]
 ((try simp (maxSteps:=3000000) (dsimp:=false) (disch:=first|omega|simp only[lnx];omega) only[↓ypre,ypost,↓reduceIte,reduceEqDiff,reduceAdd,reduceSub,reduceLeDiff,zz0,ynew]);try simp only[yback])
 refine i_DeleteP hg hw hb hl fun R h' k w g=>?_
 ((try simp (maxSteps:=3000000) (dsimp:=false) (disch:=first|omega|simp only[lnx];omega) only[↓ypre,ypost,↓reduceIte,reduceEqDiff,reduceAdd,reduceSub,reduceLeDiff,zz0,ynew]);try simp only[yback])
 exact hQ R h' k w g
theorem ixa_f {n g:Nat} (hg:g<3):ixaV 3 9 (.pointer (some ⟨n,0,none⟩)) (I64 g)=some (.pointer (some ⟨n,g*9,none⟩)):=by
 rw[ixaV_ptr ⟨by omega,by omega⟩,Int.toNat_natCast,Nat.zero_add]
theorem addF_cong {p s t:Int} {a b:List Int} (hp:2≤p) (h:Cg p s t):addF p a b s 9=addF p a b t 9:=by
 unfold addF
 congr 1
 exact gen_congr fun j _=>dvd_eq ((md_cg.trans (Cg.rfl'.add (h.mul .rfl'))).trans md_cg.symm) (md_in hp) (md_in hp)
theorem rd_seg {h:AH} {n f:Nat} {q:List Int} {e:TypeId} {ro full:Bool} (g:h.get n=some ⟨cel .u8 q,e,ro,full⟩) (hq:q.length=27) (hf:f<3):h.rdn n (f*9) 9=some (cel .u8 (seg q f)):=by
 rw[rdn_of g]
 simp only[cel_len,hq]
 rw[if_pos (by omega),cel_seg]
theorem wr_seg {h:AH} {n f:Nat} {q r:List Int} {e:TypeId} {full:Bool} (g:h.get n=some ⟨cel .u8 q,e,false,full⟩) (hq:q.length=27) (hr:r.length=9) (hf:f<3):h.wr n (f*9) (cel .u8 r)=some (h.put n ⟨cel .u8 (wth q f r),e,false,full⟩):=by
 rw[wr_of g]
 simp only[cel_len,hq,hr]
 rw[if_pos ⟨trivial,by omega⟩,splice_wth hr]
theorem flG_mod {r:Nat} (h:r<3):(IntKind.i64.wrap ((r:Int)+1)).tmod 3=((flG' r:Nat):Int):=by
 have:r=0∨r=1∨r=2:=by omega
 rcases this with rfl|rfl|rfl<;>rfl
theorem flH_mod {r:Nat} (h:r<3):(IntKind.i64.wrap ((r:Int)+2)).tmod 3=((flH' r:Nat):Int):=by
 have:r=0∨r=1∨r=2:=by omega
 rcases this with rfl|rfl|rfl<;>rfl
theorem i_flip {x:Sch} {v:Value} {i k r:Nat} {s:Int} {h:AH} {Q:Value→AH→Prop} (hv:Prods h v x.ps) (nk:NK v) (ll:x.ps.length≤100) (hp:2≤x.p∧x.p≤5) (hi:i<x.ps.length) (hk:k<x.ps.length) (hf:r<3) (hs:1≤s∧s≤x.p)
  (hQ:∀ (w':Value) (h':AH),h<+:h'→KN h.length h' (fun h2=>Prods h2 w' (toldL (flipL x.p x.ps i k r s)))→NK w'→Q (schV (wps x (toldL (flipL x.p x.ps i k r s))) w') h'):WF S 153 [schV x v,I64 i,I64 k,I64 r,I64 s] h Q:=by
 refine WF_fn (fn:=c153) rfl rfl ?_
 dsimp only[c153,oO,oM,oS,oG,oK,oE,oL,oF,oX,oN]
 have v1:isOne v=true:=hv.one
 ((try simp (maxSteps:=3000000) (dsimp:=false) (disch:=first|omega|simp only[lnx];omega) only[↓ypre,ypost,↓reduceIte,reduceEqDiff,reduceAdd,reduceSub,reduceLeDiff,zz0,ynew,schV,v1]);try simp only[yback])
 generalize hH1:AH.new h _=H1
 obtain⟨hb1,p1,n1⟩:=new_facts hH1
 generalize hH2:AH.new H1 _=H2
 obtain⟨hb2,p2,n2⟩:=new_facts hH2
 have g1:=pre_get p2 hb1
 ((try simp (maxSteps:=3000000) (dsimp:=false) (disch:=first|omega|simp only[lnx];omega) only[↓ypre,ypost,↓reduceIte,reduceEqDiff,reduceAdd,reduceSub,reduceLeDiff,zz0,ynew,rd1_of g1]);try simp only[yback])
 have w27:Wid 27 x.ps:=hv.1.widL
 refine i_CloneP (hv.1.pre (p1.trans p2)) nk (by omega) fun w H3 p3 o3=>?_
 obtain⟨-,⟨-,e0⟩|⟨B,fu,rfl,hB,gB⟩⟩:=o3
 ·rw[e0] at hi
  simp at hi
 have lB3:=get_lt gB
 have g1:=pre_get p3 g1
 have g10:=pre_get p3 hb2
 refine WO_cut (fun f:Fr=>f 1=I64 i∧f 2=I64 k∧f 3=I64 r∧f 4=I64 s∧f 5=.pointer (some ⟨h.length,0,none⟩)∧f 10=.pointer (some ⟨H1.length,0,none⟩)∧f 18=.slice (some ⟨B,0,none⟩) x.ps.length 27∧True) ⟨(by first|rfl|simp[upd_apply]),(by first|rfl|simp[upd_apply]),(by first|rfl|simp[upd_apply]),(by first|rfl|simp[upd_apply]),(by first|rfl|simp[upd_apply]),(by first|rfl|simp[upd_apply]),(by first|rfl|simp[upd_apply]),trivial⟩ ?_
 rintro f ⟨f1,f2,f3,f4,f5,f10,f18,-⟩
 have el:Els .u8 27 H3 (.slice (some ⟨B,0,none⟩) x.ps.length 27) x.ps:=(blk_kN (lo:=0) gB w27 (Nat.zero_le _)).now
 obtain⟨ni,oi,ixi,rdi⟩:=el.at hi
 have byi:=hv.by hi
 have byk:=hv.by hk
 unfold flipL at hQ
 have a27:=byi.1
 have b27:=byk.1
 have ri:AH.rdn H3 ni oi 27=some (cel .u8 (x.ps.getD i [])):=by
  have:=rdi.1 0 27 (by omega)
  rwa [Nat.add_zero,List.drop_zero,List.take_of_length_le (by omega)] at this
 ((try simp (maxSteps:=3000000) (dsimp:=false) (disch:=first|omega|simp only[lnx];omega) only[↓ypre,ypost,↓reduceIte,reduceEqDiff,reduceAdd,reduceSub,reduceLeDiff,zz0,ynew,f1,f2,f3,f4,f5,f10,f18,ixi,ri]);try simp only[yback])
 refine i_factors (q:=x.ps.getD i []) a27 fun K1 q1=>⟨q1,?_⟩
 obtain⟨nk',ok,ixk,rdk⟩:=(el.pre q1).at hk
 have rk:AH.rdn K1 nk' ok 27=some (cel .u8 (x.ps.getD k [])):=by
  have:=rdk.1 0 27 (by omega)
  rwa [Nat.add_zero,List.drop_zero,List.take_of_length_le (by omega)] at this
 generalize x.ps.getD i []=a at byi hQ a27 ri
 generalize x.ps.getD k []=b at byk hQ b27 rk
 ((try simp (maxSteps:=3000000) (dsimp:=false) (disch:=first|omega|simp only[lnx];omega) only[↓ypre,ypost,↓reduceIte,reduceEqDiff,reduceAdd,reduceSub,reduceLeDiff,zz0,ynew,f1,f2,f3,f4,f5,f10,f18,ixk,rk]);try simp only[yback])
 refine i_factors (q:=b) b27 fun K2 q2=>?_
 ((try simp (maxSteps:=3000000) (dsimp:=false) (disch:=first|omega|simp only[lnx];omega) only[↓ypre,ypost,↓reduceIte,reduceEqDiff,reduceAdd,reduceSub,reduceLeDiff,zz0,ynew,f1,f2,f3,f4,f5,f10,f18,aggV,cellsL_cel,cel_len,a27,b27,cel_all]);try simp only[yback])
 generalize hK3:AH.new K2 _=K3
 obtain⟨ka,q3,m3⟩:=new_facts hK3
 generalize hK4:AH.new K3 _=K4
 obtain⟨kb,q4,m4⟩:=new_facts hK4
 have ka:=pre_get q4 ka
 have P4:H3<+:K4:=q1.trans (q2.trans (q3.trans q4))
 have gf:flG' r<3:=flG_lt
 have gh:flH' r<3:=flH_lt
 have g1:=pre_get P4 g1
 have g10:=pre_get P4 g10
 have gB:=pre_get P4 gB
 have l4:=pre_len (q1.trans q2)
 have l3:=pre_len p3
 have lB:=get_lt gB
 have sga:=seg_by byi gf
 have sgb:=seg_by byk gf
 have ia:=ixa_f (n:=K2.length) gf
 have ib:=ixa_f (n:=K3.length) gf
 have ja:=ixa_f (n:=K2.length) gh
 have jb:=ixa_f (n:=K3.length) gh
 ((try simp (maxSteps:=3000000) (dsimp:=false) (disch:=first|omega|simp only[lnx];omega) only[↓ypre,ypost,↓reduceIte,reduceEqDiff,reduceAdd,reduceSub,reduceLeDiff,zz0,ynew,f1,f2,f3,f4,f5,f10,f18,bin_rem (show (3:Int)≠0 by decide),flG_mod hf,flH_mod hf,rd1_of g1,↓WX_ixa,ia,ib,rd_seg ka a27 gf,rd_seg kb b27 gf]);try simp only[yback])
 refine i_sum (k:=s) hp sga sgb (by omega) fun K5 q5=>?_
 have ka:=pre_get q5 ka
 have kb:=pre_get q5 kb
 have ad:=addF_by (k:=s) (b:=seg b (flG' r)) (i:=9) hp sga (Nat.le_refl _)
 have w1:=wr_seg ka a27 ad.1 gf
 have e1:wth a (flG' r) (addF x.p (seg a (flG' r)) (seg b (flG' r)) s 9)=flOne x.p a b r s:=rfl
 rw[e1] at w1
 generalize hK6:AH.put K5 _ _=K6 at w1
 have lA:=get_lt ka
 have ka6:K6.get K2.length=some ⟨cel .u8 (flOne x.p a b r s),172,false,true⟩:=by rw[←hK6];exact get_put_same lA
 have kp6:∀ m c,m≠K2.length→AH.get K5 m=some c→AH.get K6 m=some c:=fun m c hm g=>by rw[←hK6,get_put_ne (Ne.symm hm)];exact g
 have kb6:=kp6 _ _ (by omega) kb
 have g16:=kp6 _ _ (by omega) (pre_get q5 g1)
 have g106:=kp6 _ _ (by omega) (pre_get q5 g10)
 have gB6:=kp6 _ _ (by omega) (pre_get q5 gB)
 have P6:H3<+:K6:=by rw[←hK6];exact pre_put (P4.trans q5) (by omega)
 have by1:By 27 (flOne x.p a b r s):=wth_by byi ad gf
 have l1:=by1.1
 have gne:flG' r≠flH' r:=by unfold flG' flH';omega
 have sh:seg (flOne x.p a b r s) (flH' r)=seg a (flH' r):=by
  unfold flOne
  rw[seg_wth a27 ad.1 gf gh,if_neg (Ne.symm gne)]
 have tga:=seg_by byi gh
 have tgb:=seg_by byk gh
 have ws:IntKind.i64.wrap (x.p-s)=x.p-s:=wrap64_in (by omega) (by omega)
 ((try simp (maxSteps:=3000000) (dsimp:=false) (disch:=first|omega|simp only[lnx];omega) only[↓ypre,ypost,↓reduceIte,reduceEqDiff,reduceAdd,reduceSub,reduceLeDiff,zz0,ynew,f1,f2,f3,f4,f5,f10,f18,aggV,cellsL_cel,cel_len,ad.1,cel_all,↓WX_ixa,ia,w1,rd1_of g16,ja,jb,rd_seg kb6 b27 gh,rd_seg ka6 l1 gh,sh,ws]);try simp only[yback])
 refine i_sum (k:=x.p-s) hp tgb tga (by omega) fun K7 q7=>?_
 rw[addF_cong (s:=x.p-s) (t:=-s) hp.1 ⟨1,by omega⟩]
 have ka:=pre_get q7 ka6
 have kb:=pre_get q7 kb6
 have ad2:=addF_by (k:=-s) (b:=seg a (flH' r)) (i:=9) hp tgb (Nat.le_refl _)
 have w2:=wr_seg kb b27 ad2.1 gh
 have e2:wth b (flH' r) (addF x.p (seg b (flH' r)) (seg a (flH' r)) (-s) 9)=flTwo x.p a b r s:=rfl
 rw[e2] at w2
 generalize hK8:AH.put K7 _ _=K8 at w2
 have lB8:=get_lt kb
 have kb8:K8.get K3.length=some ⟨cel .u8 (flTwo x.p a b r s),172,false,true⟩:=by rw[←hK8];exact get_put_same lB8
 have kp8:∀ m c,m≠K3.length→AH.get K7 m=some c→AH.get K8 m=some c:=fun m c hm g=>by rw[←hK8,get_put_ne (Ne.symm hm)];exact g
 have ka8:=kp8 _ _ (by omega) ka
 have g18:=kp8 _ _ (by omega) (pre_get q7 g16)
 have g108:=kp8 _ _ (by omega) (pre_get q7 g106)
 have gB8:=kp8 _ _ (by omega) (pre_get q7 gB6)
 have P8:H3<+:K8:=by rw[←hK8];exact pre_put (P6.trans q7) (by omega)
 have by2:By 27 (flTwo x.p a b r s):=wth_by byk ad2 gh
 have l2:=by2.1
 have t1:(cel .u8 (flOne x.p a b r s)).take 27=cel .u8 (flOne x.p a b r s):=List.take_of_length_le (by rw[cel_len,l1];exact Nat.le_refl _)
 have t2:(cel .u8 (flTwo x.p a b r s)).take 27=cel .u8 (flTwo x.p a b r s):=List.take_of_length_le (by rw[cel_len,l2];exact Nat.le_refl _)
 ((try simp (maxSteps:=3000000) (dsimp:=false) (disch:=first|omega|simp only[lnx];omega) only[↓ypre,ypost,↓reduceIte,reduceEqDiff,reduceAdd,reduceSub,reduceLeDiff,zz0,ynew,f1,f2,f3,f4,f5,f10,f18,aggV,cellsL_cel,cel_len,ad2.1,cel_all,↓WX_ixa,jb,w2,rdn_of ka8,l1,t1]);try simp only[yback])
 refine i_productOf l1 fun K9 q9=>⟨q9,?_⟩
 have kb9:=pre_get q9 kb8
 ((try simp (maxSteps:=3000000) (dsimp:=false) (disch:=first|omega|simp only[lnx];omega) only[↓ypre,ypost,↓reduceIte,reduceEqDiff,reduceAdd,reduceSub,reduceLeDiff,zz0,ynew,f1,f2,f3,f4,f5,f10,f18,rdn_of kb9,cel_len,l2,t2]);try simp only[yback])
 refine i_productOf l2 fun K10 q10=>?_
 have P10:K8<+:K10:=q9.trans q10
 have gB10:=pre_get P10 gB8
 have g110:=pre_get P10 g18
 have g1010:=pre_get P10 g108
 have i1:ixsV 27 (.slice (some ⟨B,0,none⟩) x.ps.length 27) (I64 i)=some (.pointer (some ⟨B,i*27,none⟩)):=by
  rw[ixsV_some,if_pos (by omega),Int.toNat_natCast,Nat.zero_add]
 have i2:ixsV 27 (.slice (some ⟨B,0,none⟩) x.ps.length 27) (I64 k)=some (.pointer (some ⟨B,k*27,none⟩)):=by
  rw[ixsV_some,if_pos (by omega),Int.toNat_natCast,Nat.zero_add]
 have sf1:=splice_flat (k:=.u8) l1 w27 (j:=i) hi
 have fl:=flat_len w27
 have w27':Wid 27 (x.ps.set i (flOne x.p a b r s)):=wid_set w27 l1
 have lS:(x.ps.set i (flOne x.p a b r s)).length=x.ps.length:=List.length_set
 have sf2:=splice_flat (k:=.u8) l2 w27' (j:=k) (by rw[lS];exact hk)
 have fl':=flat_len w27'
 rw[lS] at fl'
 have w3:AH.wr K10 B (i*27) (cel .u8 (flOne x.p a b r s))=_:=wr_of gB10
 simp only[cel_len,l1,fl,sf1] at w3
 rw[if_pos ⟨trivial,by omega⟩] at w3
 generalize hK11:AH.put K10 _ _=K11 at w3
 have lB10:=get_lt gB10
 have gB11:K11.get B=some ⟨cel .u8 (x.ps.set i (flOne x.p a b r s)).flatten,138,false,fu⟩:=by rw[←hK11];exact get_put_same lB10
 have w4:AH.wr K11 B (k*27) (cel .u8 (flTwo x.p a b r s))=_:=wr_of gB11
 simp only[cel_len,l2,fl',sf2] at w4
 rw[if_pos ⟨trivial,by omega⟩] at w4
 generalize hK12:AH.put K11 _ _=K12 at w4
 have n11:K11.length=K10.length:=by rw[←hK11,len_put]
 generalize hL:(x.ps.set i (flOne x.p a b r s)).set k (flTwo x.p a b r s)=L at *
 have lL:L.length=x.ps.length:=by rw[←hL,List.length_set,lS]
 have gB12:AH.get K12 B=some ⟨cel .u8 L.flatten,138,false,fu⟩:=by rw[←hK12];exact get_put_same (by omega)
 have kp12:∀ m c,m≠B→AH.get K10 m=some c→AH.get K12 m=some c:=fun m c hm g=>by rw[←hK12,get_put_ne (Ne.symm hm),←hK11,get_put_ne (Ne.symm hm)];exact g
 have g112:=kp12 _ _ (by omega) g110
 have g1012:=kp12 _ _ (by omega) g1010
 have P12:H2<+:K12:=by rw[←hK12,←hK11];exact pre_put (pre_put (p3.trans (P8.trans P10)) hB) hB
 have bL:Byt 27 L:=by rw[←hL];exact byt_setq (byt_setq hv.2 by1) by2
 have wL:Wid 27 L:=by rw[←hL];exact wid_set w27' l2
 ((try simp (maxSteps:=3000000) (dsimp:=false) (disch:=first|omega|simp only[lnx];omega) only[↓ypre,ypost,↓reduceIte,reduceEqDiff,reduceAdd,reduceSub,reduceLeDiff,zz0,ynew,f1,f2,f3,f4,f5,f10,f18,aggV,cellsL_cel,cel_all,cel_len,l1,l2,i1,i2,w3,w4,rdn_of g112]);try simp only[yback])
 rw[←lL]
 refine i_keptP gB12 wL bL (by omega) fun R K13 k13 wR g13=>⟨?_,?_⟩
 ·simp only[List.map_cons,List.map_nil,ev_tmp,updo_some,upd_apply,Nat.reduceEqDiff,↓reduceIte,f5]
  exact KpU_one k13 (by show h.length≠B;omega)
 have g1013:=k13.get (by omega) g1012
 have P13:H2<+:K13:=k13.pre P12 hB
 ((try simp (maxSteps:=3000000) (dsimp:=false) (disch:=first|omega|simp only[lnx];omega) only[↓ypre,ypost,↓reduceIte,reduceEqDiff,reduceAdd,reduceSub,reduceLeDiff,zz0,ynew,f1,f2,f3,f4,f5,f10,f18]);try simp only[yback])
 refine i_with (x:=x) (L:=toldL L) (v:=v) v1 rfl rfl fun K14 q14=>?_
 have g14:=pre_get q14 g1013
 have l14:=get_lt g14
 have wT:Wid 27 (toldL L):=told_wid wL
 have gR:=pre_get q14 g13
 have fT:=flat_len wT
 have kn:KN H2.length K14 fun h2=>Prods h2 (.slice (some ⟨B,0,none⟩) (toldL L).length 27) (toldL L):=fun h2 d1 d2=>⟨.inr ⟨B,0,_,rfl,(d2 B (by omega) (get_lt gR)).trans gR,fun j hj=>?_⟩,told_byt wL bL⟩
 ·((try simp (maxSteps:=3000000) (dsimp:=false) (disch:=first|omega|simp only[lnx];omega) only[↓ypre,ypost,↓reduceIte,reduceEqDiff,reduceAdd,reduceSub,reduceLeDiff,zz0,ynew,f1,f2,f3,f4,f5,f10,f18,schV,wr_of g14,splice_eq,rdn_put_same]);try simp only[yback])
  exact hQ _ _ (pre_put ((p1.trans p2).trans (P13.trans q14)) (by omega)) ((KN.put kn (by omega)).mono (by omega)) (.inr ⟨_,_,_,rfl⟩)
 ·have e1:Els .u8 27 K14 (.slice (some ⟨B,0,none⟩) (toldL L++R).length 27) (toldL L++R):=(blk_kN (lo:=0) gR (fun q hq=>by rcases List.mem_append.1 hq with h|h;exact wT q h;exact wR q h) (Nat.zero_le _)).now
  obtain⟨b',o',blk',e2,e3,e4⟩:=e1.resolve_left (fun e=>by cases e.2.choose_spec.2)
  simp only[Value.slice.injEq,Option.some.injEq,Addr.mk.injEq] at e2
  obtain⟨⟨rfl,rfl,-⟩,-⟩:=e2
  rw[gR] at e3
  cases e3
  have:=e4 j (by rw[List.length_append];omega)
  rwa [getD_app_l hj] at this
end Go.Proofs.Ytapafdpnmakekaa.X
