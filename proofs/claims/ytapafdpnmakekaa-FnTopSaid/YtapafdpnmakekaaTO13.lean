/- Texts of one claim, put together by merge.py: XB7, XB8, XB9, XBA, XBB, XMA, XBC, XBD, XBE, XDE, XF36, XM1, XDH, XBF. -/
import Derived.Test.YtapafdpnmakekaaTO12
import Derived.Test.YtapafdpnmakekaaTO11
import Derived.Test.YtapafdpnmakekaaTO10
import Derived.Test.YtapafdpnmakekaaTO8
set_option linter.unusedVariables false
set_option linter.unusedSimpArgs false
set_option maxRecDepth 20000
set_option maxHeartbeats 4000000
namespace Go.Proofs.Ytapafdpnmakekaa.X
open Go Go.RowKit
open Nat (reduceEqDiff reduceAdd reduceSub reduceLeDiff)
theorem md_tmod {p x:Int} (hp:2≤p) (hx:0≤x):md p x=x.tmod p:=by
 unfold md
 have h:=tmod_nn (a:=x) (J:=p) hx (by omega)
 rw[Int.tmod_eq_emod_of_nonneg (a:=x.tmod p+p) (by omega),Int.add_emod_right,Int.emod_eq_of_lt h.1 h.2]
theorem i_sum {p k:Int} {a b:List Int} {h:AH} {Q:Value→AH→Prop} (hp:2≤p∧p≤5) (ha:By 9 a) (hb:By 9 b) (hk:0≤k∧k≤1000) (hQ:∀ h',h<+:h'→Q (aggV .u8 (addF p a b k 9)) h'):WF S 272 [I64 p,aggV .u8 a,aggV .u8 b,I64 k] h Q:=by
 refine WF_fn (fn:=c272) rfl rfl ?_
 dsimp only[c272,oO,oM,oS,oG,oK,oE,oL,oF,oX,oN]
 have a9:=ha.1
 have b9:=hb.1
 ((try simp (maxSteps:=3000000) (dsimp:=false) (disch:=first|omega|simp only[lnx];omega) only[↓ypre,ypost,↓reduceIte,reduceEqDiff,reduceAdd,reduceSub,reduceLeDiff,zz0,ynew,aggV,cellsL_cel,cel_all,zeros9]);try simp only[yback])
 generalize hH1:AH.new h _=H1
 obtain⟨hb1,p1,n1⟩:=new_facts hH1
 generalize hH2:AH.new H1 _=H2
 obtain⟨hb2,p2,n2⟩:=new_facts hH2
 generalize hH3:AH.new H2 _=H3
 obtain⟨hb3,p3,n3⟩:=new_facts hH3
 have e0:addF p a b k 0=a:=by simp[addF,gen]
 refine WC_loop_inv (fun m f K1=>∃ (i:Nat),m=9-i∧i≤9∧f 0=I64 p∧f 3=I64 k∧f 5=.pointer (some ⟨h.length,0,none⟩)∧f 6=.pointer (some ⟨H1.length,0,none⟩)∧f 8=.pointer (some ⟨H2.length,0,none⟩)∧f 10=I64 i∧(h<+:K1)∧(K1.get h.length=some ⟨cel .u8 (addF p a b k i),136,false,true⟩)∧(K1.get H1.length=some ⟨cel .u8 b,136,false,true⟩)∧(K1.get H2.length=some ⟨cel .u8 (List.replicate 9 0),136,false,true⟩)) ?_ (9-0) _ _ ⟨0,rfl,by omega,(by first|rfl|simp[upd_apply]),(by first|rfl|simp[upd_apply]),(by first|rfl|simp[upd_apply]),(by first|rfl|simp[upd_apply]),(by first|rfl|simp[upd_apply]),(by first|rfl|simp[upd_apply]),p1.trans (p2.trans p3),(by rw[e0];exact pre_get (p2.trans p3) hb1),pre_get p3 hb2,hb3⟩
 rintro m f K1 ⟨i,rfl,hi,f0,f3,f5,f6,f8,f10,pp,g1,g2,g3⟩
 have lF:=addF_len (p:=p) (k:=k) (a:=a) (b:=b) (i:=i) a9 (by omega)
 by_cases hlt:(i:Int)<9
 ·have ba:=ha.2 i (by omega)
  have bb:=hb.2 i (by omega)
  have c1:=cel_get (k:=.u8) (q:=addF p a b k i) (j:=i) (by omega)
  rw[addF_at (Nat.le_refl _)] at c1
  have c2:=cel_get (k:=.u8) (q:=b) (j:=i) (by omega)
  have kb:0≤k*b.getD i 0∧k*b.getD i 0≤255000:=mul_in (A:=1000) (B:=255) hk bb
  have mi:=md_in (x:=a.getD i 0+k*b.getD i 0) hp.1
  have st:=cel_set (k:=.u8) (q:=addF p a b k i) (j:=i) (x:=md p (a.getD i 0+k*b.getD i 0)) (by omega)
  rw[addF_set a9 (by omega)] at st
  have ia:∀ m:Nat,ixaV 9 1 (.pointer (some ⟨m,0,none⟩)) (I64 i)=_:=fun m=>ixaV_ptr ⟨by omega,by omega⟩
  have w1:IntKind.i64.wrap (k*b.getD i 0)=k*b.getD i 0:=wrap64_in (by omega) (by omega)
  have w2:IntKind.i64.wrap (a.getD i 0+k*b.getD i 0)=a.getD i 0+k*b.getD i 0:=wrap64_in (by omega) (by omega)
  have em:=(md_tmod (x:=a.getD i 0+k*b.getD i 0) hp.1 (by omega)).symm
  have w3:IntKind.u8.wrap (md p (a.getD i 0+k*b.getD i 0))=md p (a.getD i 0+k*b.getD i 0):=wrap8_in (by omega) (by omega)
  ((try simp (maxSteps:=3000000) (dsimp:=false) (disch:=first|omega|simp only[lnx];omega) only[↓ypre,ypost,↓reduceIte,reduceEqDiff,reduceAdd,reduceSub,reduceLeDiff,zz0,ynew,f0,f3,f5,f6,f8,f10,decide_eq_true hlt,↓WX_ixa,ia,Int.toNat_natCast,Nat.mul_one,rd1_of g1,rd1_of g2,c1,c2,wrap64_in,w1,w2,bin_rem (show p≠0 by omega),em,w3,wr_of g1,st,cel_len,lF]);try simp only[yback])
  refine⟨by omega,?_⟩
  ((try simp (maxSteps:=3000000) (dsimp:=false) (disch:=first|omega|simp only[lnx];omega) only[↓ypre,ypost,↓reduceIte,reduceEqDiff,reduceAdd,reduceSub,reduceLeDiff,zz0,ynew,f0,f3,f5,f6,f8,f10,wrap64_in]);try simp only[yback])
  refine InvQ_go (9-(i+1)) (by omega) ⟨(i+1),rfl,by omega,(by first|rfl|exact f0|(simp only[upd_apply];rfl)|(show I64 _=_;congr 1;omega)),(by first|rfl|exact f3|(simp only[upd_apply];rfl)|(show I64 _=_;congr 1;omega)),(by first|rfl|exact f5|(simp only[upd_apply];rfl)|(show I64 _=_;congr 1;omega)),(by first|rfl|exact f6|(simp only[upd_apply];rfl)|(show I64 _=_;congr 1;omega)),(by first|rfl|exact f8|(simp only[upd_apply];rfl)|(show I64 _=_;congr 1;omega)),(by first|rfl|exact f10|(simp only[upd_apply];rfl)|(show I64 _=_;congr 1;omega)),(pre_put pp (Nat.le_refl _)),(get_put_same (get_lt g1)),(by rw[get_put_ne (by omega)];exact g2),(by rw[get_put_ne (by omega)];exact g3)⟩
 ·have ei:i=9:=by omega
  subst ei
  have t9:(cel .u8 (addF p a b k 9)).take 9=cel .u8 (addF p a b k 9):=List.take_of_length_le (by rw[cel_len,lF];exact Nat.le_refl _)
  have w9:=wr_full (vs:=cel .u8 (addF p a b k 9)) g3 (by rw[cel_len,lF];rfl)
  have l3:=get_lt g3
  ((try simp (maxSteps:=3000000) (dsimp:=false) (disch:=first|omega|simp only[lnx];omega) only[↓ypre,ypost,↓reduceIte,reduceEqDiff,reduceAdd,reduceSub,reduceLeDiff,zz0,ynew,f0,f3,f5,f6,f8,f10,decide_eq_false hlt,rdn_of g1,cel_len,lF,t9,cel_all,w9,rdn_put_same]);try simp only[yback])
  exact hQ _ (pre_put pp (by omega))
theorem i_productOf {q:List Int} {h:AH} {Q:Value→AH→Prop} (hq:q.length=27) (hQ:∀ h',h<+:h'→Q (aggV .u8 q) h'):WF S 273 [aggV .u8 q] h Q:=by
 refine WF_fn (fn:=c273) rfl rfl ?_
 dsimp only[c273,oO,oM,oS,oG,oK,oE,oL,oF,oX,oN]
 have a1:=seg_n9 hq (show 0<3 by omega)
 have a2:=seg_n9 hq (show 1<3 by omega)
 have a3:=seg_n9 hq (show 2<3 by omega)
 have c0:(cel .u8 q).take 9=cel .u8 (seg q 0):=by have:=cel_seg (q:=q) (f:=0);rwa [Nat.zero_mul,List.drop_zero] at this
 have c1:((cel .u8 q).drop 9).take 9=cel .u8 (seg q 1):=cel_seg (f:=1)
 have c2:((cel .u8 q).drop 18).take 9=cel .u8 (seg q 2):=cel_seg (f:=2)
 have s3:seg q 0++seg q 1++seg q 2=q:=by
  unfold seg
  rw[Nat.zero_mul,List.drop_zero,Nat.one_mul,List.append_assoc,show (q.drop (2*9)).take 9=(q.drop 9).drop 9 from by rw[List.drop_drop,List.take_of_length_le (by rw[List.length_drop];omega)],List.take_append_drop,List.take_append_drop]
 obtain⟨sa,sb,sc⟩:=sp27 a1 a2 a3
 rw[s3] at sc
 ((try simp (maxSteps:=3000000) (dsimp:=false) (disch:=first|omega|simp only[lnx];omega) only[↓ypre,ypost,↓reduceIte,reduceEqDiff,reduceAdd,reduceSub,reduceLeDiff,zz0,ynew,aggV,cellsL_cel,cel_all,zeros27]);try simp only[yback])
 generalize hH1:AH.new h _=H1
 obtain⟨hb1,p1,n1⟩:=new_facts hH1
 generalize hH2:AH.new H1 _=H2
 obtain⟨hb2,p2,n2⟩:=new_facts hH2
 have g1:=pre_get p2 hb1
 have i0:ixaV 3 9 (.pointer (some ⟨h.length,0,none⟩)) (I64 0)=some (.pointer (some ⟨h.length,0,none⟩)):=rfl
 have i1:ixaV 3 9 (.pointer (some ⟨h.length,0,none⟩)) (I64 1)=some (.pointer (some ⟨h.length,9,none⟩)):=rfl
 have i2:ixaV 3 9 (.pointer (some ⟨h.length,0,none⟩)) (I64 2)=some (.pointer (some ⟨h.length,18,none⟩)):=rfl
 have t27:(cel .u8 q).take 27=cel .u8 q:=List.take_of_length_le (by rw[cel_len,hq];exact Nat.le_refl _)
 have w27:=wr_full (vs:=cel .u8 q) hb2 (by rw[cel_len,hq];rfl)
 have l2:=get_lt hb2
 ((try simp (maxSteps:=3000000) (dsimp:=false) (disch:=first|omega|simp only[lnx];omega) only[↓ypre,ypost,↓reduceIte,reduceEqDiff,reduceAdd,reduceSub,reduceLeDiff,zz0,ynew,↓WX_ixa,i0,i1,i2,rdn_of g1,cel_len,hq,c0,c1,c2,a1,a2,a3,cel_all,sa,sb,sc,w27,rdn_put_same,t27,List.length_replicate]);try simp only[yback])
 exact hQ _ (pre_put (p1.trans p2) (by omega))
theorem i_with {x:Sch} {v w:Value} {L:List (List Int)} {h:AH} {Q:Value→AH→Prop} (hv:isOne v=true) (hw:isOne w=true) (cw:cellsL w=[w]) (hQ:∀ h',h<+:h'→Q (schV (wps x L) w) h'):WF S 150 [schV x v,w] h Q:=by
 refine WF_fn (fn:=c150) rfl rfl ?_
 dsimp only[c150,oO,oM,oS,oG,oK,oE,oL,oF,oX,oN]
 ((try simp (maxSteps:=3000000) (dsimp:=false) (disch:=first|omega|simp only[lnx];omega) only[↓ypre,ypost,↓reduceIte,reduceEqDiff,reduceAdd,reduceSub,reduceLeDiff,zz0,ynew,schV,hv,cw,hw,splice_eq,len_new]);try simp only[yback])
 generalize hH1:AH.new h _=H1
 obtain⟨hb1,p1,n1⟩:=new_facts hH1
 generalize hH2:AH.new H1 _=H2
 obtain⟨hb2,p2,n2⟩:=new_facts hH2
 rw[n1] at hb2
 have g1:=pre_get p2 hb1
 have l2:=get_lt hb2
 ((try simp (maxSteps:=3000000) (dsimp:=false) (disch:=first|omega|simp only[lnx];omega) only[↓ypre,ypost,↓reduceIte,reduceEqDiff,reduceAdd,reduceSub,reduceLeDiff,zz0,ynew,rdn_of g1,wr_of hb2,splice_eq,rdn_put_same]);try simp only[yback])
 exact hQ _ (pre_put (p1.trans p2) (by omega))
def OwnP (lo:Nat) (h:AH) (w:Value) (L:List (List Int)):Prop:=
 Wid 27 L∧((w=.slice none 0 0∧L=[])∨∃ kb full,w=.slice (some ⟨kb,0,none⟩) L.length 27∧lo≤kb∧h.get kb=some ⟨cel .u8 L.flatten,138,false,full⟩)
theorem OwnP.nk {lo:Nat} {h:AH} {w:Value} {L:List (List Int)} (o:OwnP lo h w L):NK w:=by
 obtain⟨_,⟨rfl,_⟩|⟨kb,full,rfl,_⟩⟩:=o
 ·exact .inl rfl
 ·exact .inr ⟨_,_,_,rfl⟩
theorem NK.one {v:Value} (o:NK v):isOne v=true:=by
 obtain rfl|⟨b,n,w,rfl⟩:=o<;>rfl
theorem NK.cells {v:Value} (o:NK v):cellsL v=[v]:=by
 obtain rfl|⟨b,n,w,rfl⟩:=o<;>rfl
theorem OwnP.inE {lo:Nat} {h:AH} {w:Value} {L:List (List Int)} (o:OwnP lo h w L):InE .u8 27 lo h.length h w L:=by
 obtain⟨hw,o|⟨kb,full,h1,h2,h3⟩⟩:=o
 ·exact .inl o
 ·exact .inr ⟨kb,_,full,⟨h2,get_lt h3⟩,h1,h3,hw⟩
theorem OwnP.kN {lo lo':Nat} {h:AH} {w:Value} {L:List (List Int)} (o:OwnP lo h w L) (b:Byt 27 L) (hl:lo'≤lo):KN lo' h fun h'=>Prods h' w L:=fun h' d d'=>⟨o.inE.kN hl h' d d',b⟩
theorem app_00 {e:TypeId} {w bytes:Nat} {h:AH} {k n':Nat} {b:Blk} (hn:h.get n'=some b):appV e w bytes (.slice (some ⟨k,0,none⟩) 0 w) (.slice (some ⟨n',0,none⟩) 0 w) h=some (.slice (some ⟨k,0,none⟩) 0 w,h):=by
 have:h.rdn n' 0 (0*w)=some []:=by
  rw[Nat.zero_mul,rdn_of hn]
  simp
 simp only[appV,xop,ev,if_true,this]
 simp
theorem i_CloneP {v:Value} {L:List (List Int)} {h:AH} {Q:Value→AH→Prop} (hv:Els .u8 27 h v L) (nk:NK v) (hl:L.length≤1000) (hQ:∀ w h',h<+:h'→OwnP h.length h' w L→Q w h'):WF S 151 [v] h Q:=by
 refine WF_fn (fn:=c151) rfl rfl ?_
 dsimp only[c151,oO,oM,oS,oG,oK,oE,oL,oF,oX,oN]
 rcases nk with rfl|⟨b0,n0,w0,rfl⟩
 ·have e:L=[]:=by
   rcases hv with⟨e,_⟩|⟨b,off,blk,e,_⟩
   ·exact e
   ·cases e
  subst e
  ((try simp (maxSteps:=3000000) (dsimp:=false) (disch:=first|omega|simp only[lnx];omega) only[↓ypre,ypost,↓reduceIte,reduceEqDiff,reduceAdd,reduceSub,reduceLeDiff,zz0,ynew,↓WX_isnil,isnilV_nil]);try simp only[yback])
  exact hQ _ _ (List.prefix_refl _) ⟨fun q hq=>by simp at hq,.inl ⟨rfl,rfl⟩⟩
 ·((try simp (maxSteps:=3000000) (dsimp:=false) (disch:=first|omega|simp only[lnx];omega) only[↓ypre,ypost,↓reduceIte,reduceEqDiff,reduceAdd,reduceSub,reduceLeDiff,zz0,ynew,↓WX_isnil,isnilV_some,fillL,zrep]);try simp only[yback])
  by_cases h0:L.length=0
  ·have e0:L=[]:=List.length_eq_zero_iff.1 h0
   subst e0
   rcases hv with⟨_,t,_,e⟩|⟨b,off,blk,e,hg,_⟩
   ·cases e
   ·simp only[Value.slice.injEq,Option.some.injEq,Addr.mk.injEq] at e
    obtain⟨⟨rfl,rfl,-⟩,rfl,rfl⟩:=e
    generalize hH1:AH.new h _=H1
    obtain⟨hb1,p1,n1⟩:=new_facts hH1
    ((try simp (maxSteps:=3000000) (dsimp:=false) (disch:=first|omega|simp only[lnx];omega) only[↓ypre,ypost,↓reduceIte,reduceEqDiff,reduceAdd,reduceSub,reduceLeDiff,zz0,ynew,List.length_nil,app_00 (pre_get p1 hg)]);try simp only[yback])
    exact hQ _ _ p1 ⟨fun q hq=>by simp at hq,.inr ⟨h.length,true,rfl,Nat.le_refl _,hb1⟩⟩
  ·have w27:Wid 27 L:=hv.widL
   refine copy_zero hv (by omega) (by omega) fun H3 l3 p3 gB=>?_
   ((try simp (maxSteps:=3000000) (dsimp:=false) (disch:=first|omega|simp only[lnx];omega) only[↓ypre,ypost,↓reduceIte,reduceEqDiff,reduceAdd,reduceSub,reduceLeDiff,zz0,ynew]);try simp only[yback])
   exact hQ _ _ p3 ⟨w27,.inr ⟨_,false,rfl,by omega,gB⟩⟩
theorem i_IndexP {v:Value} {L:List (List Int)} {h:AH} {Q:Value→AH→Prop} (hv:Prods h v L) (hl:L.length≤1000) (hQ:∀ h',h<+:h'→Q (I64 (firstAt (fun n=>hasZ (L.getD n [])) L.length 0)) h') :
  WF S 337 [v,.func (.func 283) #[] #[]] h Q:=by
 refine WF_fn (fn:=c337) rfl rfl ?_
 dsimp only[c337,oO,oM,oS,oG,oK,oE,oL,oF,oX,oN]
 obtain⟨q,hq⟩:∃ q:Nat→Bool,q=fun n=>hasZ (L.getD n []):=⟨_,rfl⟩
 rw[←hq] at hQ
 ((try simp (maxSteps:=3000000) (dsimp:=false) (disch:=first|omega|simp only[lnx];omega) only[↓ypre,ypost,↓reduceIte,reduceEqDiff,reduceAdd,reduceSub,reduceLeDiff,zz0,ynew,hv.1.len]);try simp only[yback])
 refine WC_loop_inv (fun m f K1=>∃ (i:Nat),m=L.length-i∧i≤L.length∧f 0=v∧f 1=.func (.func 283) #[] #[]∧f 7=I64 L.length∧f 8=I64 i∧(h<+:K1)∧(firstAt q (L.length-i) i=firstAt q L.length 0)) ?_ (L.length-0) _ _ ⟨0,rfl,by omega,(by first|rfl|simp[upd_apply]),(by first|rfl|simp[upd_apply]),(by first|rfl|simp[upd_apply]),(by first|rfl|simp[upd_apply]),List.prefix_refl _,rfl⟩
 rintro m f K1 ⟨i,rfl,hi,f0,f1,f7,f8,pp,hj⟩
 by_cases hlt:(i:Int)<L.length
 ·have hi:i<L.length:=by omega
  obtain⟨nn,off,ix,rd⟩:=((hv.pre pp).1).at hi
  have by27:=hv.by hi
  have rd27:=rd.1 0 27 (by omega)
  rw[Nat.add_zero,List.drop_zero,List.take_of_length_le (by rw[by27.1];exact Nat.le_refl _)] at rd27
  have hstep:firstAt q (L.length-i) i=if q i=true then (i:Int) else firstAt q (L.length-(i+1)) (i+1):=by
   rw[show L.length-i=(L.length-(i+1))+1 by omega]
   rfl
  have hqi:q i=hasZ (L.getD i []):=by rw[hq]
  ((try simp (maxSteps:=3000000) (dsimp:=false) (disch:=first|omega|simp only[lnx];omega) only[↓ypre,ypost,↓reduceIte,reduceEqDiff,reduceAdd,reduceSub,reduceLeDiff,zz0,ynew,f0,f1,f7,f8,decide_eq_true hlt,ix,rd27,WK_func,args_nil]);try simp only[yback])
  refine i_hasZero by27 fun K2 p2=>?_
  rw[←hqi]
  cases h1:q i with
  | true=>
   ((try simp (maxSteps:=3000000) (dsimp:=false) (disch:=first|omega|simp only[lnx];omega) only[↓ypre,ypost,↓reduceIte,reduceEqDiff,reduceAdd,reduceSub,reduceLeDiff,zz0,ynew,f0,f1,f7,f8]);try simp only[yback])
   have:=hQ _ (pp.trans p2)
   rw[←hj,hstep,if_pos h1] at this
   exact this
  | false=>
   ((try simp (maxSteps:=3000000) (dsimp:=false) (disch:=first|omega|simp only[lnx];omega) only[↓ypre,ypost,↓reduceIte,reduceEqDiff,reduceAdd,reduceSub,reduceLeDiff,zz0,ynew,f0,f1,f7,f8,wrap64_in]);try simp only[yback])
   refine InvQ_go (L.length-(i+1)) (by omega) ⟨(i+1),rfl,by omega,(by first|rfl|exact f0|(simp only[upd_apply];rfl)|(show I64 _=_;congr 1;omega)),(by first|rfl|exact f1|(simp only[upd_apply];rfl)|(show I64 _=_;congr 1;omega)),(by first|rfl|exact f7|(simp only[upd_apply];rfl)|(show I64 _=_;congr 1;omega)),(by first|rfl|exact f8|(simp only[upd_apply];rfl)|(show I64 _=_;congr 1;omega)),(pp.trans p2),?_⟩
   rw[←hj,hstep,if_neg (by rw[h1];simp)]
 ·have ei:i=L.length:=by omega
  subst ei
  ((try simp (maxSteps:=3000000) (dsimp:=false) (disch:=first|omega|simp only[lnx];omega) only[↓ypre,ypost,↓reduceIte,reduceEqDiff,reduceAdd,reduceSub,reduceLeDiff,zz0,ynew,f0,f1,f7,f8,decide_eq_false hlt]);try simp only[yback])
  have:=hQ _ pp
  rw[←hj,Nat.sub_self] at this
  exact this
theorem clr_some {n off len sz:Nat} {z:List Value} {h:AH} {b:Blk} (hg:h.get n=some b) (hr:b.ro=false) (hl:0<len) (hb:off+(zrep len z).length≤b.c.length) :
  clrV sz z (.slice (some ⟨n,off,none⟩) len sz) h=some (undef,h.put n { b with c:=splice b.c off (zrep len z) }):=by
 simp only[clrV,xop,ev]
 rw[if_pos ⟨trivial,hl⟩,wr_of hg,if_pos ⟨hr,hb⟩]
theorem zrep_flat {z:List Int}:∀ {m:Nat},zrep m (cel .u8 z)=cel .u8 (List.replicate m z).flatten
 | 0=>rfl
 | m+1=>by
  rw[List.replicate_succ,List.flatten_cons,←cel_app,←zrep_flat]
  rfl
theorem getD_byL {L:List (List Int)} {i:Nat} (hw:Wid 27 L) (hb:Byt 27 L) (hi:i<L.length):By 27 (L.getD i []):=⟨hw _ (by rw[List.getD_eq_getElem?_getD,List.getElem?_eq_getElem hi];exact List.getElem_mem hi),fun j hj=>hb i hi j hj⟩
theorem firstAt_lt {q:Nat→Bool} {r:Nat}:∀ {m i:Nat},firstAt q m i=r→∀ j,i≤j→j<r→q j=false
 | 0,i,h,j,_,_=>by simp[firstAt] at h
 | m+1,i,h,j,h1,h2=>by
  unfold firstAt at h
  by_cases e:q i=true
  ·rw[if_pos e] at h
   omega
  ·rw[if_neg e] at h
   by_cases e2:j=i
   ·rw[e2]
    simpa using e
   ·exact firstAt_lt h j (by omega) h2
theorem flat_tk {w:Nat}:∀ {L:List (List Int)} {i:Nat},Wid w L→i≤L.length→L.flatten.take (i*w)=(L.take i).flatten
 | [],i,_,h=>by simp
 | r::L,0,_,_=>by simp
 | r::L,i+1,hw,h=>by
  have hr:=hw r (by simp)
  rw[List.take_succ_cons,List.flatten_cons,List.flatten_cons,Nat.succ_mul,List.take_append,List.take_of_length_le (by omega),show i*w+w-r.length=i*w by omega,flat_tk (fun q hq=>hw q (by simp[hq])) (by simpa using h)]
theorem told_all {L:List (List Int)} (h:∀ q∈L,hasZ q=false):toldL L=L:=by
 unfold toldL
 rw[List.filter_eq_self]
 intro q hq
 rw[h q hq]
 rfl
theorem zeros27':([.int .u8 0,.int .u8 0,.int .u8 0,.int .u8 0,.int .u8 0,.int .u8 0,.int .u8 0,.int .u8 0,.int .u8 0,.int .u8 0,.int .u8 0,.int .u8 0,.int .u8 0,.int .u8 0,.int .u8 0,.int .u8 0,.int .u8 0,.int .u8 0,.int .u8 0,.int .u8 0,.int .u8 0,.int .u8 0,.int .u8 0,.int .u8 0,.int .u8 0,.int .u8 0,.int .u8 0]:List Value)=cel .u8 (List.replicate 27 0):=rfl
theorem i_DeleteP {n:Nat} {L:List (List Int)} {full:Bool} {h:AH} {Q:Value→AH→Prop} (hg:h.get n=some ⟨cel .u8 L.flatten,138,false,full⟩) (hw:Wid 27 L) (hb:Byt 27 L) (hl:L.length≤1000)
  (hQ:∀ R h',Kp n h h'→Wid 27 R→h'.get n=some ⟨cel .u8 (toldL L++R).flatten,138,false,full⟩→Q (.slice (some ⟨n,0,none⟩) (toldL L).length 27) h') :
  WF S 323 [.slice (some ⟨n,0,none⟩) L.length 27,.func (.func 283) #[] #[]] h Q:=by
 refine WF_fn (fn:=c323) rfl rfl ?_
 dsimp only[c323,oO,oM,oS,oG,oK,oE,oL,oF,oX,oN]
 have pr:Prods h (.slice (some ⟨n,0,none⟩) L.length 27) L:=⟨(blk_kN (lo:=0) hg hw (Nat.zero_le _)).now,hb⟩
 ((try simp (maxSteps:=3000000) (dsimp:=false) (disch:=first|omega|simp only[lnx];omega) only[↓ypre,ypost,↓reduceIte,reduceEqDiff,reduceAdd,reduceSub,reduceLeDiff,zz0,ynew]);try simp only[yback])
 refine i_IndexP pr hl fun H1 p1=>?_
 rcases firstAt_spec (q:=fun n=>hasZ (L.getD n [])) (m:=L.length) (i:=0) with⟨e1,e2⟩|⟨r,e1,e2,e3,e4⟩
 ·rw[e1]
  ((try simp (maxSteps:=3000000) (dsimp:=false) (disch:=first|omega|simp only[lnx];omega) only[↓ypre,ypost,↓reduceIte,reduceEqDiff,reduceAdd,reduceSub,reduceLeDiff,zz0,ynew,show decide ((-1:Int) = -1)=true from rfl]);try simp only[yback])
  have et:toldL L=L:=told_all fun q hq=>by
   obtain⟨j,hj,rfl⟩:=List.getElem_of_mem hq
   have:=e2 j (Nat.zero_le _) (by omega)
   rwa [List.getD_eq_getElem?_getD,List.getElem?_eq_getElem hj,Option.getD_some] at this
  have:=hQ [] H1 (Kp.of p1) (fun q hq=>by simp at hq) (by rw[et,List.append_nil];exact pre_get p1 hg)
  rw[et] at this
  exact this
 ·have e5:=firstAt_lt e1
  rw[e1]
  have t0:L.take r=toldL (L.take (r+1)):=by
   rw[take_next (d:=[]) (show r<L.length by omega),toldL_snoc,if_pos e4,told_all]
   intro q hq
   obtain⟨j,hj,rfl⟩:=List.getElem_of_mem hq
   rw[List.length_take] at hj
   have:=e5 j (Nat.zero_le _) (by omega)
   rw[List.getD_eq_getElem?_getD,List.getElem?_eq_getElem (by omega),Option.getD_some] at this
   rwa [List.getElem_take]
  ((try simp (maxSteps:=3000000) (dsimp:=false) (disch:=first|omega|simp only[lnx];omega) only[↓ypre,ypost,↓reduceIte,reduceEqDiff,reduceAdd,reduceSub,reduceLeDiff,zz0,ynew,decide_eq_false (show ¬ (r:Int) = -1 by omega),wrap64_in]);try simp only[yback])
  have q1:(r:Int)+1=((r+1:Nat):Int):=by push_cast;rfl
  rw[q1]
  refine WC_loop_inv (fun m f K1=>∃ (j:Nat) (i:Nat) (C:List (List Int)),m=L.length-j∧j≤L.length∧f 0=.slice (some ⟨n,0,none⟩) L.length 27∧f 1=.func (.func 283) #[] #[]∧f 5=I64 i∧f 6=I64 j∧(Kp n h K1)∧(K1.get n=some ⟨cel .u8 C.flatten,138,false,full⟩)∧(Wid 27 C)∧(C.length=L.length)∧(i<j)∧(C.take i=toldL (L.take j))∧(C.drop j=L.drop j)) ?_ (L.length-(r+1)) _ _ ⟨(r+1),r,L,rfl,by omega,(by first|rfl|simp[upd_apply]),(by first|rfl|simp[upd_apply]),(by first|rfl|simp[upd_apply]),(by first|rfl|simp[upd_apply]),Kp.of p1,pre_get p1 hg,hw,rfl,(by omega),t0,rfl⟩
  rintro m f K1 ⟨j,i,C,rfl,hj,f0,f1,f5,f6,kk,g,wC,lC,ij,tk,dr⟩
  by_cases hlt:(j:Int)<L.length
  ·have hj:j<L.length:=by omega
   have el:Els .u8 27 K1 (.slice (some ⟨n,0,none⟩) C.length 27) C:=(blk_kN (lo:=0) g wC (Nat.zero_le _)).now
   rw[lC] at el
   have ej:C.getD j []=L.getD j []:=by
    have:=congrArg (fun l=>l.getD 0 []) dr
    simpa [List.getD_eq_getElem?_getD] using this
   obtain⟨nn,off,ix,rd⟩:=el.at (i:=j) (by omega)
   have by27:By 27 (L.getD j []):=getD_byL hw hb hj
   rw[ej] at rd
   have tn:L.take (j+1)=L.take j++[L.getD j []]:=take_next (d:=[]) hj
   have dn:C.drop (j+1)=L.drop (j+1):=by
    have:=congrArg (fun l=>l.drop 1) dr
    simpa [List.drop_drop,Nat.add_comm] using this
   generalize L.getD j []=q at *
   have q27:=by27.1
   have r27:K1.rdn nn off 27=some (cel .u8 q):=by
    have:=rd.1 0 27 (by omega)
    rwa [Nat.add_zero,List.drop_zero,List.take_of_length_le (by omega)] at this
   have t27:(cel .u8 q).take 27=cel .u8 q:=List.take_of_length_le (by rw[cel_len,q27];exact Nat.le_refl _)
   ((try simp (maxSteps:=3000000) (dsimp:=false) (disch:=first|omega|simp only[lnx];omega) only[↓ypre,ypost,↓reduceIte,reduceEqDiff,reduceAdd,reduceSub,reduceLeDiff,zz0,ynew,f0,f1,f5,f6,decide_eq_true hlt,ix,r27,cel_all,cel_len,q27,sp27z q27,zrep27,splice_27 q27]);try simp only[yback])
   generalize hK2:AH.new K1 _=K2
   obtain⟨hb7,p7,n7⟩:=new_facts hK2
   ((try simp (maxSteps:=3000000) (dsimp:=false) (disch:=first|omega|simp only[lnx];omega) only[↓ypre,ypost,↓reduceIte,reduceEqDiff,reduceAdd,reduceSub,reduceLeDiff,zz0,ynew,f0,f1,f5,f6,rdn_of hb7,cel_len,q27,t27,WK_func,args_nil]);try simp only[yback])
   refine i_hasZero by27 fun K3 p3=>?_
   have P3:=p7.trans p3
   have g3:=pre_get P3 g
   have k3:=kk.trans (Kp.of P3)
   cases hz:hasZ q with
   | true=>
    ((try simp (maxSteps:=3000000) (dsimp:=false) (disch:=first|omega|simp only[lnx];omega) only[↓ypre,ypost,↓reduceIte,reduceEqDiff,reduceAdd,reduceSub,reduceLeDiff,zz0,ynew,f0,f1,f5,f6,wrap64_in]);try simp only[yback])
    refine InvQ_go (L.length-(j+1)) (by omega) ⟨(j+1),i,C,rfl,by omega,(by first|rfl|exact f0|(simp only[upd_apply];rfl)|(show I64 _=_;congr 1;omega)),(by first|rfl|exact f1|(simp only[upd_apply];rfl)|(show I64 _=_;congr 1;omega)),(by first|rfl|exact f5|(simp only[upd_apply];rfl)|(show I64 _=_;congr 1;omega)),(by first|rfl|exact f6|(simp only[upd_apply];rfl)|(show I64 _=_;congr 1;omega)),k3,g3,wC,lC,(by omega),(by rw[tn,toldL_snoc,if_pos hz];exact tk),dn⟩
   | false=>
    have b7:=pre_get p3 hb7
    have ie:ixsV 27 (.slice (some ⟨n,0,none⟩) L.length 27) (I64 i)=some (.pointer (some ⟨n,i*27,none⟩)):=by
     rw[ixsV_some,if_pos (by omega),Int.toNat_natCast,Nat.zero_add]
    have fl:=flat_len wC
    have sf:=splice_flat (k:=.u8) q27 wC (j:=i) (by omega)
    have q2:(i:Int)+1=((i+1:Nat):Int):=by push_cast;rfl
    have wI:IntKind.i64.wrap ((i:Int)+1)=((i+1:Nat):Int):=by rw[wrap64_in (by omega) (by omega),q2]
    ((try simp (maxSteps:=3000000) (dsimp:=false) (disch:=first|omega|simp only[lnx];omega) only[↓ypre,ypost,↓reduceIte,reduceEqDiff,reduceAdd,reduceSub,reduceLeDiff,zz0,ynew,f0,f1,f5,f6,rdn_of b7,cel_len,q27,t27,ie,wr_of g3,sf,fl,cel_all]);try simp only[yback])
    refine⟨by omega,?_⟩
    ((try simp (maxSteps:=3000000) (dsimp:=false) (disch:=first|omega|simp only[lnx];omega) only[↓ypre,ypost,↓reduceIte,reduceEqDiff,reduceAdd,reduceSub,reduceLeDiff,zz0,ynew,f0,f1,f5,f6,wI,wrap64_in]);try simp only[yback])
    refine InvQ_go (L.length-(j+1)) (by omega) ⟨(j+1),(i+1),(C.set i q),rfl,by omega,(by first|rfl|exact f0|(simp only[upd_apply];rfl)|(show I64 _=_;congr 1;omega)),(by first|rfl|exact f1|(simp only[upd_apply];rfl)|(show I64 _=_;congr 1;omega)),(by first|rfl|exact f5|(simp only[upd_apply];rfl)|(show I64 _=_;congr 1;omega)),(by first|rfl|exact f6|(simp only[upd_apply];rfl)|(show I64 _=_;congr 1;omega)),k3.put,(get_put_same (get_lt g3)),(wid_set wC q27),(by rw[List.length_set];exact lC),(by omega),(by rw[tn,toldL_snoc,if_neg (by rw[hz];decide),←tk,List.take_succ_eq_append_getElem (by rw[List.length_set];omega),List.take_set_of_le (Nat.le_refl _),List.getElem_set_self]),(by rw[List.drop_set_of_lt (by omega)];exact dn)⟩
  ·have ej:j=L.length:=by omega
   subst ej
   rw[List.take_length] at tk
   have s1:slcV 27 (.slice (some ⟨n,0,none⟩) L.length 27) (some (I64 i)) none=some (.slice (some ⟨n,i*27,none⟩) (L.length-i) 27):=by
    simp only[slcV,boundV]
    rw[if_pos ⟨trivial,by omega,by omega,by omega⟩,Int.toNat_natCast,Nat.zero_add,show ((L.length:Int)-(i:Int)).toNat=L.length-i by omega]
   have s2:slcV 27 (.slice (some ⟨n,0,none⟩) L.length 27) none (some (I64 i))=some (.slice (some ⟨n,0,none⟩) i 27):=by
    simp only[slcV,boundV]
    by_cases hi:0<i
    ·rw[if_pos ⟨trivial,by omega,by omega,by omega⟩]
     simp
    ·rw[if_neg (fun h=>by have:=h.2.2.1;omega),if_pos ⟨trivial,trivial,trivial,by omega⟩]
     have:i=0:=by omega
     rw[this]
   have fl:=flat_len wC
   rw[lC] at fl
   have zl:(zrep (L.length-i) (cel .u8 (List.replicate 27 0))).length=(L.length-i)*27:=by
    rw[zrep_flat,cel_len,flat_len (w:=27) (fun q hq=>by rw[List.eq_of_mem_replicate hq,List.length_replicate]),List.length_replicate]
   have mm:i*27+(L.length-i)*27=L.length*27:=by rw[←Nat.add_mul];congr 1;omega
   have sc:splice (cel .u8 C.flatten) (i*27) (zrep (L.length-i) (cel .u8 (List.replicate 27 0)))=cel .u8 (toldL L++List.replicate (L.length-i) (List.replicate 27 0)).flatten:=by
    unfold splice
    rw[List.drop_of_length_le (by rw[cel_len,zl,fl];omega),List.append_nil,cel_take,flat_tk wC (by omega),tk,zrep_flat,cel_app,List.flatten_append]
   have e1:=clr_some (sz:=27) (z:=cel .u8 (List.replicate 27 0)) (off:=i*27) (len:=L.length-i) g rfl (by omega) (by rw[zl];show _≤(cel .u8 C.flatten).length;rw[cel_len,fl];omega)
   rw[sc] at e1
   have li:(toldL L).length=i:=by rw[←tk,List.length_take];omega
   ((try simp (maxSteps:=3000000) (dsimp:=false) (disch:=first|omega|simp only[lnx];omega) only[↓ypre,ypost,↓reduceIte,reduceEqDiff,reduceAdd,reduceSub,reduceLeDiff,zz0,ynew,f0,f1,f5,f6,decide_eq_false hlt,omapF_none,omapF_some,s1,zeros27',e1,s2]);try simp only[yback])
   have:=hQ (List.replicate (L.length-i) (List.replicate 27 0)) _ (kk.put) (fun q hq=>by rw[List.eq_of_mem_replicate hq,List.length_replicate]) (get_put_same (get_lt g))
   rw[li] at this
   exact this
theorem i_keptP {n:Nat} {L:List (List Int)} {full:Bool} {h:AH} {Q:Value→AH→Prop} (hg:h.get n=some ⟨cel .u8 L.flatten,138,false,full⟩) (hw:Wid 27 L) (hb:Byt 27 L) (hl:L.length≤1000)
  (hQ:∀ R h',Kp n h h'→Wid 27 R→h'.get n=some ⟨cel .u8 (toldL L++R).flatten,138,false,full⟩→Q (.slice (some ⟨n,0,none⟩) (toldL L).length 27) h') :
  WF S 274 [.slice (some ⟨n,0,none⟩) L.length 27] h Q:=by
 refine WF_fn (fn:=c274) rfl rfl ?_
 dsimp only[c274,oO,oM,oS,oG,oK,oE,oL,oF,oX,oN]
 ((try simp (maxSteps:=3000000) (dsimp:=false) (disch:=first|omega|simp only[lnx];omega) only[↓ypre,ypost,↓reduceIte,reduceEqDiff,reduceAdd,reduceSub,reduceLeDiff,zz0,ynew]);try simp only[yback])
 refine i_DeleteP hg hw hb hl fun R h' k w g=>?_
 ((try simp (maxSteps:=3000000) (dsimp:=false) (disch:=first|omega|simp only[lnx];omega) only[↓ypre,ypost,↓reduceIte,reduceEqDiff,reduceAdd,reduceSub,reduceLeDiff,zz0,ynew]);try simp only[yback])
 exact hQ R h' k w g
theorem ixa_f {n g:Nat} (hg:g<3):ixaV 3 9 (.pointer (some ⟨n,0,none⟩)) (I64 g)=some (.pointer (some ⟨n,g*9,none⟩)):=by
 rw[ixaV_ptr ⟨by omega,by omega⟩,Int.toNat_natCast,Nat.zero_add]
theorem addF_cong {p s t:Int} {a b:List Int} (hp:2≤p) (h:Cg p s t):addF p a b s 9=addF p a b t 9:=by
 unfold addF
 congr 1
 exact gen_congr fun j _=>dvd_eq ((md_cg.trans (Cg.rfl'.add (h.mul .rfl'))).trans md_cg.symm) (md_in hp) (md_in hp)
theorem rd_seg {h:AH} {n f:Nat} {q:List Int} {e:TypeId} {ro full:Bool} (g:h.get n=some ⟨cel .u8 q,e,ro,full⟩) (hq:q.length=27) (hf:f<3):h.rdn n (f*9) 9=some (cel .u8 (seg q f)):=by
 rw[rdn_of g]
 simp only[cel_len,hq]
 rw[if_pos (by omega),cel_seg]
theorem wr_seg {h:AH} {n f:Nat} {q r:List Int} {e:TypeId} {full:Bool} (g:h.get n=some ⟨cel .u8 q,e,false,full⟩) (hq:q.length=27) (hr:r.length=9) (hf:f<3):h.wr n (f*9) (cel .u8 r)=some (h.put n ⟨cel .u8 (wth q f r),e,false,full⟩):=by
 rw[wr_of g]
 simp only[cel_len,hq,hr]
 rw[if_pos ⟨trivial,by omega⟩,splice_wth hr]
theorem flG_mod {r:Nat} (h:r<3):(IntKind.i64.wrap ((r:Int)+1)).tmod 3=((flG' r:Nat):Int):=by
 have:r=0∨r=1∨r=2:=by omega
 rcases this with rfl|rfl|rfl<;>rfl
theorem flH_mod {r:Nat} (h:r<3):(IntKind.i64.wrap ((r:Int)+2)).tmod 3=((flH' r:Nat):Int):=by
 have:r=0∨r=1∨r=2:=by omega
 rcases this with rfl|rfl|rfl<;>rfl
theorem i_flip {x:Sch} {v:Value} {i k r:Nat} {s:Int} {h:AH} {Q:Value→AH→Prop} (hv:Prods h v x.ps) (nk:NK v) (ll:x.ps.length≤100) (hp:2≤x.p∧x.p≤5) (hi:i<x.ps.length) (hk:k<x.ps.length) (hf:r<3) (hs:1≤s∧s≤x.p)
  (hQ:∀ (w':Value) (h':AH),h<+:h'→KN h.length h' (fun h2=>Prods h2 w' (toldL (flipL x.p x.ps i k r s)))→NK w'→Q (schV (wps x (toldL (flipL x.p x.ps i k r s))) w') h'):WF S 153 [schV x v,I64 i,I64 k,I64 r,I64 s] h Q:=by
 refine WF_fn (fn:=c153) rfl rfl ?_
 dsimp only[c153,oO,oM,oS,oG,oK,oE,oL,oF,oX,oN]
 have v1:isOne v=true:=hv.one
 ((try simp (maxSteps:=3000000) (dsimp:=false) (disch:=first|omega|simp only[lnx];omega) only[↓ypre,ypost,↓reduceIte,reduceEqDiff,reduceAdd,reduceSub,reduceLeDiff,zz0,ynew,schV,v1]);try simp only[yback])
 generalize hH1:AH.new h _=H1
 obtain⟨hb1,p1,n1⟩:=new_facts hH1
 generalize hH2:AH.new H1 _=H2
 obtain⟨hb2,p2,n2⟩:=new_facts hH2
 have g1:=pre_get p2 hb1
 ((try simp (maxSteps:=3000000) (dsimp:=false) (disch:=first|omega|simp only[lnx];omega) only[↓ypre,ypost,↓reduceIte,reduceEqDiff,reduceAdd,reduceSub,reduceLeDiff,zz0,ynew,rd1_of g1]);try simp only[yback])
 have w27:Wid 27 x.ps:=hv.1.widL
 refine i_CloneP (hv.1.pre (p1.trans p2)) nk (by omega) fun w H3 p3 o3=>?_
 obtain⟨-,⟨-,e0⟩|⟨B,fu,rfl,hB,gB⟩⟩:=o3
 ·rw[e0] at hi
  simp at hi
 have lB3:=get_lt gB
 have g1:=pre_get p3 g1
 have g10:=pre_get p3 hb2
 refine WO_cut (fun f:Fr=>f 1=I64 i∧f 2=I64 k∧f 3=I64 r∧f 4=I64 s∧f 5=.pointer (some ⟨h.length,0,none⟩)∧f 10=.pointer (some ⟨H1.length,0,none⟩)∧f 18=.slice (some ⟨B,0,none⟩) x.ps.length 27∧True) ⟨(by first|rfl|simp[upd_apply]),(by first|rfl|simp[upd_apply]),(by first|rfl|simp[upd_apply]),(by first|rfl|simp[upd_apply]),(by first|rfl|simp[upd_apply]),(by first|rfl|simp[upd_apply]),(by first|rfl|simp[upd_apply]),trivial⟩ ?_
 rintro f ⟨f1,f2,f3,f4,f5,f10,f18,-⟩
 have el:Els .u8 27 H3 (.slice (some ⟨B,0,none⟩) x.ps.length 27) x.ps:=(blk_kN (lo:=0) gB w27 (Nat.zero_le _)).now
 obtain⟨ni,oi,ixi,rdi⟩:=el.at hi
 have byi:=hv.by hi
 have byk:=hv.by hk
 unfold flipL at hQ
 have a27:=byi.1
 have b27:=byk.1
 have ri:AH.rdn H3 ni oi 27=some (cel .u8 (x.ps.getD i [])):=by
  have:=rdi.1 0 27 (by omega)
  rwa [Nat.add_zero,List.drop_zero,List.take_of_length_le (by omega)] at this
 ((try simp (maxSteps:=3000000) (dsimp:=false) (disch:=first|omega|simp only[lnx];omega) only[↓ypre,ypost,↓reduceIte,reduceEqDiff,reduceAdd,reduceSub,reduceLeDiff,zz0,ynew,f1,f2,f3,f4,f5,f10,f18,ixi,ri]);try simp only[yback])
 refine i_factors (q:=x.ps.getD i []) a27 fun K1 q1=>⟨q1,?_⟩
 obtain⟨nk',ok,ixk,rdk⟩:=(el.pre q1).at hk
 have rk:AH.rdn K1 nk' ok 27=some (cel .u8 (x.ps.getD k [])):=by
  have:=rdk.1 0 27 (by omega)
  rwa [Nat.add_zero,List.drop_zero,List.take_of_length_le (by omega)] at this
 generalize x.ps.getD i []=a at byi hQ a27 ri
 generalize x.ps.getD k []=b at byk hQ b27 rk
 ((try simp (maxSteps:=3000000) (dsimp:=false) (disch:=first|omega|simp only[lnx];omega) only[↓ypre,ypost,↓reduceIte,reduceEqDiff,reduceAdd,reduceSub,reduceLeDiff,zz0,ynew,f1,f2,f3,f4,f5,f10,f18,ixk,rk]);try simp only[yback])
 refine i_factors (q:=b) b27 fun K2 q2=>?_
 ((try simp (maxSteps:=3000000) (dsimp:=false) (disch:=first|omega|simp only[lnx];omega) only[↓ypre,ypost,↓reduceIte,reduceEqDiff,reduceAdd,reduceSub,reduceLeDiff,zz0,ynew,f1,f2,f3,f4,f5,f10,f18,aggV,cellsL_cel,cel_len,a27,b27,cel_all]);try simp only[yback])
 generalize hK3:AH.new K2 _=K3
 obtain⟨ka,q3,m3⟩:=new_facts hK3
 generalize hK4:AH.new K3 _=K4
 obtain⟨kb,q4,m4⟩:=new_facts hK4
 have ka:=pre_get q4 ka
 have P4:H3<+:K4:=q1.trans (q2.trans (q3.trans q4))
 have gf:flG' r<3:=flG_lt
 have gh:flH' r<3:=flH_lt
 have g1:=pre_get P4 g1
 have g10:=pre_get P4 g10
 have gB:=pre_get P4 gB
 have l4:=pre_len (q1.trans q2)
 have l3:=pre_len p3
 have lB:=get_lt gB
 have sga:=seg_by byi gf
 have sgb:=seg_by byk gf
 have ia:=ixa_f (n:=K2.length) gf
 have ib:=ixa_f (n:=K3.length) gf
 have ja:=ixa_f (n:=K2.length) gh
 have jb:=ixa_f (n:=K3.length) gh
 ((try simp (maxSteps:=3000000) (dsimp:=false) (disch:=first|omega|simp only[lnx];omega) only[↓ypre,ypost,↓reduceIte,reduceEqDiff,reduceAdd,reduceSub,reduceLeDiff,zz0,ynew,f1,f2,f3,f4,f5,f10,f18,bin_rem (show (3:Int)≠0 by decide),flG_mod hf,flH_mod hf,rd1_of g1,↓WX_ixa,ia,ib,rd_seg ka a27 gf,rd_seg kb b27 gf]);try simp only[yback])
 refine i_sum (k:=s) hp sga sgb (by omega) fun K5 q5=>?_
 have ka:=pre_get q5 ka
 have kb:=pre_get q5 kb
 have ad:=addF_by (k:=s) (b:=seg b (flG' r)) (i:=9) hp sga (Nat.le_refl _)
 have w1:=wr_seg ka a27 ad.1 gf
 have e1:wth a (flG' r) (addF x.p (seg a (flG' r)) (seg b (flG' r)) s 9)=flOne x.p a b r s:=rfl
 rw[e1] at w1
 generalize hK6:AH.put K5 _ _=K6 at w1
 have lA:=get_lt ka
 have ka6:K6.get K2.length=some ⟨cel .u8 (flOne x.p a b r s),172,false,true⟩:=by rw[←hK6];exact get_put_same lA
 have kp6:∀ m c,m≠K2.length→AH.get K5 m=some c→AH.get K6 m=some c:=fun m c hm g=>by rw[←hK6,get_put_ne (Ne.symm hm)];exact g
 have kb6:=kp6 _ _ (by omega) kb
 have g16:=kp6 _ _ (by omega) (pre_get q5 g1)
 have g106:=kp6 _ _ (by omega) (pre_get q5 g10)
 have gB6:=kp6 _ _ (by omega) (pre_get q5 gB)
 have P6:H3<+:K6:=by rw[←hK6];exact pre_put (P4.trans q5) (by omega)
 have by1:By 27 (flOne x.p a b r s):=wth_by byi ad gf
 have l1:=by1.1
 have gne:flG' r≠flH' r:=by unfold flG' flH';omega
 have sh:seg (flOne x.p a b r s) (flH' r)=seg a (flH' r):=by
  unfold flOne
  rw[seg_wth a27 ad.1 gf gh,if_neg (Ne.symm gne)]
 have tga:=seg_by byi gh
 have tgb:=seg_by byk gh
 have ws:IntKind.i64.wrap (x.p-s)=x.p-s:=wrap64_in (by omega) (by omega)
 ((try simp (maxSteps:=3000000) (dsimp:=false) (disch:=first|omega|simp only[lnx];omega) only[↓ypre,ypost,↓reduceIte,reduceEqDiff,reduceAdd,reduceSub,reduceLeDiff,zz0,ynew,f1,f2,f3,f4,f5,f10,f18,aggV,cellsL_cel,cel_len,ad.1,cel_all,↓WX_ixa,ia,w1,rd1_of g16,ja,jb,rd_seg kb6 b27 gh,rd_seg ka6 l1 gh,sh,ws]);try simp only[yback])
 refine i_sum (k:=x.p-s) hp tgb tga (by omega) fun K7 q7=>?_
 rw[addF_cong (s:=x.p-s) (t:=-s) hp.1 ⟨1,by omega⟩]
 have ka:=pre_get q7 ka6
 have kb:=pre_get q7 kb6
 have ad2:=addF_by (k:=-s) (b:=seg a (flH' r)) (i:=9) hp tgb (Nat.le_refl _)
 have w2:=wr_seg kb b27 ad2.1 gh
 have e2:wth b (flH' r) (addF x.p (seg b (flH' r)) (seg a (flH' r)) (-s) 9)=flTwo x.p a b r s:=rfl
 rw[e2] at w2
 generalize hK8:AH.put K7 _ _=K8 at w2
 have lB8:=get_lt kb
 have kb8:K8.get K3.length=some ⟨cel .u8 (flTwo x.p a b r s),172,false,true⟩:=by rw[←hK8];exact get_put_same lB8
 have kp8:∀ m c,m≠K3.length→AH.get K7 m=some c→AH.get K8 m=some c:=fun m c hm g=>by rw[←hK8,get_put_ne (Ne.symm hm)];exact g
 have ka8:=kp8 _ _ (by omega) ka
 have g18:=kp8 _ _ (by omega) (pre_get q7 g16)
 have g108:=kp8 _ _ (by omega) (pre_get q7 g106)
 have gB8:=kp8 _ _ (by omega) (pre_get q7 gB6)
 have P8:H3<+:K8:=by rw[←hK8];exact pre_put (P6.trans q7) (by omega)
 have by2:By 27 (flTwo x.p a b r s):=wth_by byk ad2 gh
 have l2:=by2.1
 have t1:(cel .u8 (flOne x.p a b r s)).take 27=cel .u8 (flOne x.p a b r s):=List.take_of_length_le (by rw[cel_len,l1];exact Nat.le_refl _)
 have t2:(cel .u8 (flTwo x.p a b r s)).take 27=cel .u8 (flTwo x.p a b r s):=List.take_of_length_le (by rw[cel_len,l2];exact Nat.le_refl _)
 ((try simp (maxSteps:=3000000) (dsimp:=false) (disch:=first|omega|simp only[lnx];omega) only[↓ypre,ypost,↓reduceIte,reduceEqDiff,reduceAdd,reduceSub,reduceLeDiff,zz0,ynew,f1,f2,f3,f4,f5,f10,f18,aggV,cellsL_cel,cel_len,ad2.1,cel_all,↓WX_ixa,jb,w2,rdn_of ka8,l1,t1]);try simp only[yback])
 refine i_productOf l1 fun K9 q9=>⟨q9,?_⟩
 have kb9:=pre_get q9 kb8
 ((try simp (maxSteps:=3000000) (dsimp:=false) (disch:=first|omega|simp only[lnx];omega) only[↓ypre,ypost,↓reduceIte,reduceEqDiff,reduceAdd,reduceSub,reduceLeDiff,zz0,ynew,f1,f2,f3,f4,f5,f10,f18,rdn_of kb9,cel_len,l2,t2]);try simp only[yback])
 refine i_productOf l2 fun K10 q10=>?_
 have P10:K8<+:K10:=q9.trans q10
 have gB10:=pre_get P10 gB8
 have g110:=pre_get P10 g18
 have g1010:=pre_get P10 g108
 have i1:ixsV 27 (.slice (some ⟨B,0,none⟩) x.ps.length 27) (I64 i)=some (.pointer (some ⟨B,i*27,none⟩)):=by
  rw[ixsV_some,if_pos (by omega),Int.toNat_natCast,Nat.zero_add]
 have i2:ixsV 27 (.slice (some ⟨B,0,none⟩) x.ps.length 27) (I64 k)=some (.pointer (some ⟨B,k*27,none⟩)):=by
  rw[ixsV_some,if_pos (by omega),Int.toNat_natCast,Nat.zero_add]
 have sf1:=splice_flat (k:=.u8) l1 w27 (j:=i) hi
 have fl:=flat_len w27
 have w27':Wid 27 (x.ps.set i (flOne x.p a b r s)):=wid_set w27 l1
 have lS:(x.ps.set i (flOne x.p a b r s)).length=x.ps.length:=List.length_set
 have sf2:=splice_flat (k:=.u8) l2 w27' (j:=k) (by rw[lS];exact hk)
 have fl':=flat_len w27'
 rw[lS] at fl'
 have w3:AH.wr K10 B (i*27) (cel .u8 (flOne x.p a b r s))=_:=wr_of gB10
 simp only[cel_len,l1,fl,sf1] at w3
 rw[if_pos ⟨trivial,by omega⟩] at w3
 generalize hK11:AH.put K10 _ _=K11 at w3
 have lB10:=get_lt gB10
 have gB11:K11.get B=some ⟨cel .u8 (x.ps.set i (flOne x.p a b r s)).flatten,138,false,fu⟩:=by rw[←hK11];exact get_put_same lB10
 have w4:AH.wr K11 B (k*27) (cel .u8 (flTwo x.p a b r s))=_:=wr_of gB11
 simp only[cel_len,l2,fl',sf2] at w4
 rw[if_pos ⟨trivial,by omega⟩] at w4
 generalize hK12:AH.put K11 _ _=K12 at w4
 have n11:K11.length=K10.length:=by rw[←hK11,len_put]
 generalize hL:(x.ps.set i (flOne x.p a b r s)).set k (flTwo x.p a b r s)=L at *
 have lL:L.length=x.ps.length:=by rw[←hL,List.length_set,lS]
 have gB12:AH.get K12 B=some ⟨cel .u8 L.flatten,138,false,fu⟩:=by rw[←hK12];exact get_put_same (by omega)
 have kp12:∀ m c,m≠B→AH.get K10 m=some c→AH.get K12 m=some c:=fun m c hm g=>by rw[←hK12,get_put_ne (Ne.symm hm),←hK11,get_put_ne (Ne.symm hm)];exact g
 have g112:=kp12 _ _ (by omega) g110
 have g1012:=kp12 _ _ (by omega) g1010
 have P12:H2<+:K12:=by rw[←hK12,←hK11];exact pre_put (pre_put (p3.trans (P8.trans P10)) hB) hB
 have bL:Byt 27 L:=by rw[←hL];exact byt_setq (byt_setq hv.2 by1) by2
 have wL:Wid 27 L:=by rw[←hL];exact wid_set w27' l2
 ((try simp (maxSteps:=3000000) (dsimp:=false) (disch:=first|omega|simp only[lnx];omega) only[↓ypre,ypost,↓reduceIte,reduceEqDiff,reduceAdd,reduceSub,reduceLeDiff,zz0,ynew,f1,f2,f3,f4,f5,f10,f18,aggV,cellsL_cel,cel_all,cel_len,l1,l2,i1,i2,w3,w4,rdn_of g112]);try simp only[yback])
 rw[←lL]
 refine i_keptP gB12 wL bL (by omega) fun R K13 k13 wR g13=>⟨?_,?_⟩
 ·simp only[List.map_cons,List.map_nil,ev_tmp,updo_some,upd_apply,Nat.reduceEqDiff,↓reduceIte,f5]
  exact KpU_one k13 (by show h.length≠B;omega)
 have g1013:=k13.get (by omega) g1012
 have P13:H2<+:K13:=k13.pre P12 hB
 ((try simp (maxSteps:=3000000) (dsimp:=false) (disch:=first|omega|simp only[lnx];omega) only[↓ypre,ypost,↓reduceIte,reduceEqDiff,reduceAdd,reduceSub,reduceLeDiff,zz0,ynew,f1,f2,f3,f4,f5,f10,f18]);try simp only[yback])
 refine i_with (x:=x) (L:=toldL L) (v:=v) v1 rfl rfl fun K14 q14=>?_
 have g14:=pre_get q14 g1013
 have l14:=get_lt g14
 have wT:Wid 27 (toldL L):=told_wid wL
 have gR:=pre_get q14 g13
 have fT:=flat_len wT
 have kn:KN H2.length K14 fun h2=>Prods h2 (.slice (some ⟨B,0,none⟩) (toldL L).length 27) (toldL L):=fun h2 d1 d2=>⟨.inr ⟨B,0,_,rfl,(d2 B (by omega) (get_lt gR)).trans gR,fun j hj=>?_⟩,told_byt wL bL⟩
 ·((try simp (maxSteps:=3000000) (dsimp:=false) (disch:=first|omega|simp only[lnx];omega) only[↓ypre,ypost,↓reduceIte,reduceEqDiff,reduceAdd,reduceSub,reduceLeDiff,zz0,ynew,f1,f2,f3,f4,f5,f10,f18,schV,wr_of g14,splice_eq,rdn_put_same]);try simp only[yback])
  exact hQ _ _ (pre_put ((p1.trans p2).trans (P13.trans q14)) (by omega)) ((KN.put kn (by omega)).mono (by omega)) (.inr ⟨_,_,_,rfl⟩)
 ·have e1:Els .u8 27 K14 (.slice (some ⟨B,0,none⟩) (toldL L++R).length 27) (toldL L++R):=(blk_kN (lo:=0) gR (fun q hq=>by rcases List.mem_append.1 hq with h|h;exact wT q h;exact wR q h) (Nat.zero_le _)).now
  obtain⟨b',o',blk',e2,e3,e4⟩:=e1.resolve_left (fun e=>by cases e.2.choose_spec.2)
  simp only[Value.slice.injEq,Option.some.injEq,Addr.mk.injEq] at e2
  obtain⟨⟨rfl,rfl,-⟩,-⟩:=e2
  rw[gR] at e3
  cases e3
  have:=e4 j (by rw[List.length_append];omega)
  rwa [getD_app_l hj] at this
theorem idxn_seg {q:List Int} {f:Nat} (hq:q.length=27) (hf:f<3):idxnV 3 9 (aggV .u8 q) (I64 f)=some (.agg (cel .u8 (seg q f)).toArray):=by
 simp only[idxnV,aggV,toL,Int.toNat_natCast,cel_len,hq]
 rw[if_pos ⟨by omega,by omega,by omega⟩]
 simp only[cel_drop,cel_take]
 rfl
theorem i_flips {x:Sch} {v:Value} {h:AH} {Q:Value→AH→Prop} (hv:Prods h v x.ps) (hl:x.ps.length≤30)
  (hQ:∀ kb fu B cs h',h<+:h'→RowD (h.length+1) h' kb fu (flI x.ps x.ps.length) B cs→Q (sl kb (flI x.ps x.ps.length).length) h'):WF S 152 [schV x v] h Q:=by
 refine WF_fn (fn:=c152) rfl rfl ?_
 dsimp only[c152,oO,oM,oS,oG,oK,oE,oL,oF,oX,oN]
 have o1:=hv.one
 ((try simp (maxSteps:=3000000) (dsimp:=false) (disch:=first|omega|simp only[lnx];omega) only[↓ypre,ypost,↓reduceIte,reduceEqDiff,reduceAdd,reduceSub,reduceLeDiff,zz0,ynew,schV,o1,fillL,zrep]);try simp only[yback])
 generalize hH1:AH.new h _=H1
 obtain⟨hb1,p1,n1⟩:=new_facts hH1
 generalize hH2:AH.new H1 _=H2
 obtain⟨hb2,p2,n2⟩:=new_facts hH2
 have hb1:=pre_get p2 hb1
 have vl2:=(hv.pre (p1.trans p2)).1.len
 have r0:RowD (h.length+1) H2 H1.length true [] (fun _=>0) []:=⟨hb2,rfl,by omega,fun i hi=>by simp at hi,fun i j _ hj=>by simp at hj⟩
 ((try simp (maxSteps:=3000000) (dsimp:=false) (disch:=first|omega|simp only[lnx];omega) only[↓ypre,ypost,↓reduceIte,reduceEqDiff,reduceAdd,reduceSub,reduceLeDiff,zz0,ynew,rd1_of hb1,vl2]);try simp only[yback])
 refine WC_loop_inv (fun m f K1=>∃ (i:Nat) (kb:Nat) (fu:Bool) (B:(Nat→Nat)) (cs:List Value),m=x.ps.length-i∧i≤x.ps.length∧f 1=.pointer (some ⟨h.length,0,none⟩)∧f 3=sl kb (flI x.ps i).length∧f 11=v∧f 12=I64 x.ps.length∧f 13=I64 i∧(h<+:K1)∧(OwnB K1 h.length [I64 x.p,I64 x.n,I64 x.m,I64 x.k,v] true)∧(RowD (h.length+1) K1 kb fu (flI x.ps i) B cs)∧(∀ j,j<(flI x.ps i).length→B j<K1.length)) ?_ (x.ps.length-0) _ _ ⟨0,H1.length,true,(fun _=>0),[],rfl,by omega,(by first|rfl|simp[upd_apply]),(by first|rfl|simp[upd_apply]),(by first|rfl|simp[upd_apply]),(by first|rfl|simp[upd_apply]),(by first|rfl|simp[upd_apply]),p1.trans p2,⟨_,hb1⟩,r0,(fun j hj=>by simp[flI] at hj)⟩
 rintro m f K1 ⟨i,kb,fu,B,cs,rfl,hi,f1,f3,f11,f12,f13,pp,g1,r,hB⟩
 obtain⟨e1,g1⟩:=g1
 by_cases hi:(i:Int)<x.ps.length
 ·have hi':i<x.ps.length:=by omega
  obtain⟨ni,oi,ixi,rdi⟩:=((hv.pre pp).1).at hi'
  have byi:=hv.by hi'
  have ri:AH.rdn K1 ni oi 27=some (cel .u8 (x.ps.getD i [])):=by
   have:=rdi.1 0 27 (by omega)
   rwa [Nat.add_zero,List.drop_zero,List.take_of_length_le (by have:=byi.1;omega)] at this
  have a27:=byi.1
  have vlK:=(hv.pre pp).1.len
  ((try simp (maxSteps:=3000000) (dsimp:=false) (disch:=first|omega|simp only[lnx];omega) only[↓ypre,ypost,↓reduceIte,reduceEqDiff,reduceAdd,reduceSub,reduceLeDiff,zz0,ynew,f1,f3,f11,f12,f13,decide_eq_true hi,ixi,ri,cel_all,cel_len,a27,sp27z a27,zrep27,splice_27 a27,rd1_of g1,vlK]);try simp only[yback])
  generalize hJ1:AH.new K1 _=J1
  obtain⟨b1,s1,m1⟩:=new_facts hJ1
  have gi:AH.get J1 K1.length=some ⟨cel .u8 (x.ps.getD i []),138,false,true⟩:=b1
  have vlJ:=(hv.pre (pp.trans s1)).1.len
  ((try simp (maxSteps:=3000000) (dsimp:=false) (disch:=first|omega|simp only[lnx];omega) only[↓ypre,ypost,↓reduceIte,reduceEqDiff,reduceAdd,reduceSub,reduceLeDiff,zz0,ynew,f1,f3,f11,f12,f13,rd1_of (pre_get s1 g1),vlJ]);try simp only[yback])
  have z0:flI x.ps i++flK x.ps i 0=flI x.ps i:=by rw[show flK x.ps i 0=[] from rfl,List.append_nil]
  have f3:f 3=sl kb (flI x.ps i++flK x.ps i 0).length:=by rw[z0];exact f3
  refine WC_loop_inv (fun m f K2=>∃ (k:Nat) (kb:Nat) (fu:Bool) (B:(Nat→Nat)) (cs:List Value),m=x.ps.length-k∧k≤x.ps.length∧f 1=.pointer (some ⟨h.length,0,none⟩)∧f 3=sl kb (flI x.ps i++flK x.ps i k).length∧f 4=I64 i∧f 5=.pointer (some ⟨K1.length,0,none⟩)∧f 11=v∧f 12=I64 x.ps.length∧f 13=I64 i∧f 19=v∧f 20=I64 x.ps.length∧f 21=I64 k∧(h<+:K2)∧(OwnB K2 h.length [I64 x.p,I64 x.n,I64 x.m,I64 x.k,v] true)∧(K2.get K1.length=some ⟨cel .u8 (x.ps.getD i []),138,false,true⟩)∧(kb≠K1.length)∧(RowD (h.length+1) K2 kb fu (flI x.ps i++flK x.ps i k) B cs)∧(∀ j,j<(flI x.ps i++flK x.ps i k).length→B j<K2.length)) ?_ (x.ps.length-0) _ _ ⟨0,kb,fu,B,cs,rfl,by omega,(by first|rfl|exact f1|(simp[upd_apply];done)),(by first|rfl|exact f3|(simp[upd_apply];done)),(by first|rfl|simp[upd_apply]),(by first|rfl|simp[upd_apply]),(by first|rfl|exact f11|(simp[upd_apply];done)),(by first|rfl|exact f12|(simp[upd_apply];done)),(by first|rfl|exact f13|(simp[upd_apply];done)),(by first|rfl|simp[upd_apply]),(by first|rfl|simp[upd_apply]),(by first|rfl|simp[upd_apply]),pp.trans s1,⟨_,pre_get s1 g1⟩,gi,(by have:=get_lt r.get;omega),(by rw[show flK x.ps i 0=[] from rfl,List.append_nil];exact r.pre s1),(by rw[show flK x.ps i 0=[] from rfl,List.append_nil];exact fun j hj=>by have:=hB j hj;omega)⟩
  rintro m f K2 ⟨k,kb,fu,B,cs,rfl,hk,f1,f3,f4,f5,f11,f12,f13,f19,f20,f21,pp,g1,gi,kq,r,hB⟩
  obtain⟨e1',g1⟩:=g1
  by_cases hk:(k:Int)<x.ps.length
  ·have hk':k<x.ps.length:=by omega
   obtain⟨nk,ok,ixk,rdk⟩:=((hv.pre pp).1).at hk'
   have byk:=hv.by hk'
   have rk:AH.rdn K2 nk ok 27=some (cel .u8 (x.ps.getD k [])):=by
    have:=rdk.1 0 27 (by omega)
    rwa [Nat.add_zero,List.drop_zero,List.take_of_length_le (by have:=byk.1;omega)] at this
   have b27:=byk.1
   ((try simp (maxSteps:=3000000) (dsimp:=false) (disch:=first|omega|simp only[lnx];omega) only[↓ypre,ypost,↓reduceIte,reduceEqDiff,reduceAdd,reduceSub,reduceLeDiff,zz0,ynew,f1,f3,f4,f5,f11,f12,f13,f19,f20,f21,decide_eq_true hk,ixk,rk,cel_all,cel_len,b27,sp27z b27,zrep27,splice_27 b27]);try simp only[yback])
   generalize hJ2:AH.new K2 _=J2
   obtain⟨b2,s2,m2⟩:=new_facts hJ2
   have gk:AH.get J2 K2.length=some ⟨cel .u8 (x.ps.getD k []),138,false,true⟩:=b2
   have z1:flI x.ps i++flK x.ps i k++(if i=k then [] else flF x.ps i k 0)=flI x.ps i++flK x.ps i k:=by rw[show (if i=k then [] else flF x.ps i k 0)=[] from by split<;>rfl,List.append_nil]
   have f3:f 3=sl kb (flI x.ps i++flK x.ps i k++(if i=k then [] else flF x.ps i k 0)).length:=by rw[z1];exact f3
   refine WC_loop_inv (fun m f K3=>∃ (u:Nat) (kb:Nat) (fu:Bool) (B:(Nat→Nat)) (cs:List Value),m=3-u∧u≤3∧f 1=.pointer (some ⟨h.length,0,none⟩)∧f 3=sl kb (flI x.ps i++flK x.ps i k++(if i=k then [] else flF x.ps i k u)).length∧f 4=I64 i∧f 5=.pointer (some ⟨K1.length,0,none⟩)∧f 6=I64 k∧f 7=.pointer (some ⟨K2.length,0,none⟩)∧f 11=v∧f 12=I64 x.ps.length∧f 13=I64 i∧f 19=v∧f 20=I64 x.ps.length∧f 21=I64 k∧f 26=I64 u∧(h<+:K3)∧(OwnB K3 h.length [I64 x.p,I64 x.n,I64 x.m,I64 x.k,v] true)∧(K3.get K1.length=some ⟨cel .u8 (x.ps.getD i []),138,false,true⟩)∧(K3.get K2.length=some ⟨cel .u8 (x.ps.getD k []),138,false,true⟩)∧(kb≠K1.length∧kb≠K2.length)∧(RowD (h.length+1) K3 kb fu (flI x.ps i++flK x.ps i k++(if i=k then [] else flF x.ps i k u)) B cs)∧(∀ j,j<(flI x.ps i++flK x.ps i k++(if i=k then [] else flF x.ps i k u)).length→B j<K3.length)) ?_ (3-0) _ _ ⟨0,kb,fu,B,cs,rfl,by omega,(by first|rfl|exact f1|(simp[upd_apply];done)),(by first|rfl|exact f3|(simp[upd_apply];done)),(by first|rfl|exact f4|(simp[upd_apply];done)),(by first|rfl|exact f5|(simp[upd_apply];done)),(by first|rfl|simp[upd_apply]),(by first|rfl|simp[upd_apply]),(by first|rfl|exact f11|(simp[upd_apply];done)),(by first|rfl|exact f12|(simp[upd_apply];done)),(by first|rfl|exact f13|(simp[upd_apply];done)),(by first|rfl|exact f19|(simp[upd_apply];done)),(by first|rfl|exact f20|(simp[upd_apply];done)),(by first|rfl|exact f21|(simp[upd_apply];done)),(by first|rfl|simp[upd_apply]),pp.trans s2,⟨_,pre_get s2 g1⟩,pre_get s2 gi,gk,⟨kq,by have:=get_lt r.get;omega⟩,(by rw[z1];exact r.pre s2),(by rw[z1];exact fun j hj=>by have:=hB j hj;omega)⟩
   rintro m f K3 ⟨u,kb,fu,B,cs,rfl,hu,f1,f3,f4,f5,f6,f7,f11,f12,f13,f19,f20,f21,f26,pp,g1,gi,gk,kq,r,hB⟩
   obtain⟨e1'',g1⟩:=g1
   have rlow:=r.low
   have rlt:=get_lt r.get
   have gil:=get_lt gi
   have gkl:=get_lt gk
   by_cases hu:(u:Int)<3
   ·by_cases hik:i=k
    ·have en:(if i=k then ([]:List (List Int)) else flF x.ps i k (u+1))=(if i=k then [] else flF x.ps i k u):=by rw[if_pos hik,if_pos hik]
     ((try simp (maxSteps:=3000000) (dsimp:=false) (disch:=first|omega|simp only[lnx];omega) only[↓ypre,ypost,↓reduceIte,reduceEqDiff,reduceAdd,reduceSub,reduceLeDiff,zz0,ynew,f1,f3,f4,f5,f6,f7,f11,f12,f13,f19,f20,f21,f26,decide_eq_true hu,decide_eq_false (show ¬ (i:Int)≠k by omega),wrap64_in]);try simp only[yback])
     refine InvQ_go (3-(u+1)) (by omega) ⟨(u+1),kb,fu,B,cs,rfl,by omega,(by first|rfl|exact f1|(simp only[upd_apply];rfl)|(show I64 _=_;congr 1;omega)),(by rw[en];exact f3),(by first|rfl|exact f4|(simp only[upd_apply];rfl)|(show I64 _=_;congr 1;omega)),(by first|rfl|exact f5|(simp only[upd_apply];rfl)|(show I64 _=_;congr 1;omega)),(by first|rfl|exact f6|(simp only[upd_apply];rfl)|(show I64 _=_;congr 1;omega)),(by first|rfl|exact f7|(simp only[upd_apply];rfl)|(show I64 _=_;congr 1;omega)),(by first|rfl|exact f11|(simp only[upd_apply];rfl)|(show I64 _=_;congr 1;omega)),(by first|rfl|exact f12|(simp only[upd_apply];rfl)|(show I64 _=_;congr 1;omega)),(by first|rfl|exact f13|(simp only[upd_apply];rfl)|(show I64 _=_;congr 1;omega)),(by first|rfl|exact f19|(simp only[upd_apply];rfl)|(show I64 _=_;congr 1;omega)),(by first|rfl|exact f20|(simp only[upd_apply];rfl)|(show I64 _=_;congr 1;omega)),(by first|rfl|exact f21|(simp only[upd_apply];rfl)|(show I64 _=_;congr 1;omega)),(by first|rfl|exact f26|(simp only[upd_apply];rfl)|(show I64 _=_;congr 1;omega)),pp,⟨_,g1⟩,gi,gk,kq,(by rw[en];exact r),(by rw[en];exact hB)⟩
    ·rw[if_neg hik] at r hB f3
     have a27:=byi.1
     have tA:(cel .u8 (x.ps.getD i [])).take 27=cel .u8 (x.ps.getD i []):=List.take_of_length_le (by rw[cel_len,a27];exact Nat.le_refl _)
     have tB:(cel .u8 (x.ps.getD k [])).take 27=cel .u8 (x.ps.getD k []):=List.take_of_length_le (by rw[cel_len,b27];exact Nat.le_refl _)
     have nx:flF x.ps i k (u+1)=flF x.ps i k u++(if seg (x.ps.getD i []) u=seg (x.ps.getD k []) u then [[(i:Int),k,u]] else []):=rfl
     have len1:=flI_len (L:=x.ps) (i:=i)
     have len2:=flK_len (L:=x.ps) (i:=i) (k:=k)
     have len3:=flF_len (L:=x.ps) (i:=i) (k:=k) (r:=u)
     have len4:3*x.ps.length*i≤3*30*30:=Nat.mul_le_mul (Nat.mul_le_mul (Nat.le_refl 3) hl) (by omega)
     ((try simp (maxSteps:=3000000) (dsimp:=false) (disch:=first|omega|simp only[lnx];omega) only[↓ypre,ypost,↓reduceIte,reduceEqDiff,reduceAdd,reduceSub,reduceLeDiff,zz0,ynew,f1,f3,f4,f5,f6,f7,f11,f12,f13,f19,f20,f21,f26,decide_eq_true hu,decide_eq_true (show (i:Int)≠k by omega),rdn_of gi,cel_len,a27,tA]);try simp only[yback])
     refine i_factors (q:=x.ps.getD i []) a27 fun K4 p4=>⟨p4,?_⟩
     have gk4:=pre_get p4 gk
     ((try simp (maxSteps:=3000000) (dsimp:=false) (disch:=first|omega|simp only[lnx];omega) only[↓ypre,ypost,↓reduceIte,reduceEqDiff,reduceAdd,reduceSub,reduceLeDiff,zz0,ynew,f1,f3,f4,f5,f6,f7,f11,f12,f13,f19,f20,f21,f26,↓WX_idxn,idxn_seg a27 (show u<3 by omega),rdn_of gk4,cel_len,b27,tB]);try simp only[yback])
     refine i_factors (q:=x.ps.getD k []) b27 fun K5 p5=>?_
     have p45:=p4.trans p5
     have r:=r.pre p45
     have l45:=pre_len p45
     have ea:=eqaV_cel (k:=.u8) (seg_n9 a27 (show u<3 by omega)) (seg_n9 b27 (show u<3 by omega)) (by omega)
     by_cases hs:seg (x.ps.getD i []) u=seg (x.ps.getD k []) u
     ·have hb:(seg (x.ps.getD i []) u==seg (x.ps.getD k []) u)=true:=by rw[hs];simp
      rw[if_pos hs] at nx
      ((try simp (maxSteps:=3000000) (dsimp:=false) (disch:=first|omega|simp only[lnx];omega) only[↓ypre,ypost,↓reduceIte,reduceEqDiff,reduceAdd,reduceSub,reduceLeDiff,zz0,ynew,f1,f3,f4,f5,f6,f7,f11,f12,f13,f19,f20,f21,f26,↓WX_idxn,idxn_seg b27 (show u<3 by omega),ea,hb,fillL,zrep]);try simp only[yback])
      generalize hH7:AH.new K5 _=H7
      obtain⟨g7,p7,n7⟩:=new_facts hH7
      have q7:Lst H7 K5.length [(i:Int),k,u] true:=g7
      have P7:=p45.trans p7
      refine rowd_appB (r.pre p7) (by rw[List.length_append,List.length_append];omega) (by have:=pp.length_le;omega) (by omega) (fun j hj=>by have:=hB j hj;omega) q7 fun HZ lZ kZ rZ=>?_
      have g1Z:=kZ.get (by omega) (pre_get P7 g1)
      have giZ:=kZ.get (by omega) (pre_get P7 gi)
      have gkZ:=kZ.get (by omega) (pre_get P7 gk)
      have nxx:flI x.ps i++flK x.ps i k++flF x.ps i k (u+1)=flI x.ps i++flK x.ps i k++flF x.ps i k u++[[(i:Int),k,u]]:=by rw[nx];simp only[List.append_assoc]
      have hB2:∀ j,j<(flI x.ps i++flK x.ps i k++flF x.ps i k u++[[(i:Int),k,u]]).length→(if j<(flI x.ps i++flK x.ps i k++flF x.ps i k u).length then B j else K5.length)<HZ.length:=fun j hj=>by
       split
       ·rename_i hjr
        have:=hB j hjr
        omega
       ·omega
      ((try simp (maxSteps:=3000000) (dsimp:=false) (disch:=first|omega|simp only[lnx];omega) only[↓ypre,ypost,↓reduceIte,reduceEqDiff,reduceAdd,reduceSub,reduceLeDiff,zz0,ynew,f1,f3,f4,f5,f6,f7,f11,f12,f13,f19,f20,f21,f26,wrap64_in]);try simp only[yback])
      refine InvQ_go (3-(u+1)) (by omega) ⟨(u+1),(H7.length+1),false,_,_,rfl,by omega,(by first|rfl|exact f1|(simp only[upd_apply];rfl)|(show I64 _=_;congr 1;omega)),(by rw[if_neg hik,nxx];rfl),(by first|rfl|exact f4|(simp only[upd_apply];rfl)|(show I64 _=_;congr 1;omega)),(by first|rfl|exact f5|(simp only[upd_apply];rfl)|(show I64 _=_;congr 1;omega)),(by first|rfl|exact f6|(simp only[upd_apply];rfl)|(show I64 _=_;congr 1;omega)),(by first|rfl|exact f7|(simp only[upd_apply];rfl)|(show I64 _=_;congr 1;omega)),(by first|rfl|exact f11|(simp only[upd_apply];rfl)|(show I64 _=_;congr 1;omega)),(by first|rfl|exact f12|(simp only[upd_apply];rfl)|(show I64 _=_;congr 1;omega)),(by first|rfl|exact f13|(simp only[upd_apply];rfl)|(show I64 _=_;congr 1;omega)),(by first|rfl|exact f19|(simp only[upd_apply];rfl)|(show I64 _=_;congr 1;omega)),(by first|rfl|exact f20|(simp only[upd_apply];rfl)|(show I64 _=_;congr 1;omega)),(by first|rfl|exact f21|(simp only[upd_apply];rfl)|(show I64 _=_;congr 1;omega)),(by first|rfl|exact f26|(simp only[upd_apply];rfl)|(show I64 _=_;congr 1;omega)),(kZ.pre (pp.trans P7) (by omega)),⟨_,g1Z⟩,giZ,gkZ,(by omega),(by rw[if_neg hik,nxx];exact rZ),(by rw[if_neg hik,nxx];exact hB2)⟩
     ·have hb:(seg (x.ps.getD i []) u==seg (x.ps.getD k []) u)=false:=by simpa using hs
      rw[if_neg hs,List.append_nil] at nx
      ((try simp (maxSteps:=3000000) (dsimp:=false) (disch:=first|omega|simp only[lnx];omega) only[↓ypre,ypost,↓reduceIte,reduceEqDiff,reduceAdd,reduceSub,reduceLeDiff,zz0,ynew,f1,f3,f4,f5,f6,f7,f11,f12,f13,f19,f20,f21,f26,↓WX_idxn,idxn_seg b27 (show u<3 by omega),ea,hb,wrap64_in]);try simp only[yback])
      refine InvQ_go (3-(u+1)) (by omega) ⟨(u+1),kb,fu,B,cs,rfl,by omega,(by first|rfl|exact f1|(simp only[upd_apply];rfl)|(show I64 _=_;congr 1;omega)),(by rw[if_neg hik,nx];exact f3),(by first|rfl|exact f4|(simp only[upd_apply];rfl)|(show I64 _=_;congr 1;omega)),(by first|rfl|exact f5|(simp only[upd_apply];rfl)|(show I64 _=_;congr 1;omega)),(by first|rfl|exact f6|(simp only[upd_apply];rfl)|(show I64 _=_;congr 1;omega)),(by first|rfl|exact f7|(simp only[upd_apply];rfl)|(show I64 _=_;congr 1;omega)),(by first|rfl|exact f11|(simp only[upd_apply];rfl)|(show I64 _=_;congr 1;omega)),(by first|rfl|exact f12|(simp only[upd_apply];rfl)|(show I64 _=_;congr 1;omega)),(by first|rfl|exact f13|(simp only[upd_apply];rfl)|(show I64 _=_;congr 1;omega)),(by first|rfl|exact f19|(simp only[upd_apply];rfl)|(show I64 _=_;congr 1;omega)),(by first|rfl|exact f20|(simp only[upd_apply];rfl)|(show I64 _=_;congr 1;omega)),(by first|rfl|exact f21|(simp only[upd_apply];rfl)|(show I64 _=_;congr 1;omega)),(by first|rfl|exact f26|(simp only[upd_apply];rfl)|(show I64 _=_;congr 1;omega)),(pp.trans p45),⟨_,pre_get p45 g1⟩,(pre_get p45 gi),(pre_get p45 gk),kq,(by rw[if_neg hik,nx];exact r),(by rw[if_neg hik,nx];exact fun j hj=>Nat.lt_of_lt_of_le (hB j hj) l45)⟩
   ·have eu:u=3:=by omega
    subst eu
    have en:flI x.ps i++flK x.ps i (k+1)=flI x.ps i++flK x.ps i k++(if i=k then [] else flF x.ps i k 3):=by rw[List.append_assoc];rfl
    ((try simp (maxSteps:=3000000) (dsimp:=false) (disch:=first|omega|simp only[lnx];omega) only[↓ypre,ypost,↓reduceIte,reduceEqDiff,reduceAdd,reduceSub,reduceLeDiff,zz0,ynew,f1,f3,f4,f5,f6,f7,f11,f12,f13,f19,f20,f21,f26,decide_eq_false hu,wrap64_in]);try simp only[yback])
    refine InvQ_go (x.ps.length-(k+1)) (by omega) ⟨(k+1),kb,fu,B,cs,rfl,by omega,(by first|rfl|exact f1|(simp only[upd_apply];rfl)|(show I64 _=_;congr 1;omega)),(by rw[en];exact f3),(by first|rfl|exact f4|(simp only[upd_apply];rfl)|(show I64 _=_;congr 1;omega)),(by first|rfl|exact f5|(simp only[upd_apply];rfl)|(show I64 _=_;congr 1;omega)),(by first|rfl|exact f11|(simp only[upd_apply];rfl)|(show I64 _=_;congr 1;omega)),(by first|rfl|exact f12|(simp only[upd_apply];rfl)|(show I64 _=_;congr 1;omega)),(by first|rfl|exact f13|(simp only[upd_apply];rfl)|(show I64 _=_;congr 1;omega)),(by first|rfl|exact f19|(simp only[upd_apply];rfl)|(show I64 _=_;congr 1;omega)),(by first|rfl|exact f20|(simp only[upd_apply];rfl)|(show I64 _=_;congr 1;omega)),(by first|rfl|exact f21|(simp only[upd_apply];rfl)|(show I64 _=_;congr 1;omega)),pp,⟨_,g1⟩,gi,kq.1,(by rw[en];exact r),(by rw[en];exact hB)⟩
  ·have _t:=hk
   ((try simp (maxSteps:=3000000) (dsimp:=false) (disch:=first|omega|simp only[lnx];omega) only[↓ypre,ypost,↓reduceIte,reduceEqDiff,reduceAdd,reduceSub,reduceLeDiff,zz0,ynew,f1,f3,f4,f5,f11,f12,f13,f19,f20,f21,decide_eq_false hk,wrap64_in]);try simp only[yback])
   have ek:k=x.ps.length:=by omega
   subst ek
   refine InvQ_go (x.ps.length-(i+1)) (by omega) ⟨(i+1),kb,fu,B,cs,rfl,by omega,(by first|rfl|exact f1|(simp only[upd_apply];rfl)|(show I64 _=_;congr 1;omega)),(by first|rfl|exact f3|(simp only[upd_apply];rfl)|(show I64 _=_;congr 1;omega)),(by first|rfl|exact f11|(simp only[upd_apply];rfl)|(show I64 _=_;congr 1;omega)),(by first|rfl|exact f12|(simp only[upd_apply];rfl)|(show I64 _=_;congr 1;omega)),(by first|rfl|exact f13|(simp only[upd_apply];rfl)|(show I64 _=_;congr 1;omega)),pp,⟨_,g1⟩,r,hB⟩
 ·have ei:i=x.ps.length:=by omega
  subst ei
  ((try simp (maxSteps:=3000000) (dsimp:=false) (disch:=first|omega|simp only[lnx];omega) only[↓ypre,ypost,↓reduceIte,reduceEqDiff,reduceAdd,reduceSub,reduceLeDiff,zz0,ynew,f1,f3,f11,f12,f13,decide_eq_false hi]);try simp only[yback])
  exact hQ kb fu B cs _ pp r
end Go.Proofs.Ytapafdpnmakekaa.X

set_option linter.unusedVariables false
set_option linter.unusedSimpArgs false
set_option maxRecDepth 20000
set_option maxHeartbeats 4000000
namespace Go.Proofs.Ytapafdpnmakekaa.X
open Go Go.RowKit
end Go.Proofs.Ytapafdpnmakekaa.X

set_option linter.unusedVariables false
set_option linter.unusedSimpArgs false
set_option maxRecDepth 20000
set_option maxHeartbeats 4000000
namespace Go.Proofs.Ytapafdpnmakekaa.X
open Go Go.RowKit
open Nat (reduceEqDiff reduceAdd reduceSub reduceLeDiff)
def KX (lo bx:Nat) (h:AH) (p:AH→Prop):Prop:=∀ h':AH,h.length≤h'.length→(∀ m,lo≤m→m<h.length→m≠bx→h'.get m=h.get m)→p h'
section
variable {lo lo' bx n:Nat} {h h':AH} {p:AH→Prop} {b:Blk}
theorem KX.now (k:KX lo bx h p):p h:=k h (Nat.le_refl _) fun _ _ _ _=>rfl
theorem KX.pre (k:KX lo bx h p) (d:h<+:h'):KX lo bx h' p:=fun h2 l2 g2=>k h2 (Nat.le_trans (pre_len d) l2) fun m h1 h3 h4=>(g2 m h1 (Nat.lt_of_lt_of_le h3 (pre_len d)) h4).trans (prefix_get d h3)
theorem KX.put (k:KX lo bx h p) (hm:n<lo∨n=bx):KX lo bx (h.put n b) p:=fun h2 l2 g2=>k h2 (by rw[len_put] at l2;exact l2) fun j h1 h3 h4=>(g2 j h1 (by rw[len_put];exact h3) h4).trans (get_put_ne (by omega))
theorem KX.kN (k:KX lo bx h p):KN lo h p:=fun h2 l2 g2=>k h2 l2 fun m h1 h3 _=>g2 m h1 h3
theorem KX.new (k:KN lo h p) (e:h.length=bx):KX lo bx (h.new b) p:=fun h2 l2 g2=>by
 rw[len_new] at l2
 refine k h2 (by omega) fun m h1 h3=>?_
 exact (g2 m h1 (by rw[len_new];omega) (by omega)).trans (prefix_get (pre_new (List.prefix_refl _)) h3)
theorem KX.of (k:KN lo' h p) (h1:bx<lo') (h2:lo≤lo'):KX lo bx h p:=fun h3 l2 g2=>k h3 l2 fun m h4 h5=>g2 m (by omega) h5 (by omega)
end
def wkOk (ns:List Int):Bool:=decide (ns.length≤200)&&ns.all fun n=>decide (0≤n)
def wkR (x:Sch) (ns:List Int):Sch×Int:=if isX x=true then (if wkOk ns=true then (wps x (walkL x.p x.ps ns),0) else (zeroS,2)) else (zeroS,1)
theorem step_of {p n:Int} {L:List (List Int)} {i k u:Nat} (h:flA L≠[]) (e:pickF L n=[(i:Int),k,u]):stepW p L n=toldL (flipL p L i k u 1):=by
 unfold stepW
 rw[if_neg h,e]
 simp only[List.getD_cons_zero,List.getD_cons_succ,Int.toNat_natCast]
theorem walk_succ {p:Int} {L:List (List Int)} {ns:List Int} {i:Nat} (hi:i<ns.length):walkL p L (ns.take (i+1))=stepW p (walkL p L (ns.take i)) (ns.getD i 0):=by
 unfold walkL
 rw[take_next (d:=0) hi,List.foldl_append]
 rfl
theorem walk_cut {p:Int} {L:List (List Int)} {ns:List Int} {i:Nat} (h:flA (walkL p L (ns.take i))=[]):walkL p L (ns.take i)=walkL p L ns:=by
 have e:walkL p L ns=walkL p (walkL p L (ns.take i)) (ns.drop i):=by
  unfold walkL
  rw[←List.foldl_append,List.take_append_drop]
 rw[e,walk_stop h]
theorem wkOk_nn {ns:List Int} (h:wkOk ns=true):ns.length≤200∧∀ n∈ns,0≤n:=by
 unfold wkOk at h
 rw[Bool.and_eq_true] at h
 exact⟨of_decide_eq_true h.1,fun n hn=>of_decide_eq_true (List.all_eq_true.1 h.2 n hn)⟩
theorem GX.of' {x:Sch} {h:AH} {v:Value} (hv:Prods h v x.ps) (hx:isX x=true):GX x:=⟨hx,hv.1.widL,hv.2⟩
theorem take_mem {ns:List Int} {P:Int→Prop} (h:∀ n∈ns,P n) (i:Nat):∀ n∈ns.take i,P n:=fun n hn=>h n (List.mem_of_mem_take hn)
theorem s_WalkFlips {x:Sch} {v w:Value} {ns:List Int} {h:AH} {Q:Value→AH→Prop} (hv:Prods h v x.ps) (hl:SmallX x.ps) (hw:Ints h w ns) (hn:(ns.length:Int)≤1048576)
  (hQ:∀ w' h',h<+:h'→KN h.length h' (fun h2=>Prods h2 w' (wkR x ns).1.ps)→Q (.tuple #[schV (wkR x ns).1 w',I64 (wkR x ns).2]) h'):WF S 16 [schV x v,w] h Q:=by
 refine WF_fn (fn:=c16) rfl rfl ?_
 dsimp only[c16,oO,oM,oS,oG,oK,oE,oL,oF,oX,oN]
 have o1:=hv.one
 have wl:=hw.len
 ((try simp (maxSteps:=3000000) (dsimp:=false) (disch:=first|omega|simp only[lnx];omega) only[↓ypre,ypost,↓reduceIte,reduceEqDiff,reduceAdd,reduceSub,reduceLeDiff,zz0,ynew,schV,o1]);try simp only[yback])
 generalize hH1:AH.new h _=H1
 obtain⟨hb1,p1,n1⟩:=new_facts hH1
 generalize hH2:AH.new H1 _=H2
 obtain⟨hb2,p2,n2⟩:=new_facts hH2
 have g1:=pre_get p2 hb1
 ((try simp (maxSteps:=3000000) (dsimp:=false) (disch:=first|omega|simp only[lnx];omega) only[↓ypre,ypost,↓reduceIte,reduceEqDiff,reduceAdd,reduceSub,reduceLeDiff,zz0,ynew,rdn_of g1]);try simp only[yback])
 refine s_l01Is (x:=x) (hv.pre (p1.trans p2)) hl fun H3 p3=>?_
 have g1:=pre_get p3 g1
 have g2:=pre_get p3 hb2
 have l2:=get_lt g2
 have P3:=p1.trans (p2.trans p3)
 have q3:=pre_len p3
 unfold wkR at hQ
 cases hx:isX x with
 | false=>
  rw[hx] at hQ
  ((try simp (maxSteps:=3000000) (dsimp:=false) (disch:=first|omega|simp only[lnx];omega) only[↓ypre,ypost,↓reduceIte,reduceEqDiff,reduceAdd,reduceSub,reduceLeDiff,zz0,ynew,fillL,wr_of g2,splice_eq,rdn_put_same]);try simp only[yback])
  exact hQ _ _ (pre_put P3 (by omega)) zeroS_kn
 | true=>
 rw[hx] at hQ
 simp only[if_true] at hQ
 by_cases c1:(ns.length:Int)>200
 ·have e:wkOk ns=false:=by unfold wkOk;rw[decide_eq_false (show ¬ ns.length≤200 by omega)];rfl
  rw[e] at hQ
  ((try simp (maxSteps:=3000000) (dsimp:=false) (disch:=first|omega|simp only[lnx];omega) only[↓ypre,ypost,↓reduceIte,reduceEqDiff,reduceAdd,reduceSub,reduceLeDiff,zz0,ynew,wl,decide_eq_true c1,fillL,wr_of g2,splice_eq,rdn_put_same]);try simp only[yback])
  exact hQ _ _ (pre_put P3 (by omega)) zeroS_kn
 ((try simp (maxSteps:=3000000) (dsimp:=false) (disch:=first|omega|simp only[lnx];omega) only[↓ypre,ypost,↓reduceIte,reduceEqDiff,reduceAdd,reduceSub,reduceLeDiff,zz0,ynew,wl,decide_eq_false c1]);try simp only[yback])
 refine WC_loop_inv (fun m f K1=>∃ (i:Nat),m=ns.length-i∧i≤ns.length∧f 1=w∧f 2=.pointer (some ⟨h.length,0,none⟩)∧f 4=.pointer (some ⟨H1.length,0,none⟩)∧f 6=I64 i∧K1=H3∧((∀ j,j<i→0≤ns.getD j 0))) ?_ (ns.length-0) _ _ ⟨0,rfl,by omega,(by first|rfl|simp[upd_apply]),(by first|rfl|simp[upd_apply]),(by first|rfl|simp[upd_apply]),(by first|rfl|simp[upd_apply]),rfl,(fun _ h=>absurd h (Nat.not_lt_zero _))⟩
 rintro m f K1 ⟨i,rfl,hi,f1,f2,f4,f6,rfl,al⟩
 by_cases hlt:(i:Int)<ns.length
 ·have hi:i<ns.length:=by omega
  obtain⟨nn,off,ix,rd⟩:=(hw.pre P3).cell hi
  have ix:=ix .i64
  by_cases c2:ns.getD i 0<0
  ·have e:wkOk ns=false:=by
    unfold wkOk
    rw[Bool.and_eq_false_iff]
    right
    rw[List.all_eq_false]
    refine⟨ns[i],List.getElem_mem hi,?_⟩
    rw[List.getD_eq_getElem?_getD,List.getElem?_eq_getElem hi,Option.getD_some] at c2
    rw[decide_eq_false (by omega)]
    decide
   rw[e] at hQ
   ((try simp (maxSteps:=3000000) (dsimp:=false) (disch:=first|omega|simp only[lnx];omega) only[↓ypre,ypost,↓reduceIte,reduceEqDiff,reduceAdd,reduceSub,reduceLeDiff,zz0,ynew,f1,f2,f4,f6,wl,decide_eq_true hlt,ix,rd,decide_eq_true c2,fillL,wr_of g2,splice_eq,rdn_put_same]);try simp only[yback])
   exact hQ _ _ (pre_put P3 (by omega)) zeroS_kn
  ·((try simp (maxSteps:=3000000) (dsimp:=false) (disch:=first|omega|simp only[lnx];omega) only[↓ypre,ypost,↓reduceIte,reduceEqDiff,reduceAdd,reduceSub,reduceLeDiff,zz0,ynew,f1,f2,f4,f6,wl,decide_eq_true hlt,ix,rd,decide_eq_false c2,wrap64_in]);try simp only[yback])
   refine InvQ_go (ns.length-(i+1)) (by omega) ⟨(i+1),rfl,by omega,(by first|rfl|exact f1|(simp only[upd_apply];rfl)|(show I64 _=_;congr 1;omega)),(by first|rfl|exact f2|(simp only[upd_apply];rfl)|(show I64 _=_;congr 1;omega)),(by first|rfl|exact f4|(simp only[upd_apply];rfl)|(show I64 _=_;congr 1;omega)),(by first|rfl|exact f6|(simp only[upd_apply];rfl)|(show I64 _=_;congr 1;omega)),rfl,(fun j hj=>by rcases Nat.lt_succ_iff_lt_or_eq.1 hj with h1|rfl;exact al j h1;omega)⟩
 have ei:i=ns.length:=by omega
 subst ei
 have nn:∀ n∈ns,0≤n:=fun n hn=>by
  obtain⟨j,hj,rfl⟩:=List.getElem_of_mem hn
  have:=al j hj
  rwa [List.getD_eq_getElem?_getD,List.getElem?_eq_getElem hj,Option.getD_some] at this
 have e:wkOk ns=true:=by
  unfold wkOk
  rw[decide_eq_true (show ns.length≤200 by omega),List.all_eq_true.2 fun n hn=>decide_eq_true (nn n hn)]
  rfl
 rw[e] at hQ
 simp only[if_true] at hQ
 have g:=GX.of' hv hx
 have zp:=(isX_sz hx).1.p
 have h30:=(isX_sz hx).2
 ((try simp (maxSteps:=3000000) (dsimp:=false) (disch:=first|omega|simp only[lnx];omega) only[↓ypre,ypost,↓reduceIte,reduceEqDiff,reduceAdd,reduceSub,reduceLeDiff,zz0,ynew,f1,f2,f4,f6,wl,decide_eq_false hlt,rd1_of g1,rdn_of g1]);try simp only[yback])
 refine s_l03Told (x:=x) o1 (hv.pre P3) (by omega) fun w0 H4 p4 kn=>?_
 rw[told_id hx] at kn ⊢
 have g1:=pre_get p4 g1
 have g2:=pre_get p4 g2
 have q4:=pre_len p4
 ((try simp (maxSteps:=3000000) (dsimp:=false) (disch:=first|omega|simp only[lnx];omega) only[↓ypre,ypost,↓reduceIte,reduceEqDiff,reduceAdd,reduceSub,reduceLeDiff,zz0,ynew,f1,f2,f4,f6,schV,kn.now.one]);try simp only[yback])
 generalize hH5:AH.new H4 _=H5
 obtain⟨g7,p5,n5⟩:=new_facts hH5
 have kx:KX H2.length H4.length H5 fun h2=>Prods h2 w0 (walkL x.p x.ps (ns.take 0)):=by rw[←hH5];exact KX.new (kn.mono q3) rfl
 have P5:K1<+:H5:=p4.trans p5
 refine WC_loop_inv (fun m f K2=>∃ (i:Nat) (vv:Value),m=ns.length-i∧i≤ns.length∧f 1=w∧f 2=.pointer (some ⟨h.length,0,none⟩)∧f 4=.pointer (some ⟨H1.length,0,none⟩)∧f 7=.pointer (some ⟨H4.length,0,none⟩)∧f 8=I64 i∧(K1<+:K2)∧(OwnB K2 H4.length [I64 x.p,I64 x.n,I64 x.m,I64 x.k,vv] true)∧(KX H2.length H4.length K2 (fun h2=>Prods h2 vv (walkL x.p x.ps (ns.take i))))) ?_ (ns.length-0) _ _ ⟨0,w0,rfl,by omega,(by first|rfl|exact f1|(simp[upd_apply];done)),(by first|rfl|exact f2|(simp[upd_apply];done)),(by first|rfl|exact f4|(simp[upd_apply];done)),(by first|rfl|simp[upd_apply]),(by first|rfl|simp[upd_apply]),P5,⟨_,g7⟩,kx⟩
 rintro m f K2 ⟨i,vv,rfl,hi,f1,f2,f4,f7,f8,pp,g7,kx⟩
 obtain⟨e7,g7⟩:=g7
 have l7:=get_lt g7
 have g2K:=pre_get pp (pre_get p3 hb2)
 have l2K:=get_lt g2K
 have fin:walkL x.p x.ps (ns.take i)=walkL x.p x.ps ns→Q (.tuple #[schV (wps x (walkL x.p x.ps ns)) vv,I64 0]) (AH.put K2 H1.length ⟨[I64 x.p,I64 x.n,I64 x.m,I64 x.k,vv],26,false,true⟩):=fun ew=>by
  rw[ew] at kx
  exact hQ vv _ (pre_put (P3.trans pp) (by omega)) ((KX.kN (kx.put (.inl (by omega)))).mono (by omega))
 obtain⟨gc,ec⟩:=walk_ok g (take_mem nn i)
 have pc:=kx.now
 have oc:isOne vv=true:=pc.one
 by_cases hlt:(i:Int)<ns.length
 ·have hi:i<ns.length:=by omega
  ((try simp (maxSteps:=3000000) (dsimp:=false) (disch:=first|omega|simp only[lnx];omega) only[↓ypre,ypost,↓reduceIte,reduceEqDiff,reduceAdd,reduceSub,reduceLeDiff,zz0,ynew,f1,f2,f4,f7,f8,wl,decide_eq_true hlt,rdn_of g7]);try simp only[yback])
  refine s_l03Flips (x:=wps x (walkL x.p x.ps (ns.take i))) pc (isX_sz gc.ok).2 fun kb fu B cs H6 p6 r=>?_
  have fl:lenV (sl kb (flA (walkL x.p x.ps (ns.take i))).length)=some (I64 ((flA (walkL x.p x.ps (ns.take i))).length)):=rfl
  have g76:=pre_get p6 g7
  have g26:=pre_get p6 g2K
  by_cases h0:flA (walkL x.p x.ps (ns.take i))=[]
  ·have e0:((flA (walkL x.p x.ps (ns.take i))).length:Int)=0:=by rw[h0];rfl
   have:=fin (walk_cut h0)
   have g26l:=get_lt g26
   have fin6:Q (.tuple #[schV (wps x (walkL x.p x.ps ns)) vv,I64 0]) (AH.put H6 H1.length ⟨[I64 x.p,I64 x.n,I64 x.m,I64 x.k,vv],26,false,true⟩):=by
    have kx6:=kx.pre p6
    rw[walk_cut h0] at kx6
    exact hQ vv _ (pre_put (P3.trans (pp.trans p6)) (by omega)) ((KX.kN (kx6.put (.inl (by omega)))).mono (by omega))
   ((try simp (maxSteps:=3000000) (dsimp:=false) (disch:=first|omega|simp only[lnx];omega) only[↓ypre,ypost,↓reduceIte,reduceEqDiff,reduceAdd,reduceSub,reduceLeDiff,zz0,ynew,f1,f2,f4,f7,f8,fl,decide_eq_true e0,rdn_of g76,wr_of g26,splice_eq,rdn_put_same,oc]);try simp only[yback])
   exact fin6
  ·have hlen:0<(flA (walkL x.p x.ps (ns.take i))).length:=List.length_pos_iff.2 h0
   have ni:0≤ns.getD i 0:=al i hi
   obtain⟨a,b,u,a1,a2,a3,a4,a5,a6,a7⟩:=pickF_of ni h0
   obtain⟨J,hJ⟩:∃ J:Nat,(ns.getD i 0).tmod ((flA (walkL x.p x.ps (ns.take i))).length:Int)=J:=⟨_,(Int.toNat_of_nonneg (Int.tmod_nonneg _ ni)).symm⟩
   rw[hJ,Int.toNat_natCast] at a7
   have eJ:(flA (walkL x.p x.ps (ns.take i))).getD J []=[(a:Int),b,u]:=by
    have:=a5
    unfold pickF at this
    rwa [hJ,Int.toNat_natCast] at this
   obtain⟨n0,off0,x0,ix0,rd0,i0⟩:=r.rows.row (i:=J) a7
   rw[eJ] at i0
   obtain⟨m0,o0,jx0,jr0⟩:=i0.cell (j:=0) (by simp)
   obtain⟨m1,o1',jx1,jr1⟩:=i0.cell (j:=1) (by simp)
   obtain⟨m2,o2,jx2,jr2⟩:=i0.cell (j:=2) (by simp)
   obtain⟨nn',off',ixn,rdn'⟩:=(hw.pre (P3.trans (pp.trans p6))).cell hi
   have ixn:=ixn .i64
   have jx0:ixsV 1 x0 (I64 0)=_:=jx0 .i64
   have jx1:ixsV 1 x0 (I64 1)=_:=jx1 .i64
   have jx2:ixsV 1 x0 (I64 2)=_:=jx2 .i64
   have jr0:AH.rd1 H6 m0 o0=some (I64 a):=jr0
   have jr1:AH.rd1 H6 m1 o1'=some (I64 b):=jr1
   have jr2:AH.rd1 H6 m2 o2=some (I64 u):=jr2
   ((try simp (maxSteps:=3000000) (dsimp:=false) (disch:=first|omega|simp only[lnx];omega) only[↓ypre,ypost,↓reduceIte,reduceEqDiff,reduceAdd,reduceSub,reduceLeDiff,zz0,ynew,f1,f2,f4,f7,f8,fl,decide_eq_false (show ¬ ((flA (walkL x.p x.ps (ns.take i))).length:Int)=0 by omega),ixn,rdn',bin_rem (show ((flA (walkL x.p x.ps (ns.take i))).length:Int)≠0 by omega),hJ,ix0 .i64,rd0,jx0,jr0,jx1,jr1,jx2,jr2,rdn_of g76]);try simp only[yback])
   refine s_l03Flip (x:=wps x (walkL x.p x.ps (ns.take i))) (s:=1) (pc.pre p6) (by have:=(isX_sz gc.ok).2;omega) zp a1 a2 a4 (by omega) fun w' H7 p7 kn7=>?_
   have g77:=pre_get p7 g76
   have l77:=get_lt g77
   have q67:=pre_len p7
   have l76:=get_lt g76
   have qq:=pre_len (pp.trans p6)
   ((try simp (maxSteps:=3000000) (dsimp:=false) (disch:=first|omega|simp only[lnx];omega) only[↓ypre,ypost,↓reduceIte,reduceEqDiff,reduceAdd,reduceSub,reduceLeDiff,zz0,ynew,f1,f2,f4,f7,f8,schV,kn7.now.one,wr_of g77,splice_eq,wrap64_in]);try simp only[yback])
   refine InvQ_go (ns.length-(i+1)) (by omega) ⟨(i+1),w',rfl,by omega,(by first|rfl|exact f1|(simp only[upd_apply];rfl)|(show I64 _=_;congr 1;omega)),(by first|rfl|exact f2|(simp only[upd_apply];rfl)|(show I64 _=_;congr 1;omega)),(by first|rfl|exact f4|(simp only[upd_apply];rfl)|(show I64 _=_;congr 1;omega)),(by first|rfl|exact f7|(simp only[upd_apply];rfl)|(show I64 _=_;congr 1;omega)),(by first|rfl|exact f8|(simp only[upd_apply];rfl)|(show I64 _=_;congr 1;omega)),(pre_put (pp.trans (p6.trans p7)) (by have:=pre_len p4;omega)),⟨_,get_put_same l77⟩,(by rw[walk_succ hi,step_of h0 a5];exact (KX.of kn7 (by omega) (by omega)).put (.inr rfl))⟩
 ·have ei:i=ns.length:=by omega
  subst ei
  rw[List.take_length] at fin
  ((try simp (maxSteps:=3000000) (dsimp:=false) (disch:=first|omega|simp only[lnx];omega) only[↓ypre,ypost,↓reduceIte,reduceEqDiff,reduceAdd,reduceSub,reduceLeDiff,zz0,ynew,f1,f2,f4,f7,f8,wl,decide_eq_false hlt,rdn_of g7,wr_of g2K,splice_eq,rdn_put_same,oc]);try simp only[yback])
  exact fin rfl
theorem i_WalkFlips {x:Sch} {v w:Value} {ns:List Int} {h:AH} {Q:Value→AH→Prop} (hv:Prods h v x.ps) (nk:NK v) (hl:SmallX x.ps) (hw:Ints h w ns) (hn:(ns.length:Int)≤1048576)
  (hQ:∀ w' h',h<+:h'→KN h.length h' (fun h2=>Prods h2 w' (wkR x ns).1.ps)→NK w'→Q (.tuple #[schV (wkR x ns).1 w',I64 (wkR x ns).2]) h'):WF S 15 [schV x v,w] h Q:=by
 refine WF_fn (fn:=c15) rfl rfl ?_
 dsimp only[c15,oO,oM,oS,oG,oK,oE,oL,oF,oX,oN]
 have o1:=hv.one
 have wl:=hw.len
 have nz:NK (.slice none 0 0):=.inl rfl
 ((try simp (maxSteps:=3000000) (dsimp:=false) (disch:=first|omega|simp only[lnx];omega) only[↓ypre,ypost,↓reduceIte,reduceEqDiff,reduceAdd,reduceSub,reduceLeDiff,zz0,ynew,schV,o1]);try simp only[yback])
 generalize hH1:AH.new h _=H1
 obtain⟨hb1,p1,n1⟩:=new_facts hH1
 generalize hH2:AH.new H1 _=H2
 obtain⟨hb2,p2,n2⟩:=new_facts hH2
 have g1:=pre_get p2 hb1
 ((try simp (maxSteps:=3000000) (dsimp:=false) (disch:=first|omega|simp only[lnx];omega) only[↓ypre,ypost,↓reduceIte,reduceEqDiff,reduceAdd,reduceSub,reduceLeDiff,zz0,ynew,rdn_of g1]);try simp only[yback])
 refine i_IsScheme (x:=x) (hv.pre (p1.trans p2)) hl fun H3 p3=>?_
 have g1:=pre_get p3 g1
 have g2:=pre_get p3 hb2
 have l2:=get_lt g2
 have P3:=p1.trans (p2.trans p3)
 have q3:=pre_len p3
 unfold wkR at hQ
 cases hx:isX x with
 | false=>
  rw[hx] at hQ
  ((try simp (maxSteps:=3000000) (dsimp:=false) (disch:=first|omega|simp only[lnx];omega) only[↓ypre,ypost,↓reduceIte,reduceEqDiff,reduceAdd,reduceSub,reduceLeDiff,zz0,ynew,fillL,wr_of g2,splice_eq,rdn_put_same]);try simp only[yback])
  exact hQ _ _ (pre_put P3 (by omega)) zeroS_kn nz
 | true=>
 rw[hx] at hQ
 simp only[if_true] at hQ
 by_cases c1:(ns.length:Int)>200
 ·have e:wkOk ns=false:=by unfold wkOk;rw[decide_eq_false (show ¬ ns.length≤200 by omega)];rfl
  rw[e] at hQ
  ((try simp (maxSteps:=3000000) (dsimp:=false) (disch:=first|omega|simp only[lnx];omega) only[↓ypre,ypost,↓reduceIte,reduceEqDiff,reduceAdd,reduceSub,reduceLeDiff,zz0,ynew,wl,decide_eq_true c1,fillL,wr_of g2,splice_eq,rdn_put_same]);try simp only[yback])
  exact hQ _ _ (pre_put P3 (by omega)) zeroS_kn nz
 ((try simp (maxSteps:=3000000) (dsimp:=false) (disch:=first|omega|simp only[lnx];omega) only[↓ypre,ypost,↓reduceIte,reduceEqDiff,reduceAdd,reduceSub,reduceLeDiff,zz0,ynew,wl,decide_eq_false c1]);try simp only[yback])
 refine WC_loop_inv (fun m f K1=>∃ (i:Nat),m=ns.length-i∧i≤ns.length∧f 1=w∧f 2=.pointer (some ⟨h.length,0,none⟩)∧f 4=.pointer (some ⟨H1.length,0,none⟩)∧f 20=w∧f 21=I64 ns.length∧f 22=I64 i∧K1=H3∧((∀ j,j<i→0≤ns.getD j 0))) ?_ (ns.length-0) _ _ ⟨0,rfl,by omega,(by first|rfl|simp[upd_apply]),(by first|rfl|simp[upd_apply]),(by first|rfl|simp[upd_apply]),(by first|rfl|simp[upd_apply]),(by first|rfl|simp[upd_apply]),(by first|rfl|simp[upd_apply]),rfl,(fun _ h=>absurd h (Nat.not_lt_zero _))⟩
 rintro m f K1 ⟨i,rfl,hi,f1,f2,f4,f20,f21,f22,rfl,al⟩
 by_cases hlt:(i:Int)<ns.length
 ·have hi:i<ns.length:=by omega
  obtain⟨nn,off,ix,rd⟩:=(hw.pre P3).cell hi
  have ix:=ix .i64
  by_cases c2:ns.getD i 0<0
  ·have e:wkOk ns=false:=by
    unfold wkOk
    rw[Bool.and_eq_false_iff]
    right
    rw[List.all_eq_false]
    refine⟨ns[i],List.getElem_mem hi,?_⟩
    rw[List.getD_eq_getElem?_getD,List.getElem?_eq_getElem hi,Option.getD_some] at c2
    rw[decide_eq_false (by omega)]
    decide
   rw[e] at hQ
   ((try simp (maxSteps:=3000000) (dsimp:=false) (disch:=first|omega|simp only[lnx];omega) only[↓ypre,ypost,↓reduceIte,reduceEqDiff,reduceAdd,reduceSub,reduceLeDiff,zz0,ynew,f1,f2,f4,f20,f21,f22,decide_eq_true hlt,ix,rd,decide_eq_true c2,fillL,wr_of g2,splice_eq,rdn_put_same]);try simp only[yback])
   exact hQ _ _ (pre_put P3 (by omega)) zeroS_kn nz
  ·((try simp (maxSteps:=3000000) (dsimp:=false) (disch:=first|omega|simp only[lnx];omega) only[↓ypre,ypost,↓reduceIte,reduceEqDiff,reduceAdd,reduceSub,reduceLeDiff,zz0,ynew,f1,f2,f4,f20,f21,f22,decide_eq_true hlt,ix,rd,decide_eq_false c2,wrap64_in]);try simp only[yback])
   refine InvQ_go (ns.length-(i+1)) (by omega) ⟨(i+1),rfl,by omega,(by first|rfl|exact f1|(simp only[upd_apply];rfl)|(show I64 _=_;congr 1;omega)),(by first|rfl|exact f2|(simp only[upd_apply];rfl)|(show I64 _=_;congr 1;omega)),(by first|rfl|exact f4|(simp only[upd_apply];rfl)|(show I64 _=_;congr 1;omega)),(by first|rfl|exact f20|(simp only[upd_apply];rfl)|(show I64 _=_;congr 1;omega)),(by first|rfl|exact f21|(simp only[upd_apply];rfl)|(show I64 _=_;congr 1;omega)),(by first|rfl|exact f22|(simp only[upd_apply];rfl)|(show I64 _=_;congr 1;omega)),rfl,(fun j hj=>by rcases Nat.lt_succ_iff_lt_or_eq.1 hj with h1|rfl;exact al j h1;omega)⟩
 have ei:i=ns.length:=by omega
 subst ei
 have nn:∀ n∈ns,0≤n:=fun n hn=>by
  obtain⟨j,hj,rfl⟩:=List.getElem_of_mem hn
  have:=al j hj
  rwa [List.getD_eq_getElem?_getD,List.getElem?_eq_getElem hj,Option.getD_some] at this
 have e:wkOk ns=true:=by
  unfold wkOk
  rw[decide_eq_true (show ns.length≤200 by omega),List.all_eq_true.2 fun n hn=>decide_eq_true (nn n hn)]
  rfl
 rw[e] at hQ
 simp only[if_true] at hQ
 have g:=GX.of' hv hx
 have zp:=(isX_sz hx).1.p
 have h30:=(isX_sz hx).2
 ((try simp (maxSteps:=3000000) (dsimp:=false) (disch:=first|omega|simp only[lnx];omega) only[↓ypre,ypost,↓reduceIte,reduceEqDiff,reduceAdd,reduceSub,reduceLeDiff,zz0,ynew,f1,f2,f4,f20,f21,f22,decide_eq_false hlt,rd1_of g1,rdn_of g1]);try simp only[yback])
 refine i_CloneP ((hv.pre P3).1) nk (by omega) fun w0 H4 p4 on=>⟨?_,?_⟩
 ·simp only[List.map_cons,List.map_nil,ev_tmp,updo_some,upd_apply,Nat.reduceEqDiff,↓reduceIte,f2]
  exact KpU_one (m:=h.length+1) (Kp.of p4) (by show h.length≠h.length+1;omega)
 have kn0:=on.kN hv.2 (Nat.le_refl _)
 ((try simp (maxSteps:=3000000) (dsimp:=false) (disch:=first|omega|simp only[lnx];omega) only[↓ypre,ypost,↓reduceIte,reduceEqDiff,reduceAdd,reduceSub,reduceLeDiff,zz0,ynew,f1,f2,f4,f20,f21,f22]);try simp only[yback])
 refine i_with (x:=x) (L:=x.ps) (v:=v) o1 on.nk.one on.nk.cells fun H5 p5=>?_
 have g1:=pre_get (p4.trans p5) g1
 have g2:=pre_get (p4.trans p5) g2
 have q4:=pre_len p4
 have q5:=pre_len p5
 have l1:=get_lt g1
 ((try simp (maxSteps:=3000000) (dsimp:=false) (disch:=first|omega|simp only[lnx];omega) only[↓ypre,ypost,↓reduceIte,reduceEqDiff,reduceAdd,reduceSub,reduceLeDiff,zz0,ynew,f1,f2,f4,f20,f21,f22,schV,on.nk.one,wr_of g1,splice_eq,wl]);try simp only[yback])
 generalize hH6:AH.put H5 _ _=H6
 have b1:H6.get h.length=some ⟨[I64 x.p,I64 x.n,I64 x.m,I64 x.k,w0],26,false,true⟩:=by rw[←hH6];exact get_put_same l1
 have P6:h<+:H6:=by rw[←hH6];exact pre_put (P3.trans (p4.trans p5)) (Nat.le_refl _)
 have r2:AH.get H6 H1.length=some ⟨_,_,false,true⟩:=(show AH.get H6 H1.length=AH.get H5 H1.length by rw[←hH6];exact get_put_ne (by omega)).trans g2
 have kx:KX H2.length h.length H6 fun h2=>Prods h2 w0 (walkL x.p x.ps (ns.take 0)):=by rw[←hH6];exact (KX.of (kn0.pre p5) (by omega) q3).put (.inr rfl)
 refine WC_loop_inv (fun m f K2=>∃ (i:Nat) (vv:Value),m=ns.length-i∧i≤ns.length∧f 2=.pointer (some ⟨h.length,0,none⟩)∧f 4=.pointer (some ⟨H1.length,0,none⟩)∧f 35=w∧f 36=I64 ns.length∧f 37=I64 i∧(h<+:K2)∧(OwnB K2 h.length [I64 x.p,I64 x.n,I64 x.m,I64 x.k,vv] true)∧(OwnB K2 H1.length [I64 0,I64 0,I64 0,I64 0,.slice none 0 0] true)∧(H2.length≤K2.length)∧(KX H2.length h.length K2 (fun h2=>Prods h2 vv (walkL x.p x.ps (ns.take i))))∧(NK vv)) ?_ (ns.length-0) _ _ ⟨0,w0,rfl,by omega,(by first|rfl|exact f2|(simp[upd_apply];done)),(by first|rfl|exact f4|(simp[upd_apply];done)),(by first|rfl|simp[upd_apply]),(by first|rfl|simp[upd_apply]),(by first|rfl|simp[upd_apply]),P6,⟨_,b1⟩,⟨_,r2⟩,(by rw[←hH6,len_put];omega),kx,on.nk⟩
 rintro m f K2 ⟨i,vv,rfl,hi,f2,f4,f35,f36,f37,pp,b1,r2,lK,kx,kv⟩
 obtain⟨e7,b1⟩:=b1
 obtain⟨e8,r2⟩:=r2
 have l7:=get_lt b1
 have l8:=get_lt r2
 obtain⟨gc,ec⟩:=walk_ok g (take_mem nn i)
 have pc:=kx.now
 have oc:isOne vv=true:=pc.one
 by_cases hlt:(i:Int)<ns.length
 ·have hi:i<ns.length:=by omega
  obtain⟨nn',off',ixn,rdn'⟩:=(hw.pre pp).cell hi
  have ixn:=ixn .i64
  ((try simp (maxSteps:=3000000) (dsimp:=false) (disch:=first|omega|simp only[lnx];omega) only[↓ypre,ypost,↓reduceIte,reduceEqDiff,reduceAdd,reduceSub,reduceLeDiff,zz0,ynew,f2,f4,f35,f36,f37,decide_eq_true hlt,ixn,rdn',rdn_of b1]);try simp only[yback])
  refine i_flips (x:=wps x (walkL x.p x.ps (ns.take i))) pc (isX_sz gc.ok).2 fun kb fu B cs H6 p6 r=>?_
  have fl:lenV (sl kb (flA (walkL x.p x.ps (ns.take i))).length)=some (I64 ((flA (walkL x.p x.ps (ns.take i))).length)):=rfl
  have g76:=pre_get p6 b1
  have g86:=pre_get p6 r2
  by_cases h0:flA (walkL x.p x.ps (ns.take i))=[]
  ·have e0:¬ ((flA (walkL x.p x.ps (ns.take i))).length:Int)>0:=by rw[h0];simp
   have es:walkL x.p x.ps (ns.take (i+1))=walkL x.p x.ps (ns.take i):=by rw[walk_succ hi];exact if_pos h0
   ((try simp (maxSteps:=3000000) (dsimp:=false) (disch:=first|omega|simp only[lnx];omega) only[↓ypre,ypost,↓reduceIte,reduceEqDiff,reduceAdd,reduceSub,reduceLeDiff,zz0,ynew,f2,f4,f35,f36,f37,fl,decide_eq_false e0,wrap64_in]);try simp only[yback])
   refine InvQ_go (ns.length-(i+1)) (by omega) ⟨(i+1),vv,rfl,by omega,(by first|rfl|exact f2|(simp only[upd_apply];rfl)|(show I64 _=_;congr 1;omega)),(by first|rfl|exact f4|(simp only[upd_apply];rfl)|(show I64 _=_;congr 1;omega)),(by first|rfl|exact f35|(simp only[upd_apply];rfl)|(show I64 _=_;congr 1;omega)),(by first|rfl|exact f36|(simp only[upd_apply];rfl)|(show I64 _=_;congr 1;omega)),(by first|rfl|exact f37|(simp only[upd_apply];rfl)|(show I64 _=_;congr 1;omega)),(pp.trans p6),⟨_,g76⟩,⟨_,g86⟩,(Nat.le_trans lK (pre_len p6)),(by rw[es];exact kx.pre p6),kv⟩
  ·have hlen:0<(flA (walkL x.p x.ps (ns.take i))).length:=List.length_pos_iff.2 h0
   have ni:0≤ns.getD i 0:=al i hi
   obtain⟨a,b,u,a1,a2,a3,a4,a5,a6,a7⟩:=pickF_of ni h0
   obtain⟨J,hJ⟩:∃ J:Nat,(ns.getD i 0).tmod ((flA (walkL x.p x.ps (ns.take i))).length:Int)=J:=⟨_,(Int.toNat_of_nonneg (Int.tmod_nonneg _ ni)).symm⟩
   rw[hJ,Int.toNat_natCast] at a7
   have eJ:(flA (walkL x.p x.ps (ns.take i))).getD J []=[(a:Int),b,u]:=by
    have:=a5
    unfold pickF at this
    rwa [hJ,Int.toNat_natCast] at this
   obtain⟨n0,off0,x0,ix0,rd0,i0⟩:=r.rows.row (i:=J) a7
   rw[eJ] at i0
   obtain⟨m0,o0,jx0,jr0⟩:=i0.cell (j:=0) (by simp)
   obtain⟨m1,o1',jx1,jr1⟩:=i0.cell (j:=1) (by simp)
   obtain⟨m2,o2,jx2,jr2⟩:=i0.cell (j:=2) (by simp)
   have jx0:ixsV 1 x0 (I64 0)=_:=jx0 .i64
   have jx1:ixsV 1 x0 (I64 1)=_:=jx1 .i64
   have jx2:ixsV 1 x0 (I64 2)=_:=jx2 .i64
   have jr0:AH.rd1 H6 m0 o0=some (I64 a):=jr0
   have jr1:AH.rd1 H6 m1 o1'=some (I64 b):=jr1
   have jr2:AH.rd1 H6 m2 o2=some (I64 u):=jr2
   ((try simp (maxSteps:=3000000) (dsimp:=false) (disch:=first|omega|simp only[lnx];omega) only[↓ypre,ypost,↓reduceIte,reduceEqDiff,reduceAdd,reduceSub,reduceLeDiff,zz0,ynew,f2,f4,f35,f36,f37,fl,decide_eq_true (show ((flA (walkL x.p x.ps (ns.take i))).length:Int)>0 by omega),bin_rem (show ((flA (walkL x.p x.ps (ns.take i))).length:Int)≠0 by omega),hJ,ix0 .i64,rd0,jx0,jr0,jx1,jr1,jx2,jr2,rdn_of g76]);try simp only[yback])
   refine i_flip (x:=wps x (walkL x.p x.ps (ns.take i))) (s:=1) (pc.pre p6) kv (by have:=(isX_sz gc.ok).2;omega) zp a1 a2 a4 (by show 1≤1∧1≤x.p;omega) fun w' H7 p7 kn7 nk7=>?_
   have g77:=pre_get p7 g76
   have g87:=pre_get p7 g86
   have l77:=get_lt g77
   have q67:=pre_len p7
   have l76:=get_lt g76
   have qq:=pre_len p6
   ((try simp (maxSteps:=3000000) (dsimp:=false) (disch:=first|omega|simp only[lnx];omega) only[↓ypre,ypost,↓reduceIte,reduceEqDiff,reduceAdd,reduceSub,reduceLeDiff,zz0,ynew,f2,f4,f35,f36,f37,schV,kn7.now.one,wr_of g77,splice_eq,wrap64_in]);try simp only[yback])
   refine InvQ_go (ns.length-(i+1)) (by omega) ⟨(i+1),w',rfl,by omega,(by first|rfl|exact f2|(simp only[upd_apply];rfl)|(show I64 _=_;congr 1;omega)),(by first|rfl|exact f4|(simp only[upd_apply];rfl)|(show I64 _=_;congr 1;omega)),(by first|rfl|exact f35|(simp only[upd_apply];rfl)|(show I64 _=_;congr 1;omega)),(by first|rfl|exact f36|(simp only[upd_apply];rfl)|(show I64 _=_;congr 1;omega)),(by first|rfl|exact f37|(simp only[upd_apply];rfl)|(show I64 _=_;congr 1;omega)),(pre_put (pp.trans (p6.trans p7)) (Nat.le_refl _)),⟨_,get_put_same l77⟩,⟨_,by rw[get_put_ne (by omega)];exact g87⟩,(by rw[len_put];omega),(by rw[walk_succ hi,step_of h0 a5];exact (KX.of kn7 (by omega) (by omega)).put (.inr rfl)),nk7⟩
 ·have ei:i=ns.length:=by omega
  subst ei
  rw[List.take_length] at kx
  ((try simp (maxSteps:=3000000) (dsimp:=false) (disch:=first|omega|simp only[lnx];omega) only[↓ypre,ypost,↓reduceIte,reduceEqDiff,reduceAdd,reduceSub,reduceLeDiff,zz0,ynew,f2,f4,f35,f36,f37,decide_eq_false hlt,rdn_of b1,wr_of r2,splice_eq,rdn_put_same,oc]);try simp only[yback])
  exact hQ vv _ (pre_put pp (by omega)) ((KX.kN (kx.put (.inl (by omega)))).mono (by omega)) kv
end Go.Proofs.Ytapafdpnmakekaa.X

set_option linter.unusedVariables false
set_option linter.unusedSimpArgs false
set_option maxRecDepth 20000
set_option maxHeartbeats 4000000
namespace Go.Proofs.Ytapafdpnmakekaa.X
open Go Go.RowKit
def lead:List Int→Int
 | []=>0
 | a::l=>if a=0 then lead l else a
theorem lead_map {g:Int→Int} (g0:g 0=0):∀ {l:List Int},(∀ a∈l,g a=0→a=0)→lead (l.map g)=g (lead l)
 | [],_=>g0.symm
 | a::l,h=>by
  rw[List.map_cons,lead,lead]
  by_cases e:a=0
  ·rw[e,g0,if_pos rfl,if_pos rfl]
   exact lead_map g0 fun b hb=>h b (by simp[hb])
  ·rw[if_neg e,if_neg (fun x=>e (h a (by simp) x))]
theorem lead_mem:∀ {l:List Int},lead l≠0→lead l∈l
 | [],h=>absurd rfl h
 | a::l,h=>by
  rw[lead] at h ⊢
  by_cases e:a=0
  ·rw[if_pos e] at h ⊢
   exact List.mem_cons_of_mem _ (lead_mem h)
  ·rw[if_neg e]
   exact List.mem_cons_self
theorem lead_zero:∀ {l:List Int},lead l=0→∀ a∈l,a=0
 | [],_=>by simp
 | a::l,h=>by
  rw[lead] at h
  by_cases e:a=0
  ·rw[if_pos e] at h
   intro b hb
   rcases List.mem_cons.1 hb with rfl|hb
   ·exact e
   ·exact lead_zero h b hb
  ·rw[if_neg e] at h
   exact absurd h e
structure Fm (p:Int) (f:List Int):Prop where
 len:f.length=9
 n:∀ a∈f,0≤a∧a<p
section
variable {p k t:Int} {f g q r:List Int}
theorem Fm.of (h:By 9 f) (hn:∀ j,j<9→f.getD j 0<p):Fm p f:=⟨h.1,fun a ha=>by
 obtain⟨i,hi,rfl⟩:=List.getElem_of_mem ha
 have h1:=(h.2 i (by have:=h.1;omega)).1
 have h2:=hn i (by have:=h.1;omega)
 rw[List.getD_eq_getElem?_getD,List.getElem?_eq_getElem hi,Option.getD_some] at h1 h2
 exact⟨h1,h2⟩⟩
theorem Fm.at (h:Fm p f) {j:Nat} (hj:j<9):0≤f.getD j 0∧f.getD j 0<p:=by
 rw[List.getD_eq_getElem?_getD,List.getElem?_eq_getElem (by rw[h.len];exact hj),Option.getD_some]
 exact h.n _ (List.getElem_mem _)
theorem isZ_lead (h:Fm p f):isZ f=false↔lead f≠0:=by
 constructor
 ·intro hz e
  have:=lead_zero e
  have e2:f=z9:=by
   have:f=List.replicate 9 0:=List.eq_replicate_iff.2 ⟨h.len,this⟩
   rw[this]
   rfl
  rw[e2] at hz
  cases hz
 ·intro hl
  cases hz:isZ f with
  | false=>rfl
  | true=>
   have e:f=z9:=by simpa [isZ] using hz
   rw[e] at hl
   exact absurd rfl hl
theorem Fm.lead (h:Fm p f) (hz:isZ f=false):1≤X.lead f∧X.lead f<p:=by
 have h1:=(isZ_lead h).1 hz
 have:=h.n _ (lead_mem h1)
 omega
def scF (p:Int) (f:List Int) (k:Int):List Int:=addF p z9 f k 9
theorem z9_at {j:Nat}:z9.getD j 0=0:=isZ_at (q:=z9) rfl
theorem scF_map (hf:f.length=9):scF p f k=f.map fun a=>md p (k*a):=by
 have l:(scF p f k).length=9:=addF_len rfl (Nat.le_refl _)
 refine List.ext_getElem (by rw[l,List.length_map,hf]) fun j h1 h2=>?_
 have e:(scF p f k).getD j 0=md p (k*f.getD j 0):=by
  unfold scF
  rw[addF_get (by omega),z9_at,Int.zero_add]
 rw[List.getD_eq_getElem?_getD,List.getElem?_eq_getElem h1,List.getD_eq_getElem?_getD,List.getElem?_eq_getElem (by omega)] at e
 rw[List.getElem_map]
 exact e
theorem scF_at {j:Nat} (hj:j<9):(scF p f k).getD j 0=md p (k*f.getD j 0):=by
 unfold scF
 rw[addF_get hj,z9_at,Int.zero_add]
theorem prm (hp:isP p=true) {a b:Int} (h:p∣a*b):p∣a∨p∣b:=by
 have hpp:p=2∨p=3∨p=5:=by simpa [isP] using hp
 rw[Int.dvd_iff_emod_eq_zero,Int.mul_emod] at h
 rw[Int.dvd_iff_emod_eq_zero,Int.dvd_iff_emod_eq_zero]
 rcases hpp with rfl|rfl|rfl
 ·have h1:a%2=0∨a%2=1:=by omega
  have h2:b%2=0∨b%2=1:=by omega
  rcases h1 with h1|h1<;>rcases h2 with h2|h2<;>simp_all
 ·have h1:a%3=0∨a%3=1∨a%3=2:=by omega
  have h2:b%3=0∨b%3=1∨b%3=2:=by omega
  rcases h1 with h1|h1|h1<;>rcases h2 with h2|h2|h2<;>simp_all
 ·have h1:a%5=0∨a%5=1∨a%5=2∨a%5=3∨a%5=4:=by omega
  have h2:b%5=0∨b%5=1∨b%5=2∨b%5=3∨b%5=4:=by omega
  rcases h1 with h1|h1|h1|h1|h1<;>rcases h2 with h2|h2|h2|h2|h2<;>simp_all
theorem md_zero {x:Int} (hp:2≤p) (h:md p x=0):p∣x:=by
 have:=md_dvd p x
 rwa [h,Int.sub_zero] at this
theorem small_dvd {x:Int} (h:p∣x) (h0:0≤x∧x<p):x=0:=dvd_small h h0
theorem scF_lead (hp:isP p=true) (hf:Fm p f) (hk:¬ p∣k):lead (scF p f k)=md p (k*lead f):=by
 have pp:=isP_in hp
 rw[scF_map hf.len]
 refine lead_map (g:=fun a=>md p (k*a)) ?_ fun a ha h=>?_
 ·show md p (k*0)=0
  rw[Int.mul_zero]
  exact md_small (by omega)
 ·rcases prm hp (md_zero pp.1 h) with h|h
  ·exact absurd h hk
  ·exact small_dvd h (hf.n a ha)
theorem scF_Fm (hp:2≤p):Fm p (scF p f k):=⟨addF_len rfl (Nat.le_refl _),fun a ha=>by
 obtain⟨i,hi,rfl⟩:=List.getElem_of_mem ha
 have l:(scF p f k).length=9:=addF_len rfl (Nat.le_refl _)
 have e:=scF_at (p:=p) (f:=f) (k:=k) (j:=i) (by omega)
 rw[List.getD_eq_getElem?_getD,List.getElem?_eq_getElem hi,Option.getD_some] at e
 rw[e]
 exact md_in hp⟩
theorem scF_nz (hp:isP p=true) (hf:Fm p f) (hk:¬ p∣k) (hz:isZ f=false):isZ (scF p f k)=false:=by
 have pp:=isP_in hp
 refine (isZ_lead (scF_Fm pp.1)).2 ?_
 rw[scF_lead hp hf hk]
 intro h
 have hl:=hf.lead hz
 rcases prm hp (md_zero pp.1 h) with h|h
 ·exact hk h
 ·have:=small_dvd h (by omega)
  omega
theorem scF_cong {k':Int} (hp:2≤p) (hf:f.length=9) (h:Cg p k k'):scF p f k=scF p f k':=by
 rw[scF_map hf,scF_map hf]
 refine List.map_congr_left fun a _=>?_
 exact dvd_eq ((md_cg.trans (h.mul .rfl')).trans md_cg.symm) (md_in hp) (md_in hp)
open Classical in
noncomputable def inv (p n:Int):Int:=if h:∃ w,IsInv p n w then Classical.choose h else 0
theorem inv_spec {n:Int} (hp:isP p=true) (hn:1≤n∧n<p):IsInv p n (inv p n):=by
 have h:=inv_is hp hn
 unfold inv
 rw[dif_pos h]
 exact Classical.choose_spec h
theorem invc {n:Int} (hp:isP p=true) (hn:1≤n∧n<p):Cg p (inv p n*n) 1:=by
 obtain⟨q,hq⟩:=inv_dvd (inv_spec hp hn)
 exact⟨q,by omega⟩
theorem inv_nd {n:Int} (hp:isP p=true) (hn:1≤n∧n<p):¬ p∣inv p n:=by
 have h:=inv_spec hp hn
 intro hd
 have:=small_dvd hd (by have:=h.1;have:=h.2.1;omega)
 have:=h.1
 omega
noncomputable def nrm (p:Int) (q:List Int):List Int:=scF p (seg q 0) (inv p (lead (seg q 0)))++scF p (seg q 1) (inv p (lead (seg q 1)))++scF p (seg q 2) (lead (seg q 0)*lead (seg q 1))
structure Pr (p:Int) (q:List Int):Prop where
 bb:By 27 q
 f:∀ j,j<3→Fm p (seg q j)
 z:∀ j,j<3→isZ (seg q j)=false
theorem hasZ_iff:hasZ q=false↔∀ j,j<3→isZ (seg q j)=false:=by
 unfold hasZ
 simp only[Bool.or_eq_false_iff]
 constructor
 ·rintro⟨⟨h0,h1⟩,h2⟩ j hj
  have:j=0∨j=1∨j=2:=by omega
  rcases this with rfl|rfl|rfl
  ·exact h0
  ·exact h1
  ·exact h2
 ·intro h
  exact⟨⟨h 0 (by omega),h 1 (by omega)⟩,h 2 (by omega)⟩
theorem Pr.of {x:Sch} (hb:By 27 q) (h:okProd x q=true):Pr x.p q:=by
 obtain⟨h1,h2⟩:=okProd_iff.1 h
 exact⟨hb,fun j hj=>Fm.of (seg_by hb hj) fun i hi=>(okForm_gt (h1 j hj) hi).1,hasZ_iff.1 h2⟩
theorem Pr.ld (h:Pr p q) {j:Nat} (hj:j<3):1≤lead (seg q j)∧lead (seg q j)<p:=(h.f j hj).lead (h.z j hj)
theorem app3_seg {a b c:List Int} (ha:a.length=9) (hb:b.length=9) (hc:c.length=9):seg (a++b++c) 0=a∧seg (a++b++c) 1=b∧seg (a++b++c) 2=c:=by
 have l:(a++b).length=18:=by rw[List.length_append];omega
 unfold seg
 refine⟨?_,?_,?_⟩
 ·rw[Nat.zero_mul,List.drop_zero,List.append_assoc,List.take_append_of_le_length (by omega),List.take_of_length_le (by omega)]
 ·rw[Nat.one_mul,List.append_assoc,List.drop_append_of_le_length (by omega),List.drop_of_length_le (by omega),List.nil_append,List.take_append_of_le_length (by omega),List.take_of_length_le (by omega)]
 ·rw[List.drop_append_of_le_length (by omega),List.drop_of_length_le (by omega),List.nil_append,List.take_of_length_le (by omega)]
theorem scF_len:(scF p f k).length=9:=addF_len rfl (Nat.le_refl _)
theorem nrm_seg:seg (nrm p q) 0=scF p (seg q 0) (inv p (lead (seg q 0)))∧seg (nrm p q) 1=scF p (seg q 1) (inv p (lead (seg q 1)))∧seg (nrm p q) 2=scF p (seg q 2) (lead (seg q 0)*lead (seg q 1)):=app3_seg scF_len scF_len scF_len
theorem lead2_nd (hp:isP p=true) (h:Pr p q):¬ p∣lead (seg q 0)*lead (seg q 1):=by
 intro hd
 have h0:=h.ld (j:=0) (by omega)
 have h1:=h.ld (j:=1) (by omega)
 rcases prm hp hd with hd|hd
 ·have:=small_dvd hd (by omega);omega
 ·have:=small_dvd hd (by omega);omega
theorem nrm_Pr (hp:isP p=true) (h:Pr p q):Pr p (nrm p q):=by
 have pp:=isP_in hp
 obtain⟨e0,e1,e2⟩:=nrm_seg (p:=p) (q:=q)
 have hf:∀ j,j<3→Fm p (seg (nrm p q) j)∧isZ (seg (nrm p q) j)=false:=fun j hj=>by
  have:j=0∨j=1∨j=2:=by omega
  rcases this with rfl|rfl|rfl
  ·rw[e0]
   exact⟨scF_Fm pp.1,scF_nz hp (h.f 0 (by omega)) (inv_nd hp (h.ld (by omega))) (h.z 0 (by omega))⟩
  ·rw[e1]
   exact⟨scF_Fm pp.1,scF_nz hp (h.f 1 (by omega)) (inv_nd hp (h.ld (by omega))) (h.z 1 (by omega))⟩
  ·rw[e2]
   exact⟨scF_Fm pp.1,scF_nz hp (h.f 2 (by omega)) (lead2_nd hp h) (h.z 2 (by omega))⟩
 have l:(nrm p q).length=27:=by
  unfold nrm
  rw[List.length_append,List.length_append,scF_len,scF_len,scF_len]
 refine⟨⟨l,fun j hj=>?_⟩,fun j hj=>(hf j hj).1,fun j hj=>(hf j hj).2⟩
 have hj':j=j / 9*9+j%9:=by omega
 rw[hj',←seg_at (by omega)]
 have:=(hf (j / 9) (by omega)).1.at (j:=j%9) (by omega)
 omega
def Nm (q:List Int):Prop:=lead (seg q 0)=1∧lead (seg q 1)=1
theorem nrm_Nm (hp:isP p=true) (h:Pr p q):Nm (nrm p q):=by
 have pp:=isP_in hp
 obtain⟨e0,e1,e2⟩:=nrm_seg (p:=p) (q:=q)
 have one:∀ {n:Int},1≤n∧n<p→md p (inv p n*n)=1:=fun {n} hn=>dvd_eq (md_cg.trans (invc hp hn)) (md_in pp.1) (by omega)
 exact⟨by rw[e0,scF_lead hp (h.f 0 (by omega)) (inv_nd hp (h.ld (by omega)))];exact one (h.ld (by omega)),by rw[e1,scF_lead hp (h.f 1 (by omega)) (inv_nd hp (h.ld (by omega)))];exact one (h.ld (by omega))⟩
theorem nrm_tm (hp:isP p=true) (h:Pr p q) {a b c:Nat} (ha:a<9) (hb:b<9) (hc:c<9):Cg p (tm (nrm p q) a b c) (tm q a b c):=by
 obtain⟨e0,e1,e2⟩:=nrm_seg (p:=p) (q:=q)
 rw[tm_seg ha hb hc,tm_seg ha hb hc,e0,e1,e2,scF_at ha,scF_at hb,scF_at hc]
 have h0:=invc hp (h.ld (j:=0) (by omega))
 have h1:=invc hp (h.ld (j:=1) (by omega))
 refine Cg.trans (md_cg.mul md_cg |>.mul md_cg) ?_
 obtain⟨u,hu⟩:=h0
 obtain⟨v,hv⟩:=h1
 generalize inv p (lead (seg q 0))=i0 at *
 generalize inv p (lead (seg q 1))=i1 at *
 generalize lead (seg q 0)=l0 at *
 generalize lead (seg q 1)=l1 at *
 generalize (seg q 0).getD a 0=A at *
 generalize (seg q 1).getD b 0=B at *
 generalize (seg q 2).getD c 0=C at *
 exact⟨A*B*C*(u+v+p*u*v),by grind⟩
theorem okForm_sc {n:Int} (hp:2≤p) (hf:okForm p n f=true):okForm p n (scF p f k)=true:=by
 refine okForm_add hp (okForm_t fun j hj=>?_) hf
 unfold okAt
 rw[z9_at]
 exact decide_eq_true ⟨by omega,fun _=>rfl⟩
theorem nrm_ok {x:Sch} (hP:isP x.p=true) (hb:By 27 q) (h:okProd x q=true):okProd x (nrm x.p q)=true:=by
 have pp:=isP_in hP
 have hpr:=Pr.of hb h
 obtain⟨h1,h2⟩:=okProd_iff.1 h
 obtain⟨e0,e1,e2⟩:=nrm_seg (p:=x.p) (q:=q)
 refine okProd_iff.2 ⟨fun j hj=>?_,hasZ_iff.2 (nrm_Pr hP hpr).z⟩
 have:j=0∨j=1∨j=2:=by omega
 rcases this with rfl|rfl|rfl
 ·rw[e0];exact okForm_sc pp.1 (h1 0 hj)
 ·rw[e1];exact okForm_sc pp.1 (h1 1 hj)
 ·rw[e2];exact okForm_sc pp.1 (h1 2 hj)
noncomputable def tms (p:Int) (f g:List Int):Int:=if scF p f ((lead g*inv p (lead f)).tmod p)=g then (lead g*inv p (lead f)).tmod p else 0
theorem tms_in (hp:2≤p) (hg:0≤lead g) (hi:0≤inv p (lead f)):0≤tms p f g∧tms p f g<p:=by
 unfold tms
 split
 ·exact tmod_nn (Int.mul_nonneg hg hi) (by omega)
 ·omega
theorem tms_sc (h:tms p f g≠0):scF p f (tms p f g)=g:=by
 unfold tms at h ⊢
 split
 ·rename_i e
  exact e
 ·rename_i e
  rw[if_neg e] at h
  exact absurd rfl h
theorem tms_some {s:Int} (hp:isP p=true) (hf:Fm p f) (hz:isZ f=false) (hs:1≤s∧s<p) (e:scF p f s=g):tms p f g=s:=by
 have pp:=isP_in hp
 have hl:=hf.lead hz
 have nd:¬ p∣s:=fun h=>by have:=small_dvd h (by omega);omega
 have el:lead g=md p (s*lead f):=by rw[←e];exact scF_lead hp hf nd
 have h1:=invc hp hl
 have h2:=inv_spec hp hl
 have lg:=md_in (x:=s*lead f) pp.1
 have et:(lead g*inv p (lead f)).tmod p=s:=by
  refine dvd_eq ?_ (tmod_nn (Int.mul_nonneg (by rw[el];exact lg.1) (by have:=h2.1;omega)) (by omega)) (by omega)
  refine Cg.trans (Cg.tmod _ _) ?_
  rw[el]
  refine Cg.trans (md_cg.mul .rfl') ?_
  obtain⟨u,hu⟩:=h1
  generalize inv p (lead f)=i0 at *
  generalize lead f=l0 at *
  exact⟨s*u,by grind⟩
 unfold tms
 rw[et,if_pos e]
theorem tms_none (hp:isP p=true) (hf:Fm p f) (hz:isZ f=false) (hg:0≤lead g) (h:∀ s,1≤s→s<p→scF p f s≠g):tms p f g=0:=by
 have pp:=isP_in hp
 refine Decidable.byContradiction fun h0=>?_
 have hi:=inv_spec hp (hf.lead hz)
 have:=tms_in (f:=f) (g:=g) pp.1 hg (by have:=hi.1;omega)
 exact h _ (by omega) this.2 (tms_sc h0)
noncomputable def mrg (p:Int) (q r:List Int):Option (List Int):=
 if seg q 0=seg r 0∧seg q 1=seg r 1 then some (wth q 2 (addF p (seg q 2) (seg r 2) 1 9))
 else if seg q 0=seg r 0∧tms p (seg q 2) (seg r 2)≠0 then some (wth q 1 (addF p (seg q 1) (seg r 1) (tms p (seg q 2) (seg r 2)) 9))
 else if seg q 1=seg r 1∧tms p (seg q 2) (seg r 2)≠0 then some (wth q 0 (addF p (seg q 0) (seg r 0) (tms p (seg q 2) (seg r 2)) 9))
 else none
theorem mrg_of {m:List Int} (h:mrg p q r=some m):∃ j k,j<3∧m=wth q j (addF p (seg q j) (seg r j) k 9)∧((j=2∧k=1∧seg q 0=seg r 0∧seg q 1=seg r 1)∨(j=1∧seg q 0=seg r 0∧scF p (seg q 2) k=seg r 2)∨(j=0∧seg q 1=seg r 1∧scF p (seg q 2) k=seg r 2)):=by
 unfold mrg at h
 split at h
 ·rename_i e
  cases h
  exact⟨2,1,by omega,rfl,.inl ⟨rfl,rfl,e⟩⟩
 ·split at h
  ·rename_i e
   cases h
   exact⟨1,_,by omega,rfl,.inr (.inl ⟨rfl,e.1,tms_sc e.2⟩)⟩
  ·split at h
   ·rename_i e
    cases h
    exact⟨0,_,by omega,rfl,.inr (.inr ⟨rfl,e.1,tms_sc e.2⟩)⟩
   ·cases h
theorem mrg_by {m:List Int} (hp:2≤p∧p≤5) (hq:By 27 q) (h:mrg p q r=some m):By 27 m:=by
 obtain⟨j,k,hj,rfl,-⟩:=mrg_of h
 exact wth_by hq (addF_by hp (seg_by hq hj) (Nat.le_refl _)) hj
theorem mrg_tm {m:List Int} (hq:q.length=27) (h:mrg p q r=some m) {a b c:Nat} (ha:a<9) (hb:b<9) (hc:c<9):Cg p (tm m a b c) (tm q a b c+tm r a b c):=by
 obtain⟨j,k,hj,rfl,hc'⟩:=mrg_of h
 have s1:∀ i,i<3→seg (wth q j (addF p (seg q j) (seg r j) k 9)) i=if i=j then addF p (seg q j) (seg r j) k 9 else seg q i:=fun i hi=>seg_wth hq (addF_len (seg_n9 hq hj) (Nat.le_refl _)) hj hi
 rw[tm_seg ha hb hc,tm_seg ha hb hc,tm_seg ha hb hc,s1 0 (by omega),s1 1 (by omega),s1 2 (by omega)]
 rcases hc' with⟨rfl,rfl,e0,e1⟩|⟨rfl,e0,e2⟩|⟨rfl,e1,e2⟩
 ·rw[if_neg (by decide),if_neg (by decide),if_pos rfl,addF_get hc,←e0,←e1]
  obtain⟨u,hu⟩:=md_cg (p:=p) (x:=(seg q 2).getD c 0+1*(seg r 2).getD c 0)
  generalize md p _=M at *
  generalize (seg q 0).getD a 0=A at *
  generalize (seg q 1).getD b 0=B at *
  exact⟨A*B*u,by grind⟩
 ·rw[if_neg (by decide),if_pos rfl,if_neg (by decide),addF_get hb,←e0,←e2,scF_at hc]
  obtain⟨u,hu⟩:=md_cg (p:=p) (x:=(seg q 1).getD b 0+k*(seg r 1).getD b 0)
  obtain⟨v,hv⟩:=md_cg (p:=p) (x:=k*(seg q 2).getD c 0)
  generalize md p (k*(seg q 2).getD c 0)=M2 at *
  generalize md p _=M at *
  generalize (seg q 0).getD a 0=A at *
  generalize (seg q 2).getD c 0=C at *
  generalize (seg r 1).getD b 0=B' at *
  generalize (seg q 1).getD b 0=B at *
  exact⟨A*u*C-A*B'*v,by grind⟩
 ·rw[if_pos rfl,if_neg (by decide),if_neg (by decide),addF_get ha,←e1,←e2,scF_at hc]
  obtain⟨u,hu⟩:=md_cg (p:=p) (x:=(seg q 0).getD a 0+k*(seg r 0).getD a 0)
  obtain⟨v,hv⟩:=md_cg (p:=p) (x:=k*(seg q 2).getD c 0)
  generalize md p (k*(seg q 2).getD c 0)=M2 at *
  generalize md p _=M at *
  generalize (seg q 1).getD b 0=B at *
  generalize (seg q 2).getD c 0=C at *
  generalize (seg r 0).getD a 0=A' at *
  generalize (seg q 0).getD a 0=A at *
  exact⟨u*B*C-A'*B*v,by grind⟩
theorem mrg_ok {x:Sch} {m:List Int} (hp:2≤x.p) (hq:q.length=27) (oq:∀ j,j<3→okForm x.p (pl x j) (seg q j)=true) (or:∀ j,j<3→okForm x.p (pl x j) (seg r j)=true) (h:mrg x.p q r=some m):∀ j,j<3→okForm x.p (pl x j) (seg m j)=true:=by
 obtain⟨j,k,hj,rfl,-⟩:=mrg_of h
 intro i hi
 rw[seg_wth hq (addF_len (seg_n9 hq hj) (Nat.le_refl _)) hj hi]
 split
 ·rename_i e
  rw[e]
  exact okForm_add hp (oq j hj) (or j hj)
 ·exact oq i hi
end
end Go.Proofs.Ytapafdpnmakekaa.X

set_option linter.unusedVariables false
set_option linter.unusedSimpArgs false
set_option maxRecDepth 20000
set_option maxHeartbeats 4000000
namespace Go.Proofs.Ytapafdpnmakekaa.X
open Go Go.RowKit
open Nat (reduceEqDiff reduceAdd reduceSub reduceLeDiff)
theorem z9_by:By 9 z9:=⟨rfl,fun j _=>by rw[z9_at];omega⟩
theorem zeros9z:([.int .u8 0,.int .u8 0,.int .u8 0,.int .u8 0,.int .u8 0,.int .u8 0,.int .u8 0,.int .u8 0,.int .u8 0]:List Value)=cel .u8 z9:=rfl
theorem sp9q {q:List Int} (hq:q.length=9):splice (cel .u8 (List.replicate 9 0)) 0 (cel .u8 q)=cel .u8 q:=by
 rw[cel_splice]
 simp[hq]
theorem s_l01Scale {p k:Int} {q:List Int} {h:AH} {Q:Value→AH→Prop} (hp:2≤p∧p≤5) (hq:By 9 q) (hk:-1000≤k∧k≤1000) (hQ:∀ h',h<+:h'→Q (aggV .u8 (scF p q k)) h'):WF S 267 [I64 p,aggV .u8 q,I64 k] h Q:=by
 refine WF_fn (fn:=c267) rfl rfl ?_
 dsimp only[c267,oO,oM,oS,oG,oK,oE,oL,oF,oX,oN]
 have q9:=hq.1
 have tq:(cel .u8 q).take 9=cel .u8 q:=List.take_of_length_le (by rw[cel_len,q9];exact Nat.le_refl _)
 ((try simp (maxSteps:=3000000) (dsimp:=false) (disch:=first|omega|simp only[lnx];omega) only[↓ypre,ypost,↓reduceIte,reduceEqDiff,reduceAdd,reduceSub,reduceLeDiff,zz0,ynew,aggV,cellsL_cel,cel_all]);try simp only[yback])
 generalize hH1:AH.new h _=H1
 obtain⟨hb1,p1,n1⟩:=new_facts hH1
 generalize hH2:AH.new H1 _=H2
 obtain⟨hb2,p2,n2⟩:=new_facts hH2
 have g1:=pre_get p2 hb1
 ((try simp (maxSteps:=3000000) (dsimp:=false) (disch:=first|omega|simp only[lnx];omega) only[↓ypre,ypost,↓reduceIte,reduceEqDiff,reduceAdd,reduceSub,reduceLeDiff,zz0,ynew,fillL,zeros9z,cel_all,rdn_of g1,cel_len,q9,tq]);try simp only[yback])
 refine s_l01Add (a:=z9) (b:=q) hp z9_by hq hk fun H3 p3=>?_
 have g2:=pre_get p3 hb2
 have l2:=get_lt g2
 have sl:(scF p q k).length=9:=scF_len
 have e:addF p z9 q k 9=scF p q k:=rfl
 have w9:=wr_full (vs:=cel .u8 (scF p q k)) g2 (by rw[cel_len,sl];rfl)
 have ts:(cel .u8 (scF p q k)).take 9=cel .u8 (scF p q k):=List.take_of_length_le (by rw[cel_len,sl];exact Nat.le_refl _)
 rw[e]
 ((try simp (maxSteps:=3000000) (dsimp:=false) (disch:=first|omega|simp only[lnx];omega) only[↓ypre,ypost,↓reduceIte,reduceEqDiff,reduceAdd,reduceSub,reduceLeDiff,zz0,ynew,aggV,cellsL_cel,cel_len,sl,cel_all,w9,rdn_put_same,ts]);try simp only[yback])
 exact hQ _ (pre_put (p1.trans (p2.trans p3)) (by omega))
theorem scF_by {p k:Int} {q:List Int} (hp:2≤p∧p≤5):By 9 (scF p q k):=addF_by hp z9_by (Nat.le_refl _)
theorem s_l03Draw {h0 h:AH} {n:Nat} {Q:Value→AH→Prop} (s:Src h0 h n)
  (hQ:∀ (x:Sch) (v:Value) (h':AH),Kp n h h'→Src h0 h' n→SchD h.length h' v x→SchB x→NK v→Q (schV x v) h'):WF S 146 [srcP n] h Q:=by
 refine WF_fn (fn:=c146) rfl rfl ?_
 dsimp only[c146,oO,oM,oS,oG,oK,oE,oL,oF,oX,oN]
 have lt:=s.lt
 have l0:=pre_len s.p
 ((try simp (maxSteps:=3000000) (dsimp:=false) (disch:=first|omega|simp only[lnx];omega) only[↓ypre,ypost,↓reduceIte,reduceEqDiff,reduceAdd,reduceSub,reduceLeDiff,zz0,ynew]);try simp only[yback])
 generalize hH1:AH.new h _=H1
 obtain⟨hb1,p1,n1⟩:=new_facts hH1
 refine s_l01Draw (s.kp p1) fun x v H2 k2 s2 sd hx nk=>?_
 have g1:=k2.get (by omega) hb1
 have xb:=isX_SchB hx sd.now
 have k2l:=k2.len
 have o1:isOne v=true:=sd.now.one
 have zp:=(isX_sz hx).1.p
 have h30:=(isX_sz hx).2
 ((try simp (maxSteps:=3000000) (dsimp:=false) (disch:=first|omega|simp only[lnx];omega) only[↓ypre,ypost,↓reduceIte,reduceEqDiff,reduceAdd,reduceSub,reduceLeDiff,zz0,ynew,schV,o1]);try simp only[yback])
 generalize hH3:AH.new H2 _=H3
 obtain⟨hb3,p3,n3⟩:=new_facts hH3
 have s3:=s2.kp p3
 have k3:Kp n h H3:=((Kp.of p1).trans k2).trans (Kp.of p3)
 have g1:=pre_get p3 g1
 have sd3:SchD H1.length H3 v x:=KN.pre sd p3
 have vl:=sd3.now.1.len
 have fin:∀ (x':Sch) (v':Value) (h':AH),Kp n h h'→Src h0 h' n→SchD H1.length h' v' x'→SchB x'→NK v'→Q (schV x' v') (h'.put h.length ⟨[I64 x'.p,I64 x'.n,I64 x'.m,I64 x'.k,v'],26,false,true⟩):=fun x' v' h' kk ss sd' xb' nk'=>
  hQ x' v' _ (kk.putb (Nat.le_refl _)) (ss.putb (by omega) (by omega)) ((KN.put sd' (by omega)).mono (by omega)) xb' nk'
 by_cases c1:(x.ps.length:Int)>1
 case neg=>
  ((try simp (maxSteps:=3000000) (dsimp:=false) (disch:=first|omega|simp only[lnx];omega) only[↓ypre,ypost,↓reduceIte,reduceEqDiff,reduceAdd,reduceSub,reduceLeDiff,zz0,ynew,rd1_of hb3,rdn_of hb3,vl,decide_eq_false c1,yWG_un]);try simp only[yback])
  refine s_l01Bad (lo:=H1.length) s3 xb.1 (by omega) sd3 xb.2 nk fun x' v' H4 k4 s4 sd' xb' nk'=>?_
  have g1:=k4.get (by omega) g1
  have lg:=get_lt g1
  ((try simp (maxSteps:=3000000) (dsimp:=false) (disch:=first|omega|simp only[lnx];omega) only[↓ypre,ypost,↓reduceIte,reduceEqDiff,reduceAdd,reduceSub,reduceLeDiff,zz0,ynew,schV,nk'.one,wr_of g1,splice_eq,rdn_put_same]);try simp only[yback])
  exact fin x' v' H4 (k3.trans k4) s4 sd' xb' nk'
 ((try simp (maxSteps:=3000000) (dsimp:=false) (disch:=first|omega|simp only[lnx];omega) only[↓ypre,ypost,↓reduceIte,reduceEqDiff,reduceAdd,reduceSub,reduceLeDiff,zz0,ynew,rd1_of hb3,vl,decide_eq_true c1]);try simp only[yback])
 refine s_l01Next s3 fun r H4 k4 l4 s4 hr _=>?_
 have g1:=k4.get (by omega) g1
 have g3:=k4.get (by omega) hb3
 have sd4:SchD H1.length H4 v x:=KN.kp sd3 k4 (by omega)
 have k04:=k3.trans k4
 by_cases r0:r=0
 case neg=>
  ((try simp (maxSteps:=3000000) (dsimp:=false) (disch:=first|omega|simp only[lnx];omega) only[↓ypre,ypost,↓reduceIte,reduceEqDiff,reduceAdd,reduceSub,reduceLeDiff,zz0,ynew,decide_eq_false r0,rdn_of g3]);try simp only[yback])
  refine s_l01Bad (lo:=H1.length) s4 xb.1 (by omega) sd4 xb.2 nk fun x' v' H5 k5 s5 sd' xb' nk'=>?_
  have g1:=k5.get (by omega) g1
  have lg:=get_lt g1
  ((try simp (maxSteps:=3000000) (dsimp:=false) (disch:=first|omega|simp only[lnx];omega) only[↓ypre,ypost,↓reduceIte,reduceEqDiff,reduceAdd,reduceSub,reduceLeDiff,zz0,ynew,schV,nk'.one,wr_of g1,splice_eq,rdn_put_same]);try simp only[yback])
  exact fin x' v' H5 (k04.trans k5) s5 sd' xb' nk'
 have w27:Wid 27 x.ps:=sd4.now.1.widL
 ((try simp (maxSteps:=3000000) (dsimp:=false) (disch:=first|omega|simp only[lnx];omega) only[↓ypre,ypost,↓reduceIte,reduceEqDiff,reduceAdd,reduceSub,reduceLeDiff,zz0,ynew,decide_eq_true r0,fillL,zrep,rd1_of g3]);try simp only[yback])
 refine copy_zero sd4.now.1 (by omega) (by omega) fun H5 l5 p5 gB=>?_
 have s5:=s4.kp p5
 have g1:=pre_get p5 g1
 have g3:=pre_get p5 g3
 refine WO_cut (fun f:Fr=>f 0=srcP n∧f 2=.pointer (some ⟨h.length,0,none⟩)∧f 3=.pointer (some ⟨H2.length,0,none⟩)∧f 4=I64 x.ps.length∧f 25=.slice (some ⟨H4.length+1,0,none⟩) x.ps.length 27∧True) ⟨(by first|rfl|simp[upd_apply]),(by first|rfl|simp[upd_apply]),(by first|rfl|simp[upd_apply]),(by first|rfl|simp[upd_apply]),(by first|rfl|simp[upd_apply]),trivial⟩ ?_
 rintro f ⟨f0,f2,f3,f4,f25,-⟩
 ((try simp (maxSteps:=3000000) (dsimp:=false) (disch:=first|omega|simp only[lnx];omega) only[↓ypre,ypost,↓reduceIte,reduceEqDiff,reduceAdd,reduceSub,reduceLeDiff,zz0,ynew,f0,f2,f3,f4,f25]);try simp only[yback])
 refine s_l01Next s5 fun a H6 k6 l6 s6 ha _=>?_
 have ha:=ha (by omega)
 obtain⟨a,rfl⟩:∃ a':Nat,a=a':=⟨a.toNat,by omega⟩
 ((try simp (maxSteps:=3000000) (dsimp:=false) (disch:=first|omega|simp only[lnx];omega) only[↓ypre,ypost,↓reduceIte,reduceEqDiff,reduceAdd,reduceSub,reduceLeDiff,zz0,ynew,f0,f2,f3,f4,f25]);try simp only[yback])
 refine s_l01Next s6 fun b H7 k7 l7 s7 hb' _=>?_
 have hb':=hb' (by omega)
 obtain⟨b,rfl⟩:∃ a':Nat,b=a':=⟨b.toNat,by omega⟩
 have kA:=k6.trans k7
 have g1:=kA.get (by omega) g1
 have g3:=kA.get (by omega) g3
 have n3:=s3.lt
 have gB:=kA.get (by omega) gB
 refine WO_cut (fun f:Fr=>f 0=srcP n∧f 2=.pointer (some ⟨h.length,0,none⟩)∧f 3=.pointer (some ⟨H2.length,0,none⟩)∧f 5=.slice (some ⟨H4.length+1,0,none⟩) x.ps.length 27∧f 28=I64 a∧f 31=I64 b∧True) ⟨(by first|rfl|exact f0|simp[upd_apply,f0]),(by first|rfl|exact f2|simp[upd_apply,f2]),(by first|rfl|exact f3|simp[upd_apply,f3]),(by first|rfl|simp[upd_apply]),(by first|rfl|simp[upd_apply]),(by first|rfl|simp[upd_apply]),trivial⟩ ?_
 rintro f ⟨f0,f2,f3,f5,f28,f31,-⟩
 ((try simp (maxSteps:=3000000) (dsimp:=false) (disch:=first|omega|simp only[lnx];omega) only[↓ypre,ypost,↓reduceIte,reduceEqDiff,reduceAdd,reduceSub,reduceLeDiff,zz0,ynew,f0,f2,f3,f5,f28,f31]);try simp only[yback])
 refine WC_loop_inv (fun m f K1=>∃ (u:Nat) (L:List (List Int)),m=3-u∧u≤3∧f 0=srcP n∧f 2=.pointer (some ⟨h.length,0,none⟩)∧f 3=.pointer (some ⟨H2.length,0,none⟩)∧f 5=.slice (some ⟨H4.length+1,0,none⟩) x.ps.length 27∧f 6=I64 a∧f 7=I64 b∧f 8=I64 u∧(Kp n h K1)∧(Src h0 K1 n)∧(K1.get h.length=some ⟨_,_,false,true⟩)∧(K1.get H2.length=some ⟨_,_,false,true⟩)∧(K1.get (H4.length+1)=some ⟨cel .u8 L.flatten,138,false,false⟩)∧(Wid 27 L)∧(Byt 27 L)∧(L.length=x.ps.length)) ?_ (3-0) _ _ ⟨0,x.ps,rfl,by omega,(by first|rfl|exact f0|(simp[upd_apply];done)),(by first|rfl|exact f2|(simp[upd_apply];done)),(by first|rfl|exact f3|(simp[upd_apply];done)),(by first|rfl|exact f5|(simp[upd_apply];done)),(by first|rfl|simp[upd_apply]),(by first|rfl|simp[upd_apply]),(by first|rfl|simp[upd_apply]),(k04.trans (Kp.of p5)).trans kA,s7,g1,g3,gB,w27,sd4.now.2,rfl⟩
 rintro m f K1 ⟨u,L,rfl,hu,f0,f2,f3,f5,f6,f7,f8,kk,ss,g1,g3,gB,wL,bL,lL⟩
 by_cases hu:(u:Int)<3
 ·((try simp (maxSteps:=3000000) (dsimp:=false) (disch:=first|omega|simp only[lnx];omega) only[↓ypre,ypost,↓reduceIte,reduceEqDiff,reduceAdd,reduceSub,reduceLeDiff,zz0,ynew,f0,f2,f3,f5,f6,f7,f8,decide_eq_true hu]);try simp only[yback])
  have hu':u<3:=by omega
  have kkl:=kk.len
  refine s_l01Next ss fun r1 K2 k2' l2' s2' hr1 _=>?_
  have ltn:=ss.lt
  have g1:=k2'.get (by omega) g1
  have g3:=k2'.get (by omega) g3
  have gB:=k2'.get (by omega) gB
  have kk2:=kk.trans k2'
  have lgB2:=get_lt gB
  have lg32:=get_lt g3
  have lg12:=get_lt g1
  by_cases r1z:r1=0
  case neg=>
   ((try simp (maxSteps:=3000000) (dsimp:=false) (disch:=first|omega|simp only[lnx];omega) only[↓ypre,ypost,↓reduceIte,reduceEqDiff,reduceAdd,reduceSub,reduceLeDiff,zz0,ynew,f0,f2,f3,f5,f6,f7,f8,decide_eq_false r1z,wrap64_in]);try simp only[yback])
   refine InvQ_go (3-(u+1)) (by omega) ⟨(u+1),L,rfl,by omega,(by first|rfl|exact f0|(simp only[upd_apply];rfl)|(show I64 _=_;congr 1;omega)),(by first|rfl|exact f2|(simp only[upd_apply];rfl)|(show I64 _=_;congr 1;omega)),(by first|rfl|exact f3|(simp only[upd_apply];rfl)|(show I64 _=_;congr 1;omega)),(by first|rfl|exact f5|(simp only[upd_apply];rfl)|(show I64 _=_;congr 1;omega)),(by first|rfl|exact f6|(simp only[upd_apply];rfl)|(show I64 _=_;congr 1;omega)),(by first|rfl|exact f7|(simp only[upd_apply];rfl)|(show I64 _=_;congr 1;omega)),(by first|rfl|exact f8|(simp only[upd_apply];rfl)|(show I64 _=_;congr 1;omega)),kk2,s2',g1,g3,gB,wL,bL,lL⟩
  obtain⟨na,oa,ixa,rda⟩:=(show Els .u8 27 K2 (.slice (some ⟨H4.length+1,0,none⟩) x.ps.length 27) L from by rw[←lL];exact (blk_kN (lo:=0) gB wL (Nat.zero_le _)).now).at (i:=a) (by omega)
  have bya:=getD_byL wL bL (i:=a) (by omega)
  have ra:AH.rdn K2 na oa 27=some (cel .u8 (L.getD a [])):=by
   have:=rda.1 0 27 (by omega)
   rwa [Nat.add_zero,List.drop_zero,List.take_of_length_le (by have:=bya.1;omega)] at this
  ((try simp (maxSteps:=3000000) (dsimp:=false) (disch:=first|omega|simp only[lnx];omega) only[↓ypre,ypost,↓reduceIte,reduceEqDiff,reduceAdd,reduceSub,reduceLeDiff,zz0,ynew,f0,f2,f3,f5,f6,f7,f8,decide_eq_true r1z,ixa,ra]);try simp only[yback])
  refine s_l03Factor (q:=L.getD a []) bya hu' fun K3 p3'=>?_
  have byF0:=seg_by bya hu'
  have lF0:=byF0.1
  have kk3l:=kk2.len
  ((try simp (maxSteps:=3000000) (dsimp:=false) (disch:=first|omega|simp only[lnx];omega) only[↓ypre,ypost,↓reduceIte,reduceEqDiff,reduceAdd,reduceSub,reduceLeDiff,zz0,ynew,f0,f2,f3,f5,f6,f7,f8,aggV,cellsL_cel,cel_len,lF0,cel_all,zeros9,sp9q lF0,List.length_replicate]);try simp only[yback])
  generalize hK4:AH.new K3 _=K4
  obtain⟨gF,p4',n4'⟩:=new_facts hK4
  have P4:=p3'.trans p4'
  have g1:=pre_get P4 g1
  have g3:=pre_get P4 g3
  have gB:=pre_get P4 gB
  have s4':=s2'.kp P4
  have kk4:=kk2.trans (Kp.of P4)
  have q3:=pre_len p3'
  refine s_l01Next s4' fun r2 K5 k5' l5' s5' hr2 _=>?_
  have ln4:=s4'.lt
  have lg3:=get_lt g3
  have lgB:=get_lt gB
  have g1:=k5'.get (by omega) g1
  have g3:=k5'.get (by omega) g3
  have gB:=k5'.get (by omega) gB
  have gF:=k5'.get (by omega) gF
  have kk5:=kk4.trans k5'
  by_cases r2z:r2=0
  case neg=>
   have byF:=byF0
   have kkK:=kk5
   have ssK:=s5'
   obtain⟨nb,ob,ixb,rdb⟩:=(show Els .u8 27 K5 (.slice (some ⟨H4.length+1,0,none⟩) x.ps.length 27) L from by rw[←lL];exact (blk_kN (lo:=0) gB wL (Nat.zero_le _)).now).at (i:=b) (by omega)
   have byb:=getD_byL wL bL (i:=b) (by omega)
   have rb:AH.rdn K5 nb ob 27=some (cel .u8 (L.getD b [])):=by
    have:=rdb.1 0 27 (by omega)
    rwa [Nat.add_zero,List.drop_zero,List.take_of_length_le (by have:=byb.1;omega)] at this
   have tF:(cel .u8 (seg (L.getD a []) u)).take 9=cel .u8 (seg (L.getD a []) u):=List.take_of_length_le (by rw[cel_len,byF.1];exact Nat.le_refl _)
   have lF:=byF.1
   ((try simp (maxSteps:=3000000) (dsimp:=false) (disch:=first|omega|simp only[lnx];omega) only[↓ypre,ypost,↓reduceIte,reduceEqDiff,reduceAdd,reduceSub,reduceLeDiff,zz0,ynew,f0,f2,f3,f5,f6,f7,f8,decide_eq_false r2z,ixb,rb,rdn_of gF,cel_len,lF,tF]);try simp only[yback])
   refine s_l03With (q:=L.getD b []) (r:=seg (L.getD a []) u) byb byF (by omega) fun KZ pz=>?_
   have by3:=wth_by (f:=u) byb byF (by omega)
   have l3:=by3.1
   have sf:=splice_flat (k:=.u8) l3 wL (j:=b) (by omega)
   have fl:=flat_len wL
   have gBz:=pre_get pz gB
   have w3:AH.wr KZ (H4.length+1) (b*27) (cel .u8 (wth (L.getD b []) u (seg (L.getD a []) u)))=_:=wr_of gBz
   simp only[cel_len,l3,fl,sf] at w3
   rw[if_pos ⟨trivial,by omega⟩] at w3
   have ib:ixsV 27 (.slice (some ⟨H4.length+1,0,none⟩) x.ps.length 27) (I64 b)=some (.pointer (some ⟨H4.length+1,b*27,none⟩)):=by
    rw[ixsV_some,if_pos (by omega),Int.toNat_natCast,Nat.zero_add]
   ((try simp (maxSteps:=3000000) (dsimp:=false) (disch:=first|omega|simp only[lnx];omega) only[↓ypre,ypost,↓reduceIte,reduceEqDiff,reduceAdd,reduceSub,reduceLeDiff,zz0,ynew,f0,f2,f3,f5,f6,f7,f8,aggV,cellsL_cel,cel_all,cel_len,l3,ib,w3,wrap64_in]);try simp only[yback])
   refine InvQ_go (3-(u+1)) (by omega) ⟨(u+1),(L.set b (wth (L.getD b []) u (seg (L.getD a []) u))),rfl,by omega,(by first|rfl|exact f0|(simp only[upd_apply];rfl)|(show I64 _=_;congr 1;omega)),(by first|rfl|exact f2|(simp only[upd_apply];rfl)|(show I64 _=_;congr 1;omega)),(by first|rfl|exact f3|(simp only[upd_apply];rfl)|(show I64 _=_;congr 1;omega)),(by first|rfl|exact f5|(simp only[upd_apply];rfl)|(show I64 _=_;congr 1;omega)),(by first|rfl|exact f6|(simp only[upd_apply];rfl)|(show I64 _=_;congr 1;omega)),(by first|rfl|exact f7|(simp only[upd_apply];rfl)|(show I64 _=_;congr 1;omega)),(by first|rfl|exact f8|(simp only[upd_apply];rfl)|(show I64 _=_;congr 1;omega)),((kkK.trans (Kp.of pz)).putb (by omega)),((ssK.kp pz).putb (by omega) (by omega)),(by rw[get_put_ne (by omega)];exact pre_get pz g1),(by rw[get_put_ne (by omega)];exact pre_get pz g3),(get_put_same (get_lt gBz)),(wid_set wL l3),(byt_setq bL by3),(by rw[List.length_set];exact lL)⟩
  have tF0:(cel .u8 (seg (L.getD a []) u)).take 9=cel .u8 (seg (L.getD a []) u):=List.take_of_length_le (by rw[cel_len,lF0];exact Nat.le_refl _)
  ((try simp (maxSteps:=3000000) (dsimp:=false) (disch:=first|omega|simp only[lnx];omega) only[↓ypre,ypost,↓reduceIte,reduceEqDiff,reduceAdd,reduceSub,reduceLeDiff,zz0,ynew,f0,f2,f3,f5,f6,f7,f8,decide_eq_true r2z,rd1_of g3,rdn_of gF,cel_len,lF0,tF0,wrap64_in]);try simp only[yback])
  refine⟨⟨by omega,by omega⟩,?_⟩
  refine s_l01Next s5' fun r3 K6 k6' l6' s6' hr3 _=>?_
  have hr3:=hr3 (by omega)
  refine⟨⟨n,rfl,k6'⟩,?_⟩
  have g1:=k6'.get (by omega) g1
  have g3:=k6'.get (by omega) g3
  have gB:=k6'.get (by omega) gB
  have gF:=k6'.get (by omega) gF
  ((try simp (maxSteps:=3000000) (dsimp:=false) (disch:=first|omega|simp only[lnx];omega) only[↓ypre,ypost,↓reduceIte,reduceEqDiff,reduceAdd,reduceSub,reduceLeDiff,zz0,ynew,f0,f2,f3,f5,f6,f7,f8,wrap64_in]);try simp only[yback])
  refine s_l01Scale (q:=seg (L.getD a []) u) (k:=1+r3) zp byF0 (by omega) fun K7 p7'=>?_
  have byF:=scF_by (p:=x.p) (k:=1+r3) (q:=seg (L.getD a []) u) zp
  have gF:=pre_get p7' gF
  have wF:=wr_full (vs:=cel .u8 (scF x.p (seg (L.getD a []) u) (1+r3))) gF (by rw[cel_len,cel_len,lF0,byF.1])
  generalize hK8:AH.put K7 _ _=K8 at wF
  have lK8:K8.length=K7.length:=by rw[←hK8,len_put]
  have lgF:=get_lt gF
  have gF:AH.get K8 K3.length=some ⟨cel .u8 (scF x.p (seg (L.getD a []) u) (1+r3)),136,false,true⟩:=by rw[←hK8];exact get_put_same lgF
  have kp8:∀ m c,m≠K3.length→AH.get K7 m=some c→AH.get K8 m=some c:=fun m c hm g=>by rw[←hK8,get_put_ne (Ne.symm hm)];exact g
  have g1:=kp8 _ _ (by omega) (pre_get p7' g1)
  have g3:=kp8 _ _ (by omega) (pre_get p7' g3)
  have gB:=kp8 _ _ (by omega) (pre_get p7' gB)
  have kkK:Kp n h K8:=by rw[←hK8];exact ((kk5.trans k6').trans (Kp.of p7')).putb (by omega)
  have ssK:Src h0 K8 n:=by rw[←hK8];exact (s6'.kp p7').putb (by omega) (by omega)
  obtain⟨nb,ob,ixb,rdb⟩:=(show Els .u8 27 K8 (.slice (some ⟨H4.length+1,0,none⟩) x.ps.length 27) L from by rw[←lL];exact (blk_kN (lo:=0) gB wL (Nat.zero_le _)).now).at (i:=b) (by omega)
  have byb:=getD_byL wL bL (i:=b) (by omega)
  have rb:AH.rdn K8 nb ob 27=some (cel .u8 (L.getD b [])):=by
   have:=rdb.1 0 27 (by omega)
   rwa [Nat.add_zero,List.drop_zero,List.take_of_length_le (by have:=byb.1;omega)] at this
  have tF:(cel .u8 (scF x.p (seg (L.getD a []) u) (1+r3))).take 9=cel .u8 (scF x.p (seg (L.getD a []) u) (1+r3)):=List.take_of_length_le (by rw[cel_len,byF.1];exact Nat.le_refl _)
  have lF:=byF.1
  ((try simp (maxSteps:=3000000) (dsimp:=false) (disch:=first|omega|simp only[lnx];omega) only[↓ypre,ypost,↓reduceIte,reduceEqDiff,reduceAdd,reduceSub,reduceLeDiff,zz0,ynew,f0,f2,f3,f5,f6,f7,f8,aggV,cellsL_cel,cel_all,byF.1,wF,ixb,rb,rdn_of gF,cel_len,lF,tF]);try simp only[yback])
  refine s_l03With (q:=L.getD b []) (r:=scF x.p (seg (L.getD a []) u) (1+r3)) byb byF (by omega) fun KZ pz=>?_
  have by3:=wth_by (f:=u) byb byF (by omega)
  have l3:=by3.1
  have sf:=splice_flat (k:=.u8) l3 wL (j:=b) (by omega)
  have fl:=flat_len wL
  have gBz:=pre_get pz gB
  have w3:AH.wr KZ (H4.length+1) (b*27) (cel .u8 (wth (L.getD b []) u (scF x.p (seg (L.getD a []) u) (1+r3))))=_:=wr_of gBz
  simp only[cel_len,l3,fl,sf] at w3
  rw[if_pos ⟨trivial,by omega⟩] at w3
  have ib:ixsV 27 (.slice (some ⟨H4.length+1,0,none⟩) x.ps.length 27) (I64 b)=some (.pointer (some ⟨H4.length+1,b*27,none⟩)):=by
   rw[ixsV_some,if_pos (by omega),Int.toNat_natCast,Nat.zero_add]
  ((try simp (maxSteps:=3000000) (dsimp:=false) (disch:=first|omega|simp only[lnx];omega) only[↓ypre,ypost,↓reduceIte,reduceEqDiff,reduceAdd,reduceSub,reduceLeDiff,zz0,ynew,f0,f2,f3,f5,f6,f7,f8,aggV,cellsL_cel,cel_all,cel_len,l3,ib,w3,wrap64_in]);try simp only[yback])
  refine InvQ_go (3-(u+1)) (by omega) ⟨(u+1),(L.set b (wth (L.getD b []) u (scF x.p (seg (L.getD a []) u) (1+r3)))),rfl,by omega,(by first|rfl|exact f0|(simp only[upd_apply];rfl)|(show I64 _=_;congr 1;omega)),(by first|rfl|exact f2|(simp only[upd_apply];rfl)|(show I64 _=_;congr 1;omega)),(by first|rfl|exact f3|(simp only[upd_apply];rfl)|(show I64 _=_;congr 1;omega)),(by first|rfl|exact f5|(simp only[upd_apply];rfl)|(show I64 _=_;congr 1;omega)),(by first|rfl|exact f6|(simp only[upd_apply];rfl)|(show I64 _=_;congr 1;omega)),(by first|rfl|exact f7|(simp only[upd_apply];rfl)|(show I64 _=_;congr 1;omega)),(by first|rfl|exact f8|(simp only[upd_apply];rfl)|(show I64 _=_;congr 1;omega)),((kkK.trans (Kp.of pz)).putb (by omega)),((ssK.kp pz).putb (by omega) (by omega)),(by rw[get_put_ne (by omega)];exact pre_get pz g1),(by rw[get_put_ne (by omega)];exact pre_get pz g3),(get_put_same (get_lt gBz)),(wid_set wL l3),(byt_setq bL by3),(by rw[List.length_set];exact lL)⟩
 ·have l3E:=get_lt g3
  have l1E:=get_lt g1
  have lBE:=get_lt gB
  have kkl:=kk.len
  have sE:=ss.putb (m:=H2.length) (b:=⟨[I64 x.p,I64 x.n,I64 x.m,I64 x.k,.slice (some ⟨H4.length+1,0,none⟩) x.ps.length 27],26,false,true⟩) (by omega) (by omega)
  have kE:=kk.putb (m:=H2.length) (b:=⟨[I64 x.p,I64 x.n,I64 x.m,I64 x.k,.slice (some ⟨H4.length+1,0,none⟩) x.ps.length 27],26,false,true⟩) (by omega)
  have sdE:SchD H1.length (K1.put H2.length ⟨[I64 x.p,I64 x.n,I64 x.m,I64 x.k,.slice (some ⟨H4.length+1,0,none⟩) x.ps.length 27],26,false,true⟩) (.slice (some ⟨H4.length+1,0,none⟩) x.ps.length 27) (wps x L):=fun h2 d1 d2=>⟨by rw[←lL];exact blk_kN (lo:=H1.length) (by rw[get_put_ne (by omega)];exact gB) wL (by omega) h2 d1 d2,bL⟩
  have g1E:=(show AH.get (K1.put H2.length ⟨[I64 x.p,I64 x.n,I64 x.m,I64 x.k,.slice (some ⟨H4.length+1,0,none⟩) x.ps.length 27],26,false,true⟩) h.length=AH.get K1 h.length from get_put_ne (by omega)).trans g1
  ((try simp (maxSteps:=3000000) (dsimp:=false) (disch:=first|omega|simp only[lnx];omega) only[↓ypre,ypost,↓reduceIte,reduceEqDiff,reduceAdd,reduceSub,reduceLeDiff,zz0,ynew,f0,f2,f3,f5,f6,f7,f8,decide_eq_false hu,wr_of g3,splice_eq,rdn_put_same]);try simp only[yback])
  generalize AH.put K1 _ _=KE at *
  refine s_l01Bad (x:=wps x L) (lo:=H1.length) sE ⟨xb.1.p,xb.1.n,xb.1.m,xb.1.k,by unfold SmallX;show ((L.length:Nat):Int)≤_;rw[lL];exact xb.1.l⟩ (by have:=get_lt g1E;omega) sdE xb.2 (.inr ⟨_,_,_,rfl⟩) fun x' v' H8 k8 s8 sd' xb' nk'=>?_
  have g1:=k8.get (by omega) g1E
  have lg:=get_lt g1
  ((try simp (maxSteps:=3000000) (dsimp:=false) (disch:=first|omega|simp only[lnx];omega) only[↓ypre,ypost,↓reduceIte,reduceEqDiff,reduceAdd,reduceSub,reduceLeDiff,zz0,ynew,f0,f2,f3,f5,f6,f7,f8,schV,nk'.one,wr_of g1,splice_eq,rdn_put_same]);try simp only[yback])
  exact fin x' v' H8 (kE.trans k8) s8 sd' xb' nk'
theorem s_DrawWalkFlips {h:AH} {cv:Value} {code:List (List Int)} {Q:Value→AH→Prop} (c:Cod h cv code)
  (hQ:∀ (x:Sch) (v w:Value) (ns:List Int) (h':AH),h<+:h'→Prods h' v x.ps→SchB x→NK v→Ints h' w ns→ns.length≤1000→Q (.tuple #[schV x v,w]) h'):WF S 14 [cv] h Q:=by
 refine WF_fn (fn:=c14) rfl rfl ?_
 dsimp only[c14,oO,oM,oS,oG,oK,oE,oL,oF,oX,oN]
 ((try simp (maxSteps:=3000000) (dsimp:=false) (disch:=first|omega|simp only[lnx];omega) only[↓ypre,ypost,↓reduceIte,reduceEqDiff,reduceAdd,reduceSub,reduceLeDiff,zz0,ynew]);try simp only[yback])
 generalize hH1:AH.new h _=H1
 obtain⟨hb1,p1,n1⟩:=new_facts hH1
 refine s_l01From (c.els.pre p1) c.byt c.len fun H2 p2 l2 s2=>?_
 ((try simp (maxSteps:=3000000) (dsimp:=false) (disch:=first|omega|simp only[lnx];omega) only[↓ypre,ypost,↓reduceIte,reduceEqDiff,reduceAdd,reduceSub,reduceLeDiff,zz0,ynew]);try simp only[yback])
 refine s_l03Draw s2 fun x v H3 k3 s3 sd xb nk=>?_
 have g1:=k3.get (by omega) (pre_get p2 hb1)
 have k3l:=k3.len
 ((try simp (maxSteps:=3000000) (dsimp:=false) (disch:=first|omega|simp only[lnx];omega) only[↓ypre,ypost,↓reduceIte,reduceEqDiff,reduceAdd,reduceSub,reduceLeDiff,zz0,ynew,schV,nk.one,fillL,zrep]);try simp only[yback])
 generalize hH4:AH.new H3 _=H4
 obtain⟨g4,p4,n4⟩:=new_facts hH4
 generalize hH5:AH.new H4 _=H5
 obtain⟨g5,p5,n5⟩:=new_facts hH5
 have P5:=p4.trans p5
 have g1:=pre_get P5 g1
 have g4:=pre_get p5 g4
 have s5:=s3.kp P5
 have sd5:SchD H2.length H5 v x:=KN.pre sd P5
 have sl4:=s3.lt
 refine s_l01Next s5 fun r H6 k6 l6 s6 hr _=>?_
 have hr:=hr (by omega)
 have g1:=k6.get (by omega) g1
 have g4:=k6.get (by omega) g4
 have g5:=k6.get (by omega) g5
 refine WO_cut (fun f:Fr=>f 2=.pointer (some ⟨h.length,0,none⟩)∧f 4=srcP H1.length∧f 5=.pointer (some ⟨H4.length,0,none⟩)∧f 6=sl H3.length 0∧f 13=srcP H1.length∧f 15=I64 r∧True) ⟨(by first|rfl|simp[upd_apply]),(by first|rfl|simp[upd_apply]),(by first|rfl|simp[upd_apply]),(by first|rfl|simp[upd_apply]),(by first|rfl|simp[upd_apply]),(by first|rfl|simp[upd_apply]),trivial⟩ ?_
 rintro f ⟨f2,f4,f5,f6,f13,f15,-⟩
 ((try simp (maxSteps:=3000000) (dsimp:=false) (disch:=first|omega|simp only[lnx];omega) only[↓ypre,ypost,↓reduceIte,reduceEqDiff,reduceAdd,reduceSub,reduceLeDiff,zz0,ynew,f2,f4,f5,f6,f13,f15,fillL,zrep]);try simp only[yback])
 generalize hH7:AH.new H6 _=H7
 obtain⟨g7,p7,n7⟩:=new_facts hH7
 have s7:=s6.kp p7
 have lt7:=s6.lt
 have kv:=kp_new (n:=H1.length) (ns:=[0,1,2,5,r]) hH7 (by omega)
 refine s_l01Pick s7 kv (by simp) (by simp) fun j H8 k8 l8 s8 hj=>?_
 have bp:=pick_in (l:=[0,1,2,5,r]) (a:=0) (b:=40) (by simp;omega) hj
 generalize ([0,1,2,5,r]:List Int).getD j 0=M at bp
 obtain⟨M,rfl⟩:∃ m:Nat,M=m:=⟨M.toNat,by omega⟩
 have g1:=k8.get (by omega) (pre_get p7 g1)
 have g4:=k8.get (by omega) (pre_get p7 g4)
 have g5:=k8.get (by omega) (pre_get p7 g5)
 have kA:Kp H1.length H3 H8:=(Kp.of P5).trans (k6.trans ((Kp.of p7).trans k8))
 refine WO_cut (fun f:Fr=>f 2=.pointer (some ⟨h.length,0,none⟩)∧f 4=srcP H1.length∧f 5=.pointer (some ⟨H4.length,0,none⟩)∧f 6=sl H3.length 0∧f 17=I64 M∧True) ⟨(by first|rfl|exact f2|simp[upd_apply,f2]),(by first|rfl|exact f4|simp[upd_apply,f4]),(by first|rfl|exact f5|simp[upd_apply,f5]),(by first|rfl|exact f6|simp[upd_apply,f6]),(by first|rfl|simp[upd_apply]),trivial⟩ ?_
 rintro f ⟨f2,f4,f5,f6,f17,-⟩
 ((try simp (maxSteps:=3000000) (dsimp:=false) (disch:=first|omega|simp only[lnx];omega) only[↓ypre,ypost,↓reduceIte,reduceEqDiff,reduceAdd,reduceSub,reduceLeDiff,zz0,ynew,f2,f4,f5,f6,f17]);try simp only[yback])
 have f2':f 2=.pointer (some ⟨h.length,0,none⟩):=f2
 refine WC_loop_inv (fun m f K1=>∃ (i:Nat) (l:List Int) (b2:Nat) (fu:Bool),m=M-i∧i≤M∧f 2=.pointer (some ⟨h.length,0,none⟩)∧f 4=srcP H1.length∧f 5=.pointer (some ⟨H4.length,0,none⟩)∧f 6=sl b2 l.length∧f 7=I64 ((M-i:Nat):Int)∧(Src H1 K1 H1.length)∧(K1.get h.length=some ⟨_,_,false,true⟩)∧(K1.get H4.length=some ⟨[I64 x.p,I64 x.n,I64 x.m,I64 x.k,v],26,false,true⟩)∧((H3.length≤K1.length∧∀ m,H2.length≤m→m<H3.length→K1.get m=H3.get m))∧(Lst K1 b2 l fu)∧((H3.length≤b2∧b2≠H4.length))∧(l.length=i)) ?_ (M-0) _ _ ⟨0,[],H3.length,true,rfl,by omega,(by first|rfl|exact f2|(simp[upd_apply];done)),(by first|rfl|exact f4|(simp[upd_apply];done)),(by first|rfl|exact f5|(simp[upd_apply];done)),(by first|rfl|exact f6|(simp[upd_apply];done)),(by first|rfl|simp[upd_apply]),s8,g1,g5,⟨kA.len,fun m h1 h2=>kA.2 m h2 (by omega)⟩,g4,(by omega),rfl⟩
 rintro m f K1 ⟨i,l,b2,fu,rfl,hi,f2,f4,f5,f6,f7,ss,g1,g5,ag,q,hb,li⟩
 have l5K:=get_lt g5
 have l1K:=get_lt g1
 have lqK:=get_lt q
 by_cases hlt:((M-i:Nat):Int)>0
 ·((try simp (maxSteps:=3000000) (dsimp:=false) (disch:=first|omega|simp only[lnx];omega) only[↓ypre,ypost,↓reduceIte,reduceEqDiff,reduceAdd,reduceSub,reduceLeDiff,zz0,ynew,f2,f4,f5,f6,f7,decide_eq_true hlt]);try simp only[yback])
  refine s_l01Next ss fun y K2 k2' l2' s2' _ _=>?_
  have ltn:=ss.lt
  have g1:=k2'.get (by omega) g1
  have g5:=k2'.get (by omega) g5
  have q:Lst K2 b2 l fu:=k2'.get (by omega) q
  have ag2:∀ m,H2.length≤m→m<H3.length→K2.get m=H3.get m:=fun m h1 h2=>(k2'.2 m (by omega) (by omega)).trans (ag.2 m h1 h2)
  ((try simp (maxSteps:=3000000) (dsimp:=false) (disch:=first|omega|simp only[lnx];omega) only[↓ypre,ypost,↓reduceIte,reduceEqDiff,reduceAdd,reduceSub,reduceLeDiff,zz0,ynew,f2,f4,f5,f6,f7,fillL,zrep]);try simp only[yback])
  refine lst_app q (by omega) fun K3 l3' k3' q3=>?_
  have g1:=k3'.get (by omega) g1
  have g5:=k3'.get (by omega) g5
  ((try simp (maxSteps:=3000000) (dsimp:=false) (disch:=first|omega|simp only[lnx];omega) only[↓ypre,ypost,↓reduceIte,reduceEqDiff,reduceAdd,reduceSub,reduceLeDiff,zz0,ynew,f2,f4,f5,f6,f7,wrap64_in]);try simp only[yback])
  refine InvQ_go (M-(i+1)) (by omega) ⟨(i+1),(l++[y]),(K2.length+1),false,rfl,by omega,(by first|rfl|exact f2|(simp only[upd_apply];rfl)|(show I64 _=_;congr 1;omega)),(by first|rfl|exact f4|(simp only[upd_apply];rfl)|(show I64 _=_;congr 1;omega)),(by first|rfl|exact f5|(simp only[upd_apply];rfl)|(show I64 _=_;congr 1;omega)),(by first|rfl|exact f6|(simp only[upd_apply];rfl)|(show I64 _=_;congr 1;omega)),(by first|rfl|exact f7|(simp only[upd_apply];rfl)|(show I64 _=_;congr 1;omega)),(s2'.over k3' (by omega) (by omega)),g1,g5,⟨by omega,fun m h1 h2=>(k3'.2 m (by omega) (by omega)).trans (ag2 m h1 h2)⟩,q3,(by omega),(by rw[List.length_append,li];rfl)⟩
 ·((try simp (maxSteps:=3000000) (dsimp:=false) (disch:=first|omega|simp only[lnx];omega) only[↓ypre,ypost,↓reduceIte,reduceEqDiff,reduceAdd,reduceSub,reduceLeDiff,zz0,ynew,f2,f4,f5,f6,f7,decide_eq_false hlt]);try simp only[yback])
  refine s_l01Next ss fun y K2 k2' l2' s2' _ _=>?_
  have ltn:=ss.lt
  have g1:=k2'.get (by omega) g1
  have g5:=k2'.get (by omega) g5
  have q:Lst K2 b2 l fu:=k2'.get (by omega) q
  have ag2:∀ m,H2.length≤m→m<H3.length→K2.get m=H3.get m:=fun m h1 h2=>(k2'.2 m (by omega) (by omega)).trans (ag.2 m h1 h2)
  have l1K2:=get_lt g1
  have sd3:=sd
  by_cases y0:y=0
  ·((try simp (maxSteps:=3000000) (dsimp:=false) (disch:=first|omega|simp only[lnx];omega) only[↓ypre,ypost,↓reduceIte,reduceEqDiff,reduceAdd,reduceSub,reduceLeDiff,zz0,ynew,f2,f4,f5,f6,f7,decide_eq_true y0,fillL,zrep]);try simp only[yback])
   refine lst_app q (by omega) fun K3 l3' k3' q3=>?_
   have g1:=k3'.get (by omega) g1
   have g5:=k3'.get (by omega) g5
   have l1K3:=get_lt g1
   have ag3:∀ m,H2.length≤m→m<H3.length→K3.get m=H3.get m:=fun m h1 h2=>(k3'.2 m (by omega) (by omega)).trans (ag2 m h1 h2)
   ((try simp (maxSteps:=3000000) (dsimp:=false) (disch:=first|omega|simp only[lnx];omega) only[↓ypre,ypost,↓reduceIte,reduceEqDiff,reduceAdd,reduceSub,reduceLeDiff,zz0,ynew,f2,f4,f5,f6,f7,rdn_of g5,schV,nk.one,wr_of g1,splice_eq,rdn_put_same]);try simp only[yback])
   exact hQ x v _ (l++[-1]) _ (pre_put (p1.trans (s2'.over k3' (by omega) (by omega)).p) (Nat.le_refl _)) (sd _ (by rw[len_put];omega) fun m h1 h2=>by rw[get_put_ne (by omega)];exact ag3 m h1 h2) xb nk (Lst.ints (show Lst _ _ _ false from by unfold Lst;rw[get_put_ne (by omega)];exact q3)) (by rw[List.length_append];simp;omega)
  ·((try simp (maxSteps:=3000000) (dsimp:=false) (disch:=first|omega|simp only[lnx];omega) only[↓ypre,ypost,↓reduceIte,reduceEqDiff,reduceAdd,reduceSub,reduceLeDiff,zz0,ynew,f2,f4,f5,f6,f7,decide_eq_false y0,rdn_of g5,schV,nk.one,wr_of g1,splice_eq,rdn_put_same]);try simp only[yback])
   exact hQ x v _ l _ (pre_put (p1.trans s2'.p) (Nat.le_refl _)) (sd _ (by rw[len_put];omega) fun m h1 h2=>by rw[get_put_ne (by omega)];exact ag2 m h1 h2) xb nk (Lst.ints (show Lst _ _ _ fu from by unfold Lst;rw[get_put_ne (by omega)];exact q)) (by omega)
end Go.Proofs.Ytapafdpnmakekaa.X

set_option linter.unusedVariables false
set_option linter.unusedSimpArgs false
set_option maxRecDepth 20000
set_option maxHeartbeats 4000000
namespace Go.Proofs.Ytapafdpnmakekaa.X
open Go Go.RowKit
def coOK (t:Ten) (s:Int) (ns:List Int):Prop:=(0≤s∧s≤2)∧allIn t.p ns=true∧(ns.length:Int)=sideN t s.toNat
instance {t:Ten} {s:Int} {ns:List Int}:Decidable (coOK t s ns):=by unfold coOK;infer_instance
section
variable {x y:Sch} {i k r s:Int} {ns:List Int}
theorem tofX_eq (gx:GX x) (gy:GX y) (e:EqS x y):tofX x=tofX y:=by
 obtain⟨e1,e2,e3,e4⟩:=e.l
 have z:=(isX_sz gx.ok).1
 have z1:=z.nm
 have z2:=z.mk2
 have z3:=z.nk
 unfold tofX tenT
 rw[←e1,←e2,←e3,←e4]
 congr 1
 refine gen_congr fun n hn=>?_
 unfold tenG lsN
 generalize x.n*x.m=I at *
 generalize x.m*x.k=J at *
 generalize x.n*x.k=K at *
 have hn':(n:Int)<I*J*K:=by omega
 have q1:(n:Int) / K<I*J:=Int.ediv_lt_of_lt_mul (by omega) hn'
 have q2:(n:Int) / K / J<I:=Int.ediv_lt_of_lt_mul (by omega) q1
 have q3:0≤(n:Int) / K:=Int.ediv_nonneg (by omega) (by omega)
 have q4:0≤(n:Int) / K / J:=Int.ediv_nonneg q3 (by omega)
 have q5:=Int.emod_lt_of_pos ((n:Int) / K) (show 0<J by omega)
 have q6:=Int.emod_lt_of_pos (n:Int) (show 0<K by omega)
 have q7:=Int.emod_nonneg ((n:Int) / K) (show J≠0 by omega)
 have q8:=Int.emod_nonneg (n:Int) (show K≠0 by omega)
 rw[lsX_eq gx gy e (by omega) (by omega) (by omega)]
theorem wkR_of (hv:Wid 27 x.ps∧Byt 27 x.ps) (h:(wkR x ns).2=0):GX x∧wkOk ns=true∧(wkR x ns).1=wps x (walkL x.p x.ps ns)∧GX (wps x (walkL x.p x.ps ns))∧EqS x (wps x (walkL x.p x.ps ns)):=by
 unfold wkR at h ⊢
 by_cases hx:isX x=true
 ·rw[if_pos hx] at h ⊢
  by_cases ho:wkOk ns=true
  ·rw[if_pos ho]
   have g:GX x:=⟨hx,hv.1,hv.2⟩
   obtain⟨h1,h2⟩:=walk_ok g (wkOk_nn ho).2
   exact⟨g,ho,rfl,h1,h2⟩
  ·rw[if_neg ho] at h
   cases h
 ·rw[if_neg hx] at h
  cases h
theorem wps_small (g:GX y):SmallX y.ps:=by
 have:=(isX_sz g.ok).2
 unfold SmallX
 omega
theorem wkR_small (hv:Wid 27 x.ps∧Byt 27 x.ps):SmallX (wkR x ns).1.ps:=by
 have z:SmallX zeroS.ps:=by unfold SmallX zeroS;simp
 by_cases h:(wkR x ns).2=0
 ·obtain⟨_,_,e,g,_⟩:=wkR_of hv h
  rw[e]
  exact wps_small g
 ·unfold wkR at h ⊢
  split
  ·rename_i hx
   rw[if_pos hx] at h
   split
   ·rename_i ho
    rw[if_pos ho] at h
    exact absurd rfl h
   ·exact z
  ·exact z
theorem smallM_big {rows:List (List Int)} {c N:Nat} (h1:rows.length≤N) (h2:∀ r∈rows,r.length≤c) (h3:N*c≤1048576) (h4:N≤1048576) (h5:c≤1048576):SmallM rows:=by
 have g:∀ i,i<rows.length→(rows.getD i []).length≤c:=fun i hi=>h2 _ (by rw[List.getD_eq_getElem?_getD,List.getElem?_eq_getElem hi];exact List.getElem_mem hi)
 have t:∀ i,i≤rows.length→tot rows i≤((i*c:Nat):Int):=fun i=>by
  induction i with
  | zero=>intro _;simp
  | succ i ih=>
   intro hi
   have:=ih (by omega)
   have:=g i (by omega)
   rw[tot_succ (by omega),Nat.succ_mul]
   omega
 refine⟨by omega,fun i hi=>by have:=g i hi;omega,?_⟩
 have:=t rows.length (Nat.le_refl _)
 have:=Nat.mul_le_mul_right c h1
 omega
end
end Go.Proofs.Ytapafdpnmakekaa.X
