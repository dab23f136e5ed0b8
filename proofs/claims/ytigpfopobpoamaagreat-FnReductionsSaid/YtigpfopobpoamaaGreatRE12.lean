/- Texts of one claim, put together by merge.py: XBP, XBQ, XBD, XBE, XDE, XF36, XM1, XDH, XBF, XC7, XC8, XCA, XC9, XCB, XCC, XCD. -/
import Derived.Test.YtigpfopobpoamaaGreatRE11
import Derived.Test.YtigpfopobpoamaaGreatRE10
import Derived.Test.YtigpfopobpoamaaGreatRE9
import Derived.Test.YtigpfopobpoamaaGreatRE8
set_option linter.unusedVariables false
set_option linter.unusedSimpArgs false
set_option maxRecDepth 20000
set_option maxHeartbeats 4000000
namespace Go.Proofs.YtigpfopobpoamaaGreat.X
open Go Go.RowKit
open Nat (reduceEqDiff reduceAdd reduceSub reduceLeDiff)
theorem s_l03Step {x:Sch} {v:Value} {h:AH} {Q:Value→AH→Prop} (n:NL x x.ps) (hv:Prods h v x.ps)
  (hQ:∀ i k m w' h',h<+:h'→IsPair x.p x.ps i k m→KN h.length h' (fun h2=>Prods h2 w' (jn x.p x.ps i k m))→Q (.tuple #[schV (wps x (jn x.p x.ps i k m)) w',.bool true]) h')
  (hN:∀ h',h<+:h'→NoPair x.p x.ps→Q (.tuple #[schV x v,.bool false]) h'):WF S 75 [schV x v] h Q:=by
 refine WF_fn (fn:=c75) rfl rfl ?_
 dsimp only[c75,oO,oM,oS,oG,oK,oE,oL,oF,oX,oN]
 have o1:=hv.one
 obtain⟨hs,h30,hall⟩:=n.g.parts
 have hP:isP x.p=true:=szX_isP hs
 have h30:x.ps.length≤30:=h30
 have vl:=hv.1.len
 ((try simp (maxSteps:=3000000) (dsimp:=false) (disch:=first|omega|simp only[lnx];omega) only[↓ypre,ypost,↓reduceIte,reduceEqDiff,reduceAdd,reduceSub,reduceLeDiff,zz0,ynew,schV,o1]);try simp only[yback])
 generalize hH1:AH.new h _=H1
 obtain⟨hb1,p1,n1⟩:=new_facts hH1
 generalize hH2:AH.new H1 _=H2
 obtain⟨hb2,p2,n2⟩:=new_facts hH2
 have g1:=pre_get p2 hb1
 have P2:=p1.trans p2
 refine WC_loop_inv (fun m f K1=>∃ (i:Nat),m=x.ps.length-i∧i≤x.ps.length∧f 1=.pointer (some ⟨h.length,0,none⟩)∧f 2=.pointer (some ⟨H1.length,0,none⟩)∧f 4=I64 i∧(H2<+:K1)∧((∀ i' k',i'<i→i'<k'→k'<x.ps.length→mrg x.p (x.ps.getD i' []) (x.ps.getD k' [])=none))) ?_ (x.ps.length-0) _ _ ⟨0,rfl,by omega,(by first|rfl|simp[upd_apply]),(by first|rfl|simp[upd_apply]),(by first|rfl|simp[upd_apply]),List.prefix_refl _,(fun _ _ h=>absurd h (Nat.not_lt_zero _))⟩
 rintro m f K1 ⟨i,rfl,hi,f1,f2,f4,pp,no⟩
 have gx:=pre_get pp g1
 by_cases hi':(i:Int)<x.ps.length
 ·have hi:i<x.ps.length:=by omega
  have pi:Pr x.p (x.ps.getD i []):=n.g.pr (gd_mem hi)
  have a27:=pi.bb.1
  have q1:(i:Int)+1=((i+1:Nat):Int):=by push_cast;rfl
  have wi:IntKind.i64.wrap ((i:Int)+1)=((i+1:Nat):Int):=by rw[wrap64_in (by omega) (by omega),q1]
  ((try simp (maxSteps:=3000000) (dsimp:=false) (disch:=first|omega|simp only[lnx];omega) only[↓ypre,ypost,↓reduceIte,reduceEqDiff,reduceAdd,reduceSub,reduceLeDiff,zz0,ynew,f1,f2,f4,rd1_of gx,vl,decide_eq_true hi',wi]);try simp only[yback])
  refine WC_loop_inv (fun m f K2=>∃ (k:Nat),m=x.ps.length-k∧k≤x.ps.length∧f 1=.pointer (some ⟨h.length,0,none⟩)∧f 2=.pointer (some ⟨H1.length,0,none⟩)∧f 4=I64 i∧f 5=I64 k∧(K1<+:K2)∧(i<k)∧((∀ k',i<k'→k'<k→mrg x.p (x.ps.getD i []) (x.ps.getD k' [])=none))) ?_ (x.ps.length-(i+1)) _ _ ⟨(i+1),rfl,by omega,(by first|rfl|exact f1|(simp[upd_apply];done)),(by first|rfl|exact f2|(simp[upd_apply];done)),(by first|rfl|exact f4|(simp[upd_apply];done)),(by first|rfl|simp[upd_apply]),List.prefix_refl _,(by omega),(fun k' h1 h2=>by omega)⟩
  rintro m f K2 ⟨k,rfl,hk,f1,f2,f4,f5,pp2,ik,no2⟩
  have gx2:=pre_get pp2 gx
  have pp3:=P2.trans (pp.trans pp2)
  by_cases hk':(k:Int)<x.ps.length
  ·have hk:k<x.ps.length:=by omega
   obtain⟨nn,off,ix,rd⟩:=((hv.pre pp3).1).at hi
   obtain⟨nk,ok,ixk,rdk⟩:=((hv.pre pp3).1).at hk
   have pk:Pr x.p (x.ps.getD k []):=n.g.pr (gd_mem hk)
   have b27:=pk.bb.1
   have ra:AH.rdn K2 nn off 27=some (cel .u8 (x.ps.getD i [])):=by
    have:=rd.1 0 27 (by omega)
    rwa [Nat.add_zero,List.drop_zero,List.take_of_length_le (by omega)] at this
   have rk:AH.rdn K2 nk ok 27=some (cel .u8 (x.ps.getD k [])):=by
    have:=rdk.1 0 27 (by omega)
    rwa [Nat.add_zero,List.drop_zero,List.take_of_length_le (by omega)] at this
   ((try simp (maxSteps:=3000000) (dsimp:=false) (disch:=first|omega|simp only[lnx];omega) only[↓ypre,ypost,↓reduceIte,reduceEqDiff,reduceAdd,reduceSub,reduceLeDiff,zz0,ynew,f1,f2,f4,f5,rd1_of gx2,vl,decide_eq_true hk',ix,ra,ixk,rk]);try simp only[yback])
   refine s_l03Join hP pi pk (fun m K3 p3 hm=>?_) (fun K3 p3 hm=>?_)
   ·have ipair:IsPair x.p x.ps i k m:=⟨ik,hk,hm,fun i' k' h1 h2 h3=>by
     rcases h3 with h3|⟨rfl,h3⟩
     ·exact no i' k' h3 h1 h2
     ·exact no2 k' h1 h3⟩
    obtain⟨mb,mo,mz⟩:=pair_m n ipair
    have m27:=mb.1
    have tm27:(cel .u8 m).take 27=cel .u8 m:=List.take_of_length_le (by rw[cel_len,m27];exact Nat.le_refl _)
    ((try simp (maxSteps:=3000000) (dsimp:=false) (disch:=first|omega|simp only[lnx];omega) only[↓ypre,ypost,↓reduceIte,reduceEqDiff,reduceAdd,reduceSub,reduceLeDiff,zz0,ynew,f1,f2,f4,f5,aggV,cellsL_cel,cel_len,m27,cel_all]);try simp only[yback])
    generalize hJ2:AH.new K3 _=J2
    obtain⟨b2,s2,m2⟩:=new_facts hJ2
    have gx3:=pre_get (p3.trans s2) gx2
    have pp4:=pp3.trans (p3.trans s2)
    have hvJ:=(hv.pre pp4).1
    have w27:Wid 27 x.ps:=hvJ.widL
    obtain⟨b,off',rfl,hrd⟩:=hvJ.rdAll (by omega)
    have s1:slcV 27 (.slice (some ⟨b,off',none⟩) x.ps.length 27) none (some (I64 k))=some (.slice (some ⟨b,off',none⟩) k 27):=by
     simp only[slcV,boundV]
     rw[if_pos ⟨trivial,by omega,by omega,by omega⟩]
     simp
    obtain⟨w2,s3,e2⟩:∃ w2,slcV 27 (.slice (some ⟨b,off',none⟩) x.ps.length 27) (some (I64 ((k+1:Nat):Int))) none=some w2∧RdE J2 w2 (x.ps.drop (k+1)):=by
     by_cases h1:k+1<x.ps.length
     ·refine⟨.slice (some ⟨b,off'+(k+1)*27,none⟩) (x.ps.length-(k+1)) 27,?_,.inr ⟨b,off'+(k+1)*27,by rw[List.length_drop],?_⟩⟩
      ·simp only[slcV,boundV]
       rw[if_pos ⟨trivial,by omega,by omega,by omega⟩,Int.toNat_natCast,show ((x.ps.length:Int)-((k+1:Nat):Int)).toNat=x.ps.length-(k+1) by omega]
      ·have:=rdn_sub w27 hrd (j:=k+1) (m:=x.ps.length-(k+1)) (by omega)
       rw[List.take_of_length_le (by rw[List.length_drop];exact Nat.le_refl _)] at this
       rw[List.length_drop]
       exact this
     ·refine⟨.slice none 0 1,?_,.inl ⟨List.drop_of_length_le (by omega),1,rfl⟩⟩
      simp only[slcV,boundV]
      rw[if_neg (fun x=>by have:=x.2.2.1;omega),if_neg (fun x=>by have:=x.2.1;cases this),if_pos ⟨trivial,by omega,by omega,by omega⟩]
    have lt:(x.ps.take k).length=k:=by rw[List.length_take];omega
    have e1:RdE J2 (.slice (some ⟨b,off',none⟩) k 27) (x.ps.take k):=by
     have:=rdn_sub w27 hrd (j:=0) (m:=k) (by omega)
     rw[Nat.zero_mul,Nat.add_zero,List.drop_zero] at this
     exact .inr ⟨b,off',by rw[lt],by rw[lt];exact this⟩
    have q1:(k:Int)+1=((k+1:Nat):Int):=by push_cast;rfl
    have wk:IntKind.i64.wrap ((k:Int)+1)=((k+1:Nat):Int):=by rw[wrap64_in (by omega) (by omega),q1]
    generalize hJ3:AH.new J2 _=J3
    obtain⟨b3,s3',m3⟩:=new_facts hJ3
    have o2:OwnP J2.length J3 (.slice (some ⟨J2.length,0,none⟩) 0 27) []:=⟨fun q hq=>by simp at hq,.inr ⟨_,true,rfl,Nat.le_refl _,b3⟩⟩
    ((try simp (maxSteps:=3000000) (dsimp:=false) (disch:=first|omega|simp only[lnx];omega) only[↓ypre,ypost,↓reduceIte,reduceEqDiff,reduceAdd,reduceSub,reduceLeDiff,zz0,ynew,f1,f2,f4,f5,rd1_of (pre_get s3' gx3),omapF_none,omapF_some,s1]);try simp only[yback])
    refine o2.appR (e1.pre s3') (fun q hq=>w27 q (List.mem_of_mem_take hq)) (by rw[lt];simp only[List.length_nil];omega) (pre_len s3') fun sv1 J3b p5' o3=>?_
    have p5:J2<+:J3b:=p5' _ (Nat.le_refl _) s3'
    rw[List.nil_append] at o3
    have gx3:=pre_get p5 gx3
    ((try simp (maxSteps:=3000000) (dsimp:=false) (disch:=first|omega|simp only[lnx];omega) only[↓ypre,ypost,↓reduceIte,reduceEqDiff,reduceAdd,reduceSub,reduceLeDiff,zz0,ynew,f1,f2,f4,f5,rd1_of gx3,wk,omapF_none,omapF_some,s3]);try simp only[yback])
    refine o3.appR (e2.pre p5) (fun q hq=>w27 q (List.mem_of_mem_drop hq)) (by rw[lt,List.length_drop];omega) (pre_len p5) fun sv2 J4 p6' o4=>?_
    have p6:J2<+:J4:=p6' _ (Nat.le_refl _) p5
    have o4:OwnP J2.length J4 sv2 (rmv x.ps k):=o4
    have lr:=rmv_len hk
    have bR:Byt 27 (rmv x.ps k):=(byt_iff o4.1).2 fun q hq=>(hall q (rmv_mem hq)).1
    obtain⟨wR,⟨-,e0⟩|⟨kb,fu,rfl,hkb,gkb⟩⟩:=o4
    ·have:=congrArg List.length e0
     simp only[List.length_nil] at this
     omega
    have ie:ixsV 27 (.slice (some ⟨kb,0,none⟩) (rmv x.ps k).length 27) (I64 i)=some (.pointer (some ⟨kb,i*27,none⟩)):=by
     rw[ixsV_some,if_pos (by omega),Int.toNat_natCast,Nat.zero_add]
    have sf:=splice_flat (k:=.u8) m27 wR (j:=i) (by omega)
    have fl:=flat_len wR
    have w3:AH.wr J4 kb (i*27) (cel .u8 m)=_:=wr_of gkb
    simp only[cel_len,m27,fl,sf] at w3
    rw[if_pos ⟨trivial,by omega⟩] at w3
    have b24:=pre_get p6 b2
    ((try simp (maxSteps:=3000000) (dsimp:=false) (disch:=first|omega|simp only[lnx];omega) only[↓ypre,ypost,↓reduceIte,reduceEqDiff,reduceAdd,reduceSub,reduceLeDiff,zz0,ynew,f1,f2,f4,f5,rdn_of b24,cel_len,m27,tm27,cel_all,ie,w3]);try simp only[yback])
    generalize hJ5:AH.put J4 _ _=J5
    have lkb:=get_lt gkb
    have P5:J2<+:J5:=by rw[←hJ5];exact pre_put p6 hkb
    have o5:OwnP J2.length J5 (.slice (some ⟨kb,0,none⟩) (rmv x.ps k).length 27) ((rmv x.ps k).set i m):=⟨wid_set wR m27,.inr ⟨kb,fu,by rw[List.length_set],hkb,by rw[←hJ5];exact get_put_same lkb⟩⟩
    have gx5:=pre_get P5 (pre_get s2 (pre_get p3 gx2))
    have gr5:=pre_get P5 (pre_get s2 (pre_get p3 (pre_get pp2 (pre_get pp hb2))))
    ((try simp (maxSteps:=3000000) (dsimp:=false) (disch:=first|omega|simp only[lnx];omega) only[↓ypre,ypost,↓reduceIte,reduceEqDiff,reduceAdd,reduceSub,reduceLeDiff,zz0,ynew,f1,f2,f4,f5,rdn_of gx5]);try simp only[yback])
    refine s_l03Told (x:=x) rfl (o5.prods (byt_setq bR mb)) (by rw[List.length_set];omega) fun w4 J6 p7 k6=>?_
    ((try simp (maxSteps:=3000000) (dsimp:=false) (disch:=first|omega|simp only[lnx];omega) only[↓ypre,ypost,↓reduceIte,reduceEqDiff,reduceAdd,reduceSub,reduceLeDiff,zz0,ynew,f1,f2,f4,f5]);try simp only[yback])
    refine s_l03AllNormal (x:=wps x (toldL ((rmv x.ps k).set i m))) (gx_told n ipair) k6.now fun w5 J7 p8 k7=>?_
    have gr7:=pre_get (p7.trans p8) gr5
    have lr7:=get_lt gr7
    have k7:KN J6.length J7 (fun h2=>Prods h2 w5 (jn x.p x.ps i k m)):=by rw[←told_jn n ipair];exact k7
    have et:wps (wps x (toldL ((rmv x.ps k).set i m))) (nrms x.p (toldL ((rmv x.ps k).set i m)))=wps x (jn x.p x.ps i k m):=by rw[told_jn n ipair]
    have q57:H2.length≤J6.length:=by have:=pre_len (pp.trans (pp2.trans (p3.trans (s2.trans (P5.trans p7)))));omega
    ((try simp (maxSteps:=3000000) (dsimp:=false) (disch:=first|omega|simp only[lnx];omega) only[↓ypre,ypost,↓reduceIte,reduceEqDiff,reduceAdd,reduceSub,reduceLeDiff,zz0,ynew,f1,f2,f4,f5,schV,k7.now.one,wr_of gr7,splice_eq,rdn_put_same]);try simp only[yback])
    exact hQ i k m w5 _ (pre_put (pp4.trans (P5.trans (p7.trans p8))) (by omega)) ipair ((KN.put k7 (by omega)).mono (by omega))
   ·((try simp (maxSteps:=3000000) (dsimp:=false) (disch:=first|omega|simp only[lnx];omega) only[↓ypre,ypost,↓reduceIte,reduceEqDiff,reduceAdd,reduceSub,reduceLeDiff,zz0,ynew,f1,f2,f4,f5,aggV,cellsL_cel,cel_len,List.length_replicate,cel_all,wrap64_in]);try simp only[yback])
    refine InvQ_go (x.ps.length-(k+1)) (by omega) ⟨(k+1),rfl,by omega,(by first|rfl|exact f1|(simp only[upd_apply];rfl)|(show I64 _=_;congr 1;omega)),(by first|rfl|exact f2|(simp only[upd_apply];rfl)|(show I64 _=_;congr 1;omega)),(by first|rfl|exact f4|(simp only[upd_apply];rfl)|(show I64 _=_;congr 1;omega)),(by first|rfl|exact f5|(simp only[upd_apply];rfl)|(show I64 _=_;congr 1;omega)),(pp2.trans (p3.trans (pre_new (List.prefix_refl _)))),(by omega),?_⟩
    intro k' h1 h2
    by_cases h3:k'<k
    ·exact no2 k' h1 h3
    ·have:k'=k:=by omega
     rw[this]
     exact hm
  ·skip
   ((try simp (maxSteps:=3000000) (dsimp:=false) (disch:=first|omega|simp only[lnx];omega) only[↓ypre,ypost,↓reduceIte,reduceEqDiff,reduceAdd,reduceSub,reduceLeDiff,zz0,ynew,f1,f2,f4,f5,rd1_of gx2,vl,decide_eq_false hk',wrap64_in]);try simp only[yback])
   refine InvQ_go (x.ps.length-(i+1)) (by omega) ⟨(i+1),rfl,by omega,(by first|rfl|exact f1|(simp only[upd_apply];rfl)|(show I64 _=_;congr 1;omega)),(by first|rfl|exact f2|(simp only[upd_apply];rfl)|(show I64 _=_;congr 1;omega)),(by first|rfl|exact f4|(simp only[upd_apply];rfl)|(show I64 _=_;congr 1;omega)),(pp.trans pp2),?_⟩
   intro i' k' h1 h2 h3
   by_cases h4:i'<i
   ·exact no i' k' h4 h2 h3
   ·have:i'=i:=by omega
    subst this
    exact no2 k' h2 (by omega)
 ·skip
  have gr:=pre_get pp hb2
  have lr:=get_lt gr
  ((try simp (maxSteps:=3000000) (dsimp:=false) (disch:=first|omega|simp only[lnx];omega) only[↓ypre,ypost,↓reduceIte,reduceEqDiff,reduceAdd,reduceSub,reduceLeDiff,zz0,ynew,f1,f2,f4,rd1_of gx,vl,decide_eq_false hi',rdn_of gx,wr_of gr,splice_eq,rdn_put_same,o1]);try simp only[yback])
  exact hN _ (pre_put (P2.trans pp) (by omega)) fun i' k' h1 h2=>no i' k' (by omega) h1 h2
theorem s_l03Reduce {x:Sch} {v:Value} {h:AH} {Q:Value→AH→Prop} (g:GX x) (hv:Prods h v x.ps) (hQ:∀ w h',h<+:h'→KN h.length h' (fun h2=>Prods h2 w (redX x).ps)→Q (schV (redX x) w) h'):WF S 31 [schV x v] h Q:=by
 refine WF_fn (fn:=c31) rfl rfl ?_
 dsimp only[c31,oO,oM,oS,oG,oK,oE,oL,oF,oX,oN]
 have o1:=hv.one
 ((try simp (maxSteps:=3000000) (dsimp:=false) (disch:=first|omega|simp only[lnx];omega) only[↓ypre,ypost,↓reduceIte,reduceEqDiff,reduceAdd,reduceSub,reduceLeDiff,zz0,ynew,schV,o1]);try simp only[yback])
 generalize hH1:AH.new h _=H1
 obtain⟨hb1,p1,n1⟩:=new_facts hH1
 generalize hH2:AH.new H1 _=H2
 obtain⟨hb2,p2,n2⟩:=new_facts hH2
 have g1:=pre_get p2 hb1
 ((try simp (maxSteps:=3000000) (dsimp:=false) (disch:=first|omega|simp only[lnx];omega) only[↓ypre,ypost,↓reduceIte,reduceEqDiff,reduceAdd,reduceSub,reduceLeDiff,zz0,ynew,rdn_of g1]);try simp only[yback])
 refine s_l03AllNormal (x:=x) g (hv.pre (p1.trans p2)) fun w0 H3 p3 k3=>?_
 obtain⟨nl,-⟩:=nrms_NL g
 ((try simp (maxSteps:=3000000) (dsimp:=false) (disch:=first|omega|simp only[lnx];omega) only[↓ypre,ypost,↓reduceIte,reduceEqDiff,reduceAdd,reduceSub,reduceLeDiff,zz0,ynew,schV,k3.now.one]);try simp only[yback])
 generalize hH4:AH.new H3 _=H4
 obtain⟨hb4,p4,n4⟩:=new_facts hH4
 have g2:=pre_get p3 hb2
 have q3:=pre_len p3
 have P3:h<+:H3:=p1.trans (p2.trans p3)
 have kx:KX H2.length H3.length H4 fun h2=>Prods h2 w0 (nrms x.p x.ps):=by rw[←hH4];exact KX.new (k3.mono (Nat.le_refl _)) rfl
 refine WC_loop_inv (fun m f K=>∃ (L:List (List Int)) (vv:Value) (ag:Bool),m=(if ag=true then L.length+1 else 0)∧f 2=.pointer (some ⟨H1.length,0,none⟩)∧f 3=.pointer (some ⟨H3.length,0,none⟩)∧f 4=.bool ag∧H3<+:K∧H4.length≤K.length∧OwnB K H3.length [I64 x.p,I64 x.n,I64 x.m,I64 x.k,vv] true∧KX H2.length H3.length K (fun h2=>Prods h2 vv L)∧NL x L∧Red x.p L (redL x.p (nrms x.p x.ps))∧(ag=false→L=redL x.p (nrms x.p x.ps))) ?_ ((nrms x.p x.ps).length+1) _ _ ⟨nrms x.p x.ps,w0,true,rfl,rfl,rfl,rfl,p4,Nat.le_refl _,⟨_,hb4⟩,kx,nl,redL_red,fun h=>by cases h⟩
 rintro m f K ⟨L,vv,ag,rfl,f2,f3,f4,pp,lK,⟨e3,b3⟩,kx,nL,rL,eL⟩
 have gK2:=pre_get pp g2
 have l3:=get_lt b3
 have pv:=kx.now
 cases ag with
 | true=>
  ((try simp (maxSteps:=3000000) (dsimp:=false) (disch:=first|omega|simp only[lnx];omega) only[↓ypre,ypost,↓reduceIte,reduceEqDiff,reduceAdd,reduceSub,reduceLeDiff,zz0,ynew,f2,f3,f4,rdn_of b3]);try simp only[yback])
  refine s_l03Step (x:=wps x L) ⟨nL.g,nL.n⟩ pv (fun i k m' w' K2 p5 ip k5=>?_) (fun K2 p5 np=>?_)
  ·have hln:(jn x.p L i k m').length<L.length:=jn_len ip.kl ip.ik
   ((try simp (maxSteps:=3000000) (dsimp:=false) (disch:=first|omega|simp only[lnx];omega) only[↓ypre,ypost,↓reduceIte,reduceEqDiff,reduceAdd,reduceSub,reduceLeDiff,zz0,ynew,f2,f3,f4,schV,k5.now.one]);try simp only[yback])
   generalize hK3:AH.new K2 _=K3
   obtain⟨c5,p6,n6⟩:=new_facts hK3
   have b3':=pre_get (p5.trans p6) b3
   have l5:=pre_len p5
   have l6:=pre_len p6
   have kz:KX H2.length H3.length K3 (fun h2=>Prods h2 w' (jn x.p L i k m')):=KX.of (k5.pre p6) (by omega) (by have:=pre_len pp;omega)
   ((try simp (maxSteps:=3000000) (dsimp:=false) (disch:=first|omega|simp only[lnx];omega) only[↓ypre,ypost,↓reduceIte,reduceEqDiff,reduceAdd,reduceSub,reduceLeDiff,zz0,ynew,f2,f3,f4,rdn_of c5,wr_of b3',splice_eq]);try simp only[yback])
   refine InvQ_go ((jn x.p L i k m').length+1) (by show (jn x.p L i k m').length+1<L.length+1;omega) ⟨jn x.p L i k m',w',true,rfl,f2,f3,rfl,pre_put (pp.trans (p5.trans p6)) (Nat.le_refl _),by rw[len_put];omega,⟨_,get_put_same (get_lt b3')⟩,kz.put (.inr rfl),(jn_NL nL ip).1,rL.next ip,fun h=>by cases h⟩
  ·((try simp (maxSteps:=3000000) (dsimp:=false) (disch:=first|omega|simp only[lnx];omega) only[↓ypre,ypost,↓reduceIte,reduceEqDiff,reduceAdd,reduceSub,reduceLeDiff,zz0,ynew,f2,f3,f4,schV,pv.one]);try simp only[yback])
   generalize hK3:AH.new K2 _=K3
   obtain⟨c5,p6,n6⟩:=new_facts hK3
   have b3':=pre_get (p5.trans p6) b3
   have l5:=pre_len p5
   have l6:=pre_len p6
   ((try simp (maxSteps:=3000000) (dsimp:=false) (disch:=first|omega|simp only[lnx];omega) only[↓ypre,ypost,↓reduceIte,reduceEqDiff,reduceAdd,reduceSub,reduceLeDiff,zz0,ynew,f2,f3,f4,rdn_of c5,wr_of b3',splice_eq]);try simp only[yback])
   refine InvQ_go 0 (by omega) ⟨L,vv,false,rfl,f2,f3,rfl,pre_put (pp.trans (p5.trans p6)) (Nat.le_refl _),by rw[len_put];omega,⟨_,get_put_same (get_lt b3')⟩,(kx.pre (p5.trans p6)).put (.inr rfl),nL,rL,fun _=>(rL.end np).symm⟩
 | false=>
  have eR:=eL rfl
  subst eR
  have l2:=get_lt gK2
  ((try simp (maxSteps:=3000000) (dsimp:=false) (disch:=first|omega|simp only[lnx];omega) only[↓ypre,ypost,↓reduceIte,reduceEqDiff,reduceAdd,reduceSub,reduceLeDiff,zz0,ynew,f2,f3,f4,rdn_of b3,wr_of gK2,splice_eq,rdn_put_same,pv.one]);try simp only[yback])
  exact hQ vv _ (pre_put (P3.trans pp) (by omega)) ((KX.kN (kx.put (.inl (by omega)))).mono (by omega))
theorem s_ReduceScheme {x:Sch} {v:Value} {h:AH} {Q:Value→AH→Prop} (hv:Prods h v x.ps) (hl:SmallX x.ps)
  (hQ:∀ w h',h<+:h'→KN h.length h' (fun h2=>Prods h2 w (rdR x).1.ps)→Q (.tuple #[schV (rdR x).1 w,I64 (rdR x).2]) h'):WF S 7 [schV x v] h Q:=by
 refine WF_fn (fn:=c7) rfl rfl ?_
 dsimp only[c7,oO,oM,oS,oG,oK,oE,oL,oF,oX,oN]
 have o1:=hv.one
 ((try simp (maxSteps:=3000000) (dsimp:=false) (disch:=first|omega|simp only[lnx];omega) only[↓ypre,ypost,↓reduceIte,reduceEqDiff,reduceAdd,reduceSub,reduceLeDiff,zz0,ynew,schV,o1]);try simp only[yback])
 generalize hH1:AH.new h _=H1
 obtain⟨hb1,p1,n1⟩:=new_facts hH1
 generalize hH2:AH.new H1 _=H2
 obtain⟨hb2,p2,n2⟩:=new_facts hH2
 have g1:=pre_get p2 hb1
 ((try simp (maxSteps:=3000000) (dsimp:=false) (disch:=first|omega|simp only[lnx];omega) only[↓ypre,ypost,↓reduceIte,reduceEqDiff,reduceAdd,reduceSub,reduceLeDiff,zz0,ynew,rdn_of g1]);try simp only[yback])
 refine s_l01Is (x:=x) (hv.pre (p1.trans p2)) hl fun H3 p3=>?_
 have g1:=pre_get p3 g1
 have g2:=pre_get p3 hb2
 have l2:=get_lt g2
 have P3:=p1.trans (p2.trans p3)
 have q3:=pre_len p3
 unfold rdR at hQ
 cases hx:isX x with
 | false=>
  rw[hx] at hQ
  ((try simp (maxSteps:=3000000) (dsimp:=false) (disch:=first|omega|simp only[lnx];omega) only[↓ypre,ypost,↓reduceIte,reduceEqDiff,reduceAdd,reduceSub,reduceLeDiff,zz0,ynew,fillL,wr_of g2,splice_eq,rdn_put_same]);try simp only[yback])
  exact hQ _ _ (pre_put P3 (by omega)) zeroS_kn
 | true=>
 rw[hx] at hQ
 simp only[if_true] at hQ
 have g:=GX.of' hv hx
 ((try simp (maxSteps:=3000000) (dsimp:=false) (disch:=first|omega|simp only[lnx];omega) only[↓ypre,ypost,↓reduceIte,reduceEqDiff,reduceAdd,reduceSub,reduceLeDiff,zz0,ynew,rdn_of g1]);try simp only[yback])
 refine s_l03Reduce (x:=x) g (hv.pre P3) fun w0 H4 p4 k4=>?_
 have g2:=pre_get p4 g2
 have l2:=get_lt g2
 ((try simp (maxSteps:=3000000) (dsimp:=false) (disch:=first|omega|simp only[lnx];omega) only[↓ypre,ypost,↓reduceIte,reduceEqDiff,reduceAdd,reduceSub,reduceLeDiff,zz0,ynew,schV,k4.now.one,wr_of g2,splice_eq,rdn_put_same]);try simp only[yback])
 exact hQ w0 _ (pre_put (P3.trans p4) (by omega)) ((KN.put k4 (by omega)).mono (by omega))
end Go.Proofs.YtigpfopobpoamaaGreat.X

set_option linter.unusedVariables false
set_option linter.unusedSimpArgs false
set_option maxRecDepth 20000
set_option maxHeartbeats 4000000
namespace Go.Proofs.YtigpfopobpoamaaGreat.X
open Go Go.RowKit
def JrQ (I:Fr→AH→Prop) (Q:XE→Fr→AH→Prop):XE→Fr→AH→Prop
 | .normal,f,h=>I f h
 | .exit id,f,h=>Q (.exit id) f h
 | .ret,f,h=>Q .ret f h
theorem JrQ_r {I:Fr→AH→Prop} {Q:XE→Fr→AH→Prop} {f:Fr} {h:AH}:JrQ I Q .ret f h=Q .ret f h:=rfl
theorem WO_joinR {S:XS} {ops:List XI} {a b:IR} {f:Fr} {h:AH} {Q:XE→Fr→AH→Prop} (I:Fr→AH→Prop) (w:WO S ops f h (RegQ (SeqQ S a (JrQ I Q)))) (hb:∀ f h,I f h→WC S b f h Q):WO S ops f h (RegQ (SeqQ S a (SeqQ S b Q))):=by
 refine w.mono fun f1 h1 q=>?_
 refine WC.mono q fun e f2 h2 q2=>?_
 cases e with
 | normal=>exact hb f2 h2 q2
 | exit id=>exact q2
 | ret=>exact q2
theorem WO_mono' {S:XS} {A REST:IR} {f:Fr} {h:AH} {R:XE→Fr→AH→Prop} (I:Fr→AH→Prop) (w:WC S A f h (JnQ I)) (hr:∀ f h,I f h→WC S REST f h R):WC S A f h (SeqQ S REST R):=
 WC.mono w fun e f2 h2 q2=>by
  cases e with
  | normal=>exact hr f2 h2 q2
  | exit id=>exact q2.elim
  | ret=>exact q2.elim
def coOK (t:Ten) (s:Int) (ns:List Int):Prop:=(0≤s∧s≤2)∧allIn t.p ns=true∧(ns.length:Int)=sideN t s.toNat
instance {t:Ten} {s:Int} {ns:List Int}:Decidable (coOK t s ns):=by unfold coOK;infer_instance
theorem WO_join2 {S:XS} {ops:List XI} {a b REST:IR} {f:Fr} {h:AH} {R:XE→Fr→AH→Prop} (I:Fr→AH→Prop) (w:WO S ops f h (RegQ (SeqQ S a (SeqQ S b (JnQ I))))) (hr:∀ f h,I f h→WC S REST f h R) :
  WO S ops f h (RegQ (SeqQ S a (SeqQ S (.seq b REST) R))):=by
 refine w.mono fun f1 h1 q=>?_
 refine WC.mono q fun e f2 h2 q2=>?_
 cases e with
 | normal=>
  show WC S (.seq b REST) f2 h2 R
  rw[WC_seq]
  exact WO_mono' I q2 hr
 | exit id=>exact q2.elim
 | ret=>exact q2.elim
end Go.Proofs.YtigpfopobpoamaaGreat.X

set_option linter.unusedVariables false
set_option linter.unusedSimpArgs false
set_option maxRecDepth 20000
set_option maxHeartbeats 4000000
namespace Go.Proofs.YtigpfopobpoamaaGreat.X
open Go Go.RowKit
open Nat (reduceEqDiff reduceAdd reduceSub reduceLeDiff)
theorem l_schemes5 {v w:Value} {x:Sch} {h:AH} {Q:Value→AH→Prop} (hv:Prods h v x.ps) (hw:Prods h w x.ps) (hl:SmallX x.ps)
  (hQ:∀ h',h<+:h'→Q (.bool true) h'):WF S 8 [schV x v,schV x w] h Q:=by
 refine WF_fn (fn:=c8) rfl rfl ?_
 dsimp only[c8,oO,oM,oS,oG,oK,oE,oL,oF,oX,oN]
 unfold SmallX at hl
 ((try simp (maxSteps:=3000000) (dsimp:=false) (disch:=first|omega|simp only[lnx];omega) only[↓ypre,ypost,↓reduceIte,reduceEqDiff,reduceAdd,reduceSub,reduceLeDiff,zz0,ynew,schV,hv.one,hw.one]);try simp only[yback])
 generalize hH1:AH.new h _=H1
 obtain⟨hb1,p1,n1⟩:=new_facts hH1
 generalize hH2:AH.new H1 _=H2
 obtain⟨hb2,p2,n2⟩:=new_facts hH2
 have hb1:=pre_get p2 hb1
 have r:∀ a:Int,decide (a≠a)=false:=fun a=>decide_eq_false (fun h=>h rfl)
 have vl:=hv.1.len
 have wl:=hw.1.len
 ((try simp (maxSteps:=3000000) (dsimp:=false) (disch:=first|omega|simp only[lnx];omega) only[↓ypre,ypost,↓reduceIte,reduceEqDiff,reduceAdd,reduceSub,reduceLeDiff,zz0,ynew,rd1_of hb1,rd1_of hb2,r,vl,wl]);try simp only[yback])
 refine WC_loop_inv (fun m f K1=>∃ (i:Nat),m=x.ps.length-i∧i≤x.ps.length∧f 2=.pointer (some ⟨h.length,0,none⟩)∧f 3=.pointer (some ⟨H1.length,0,none⟩)∧f 5=I64 i∧K1=H2) ?_ (x.ps.length-0) _ _ ⟨0,rfl,by omega,(by first|rfl|simp[upd_apply]),(by first|rfl|simp[upd_apply]),(by first|rfl|simp[upd_apply]),rfl⟩
 rintro m f K1 ⟨i,rfl,hi,f2,f3,f5,rfl⟩
 by_cases hlt:(i:Int)<x.ps.length
 ·obtain⟨n1',o1,ix1,rd1⟩:=((hv.pre (p1.trans p2)).1).at (i:=i) (by omega)
  obtain⟨n2',o2,ix2,rd2⟩:=((hw.pre (p1.trans p2)).1).at (i:=i) (by omega)
  have b27:=(hv.by (i:=i) (by omega)).1
  have r1:=rd1.1 0 27 (by omega)
  have r2:=rd2.1 0 27 (by omega)
  rw[Nat.add_zero,List.drop_zero,List.take_of_length_le (by omega)] at r1 r2
  have e:=eqaV_ceT (k:=.u8) b27 b27 (by omega)
  rw[show (x.ps.getD i []==x.ps.getD i [])=true by simp] at e
  ((try simp (maxSteps:=3000000) (dsimp:=false) (disch:=first|omega|simp only[lnx];omega) only[↓ypre,ypost,↓reduceIte,reduceEqDiff,reduceAdd,reduceSub,reduceLeDiff,zz0,ynew,f2,f3,f5,rd1_of hb1,rd1_of hb2,vl,decide_eq_true hlt,ix1,ix2,r1,r2,e,Bool.not_true,wrap64_in]);try simp only[yback])
  refine InvQ_go (x.ps.length-(i+1)) (by omega) ⟨(i+1),rfl,by omega,(by first|rfl|exact f2|(simp only[upd_apply];rfl)|(show I64 _=_;congr 1;omega)),(by first|rfl|exact f3|(simp only[upd_apply];rfl)|(show I64 _=_;congr 1;omega)),(by first|rfl|exact f5|(simp only[upd_apply];rfl)|(show I64 _=_;congr 1;omega)),rfl⟩
 ·((try simp (maxSteps:=3000000) (dsimp:=false) (disch:=first|omega|simp only[lnx];omega) only[↓ypre,ypost,↓reduceIte,reduceEqDiff,reduceAdd,reduceSub,reduceLeDiff,zz0,ynew,f2,f3,f5,rd1_of hb1,vl,decide_eq_false hlt]);try simp only[yback])
  exact hQ _ (p1.trans p2)
section
variable {x y:Sch} {i k r s:Int} {ns:List Int}
theorem tofX_eq (gx:GX x) (gy:GX y) (e:EqS x y):tofX x=tofX y:=by
 obtain⟨e1,e2,e3,e4⟩:=e.l
 have z:=(isX_sz gx.ok).1
 have z1:=z.nm
 have z2:=z.mk2
 have z3:=z.nk
 unfold tofX tenT
 rw[←e1,←e2,←e3,←e4]
 congr 1
 refine gen_congr fun n hn=>?_
 unfold tenG lsN
 generalize x.n*x.m=I at *
 generalize x.m*x.k=J at *
 generalize x.n*x.k=K at *
 have hn':(n:Int)<I*J*K:=by omega
 have q1:(n:Int) / K<I*J:=Int.ediv_lt_of_lt_mul (by omega) hn'
 have q2:(n:Int) / K / J<I:=Int.ediv_lt_of_lt_mul (by omega) q1
 have q3:0≤(n:Int) / K:=Int.ediv_nonneg (by omega) (by omega)
 have q4:0≤(n:Int) / K / J:=Int.ediv_nonneg q3 (by omega)
 have q5:=Int.emod_lt_of_pos ((n:Int) / K) (show 0<J by omega)
 have q6:=Int.emod_lt_of_pos (n:Int) (show 0<K by omega)
 have q7:=Int.emod_nonneg ((n:Int) / K) (show J≠0 by omega)
 have q8:=Int.emod_nonneg (n:Int) (show K≠0 by omega)
 rw[lsX_eq gx gy e (by omega) (by omega) (by omega)]
theorem heR_true (gx:GX x) (gy:GX y) (e:EqS x y):heR x y=(true,0):=by
 have hc:likeC x y=0:=by
  unfold likeC
  rw[if_pos ⟨gx.ok,gy.ok⟩,if_pos e.l]
 unfold heR
 rw[if_pos hc,tofX_eq gx gy e]
 simp
theorem wps_small (g:GX y):SmallX y.ps:=by
 have:=(isX_sz g.ok).2
 unfold SmallX
 omega
end
end Go.Proofs.YtigpfopobpoamaaGreat.X

set_option linter.unusedVariables false
set_option linter.unusedSimpArgs false
set_option maxRecDepth 20000
set_option maxHeartbeats 4000000
namespace Go.Proofs.YtigpfopobpoamaaGreat.X
open Go Go.RowKit
section
variable {L:List (List Int)} {A B F:List Int} {a b c i k f:Nat} {p:Int} {x:Sch}
def plOne (p:Int) (A B:List Int):List Int:=wth A 0 (addF p (seg A 0) (seg B 0) (-1) 9)
def plTwo (p:Int) (A B:List Int):List Int:=seg B 0++seg A 1++addF p (seg A 2) (seg B 2) 1 9
def plThr (p:Int) (A B:List Int):List Int:=wth B 1 (addF p (seg B 1) (seg A 1) (-1) 9)
def plusL (p:Int) (L:List (List Int)) (i k:Nat):List (List Int):=(L.set i (plOne p (L.getD i []) (L.getD k []))).set k (plTwo p (L.getD i []) (L.getD k []))++[plThr p (L.getD i []) (L.getD k [])]
def spTwo (p:Int) (A:List Int) (f:Nat) (F:List Int):List Int:=wth A f (addF p (seg A f) F (-1) 9)
def splL (p:Int) (L:List (List Int)) (i f:Nat) (F:List Int):List (List Int):=L.set i (wth (L.getD i []) f F)++[spTwo p (L.getD i []) f F]
theorem plOne_seg {j:Nat} (hA:A.length=27) (hj:j<3):seg (plOne p A B) j=if j=0 then addF p (seg A 0) (seg B 0) (-1) 9 else seg A j:=seg_wth hA (addF_len (seg_n9 hA (by omega)) (Nat.le_refl _)) (by omega) hj
theorem plThr_seg {j:Nat} (hB:B.length=27) (hj:j<3):seg (plThr p A B) j=if j=1 then addF p (seg B 1) (seg A 1) (-1) 9 else seg B j:=seg_wth hB (addF_len (seg_n9 hB (by omega)) (Nat.le_refl _)) (by omega) hj
theorem plTwo_seg (hA:A.length=27) (hB:B.length=27):seg (plTwo p A B) 0=seg B 0∧seg (plTwo p A B) 1=seg A 1∧seg (plTwo p A B) 2=addF p (seg A 2) (seg B 2) 1 9:=app3_seg (seg_n9 hB (by omega)) (seg_n9 hA (by omega)) (addF_len (seg_n9 hA (by omega)) (Nat.le_refl _))
theorem plus_tm (hA:A.length=27) (hB:B.length=27) (ha:a<9) (hb:b<9) (hc:c<9):Cg p (tm (plOne p A B) a b c+tm (plTwo p A B) a b c+tm (plThr p A B) a b c) (tm A a b c+tm B a b c):=by
 obtain⟨t0,t1,t2⟩:=plTwo_seg (p:=p) hA hB
 rw[tm_seg ha hb hc,tm_seg ha hb hc,tm_seg ha hb hc,tm_seg ha hb hc,tm_seg ha hb hc,t0,t1,t2,plOne_seg hA (by omega),plOne_seg hA (by omega),plOne_seg hA (by omega),plThr_seg hB (by omega),plThr_seg hB (by omega),plThr_seg hB (by omega),if_pos rfl,if_neg (by decide),if_neg (by decide),if_neg (by decide),if_pos rfl,if_neg (by decide),addF_get ha,addF_get hb,addF_get hc]
 obtain⟨u,hu⟩:=md_cg (p:=p) (x:=(seg A 0).getD a 0 + -1*(seg B 0).getD a 0)
 obtain⟨v,hv⟩:=md_cg (p:=p) (x:=(seg B 1).getD b 0 + -1*(seg A 1).getD b 0)
 obtain⟨w,hw⟩:=md_cg (p:=p) (x:=(seg A 2).getD c 0+1*(seg B 2).getD c 0)
 generalize md p ((seg A 0).getD a 0 + -1*(seg B 0).getD a 0)=M1 at hu ⊢
 generalize md p ((seg B 1).getD b 0 + -1*(seg A 1).getD b 0)=M2 at hv ⊢
 generalize md p ((seg A 2).getD c 0+1*(seg B 2).getD c 0)=M3 at hw ⊢
 generalize (seg A 0).getD a 0=a0 at *
 generalize (seg B 0).getD a 0=b0 at *
 generalize (seg A 1).getD b 0=a1 at *
 generalize (seg B 1).getD b 0=b1 at *
 generalize (seg A 2).getD c 0=a2 at *
 generalize (seg B 2).getD c 0=b2 at *
 refine⟨u*a1*a2+b0*a1*w+b0*v*b2,?_⟩
 have e1:M1=a0 + -1*b0+p*u:=by omega
 have e2:M2=b1 + -1*a1+p*v:=by omega
 have e3:M3=a2+1*b2+p*w:=by omega
 subst e1 e2 e3
 grind
theorem plus_sT (hw:Wid 27 L) (hi:i<L.length) (hk:k<L.length) (hik:i≠k) (ha:a<9) (hb:b<9) (hc:c<9):Cg p (sT (plusL p L i k) a b c) (sT L a b c):=by
 have h1:=sT_set (q:=plOne p (L.getD i []) (L.getD k [])) (a:=a) (b:=b) (c:=c) hi
 have h2:=sT_set (L:=L.set i (plOne p (L.getD i []) (L.getD k []))) (i:=k) (q:=plTwo p (L.getD i []) (L.getD k [])) (a:=a) (b:=b) (c:=c) (by rw[List.length_set];exact hk)
 rw[getD_setne hik] at h2
 obtain⟨w,hw'⟩:=plus_tm (p:=p) (getD_len27 hw hi) (getD_len27 hw hk) ha hb hc
 refine⟨w,?_⟩
 show sT (plusL p L i k) a b c-_=_
 unfold plusL
 rw[sT_app]
 simp only[sT]
 omega
theorem gd_in (hi:i<L.length):L.getD i []∈L:=by
 rw[List.getD_eq_getElem?_getD,List.getElem?_eq_getElem hi]
 exact List.getElem_mem hi
theorem plus_okL (hp:2≤x.p) (hw:Wid 27 L) (ok:okL x L) (hi:i<L.length) (hk:k<L.length):okL x (plusL x.p L i k):=by
 have lA:=getD_len27 hw hi
 have lB:=getD_len27 hw hk
 have oA:=ok _ (gd_in hi)
 have oB:=ok _ (gd_in hk)
 intro q hq j hj
 unfold plusL at hq
 rcases List.mem_append.1 hq with hq|hq
 ·rcases List.mem_or_eq_of_mem_set hq with hq|rfl
  ·rcases List.mem_or_eq_of_mem_set hq with hq|rfl
   ·exact ok q hq j hj
   ·rw[plOne_seg lA hj]
    split
    ·rename_i e
     rw[e]
     exact okForm_add hp (oA _ (by omega)) (oB _ (by omega))
    ·exact oA j hj
  ·obtain⟨t0,t1,t2⟩:=plTwo_seg (p:=x.p) lA lB
   have:j=0∨j=1∨j=2:=by omega
   rcases this with rfl|rfl|rfl
   ·rw[t0];exact oB 0 hj
   ·rw[t1];exact oA 1 hj
   ·rw[t2];exact okForm_add hp (oA _ hj) (oB _ hj)
 ·rw[List.mem_singleton] at hq
  subst hq
  rw[plThr_seg lB hj]
  split
  ·rename_i e
   rw[e]
   exact okForm_add hp (oB _ (by omega)) (oA _ (by omega))
  ·exact oB j hj
theorem plusL_len:(plusL p L i k).length=L.length+1:=by unfold plusL;rw[List.length_append,List.length_set,List.length_set];rfl
theorem wid_app1 {w:Nat} {L:List (List Int)} {q:List Int} (hw:Wid w L) (hq:q.length=w):Wid w (L++[q]):=fun r hr=>by
 rcases List.mem_append.1 hr with h|h
 ·exact hw r h
 ·rw[List.mem_singleton.1 h];exact hq
theorem byt_app1 {w:Nat} {L:List (List Int)} {q:List Int} (hb:Byt w L) (hq:By w q):Byt w (L++[q]):=fun m hm j hj=>by
 by_cases h:m<L.length
 ·rw[getD_app_l h];exact hb m h j hj
 ·rw[List.length_append,List.length_singleton] at hm
  rw[getD_app_r (by omega),show m-L.length=0 by omega]
  exact hq.2 j hj
theorem by_app3 {u v w:List Int} (hu:By 9 u) (hv:By 9 v) (hw:By 9 w):By 27 (u++v++w):=by
 have lu:=hu.1
 have lv:=hv.1
 have lw:=hw.1
 refine⟨by rw[List.length_append,List.length_append];omega,fun j hj=>?_⟩
 by_cases h1:j<18
 ·rw[getD_app_l (by rw[List.length_append];omega)]
  by_cases h2:j<9
  ·rw[getD_app_l (by omega)];exact hu.2 j h2
  ·rw[getD_app_r (by omega)];exact hv.2 _ (by omega)
 ·rw[getD_app_r (by rw[List.length_append];omega),List.length_append]
  exact hw.2 _ (by omega)
theorem plOne_by (hp:2≤p∧p≤5) (hA:By 27 A):By 27 (plOne p A B):=wth_by hA (addF_by hp (seg_by hA (by omega)) (Nat.le_refl _)) (by omega)
theorem plThr_by (hp:2≤p∧p≤5) (hB:By 27 B):By 27 (plThr p A B):=wth_by hB (addF_by hp (seg_by hB (by omega)) (Nat.le_refl _)) (by omega)
theorem plTwo_by (hp:2≤p∧p≤5) (hA:By 27 A) (hB:By 27 B):By 27 (plTwo p A B):=by_app3 (seg_by hB (by omega)) (seg_by hA (by omega)) (addF_by hp (seg_by hA (by omega)) (Nat.le_refl _))
theorem spTwo_by (hp:2≤p∧p≤5) (hA:By 27 A) (hf:f<3):By 27 (spTwo p A f F):=wth_by hA (addF_by hp (seg_by hA hf) (Nat.le_refl _)) hf
theorem plus_wb (hp:2≤p∧p≤5) (hw:Wid 27 L) (hb:Byt 27 L) (hi:i<L.length) (hk:k<L.length):Wid 27 (plusL p L i k)∧Byt 27 (plusL p L i k):=by
 have byi:=getD_by hw hb hi
 have byk:=getD_by hw hb hk
 have b1:By 27 (plOne p (L.getD i []) (L.getD k [])):=plOne_by hp byi
 have b2:By 27 (plTwo p (L.getD i []) (L.getD k [])):=plTwo_by hp byi byk
 have b3:By 27 (plThr p (L.getD i []) (L.getD k [])):=plThr_by hp byk
 exact⟨wid_app1 (wid_set (wid_set hw b1.1) b2.1) b3.1,byt_app1 (byt_setq (byt_setq hb b1) b2) b3⟩
theorem plus_GX (g:GX x) (hi:i<x.ps.length) (hk:k<x.ps.length) (hl:x.ps.length<30):GX (wps x (toldL (plusL x.p x.ps i k))):=by
 have zp:=(isX_sz g.ok).1.p
 obtain⟨w,b⟩:=plus_wb zp g.w g.b hi hk
 exact⟨isX_told g.ok (by rw[plusL_len];omega) (plus_okL zp.1 g.w (okL_of g.ok) hi hk),told_wid w,told_byt w b⟩
theorem plus_EqS (g:GX x) (hi:i<x.ps.length) (hk:k<x.ps.length) (hik:i≠k):EqS x (wps x (toldL (plusL x.p x.ps i k))):=
 ⟨⟨rfl,rfl,rfl,rfl⟩,fun a b c ha hb hc=>by
  show Cg x.p _ (sT (toldL (plusL x.p x.ps i k)) a b c)
  rw[sT_told ha hb hc]
  exact (plus_sT g.w hi hk hik ha hb hc).symm⟩
theorem split_tm (hA:A.length=27) (hF:F.length=9) (hf:f<3) (ha:a<9) (hb:b<9) (hc:c<9):Cg p (tm (wth A f F) a b c+tm (spTwo p A f F) a b c) (tm A a b c):=by
 have s1:∀ j,j<3→seg (wth A f F) j=if j=f then F else seg A j:=fun j hj=>seg_wth hA hF hf hj
 have s2:∀ j,j<3→seg (spTwo p A f F) j=if j=f then addF p (seg A f) F (-1) 9 else seg A j:=fun j hj=>seg_wth hA (addF_len (seg_n9 hA hf) (Nat.le_refl _)) hf hj
 rw[tm_seg ha hb hc,tm_seg ha hb hc,tm_seg ha hb hc,s1 0 (by omega),s1 1 (by omega),s1 2 (by omega),s2 0 (by omega),s2 1 (by omega),s2 2 (by omega)]
 have h:f=0∨f=1∨f=2:=by omega
 rcases h with rfl|rfl|rfl
 ·rw[if_pos rfl,if_neg (by decide),if_neg (by decide),if_pos rfl,if_neg (by decide),if_neg (by decide),addF_get ha]
  obtain⟨w,hw⟩:=md_cg (p:=p) (x:=(seg A 0).getD a 0 + -1*F.getD a 0)
  generalize md p _=M at hw ⊢
  generalize (seg A 0).getD a 0=a0 at *
  generalize (seg A 1).getD b 0=a1 at *
  generalize (seg A 2).getD c 0=a2 at *
  generalize F.getD a 0=f0 at *
  refine⟨w*a1*a2,?_⟩
  have e:M=a0 + -1*f0+p*w:=by omega
  subst e
  grind
 ·rw[if_neg (by decide),if_pos rfl,if_neg (by decide),if_neg (by decide),if_pos rfl,if_neg (by decide),addF_get hb]
  obtain⟨w,hw⟩:=md_cg (p:=p) (x:=(seg A 1).getD b 0 + -1*F.getD b 0)
  generalize md p _=M at hw ⊢
  generalize (seg A 0).getD a 0=a0 at *
  generalize (seg A 1).getD b 0=a1 at *
  generalize (seg A 2).getD c 0=a2 at *
  generalize F.getD b 0=f0 at *
  refine⟨a0*w*a2,?_⟩
  have e:M=a1 + -1*f0+p*w:=by omega
  subst e
  grind
 ·rw[if_neg (by decide),if_neg (by decide),if_pos rfl,if_neg (by decide),if_neg (by decide),if_pos rfl,addF_get hc]
  obtain⟨w,hw⟩:=md_cg (p:=p) (x:=(seg A 2).getD c 0 + -1*F.getD c 0)
  generalize md p _=M at hw ⊢
  generalize (seg A 0).getD a 0=a0 at *
  generalize (seg A 1).getD b 0=a1 at *
  generalize (seg A 2).getD c 0=a2 at *
  generalize F.getD c 0=f0 at *
  refine⟨a0*a1*w,?_⟩
  have e:M=a2 + -1*f0+p*w:=by omega
  subst e
  grind
theorem split_sT (hw:Wid 27 L) (hF:F.length=9) (hi:i<L.length) (hf:f<3) (ha:a<9) (hb:b<9) (hc:c<9):Cg p (sT (splL p L i f F) a b c) (sT L a b c):=by
 have h1:=sT_set (q:=wth (L.getD i []) f F) (a:=a) (b:=b) (c:=c) hi
 obtain⟨w,hw'⟩:=split_tm (p:=p) (getD_len27 hw hi) hF hf ha hb hc
 refine⟨w,?_⟩
 show sT (splL p L i f F) a b c-_=_
 unfold splL
 rw[sT_app]
 simp only[sT]
 omega
theorem splL_len:(splL p L i f F).length=L.length+1:=by unfold splL;rw[List.length_append,List.length_set];rfl
theorem split_wb (hp:2≤p∧p≤5) (hF:By 9 F) (hw:Wid 27 L) (hb:Byt 27 L) (hi:i<L.length) (hf:f<3):Wid 27 (splL p L i f F)∧Byt 27 (splL p L i f F):=by
 have byi:=getD_by hw hb hi
 have b1:By 27 (wth (L.getD i []) f F):=wth_by byi hF hf
 have b2:By 27 (spTwo p (L.getD i []) f F):=spTwo_by hp byi hf
 exact⟨wid_app1 (wid_set hw b1.1) b2.1,byt_app1 (byt_setq hb b1) b2⟩
theorem sub_nz {n:Int} {u v:List Int} (hp:2≤p) (hu:By 9 u) (hv:By 9 v) (ou:okForm p n u=true) (ov:okForm p n v=true) (h:v≠u):isZ (addF p u v (-1) 9)=false:=by
 cases hz:isZ (addF p u v (-1) 9) with
 | false=>rfl
 | true=>
  refine absurd ?_ h
  refine List.ext_getElem (by rw[hu.1,hv.1]) fun j h1 h2=>?_
  have hj:j<9:=by rw[hv.1] at h1;exact h1
  have e:=isZ_at (a:=j) hz
  rw[addF_get hj] at e
  have d:=md_zero hp e
  have g1:=okForm_gt ou hj
  have g2:=okForm_gt ov hj
  have n1:=hu.2 j hj
  have n2:=hv.2 j hj
  have:v.getD j 0=u.getD j 0:=dvd_eq (p:=p) (by obtain⟨w,hw⟩:=d;exact⟨-w,by rw[Int.mul_neg];omega⟩) ⟨n2.1,g2.1⟩ ⟨n1.1,g1.1⟩
  rwa [List.getD_eq_getElem?_getD,List.getD_eq_getElem?_getD,List.getElem?_eq_getElem h1,List.getElem?_eq_getElem h2] at this
theorem split_prod (hp:2≤x.p) (hA:By 27 A) (oA:okProd x A=true) (hF:By 9 F) (oF:okForm x.p (pl x f) F=true) (hz:isZ F=false) (hn:F≠seg A f) (hf:f<3):okProd x (wth A f F)=true∧okProd x (spTwo x.p A f F)=true:=by
 obtain⟨o,z⟩:=okProd_iff.1 oA
 have z':=hasZ_iff.1 z
 have l9:=addF_len (p:=x.p) (b:=F) (k:=-1) (i:=9) (seg_n9 hA.1 hf) (Nat.le_refl _)
 refine⟨okProd_iff.2 ⟨fun j hj=>?_,hasZ_iff.2 fun j hj=>?_⟩,okProd_iff.2 ⟨fun j hj=>?_,hasZ_iff.2 fun j hj=>?_⟩⟩
 ·rw[seg_wth hA.1 hF.1 hf hj]
  split
  ·rename_i e;rw[e];exact oF
  ·exact o j hj
 ·rw[seg_wth hA.1 hF.1 hf hj]
  split
  ·exact hz
  ·exact z' j hj
 ·unfold spTwo
  rw[seg_wth hA.1 l9 hf hj]
  split
  ·rename_i e;rw[e];exact okForm_add hp (o f hf) oF
  ·exact o j hj
 ·unfold spTwo
  rw[seg_wth hA.1 l9 hf hj]
  split
  ·exact sub_nz hp (seg_by hA hf) hF (o f hf) oF hn
  ·exact z' j hj
theorem split_GX (g:GX x) (hF:By 9 F) (hi:i<x.ps.length) (hf:f<3) (oF:okForm x.p (pl x f) F=true) (hz:isZ F=false) (hn:F≠seg (x.ps.getD i []) f) (hl:x.ps.length<30):GX (wps x (splL x.p x.ps i f F)):=by
 have zp:=(isX_sz g.ok).1.p
 obtain⟨hs,h30,hq⟩:=isX_parts g.ok
 obtain⟨w,b⟩:=split_wb zp hF g.w g.b hi hf
 obtain⟨p1,p2⟩:=split_prod zp.1 (getD_by g.w g.b hi) (hq _ (gd_in hi)) hF oF hz hn hf
 refine⟨?_,w,b⟩
 unfold isX
 rw[show szX (wps x (splL x.p x.ps i f F))=szX x from rfl,hs,decide_eq_true (by show (splL x.p x.ps i f F).length≤30;rw[splL_len];omega),Bool.and_true,Bool.true_and,List.all_eq_true]
 intro q hm
 have hm:q∈splL x.p x.ps i f F:=hm
 unfold splL at hm
 rcases List.mem_append.1 hm with hm|hm
 ·rcases List.mem_or_eq_of_mem_set hm with hm|rfl
  ·exact hq q hm
  ·exact p1
 ·rw[List.mem_singleton.1 hm]
  exact p2
theorem split_EqS (g:GX x) (hF:By 9 F) (hi:i<x.ps.length) (hf:f<3):EqS x (wps x (splL x.p x.ps i f F)):=
 ⟨⟨rfl,rfl,rfl,rfl⟩,fun a b c ha hb hc=>(split_sT g.w hF.1 hi hf ha hb hc).symm⟩
end
def pmR (x:Sch) (i k:Int):Sch×Int:=if isX x=true then (if [i,k].all (numOk x.ps.length)=true then (if i=k then (zeroS,5) else if x.ps.length=30 then (zeroS,3) else (wps x (toldL (plusL x.p x.ps i.toNat k.toNat)),0)) else (zeroS,2)) else (zeroS,1)
def spOk (x:Sch) (i f:Int) (F:List Int):Bool:=([i].all (numOk x.ps.length)&&decide (0≤f∧f≤2))&&okForm x.p (pl x f.toNat) F
def spSt (x:Sch) (i f:Int) (F:List Int):Bool:=isZ F||(F==seg (x.ps.getD i.toNat []) f.toNat)
def spR (x:Sch) (i f:Int) (F:List Int):Sch×Int:=if isX x=true then (if spOk x i f F=true then (if spSt x i f F=true then (zeroS,5) else if x.ps.length=30 then (zeroS,3) else (wps x (splL x.p x.ps i.toNat f.toNat F),0)) else (zeroS,2)) else (zeroS,1)
section
variable {x:Sch} {i k f:Int} {F:List Int}
theorem pmR_of (hv:Wid 27 x.ps∧Byt 27 x.ps) (h:(pmR x i k).2=0):GX x∧GX (pmR x i k).1∧EqS x (pmR x i k).1:=by
 unfold pmR at h ⊢
 by_cases hx:isX x=true
 ·rw[if_pos hx] at h ⊢
  by_cases ho:[i,k].all (numOk x.ps.length)=true
  ·rw[if_pos ho] at h ⊢
   by_cases hik:i=k
   ·rw[if_pos hik] at h
    cases h
   ·rw[if_neg hik] at h ⊢
    by_cases hl:x.ps.length=30
    ·rw[if_pos hl] at h
     cases h
    ·rw[if_neg hl]
     have g:GX x:=⟨hx,hv.1,hv.2⟩
     have h30:=(isX_sz hx).2
     simp only[List.all_cons,List.all_nil,Bool.and_true,Bool.and_eq_true] at ho
     have h1:=of_decide_eq_true ho.1
     have h2:=of_decide_eq_true ho.2
     exact⟨g,plus_GX g (by omega) (by omega) (by omega),plus_EqS g (by omega) (by omega) (by omega)⟩
  ·rw[if_neg ho] at h
   cases h
 ·rw[if_neg hx] at h
  cases h
theorem spR_of (hv:Wid 27 x.ps∧Byt 27 x.ps) (hF:By 9 F) (h:(spR x i f F).2=0):GX x∧GX (spR x i f F).1∧EqS x (spR x i f F).1∧(spR x i f F).1.ps.length=x.ps.length+1:=by
 unfold spR at h ⊢
 by_cases hx:isX x=true
 ·rw[if_pos hx] at h ⊢
  by_cases ho:spOk x i f F=true
  ·rw[if_pos ho] at h ⊢
   by_cases hs:spSt x i f F=true
   ·rw[if_pos hs] at h
    cases h
   ·rw[if_neg hs] at h ⊢
    by_cases hl:x.ps.length=30
    ·rw[if_pos hl] at h
     cases h
    ·rw[if_neg hl]
     have g:GX x:=⟨hx,hv.1,hv.2⟩
     have h30:=(isX_sz hx).2
     unfold spOk at ho
     simp only[List.all_cons,List.all_nil,Bool.and_true,Bool.and_eq_true] at ho
     obtain⟨⟨h1,h2⟩,h3⟩:=ho
     have h1:=of_decide_eq_true h1
     have h2:=of_decide_eq_true h2
     unfold spSt at hs
     rw[Bool.not_eq_true,Bool.or_eq_false_iff] at hs
     exact⟨g,split_GX g hF (by omega) (by omega) h3 hs.1 (by simpa using hs.2) (by omega),split_EqS g hF (by omega) (by omega),splL_len⟩
  ·rw[if_neg ho] at h
   cases h
 ·rw[if_neg hx] at h
  cases h
theorem z_small:SmallX zeroS.ps:=by unfold SmallX zeroS;simp
theorem pmR_small (hv:Wid 27 x.ps∧Byt 27 x.ps):SmallX (pmR x i k).1.ps:=by
 by_cases h:(pmR x i k).2=0
 ·exact wps_small (pmR_of hv h).2.1
 ·unfold pmR at h ⊢
  split
  ·rename_i h1
   rw[if_pos h1] at h
   split
   ·rename_i h2
    rw[if_pos h2] at h
    split
    ·exact z_small
    ·rename_i h3
     rw[if_neg h3] at h
     split
     ·exact z_small
     ·rename_i h4
      rw[if_neg h4] at h
      exact absurd rfl h
   ·exact z_small
  ·exact z_small
theorem spR_small (hv:Wid 27 x.ps∧Byt 27 x.ps) (hF:By 9 F):SmallX (spR x i f F).1.ps:=by
 by_cases h:(spR x i f F).2=0
 ·exact wps_small (spR_of hv hF h).2.1
 ·unfold spR at h ⊢
  split
  ·rename_i h1
   rw[if_pos h1] at h
   split
   ·rename_i h2
    rw[if_pos h2] at h
    split
    ·exact z_small
    ·rename_i h3
     rw[if_neg h3] at h
     split
     ·exact z_small
     ·rename_i h4
      rw[if_neg h4] at h
      exact absurd rfl h
   ·exact z_small
  ·exact z_small
end
end Go.Proofs.YtigpfopobpoamaaGreat.X

set_option linter.unusedVariables false
set_option linter.unusedSimpArgs false
set_option maxRecDepth 20000
set_option maxHeartbeats 4000000
namespace Go.Proofs.YtigpfopobpoamaaGreat.X
open Go Go.RowKit
open Nat (reduceEqDiff reduceAdd reduceSub reduceLeDiff)
section
variable {h:AH} {n i:Nat} {L:List (List Int)} {q:List Int} {e:TypeId} {full:Bool}
theorem wr_prod (g:h.get n=some ⟨cel .u8 L.flatten,e,false,full⟩) (w:Wid 27 L) (hq:q.length=27) (hi:i<L.length):∃ h':AH,h.wr n (i*27) (cel .u8 q)=some h'∧h'.length=h.length∧h'.get n=some ⟨cel .u8 (L.set i q).flatten,e,false,full⟩∧(∀ m c,m≠n→h.get m=some c→h'.get m=some c)∧(∀ h0:AH,h0.length≤n→h0<+:h→h0<+:h'):=by
 have sf:=splice_flat (k:=.u8) hq w (j:=i) hi
 have fl:=flat_len w
 have w3:AH.wr h n (i*27) (cel .u8 q)=_:=wr_of g
 simp only[cel_len,hq,fl,sf] at w3
 rw[if_pos ⟨trivial,by omega⟩] at w3
 exact⟨_,w3,len_put,get_put_same (get_lt g),fun m c hm gm=>by rw[get_put_ne (Ne.symm hm)];exact gm,fun h0 hl p=>pre_put p hl⟩
theorem rd_prod (g:h.get n=some ⟨cel .u8 L.flatten,e,false,full⟩) (w:Wid 27 L) (hi:i<L.length):h.rdn n (i*27) 27=some (cel .u8 (L.getD i [])):=by
 obtain⟨nn,off,ix,rd⟩:=((blk_kN (lo:=0) (k:=.u8) g w (Nat.zero_le _)).now).at hi
 have l27:=getD_len27 w hi
 have ix:=ix .i64
 rw[ixsV_some,if_pos (by omega)] at ix
 simp only[Option.some.injEq,Value.pointer.injEq,Addr.mk.injEq,Int.toNat_natCast,Nat.zero_add,and_true] at ix
 obtain⟨rfl,rfl⟩:=ix
 have:=rd.1 0 27 (by omega)
 rwa [Nat.add_zero,List.drop_zero,List.take_of_length_le (by omega)] at this
theorem ixs_own (hi:i<n) {B:Nat}:ixsV 27 (.slice (some ⟨B,0,none⟩) n 27) (I64 i)=some (.pointer (some ⟨B,i*27,none⟩)):=by
 rw[ixsV_some,if_pos (by omega),Int.toNat_natCast,Nat.zero_add]
theorem rd_q (g:h.get n=some ⟨cel .u8 q,e,false,full⟩) (hq:q.length=27):h.rdn n 0 27=some (cel .u8 q)∧h.rdn n 0 9=some (cel .u8 (seg q 0))∧h.rdn n 9 9=some (cel .u8 (seg q 1))∧h.rdn n 18 9=some (cel .u8 (seg q 2)):=by
 refine⟨?_,rd_seg g hq (f:=0) (by omega),rd_seg g hq (f:=1) (by omega),rd_seg g hq (f:=2) (by omega)⟩
 rw[rdn_of g]
 simp only[cel_len,hq]
 rw[if_pos (by omega),List.drop_zero,List.take_of_length_le (by rw[cel_len,hq];exact Nat.le_refl _)]
theorem rdE_one (g:h.get n=some ⟨cel .u8 q,e,false,full⟩) (hq:q.length=27):RdE h (.slice (some ⟨n,0,none⟩) 1 27) [q]:=.inr ⟨n,0,rfl,by
 have:=(rd_q g hq).1
 simpa using this⟩
theorem cel_s0:(cel .u8 q).take 9=cel .u8 (seg q 0):=by have:=cel_seg (q:=q) (f:=0);rwa [Nat.zero_mul,List.drop_zero] at this
theorem wid_one (hq:q.length=27):Wid 27 [q]:=fun r hr=>by rw[List.mem_singleton.1 hr];exact hq
end
theorem s_PlusMove {x:Sch} {v:Value} {i k:Int} {h:AH} {Q:Value→AH→Prop} (hv:Prods h v x.ps) (hl:SmallX x.ps)
  (hQ:∀ w h',h<+:h'→KN h.length h' (fun h2=>Prods h2 w (pmR x i k).1.ps)→Q (.tuple #[schV (pmR x i k).1 w,I64 (pmR x i k).2]) h'):WF S 15 [schV x v,I64 i,I64 k] h Q:=by
 refine WF_fn (fn:=c15) rfl rfl ?_
 dsimp only[c15,oO,oM,oS,oG,oK,oE,oL,oF,oX,oN]
 have o1:=hv.one
 ((try simp (maxSteps:=3000000) (dsimp:=false) (disch:=first|omega|simp only[lnx];omega) only[↓ypre,ypost,↓reduceIte,reduceEqDiff,reduceAdd,reduceSub,reduceLeDiff,zz0,ynew,schV,o1]);try simp only[yback])
 generalize hH1:AH.new h _=H1
 obtain⟨hb1,p1,n1⟩:=new_facts hH1
 generalize hH2:AH.new H1 _=H2
 obtain⟨hb2,p2,n2⟩:=new_facts hH2
 have g1:=pre_get p2 hb1
 ((try simp (maxSteps:=3000000) (dsimp:=false) (disch:=first|omega|simp only[lnx];omega) only[↓ypre,ypost,↓reduceIte,reduceEqDiff,reduceAdd,reduceSub,reduceLeDiff,zz0,ynew,rdn_of g1]);try simp only[yback])
 refine s_l01Is (x:=x) (hv.pre (p1.trans p2)) hl fun H3 p3=>?_
 have g1:=pre_get p3 g1
 have g2:=pre_get p3 hb2
 have l2:=get_lt g2
 unfold pmR at hQ
 cases hx:isX x with
 | false=>
  rw[hx] at hQ
  ((try simp (maxSteps:=3000000) (dsimp:=false) (disch:=first|omega|simp only[lnx];omega) only[↓ypre,ypost,↓reduceIte,reduceEqDiff,reduceAdd,reduceSub,reduceLeDiff,zz0,ynew,fillL,wr_of g2,splice_eq,rdn_put_same]);try simp only[yback])
  exact hQ _ _ (pre_put (p1.trans (p2.trans p3)) (by omega)) zeroS_kn
 | true=>
 rw[hx] at hQ
 simp only[if_true] at hQ
 obtain⟨z,hl30⟩:=isX_sz hx
 have zp:=z.p
 ((try simp (maxSteps:=3000000) (dsimp:=false) (disch:=first|omega|simp only[lnx];omega) only[↓ypre,ypost,↓reduceIte,reduceEqDiff,reduceAdd,reduceSub,reduceLeDiff,zz0,ynew,rdn_of g1,fillL,zrep]);try simp only[yback])
 generalize hH4:AH.new H3 _=H4
 obtain⟨hb4,p4,n4⟩:=new_facts hH4
 refine s_l03Numbers (x:=x) (ns:=[i,k]) (hv.pre (p1.trans (p2.trans (p3.trans p4)))) hl (Ints.own (ns:=[i,k]) hb4 rfl) (by simp) fun H5 p5=>?_
 have g1:=pre_get (p4.trans p5) g1
 have g2:=pre_get (p4.trans p5) g2
 have l2:=get_lt g2
 have P5:=p1.trans (p2.trans (p3.trans (p4.trans p5)))
 cases c1:[i,k].all (numOk x.ps.length) with
 | false=>
  rw[c1] at hQ
  ((try simp (maxSteps:=3000000) (dsimp:=false) (disch:=first|omega|simp only[lnx];omega) only[↓ypre,ypost,↓reduceIte,reduceEqDiff,reduceAdd,reduceSub,reduceLeDiff,zz0,ynew,fillL,wr_of g2,splice_eq,rdn_put_same]);try simp only[yback])
  exact hQ _ _ (pre_put P5 (by omega)) zeroS_kn
 | true=>
 rw[c1] at hQ
 simp only[if_true] at hQ
 simp only[List.all_cons,List.all_nil,Bool.and_true,Bool.and_eq_true] at c1
 have bi:=of_decide_eq_true c1.1
 have bk:=of_decide_eq_true c1.2
 obtain⟨I,rfl⟩:∃ n:Nat,i=n:=⟨i.toNat,by omega⟩
 obtain⟨K,rfl⟩:∃ n:Nat,k=n:=⟨k.toNat,by omega⟩
 simp only[Int.toNat_natCast] at hQ
 by_cases hik:(I:Int)=K
 ·rw[if_pos hik] at hQ
  ((try simp (maxSteps:=3000000) (dsimp:=false) (disch:=first|omega|simp only[lnx];omega) only[↓ypre,ypost,↓reduceIte,reduceEqDiff,reduceAdd,reduceSub,reduceLeDiff,zz0,ynew,decide_eq_true hik,fillL,wr_of g2,splice_eq,rdn_put_same]);try simp only[yback])
  exact hQ _ _ (pre_put P5 (by omega)) zeroS_kn
 rw[if_neg hik] at hQ
 have vl:=hv.1.len
 by_cases h30:x.ps.length=30
 ·rw[if_pos h30] at hQ
  ((try simp (maxSteps:=3000000) (dsimp:=false) (disch:=first|omega|simp only[lnx];omega) only[↓ypre,ypost,↓reduceIte,reduceEqDiff,reduceAdd,reduceSub,reduceLeDiff,zz0,ynew,decide_eq_false hik,rd1_of g1,vl,decide_eq_true (show (x.ps.length:Int)=30 by omega),fillL,wr_of g2,splice_eq,rdn_put_same]);try simp only[yback])
  exact hQ _ _ (pre_put P5 (by omega)) zeroS_kn
 rw[if_neg h30] at hQ
 have hi:I<x.ps.length:=by omega
 have hk:K<x.ps.length:=by omega
 have lP5:=pre_len P5
 have q25:=pre_len (p3.trans (p4.trans p5))
 have w27:Wid 27 x.ps:=hv.1.widL
 ((try simp (maxSteps:=3000000) (dsimp:=false) (disch:=first|omega|simp only[lnx];omega) only[↓ypre,ypost,↓reduceIte,reduceEqDiff,reduceAdd,reduceSub,reduceLeDiff,zz0,ynew,decide_eq_false hik,rd1_of g1,vl,decide_eq_false (show ¬ (x.ps.length:Int)=30 by omega),fillL,zrep]);try simp only[yback])
 refine copy_zero (hv.1.pre P5) (by omega) (by omega) fun H6 l6 p6 gB=>?_
 have g15:=g1
 have g25:=g2
 have g1:=pre_get p6 g1
 have g2:=pre_get p6 g2
 refine WO_cut (fun f:Fr=>f 1=I64 I∧f 2=I64 K∧f 3=.pointer (some ⟨h.length,0,none⟩)∧f 6=.pointer (some ⟨H1.length,0,none⟩)∧f 38=.slice (some ⟨H5.length+1,0,none⟩) x.ps.length 27∧True) ⟨(by first|rfl|simp[upd_apply]),(by first|rfl|simp[upd_apply]),(by first|rfl|simp[upd_apply]),(by first|rfl|simp[upd_apply]),(by first|rfl|simp[upd_apply]),trivial⟩ ?_
 rintro f ⟨f1,f2,f3,f6,f38,-⟩
 have byi:=hv.by hi
 have byk:=hv.by hk
 have ri:=rd_prod gB w27 hi
 have rk:=rd_prod gB w27 hk
 have ii:=ixs_own (B:=H5.length+1) hi
 have ik:=ixs_own (B:=H5.length+1) hk
 have EL:plusL x.p x.ps I K=(x.ps.set I (plOne x.p (x.ps.getD I []) (x.ps.getD K []))).set K (plTwo x.p (x.ps.getD I []) (x.ps.getD K []))++[plThr x.p (x.ps.getD I []) (x.ps.getD K [])]:=rfl
 have bw:=plus_wb zp w27 hv.2 hi hk
 have bL:=plusL_len (p:=x.p) (L:=x.ps) (i:=I) (k:=K)
 generalize x.ps.getD I []=a at *
 generalize x.ps.getD K []=b at *
 generalize plusL x.p x.ps I K=PL at *
 have a27:=byi.1
 have b27:=byk.1
 have ta:(cel .u8 a).take 27=cel .u8 a:=List.take_of_length_le (by rw[cel_len,a27];exact Nat.le_refl _)
 have tb:(cel .u8 b).take 27=cel .u8 b:=List.take_of_length_le (by rw[cel_len,b27];exact Nat.le_refl _)
 have ca:=cel_s0 (q:=a)
 have cb:=cel_s0 (q:=b)
 ((try simp (maxSteps:=3000000) (dsimp:=false) (disch:=first|omega|simp only[lnx];omega) only[↓ypre,ypost,↓reduceIte,reduceEqDiff,reduceAdd,reduceSub,reduceLeDiff,zz0,ynew,f1,f2,f3,f6,f38,ii,ik,ri,rk,cellsL_cel,cel_all,cel_len,a27,b27,ta,tb,ca,cb,rd1_of g1]);try simp only[yback])
 generalize hK1:AH.new H6 _=K1
 obtain⟨ka,pa,na⟩:=new_facts hK1
 generalize hK2:AH.new K1 _=K2
 obtain⟨kb,pb,nb⟩:=new_facts hK2
 have ka:=pre_get pb ka
 have P2:H6<+:K2:=pa.trans pb
 have g1:=pre_get P2 g1
 have g2:=pre_get P2 g2
 have gB:=pre_get P2 gB
 obtain⟨a0,a1,a2,a3⟩:=rd_q ka a27
 obtain⟨b0,b1,b2,b3⟩:=rd_q kb b27
 have sa:=fun j (hj:j<3)=>seg_by byi hj
 have sb:=fun j (hj:j<3)=>seg_by byk hj
 refine s_l01Add (k:=-1) zp (sa 0 (by omega)) (sb 0 (by omega)) (by omega) fun K3 q3=>⟨q3,?_⟩
 ((try simp (maxSteps:=3000000) (dsimp:=false) (disch:=first|omega|simp only[lnx];omega) only[↓ypre,ypost,↓reduceIte,reduceEqDiff,reduceAdd,reduceSub,reduceLeDiff,zz0,ynew,f1,f2,f3,f6,f38]);try simp only[yback])
 have ad1:=addF_by (k:=-1) (b:=seg b 0) (i:=9) zp (sa 0 (by omega)) (Nat.le_refl _)
 refine s_l03With (f:=0) byi ad1 (by omega) fun K4 q4=>?_
 have q34:=q3.trans q4
 have ka:=pre_get q34 ka
 have kb:=pre_get q34 kb
 have g1:=pre_get q34 g1
 have g2:=pre_get q34 g2
 have gB:=pre_get q34 gB
 have by1:By 27 (plOne x.p a b):=plOne_by zp byi
 have l1:=by1.1
 obtain⟨K5,w5,n5,gB,kp5,pp5⟩:=wr_prod gB w27 l1 hi
 have P5':H5<+:K5:=pp5 H5 (by omega) (p6.trans (P2.trans q34))
 have ka:=kp5 _ _ (by omega) ka
 have kb:=kp5 _ _ (by omega) kb
 have g1:=kp5 _ _ (by omega) g1
 have g2:=kp5 _ _ (by omega) g2
 obtain⟨a0,a1,a2,a3⟩:=rd_q ka a27
 obtain⟨b0,b1,b2,b3⟩:=rd_q kb b27
 have e1:wth a 0 (addF x.p (seg a 0) (seg b 0) (-1) 9)=plOne x.p a b:=rfl
 rw[e1]
 ((try simp (maxSteps:=3000000) (dsimp:=false) (disch:=first|omega|simp only[lnx];omega) only[↓ypre,ypost,↓reduceIte,reduceEqDiff,reduceAdd,reduceSub,reduceLeDiff,zz0,ynew,f1,f2,f3,f6,f38,aggV,cellsL_cel,cel_all,cel_len,l1,ii,w5,b1,a2,rd1_of g1,a3,b3]);try simp only[yback])
 refine s_l01Add (k:=1) zp (sa 2 (by omega)) (sb 2 (by omega)) (by omega) fun K6 q6=>⟨q6,?_⟩
 have ka:=pre_get q6 ka
 have kb:=pre_get q6 kb
 have g1:=pre_get q6 g1
 have g2:=pre_get q6 g2
 have gB:=pre_get q6 gB
 have ad2:=addF_by (k:=1) (b:=seg b 2) (i:=9) zp (sa 2 (by omega)) (Nat.le_refl _)
 have by2:By 27 (plTwo x.p a b):=plTwo_by zp byi byk
 have l2':=by2.1
 have sb0:=(sb 0 (by omega)).1
 have sa1:=(sa 1 (by omega)).1
 obtain⟨sp1,sp2,sp3⟩:=sp27 sb0 sa1 ad2.1
 have e2:seg b 0++seg a 1++addF x.p (seg a 2) (seg b 2) 1 9=plTwo x.p a b:=rfl
 rw[e2] at sp3
 have w27':=wid_set (e:=I) w27 l1
 obtain⟨K7,w7,n7,gB,kp7,pp7⟩:=wr_prod gB w27' l2' (i:=K) (by rw[List.length_set];exact hk)
 have P7':H5<+:K7:=pp7 H5 (by omega) (P5'.trans q6)
 have l67:=pre_len q6
 have ka:=kp7 _ _ (by omega) ka
 have kb:=kp7 _ _ (by omega) kb
 have g1:=kp7 _ _ (by omega) g1
 have g2:=kp7 _ _ (by omega) g2
 obtain⟨a0,a1,a2,a3⟩:=rd_q ka a27
 obtain⟨b0,b1,b2,b3⟩:=rd_q kb b27
 ((try simp (maxSteps:=3000000) (dsimp:=false) (disch:=first|omega|simp only[lnx];omega) only[↓ypre,ypost,↓reduceIte,reduceEqDiff,reduceAdd,reduceSub,reduceLeDiff,zz0,ynew,f1,f2,f3,f6,f38,aggV,zeros27,sb0,sa1,ad2.1,List.length_replicate,sp1,sp2,sp3,cel_all,cel_len,l2',ik,w7,b0,rd1_of g1,b2,a2]);try simp only[yback])
 refine s_l01Add (k:=-1) zp (sb 1 (by omega)) (sa 1 (by omega)) (by omega) fun K8 q8=>⟨q8,?_⟩
 ((try simp (maxSteps:=3000000) (dsimp:=false) (disch:=first|omega|simp only[lnx];omega) only[↓ypre,ypost,↓reduceIte,reduceEqDiff,reduceAdd,reduceSub,reduceLeDiff,zz0,ynew,f1,f2,f3,f6,f38]);try simp only[yback])
 have ad3:=addF_by (k:=-1) (b:=seg a 1) (i:=9) zp (sb 1 (by omega)) (Nat.le_refl _)
 refine s_l03With (f:=1) byk ad3 (by omega) fun K9 q9=>?_
 have by3:By 27 (plThr x.p a b):=plThr_by zp byk
 have l3:=by3.1
 have e3:wth b 1 (addF x.p (seg b 1) (seg a 1) (-1) 9)=plThr x.p a b:=rfl
 rw[e3]
 ((try simp (maxSteps:=3000000) (dsimp:=false) (disch:=first|omega|simp only[lnx];omega) only[↓ypre,ypost,↓reduceIte,reduceEqDiff,reduceAdd,reduceSub,reduceLeDiff,zz0,ynew,f1,f2,f3,f6,f38,aggV,cel_all,cel_len,l3,zrep27,sp27z l3,fillL,List.append_nil,List.length_replicate]);try simp only[yback])
 generalize hJ1:AH.new K9 _=J1
 obtain⟨bq,t1,m1⟩:=new_facts hJ1
 have q89:=q8.trans q9
 have oo:OwnP H5.length J1 (.slice (some ⟨H5.length+1,0,none⟩) x.ps.length 27) ((x.ps.set I (plOne x.p a b)).set K (plTwo x.p a b)):=⟨wid_set w27' l2',.inr ⟨_,false,by rw[List.length_set,List.length_set],by omega,pre_get (q89.trans t1) gB⟩⟩
 have PJ:H5<+:J1:=P7'.trans (q89.trans t1)
 ((try simp (maxSteps:=3000000) (dsimp:=false) (disch:=first|omega|simp only[lnx];omega) only[↓ypre,ypost,↓reduceIte,reduceEqDiff,reduceAdd,reduceSub,reduceLeDiff,zz0,ynew,f1,f2,f3,f6,f38]);try simp only[yback])
 refine oo.appR (rdE_one bq l3) (wid_one l3) (by rw[List.length_set,List.length_set,List.length_singleton];omega) (pre_len PJ) fun sv2 J2 t2' o2=>?_
 have t2:H5<+:J2:=t2' _ (Nat.le_refl _) PJ
 rw[←EL] at o2
 have g1:=pre_get t2 g15
 have g2:=pre_get t2 g25
 ((try simp (maxSteps:=3000000) (dsimp:=false) (disch:=first|omega|simp only[lnx];omega) only[↓ypre,ypost,↓reduceIte,reduceEqDiff,reduceAdd,reduceSub,reduceLeDiff,zz0,ynew,f1,f2,f3,f6,f38,rdn_of g1]);try simp only[yback])
 refine s_l03Told (x:=x) o1 (o2.prods bw.2) (by omega) fun w' H13 p13 hw'=>?_
 have g13:=pre_get p13 g2
 have l13:=get_lt g13
 have lt2:=pre_len t2
 ((try simp (maxSteps:=3000000) (dsimp:=false) (disch:=first|omega|simp only[lnx];omega) only[↓ypre,ypost,↓reduceIte,reduceEqDiff,reduceAdd,reduceSub,reduceLeDiff,zz0,ynew,f1,f2,f3,f6,f38,schV,hw'.now.one,wr_of g13,splice_eq,rdn_put_same]);try simp only[yback])
 exact hQ w' _ (pre_put (P5.trans (t2.trans p13)) (by omega)) (KN.mono (KN.put hw' (by omega)) (by omega))
theorem s_l03Length {x:Sch} {v:Value} {f:Nat} {h:AH} {Q:Value→AH→Prop} (hv:isOne v=true) (z:SZ x) (hf:f<3) (hQ:∀ h',h<+:h'→Q (I64 (pl x f)) h'):WF S 38 [schV x v,I64 f] h Q:=by
 refine WF_fn (fn:=c38) rfl rfl ?_
 dsimp only[c38,oO,oM,oS,oG,oK,oE,oL,oF,oX,oN]
 ((try simp (maxSteps:=3000000) (dsimp:=false) (disch:=first|omega|simp only[lnx];omega) only[↓ypre,ypost,↓reduceIte,reduceEqDiff,reduceAdd,reduceSub,reduceLeDiff,zz0,ynew,schV,hv]);try simp only[yback])
 generalize hH1:AH.new h _=H1
 obtain⟨hb1,p1,n1⟩:=new_facts hH1
 ((try simp (maxSteps:=3000000) (dsimp:=false) (disch:=first|omega|simp only[lnx];omega) only[↓ypre,ypost,↓reduceIte,reduceEqDiff,reduceAdd,reduceSub,reduceLeDiff,zz0,ynew,rdn_of hb1]);try simp only[yback])
 refine s_l01Lengths (x:=x) hv z fun H2 p2=>?_
 have e:f=0∨f=1∨f=2:=by omega
 rcases e with rfl|rfl|rfl
 ·((try simp (maxSteps:=3000000) (dsimp:=false) (disch:=first|omega|simp only[lnx];omega) only[↓ypre,ypost,↓reduceIte,reduceEqDiff,reduceAdd,reduceSub,reduceLeDiff,zz0,ynew,show ((0:Nat):Int)=0 from rfl,show decide ((0:Int)=0)=true from rfl]);try simp only[yback])
  exact hQ _ (p1.trans p2)
 ·((try simp (maxSteps:=3000000) (dsimp:=false) (disch:=first|omega|simp only[lnx];omega) only[↓ypre,ypost,↓reduceIte,reduceEqDiff,reduceAdd,reduceSub,reduceLeDiff,zz0,ynew,show ((1:Nat):Int)=1 from rfl,show decide ((1:Int)=0)=false from rfl,show decide ((1:Int)=1)=true from rfl]);try simp only[yback])
  exact hQ _ (p1.trans p2)
 ·((try simp (maxSteps:=3000000) (dsimp:=false) (disch:=first|omega|simp only[lnx];omega) only[↓ypre,ypost,↓reduceIte,reduceEqDiff,reduceAdd,reduceSub,reduceLeDiff,zz0,ynew,show ((2:Nat):Int)=2 from rfl,show decide ((2:Int)=0)=false from rfl,show decide ((2:Int)=1)=false from rfl]);try simp only[yback])
  exact hQ _ (p1.trans p2)
theorem told_split {x:Sch} {L:List (List Int)} (g:GX (wps x L)):toldL L=L:=told_id (x:=wps x L) g.ok
theorem s_SplitProduct {x:Sch} {v:Value} {i f0:Int} {F:List Int} {h:AH} {Q:Value→AH→Prop} (hv:Prods h v x.ps) (hl:SmallX x.ps) (hF:By 9 F)
  (hQ:∀ w h',h<+:h'→KN h.length h' (fun h2=>Prods h2 w (spR x i f0 F).1.ps)→Q (.tuple #[schV (spR x i f0 F).1 w,I64 (spR x i f0 F).2]) h'):WF S 12 [schV x v,I64 i,I64 f0,aggV .u8 F] h Q:=by
 refine WF_fn (fn:=c12) rfl rfl ?_
 dsimp only[c12,oO,oM,oS,oG,oK,oE,oL,oF,oX,oN]
 have o1:=hv.one
 have F9:=hF.1
 have tF:(cel .u8 F).take 9=cel .u8 F:=List.take_of_length_le (by rw[cel_len,F9];exact Nat.le_refl _)
 ((try simp (maxSteps:=3000000) (dsimp:=false) (disch:=first|omega|simp only[lnx];omega) only[↓ypre,ypost,↓reduceIte,reduceEqDiff,reduceAdd,reduceSub,reduceLeDiff,zz0,ynew,schV,o1,aggV,cellsL_cel,cel_all]);try simp only[yback])
 generalize hH1:AH.new h _=H1
 obtain⟨hb1,p1,n1⟩:=new_facts hH1
 generalize hHF:AH.new H1 _=HF
 obtain⟨hbF,pF,nF⟩:=new_facts hHF
 generalize hH2:AH.new HF _=H2
 obtain⟨hb2,p2,n2⟩:=new_facts hH2
 have P2:=p1.trans (pF.trans p2)
 have g1:=pre_get (pF.trans p2) hb1
 have gF:=pre_get p2 hbF
 ((try simp (maxSteps:=3000000) (dsimp:=false) (disch:=first|omega|simp only[lnx];omega) only[↓ypre,ypost,↓reduceIte,reduceEqDiff,reduceAdd,reduceSub,reduceLeDiff,zz0,ynew,rdn_of g1]);try simp only[yback])
 refine s_l01Is (x:=x) (hv.pre P2) hl fun H3 p3=>?_
 have g1:=pre_get p3 g1
 have gF:=pre_get p3 gF
 have g2:=pre_get p3 hb2
 have l2:=get_lt g2
 unfold spR at hQ
 cases hx:isX x with
 | false=>
  rw[hx] at hQ
  ((try simp (maxSteps:=3000000) (dsimp:=false) (disch:=first|omega|simp only[lnx];omega) only[↓ypre,ypost,↓reduceIte,reduceEqDiff,reduceAdd,reduceSub,reduceLeDiff,zz0,ynew,fillL,wr_of g2,splice_eq,rdn_put_same]);try simp only[yback])
  exact hQ _ _ (pre_put (P2.trans p3) (by omega)) zeroS_kn
 | true=>
 rw[hx] at hQ
 simp only[if_true] at hQ
 obtain⟨z,hl30⟩:=isX_sz hx
 have zp:=z.p
 ((try simp (maxSteps:=3000000) (dsimp:=false) (disch:=first|omega|simp only[lnx];omega) only[↓ypre,ypost,↓reduceIte,reduceEqDiff,reduceAdd,reduceSub,reduceLeDiff,zz0,ynew,rdn_of g1,fillL,zrep]);try simp only[yback])
 generalize hH4:AH.new H3 _=H4
 obtain⟨hb4,p4,n4⟩:=new_facts hH4
 refine s_l03Numbers (x:=x) (ns:=[i]) (hv.pre (P2.trans (p3.trans p4))) hl (Ints.own (ns:=[i]) hb4 rfl) (by simp) fun H5 p5=>?_
 have g1:=pre_get (p4.trans p5) g1
 have g2:=pre_get (p4.trans p5) g2
 have gF:=pre_get (p4.trans p5) gF
 have l2:=get_lt g2
 have P5:=P2.trans (p3.trans (p4.trans p5))
 have no:∀ {a b c:Bool},(a&&b)=false∨c=false→((a&&b)&&c)=false:=fun h=>by rcases h with h|h<;>rw[h]<;>simp
 cases c1:[i].all (numOk x.ps.length) with
 | false=>
  rw[show spOk x i f0 F=false from no (.inl (by rw[c1];rfl))] at hQ
  ((try simp (maxSteps:=3000000) (dsimp:=false) (disch:=first|omega|simp only[lnx];omega) only[↓ypre,ypost,↓reduceIte,reduceEqDiff,reduceAdd,reduceSub,reduceLeDiff,zz0,ynew,fillL,wr_of g2,splice_eq,rdn_put_same]);try simp only[yback])
  exact hQ _ _ (pre_put P5 (by omega)) zeroS_kn
 | true=>
 ((try simp (maxSteps:=3000000) (dsimp:=false) (disch:=first|omega|simp only[lnx];omega) only[↓ypre,ypost,↓reduceIte,reduceEqDiff,reduceAdd,reduceSub,reduceLeDiff,zz0,ynew]);try simp only[yback])
 refine s_l01In ?_
 cases c2:decide (0≤f0∧f0≤2) with
 | false=>
  rw[show spOk x i f0 F=false from no (.inl (by rw[c2,Bool.and_false]))] at hQ
  ((try simp (maxSteps:=3000000) (dsimp:=false) (disch:=first|omega|simp only[lnx];omega) only[↓ypre,ypost,↓reduceIte,reduceEqDiff,reduceAdd,reduceSub,reduceLeDiff,zz0,ynew,fillL,wr_of g2,splice_eq,rdn_put_same]);try simp only[yback])
  exact hQ _ _ (pre_put P5 (by omega)) zeroS_kn
 | true=>
 have b2:=of_decide_eq_true c2
 obtain⟨r,rfl⟩:∃ n:Nat,f0=n:=⟨f0.toNat,by omega⟩
 have hf:r<3:=by omega
 have e0:spOk x i (r:Int) F=okForm x.p (pl x r) F:=by
  unfold spOk
  rw[c1,c2,Int.toNat_natCast]
  rfl
 rw[e0] at hQ
 ((try simp (maxSteps:=3000000) (dsimp:=false) (disch:=first|omega|simp only[lnx];omega) only[↓ypre,ypost,↓reduceIte,reduceEqDiff,reduceAdd,reduceSub,reduceLeDiff,zz0,ynew,rd1_of g1,rdn_of g1,rdn_of gF,cel_len,F9,tF]);try simp only[yback])
 refine s_l03Length (x:=x) o1 z hf fun H6 p6=>⟨p6,?_⟩
 ((try simp (maxSteps:=3000000) (dsimp:=false) (disch:=first|omega|simp only[lnx];omega) only[↓ypre,ypost,↓reduceIte,reduceEqDiff,reduceAdd,reduceSub,reduceLeDiff,zz0,ynew]);try simp only[yback])
 refine s_l01Form (n:=pl x r) hF fun H7 p7=>?_
 have g1:=pre_get (p6.trans p7) g1
 have g2:=pre_get (p6.trans p7) g2
 have gF:=pre_get (p6.trans p7) gF
 have l2:=get_lt g2
 have P7:=P5.trans (p6.trans p7)
 cases c3:okForm x.p (pl x r) F with
 | false=>
  rw[c3] at hQ
  ((try simp (maxSteps:=3000000) (dsimp:=false) (disch:=first|omega|simp only[lnx];omega) only[↓ypre,ypost,↓reduceIte,reduceEqDiff,reduceAdd,reduceSub,reduceLeDiff,zz0,ynew,fillL,wr_of g2,splice_eq,rdn_put_same]);try simp only[yback])
  exact hQ _ _ (pre_put P7 (by omega)) zeroS_kn
 | true=>
 rw[c3] at hQ
 simp only[if_true] at hQ
 simp only[List.all_cons,List.all_nil,Bool.and_true] at c1
 have bi:=of_decide_eq_true c1
 obtain⟨I,rfl⟩:∃ n:Nat,i=n:=⟨i.toNat,by omega⟩
 have hi:I<x.ps.length:=by omega
 simp only[Int.toNat_natCast,spSt] at hQ
 ((try simp (maxSteps:=3000000) (dsimp:=false) (disch:=first|omega|simp only[lnx];omega) only[↓ypre,ypost,↓reduceIte,reduceEqDiff,reduceAdd,reduceSub,reduceLeDiff,zz0,ynew,rdn_of gF,cel_len,F9,tF]);try simp only[yback])
 refine s_l01Zero F9 fun H8 p8=>?_
 have g1:=pre_get p8 g1
 have g2:=pre_get p8 g2
 have gF:=pre_get p8 gF
 have l2:=get_lt g2
 have P8:=P7.trans p8
 cases c4:isZ F with
 | true=>
  rw[c4] at hQ
  simp only[Bool.true_or,if_true] at hQ
  ((try simp (maxSteps:=3000000) (dsimp:=false) (disch:=first|omega|simp only[lnx];omega) only[↓ypre,ypost,↓reduceIte,reduceEqDiff,reduceAdd,reduceSub,reduceLeDiff,zz0,ynew,fillL,wr_of g2,splice_eq,rdn_put_same]);try simp only[yback])
  exact hQ _ _ (pre_put P8 (by omega)) zeroS_kn
 | false=>
 rw[c4] at hQ
 simp only[Bool.false_or] at hQ
 have byi:=hv.by hi
 have a27:=byi.1
 obtain⟨ni,oi,ixi,rdi⟩:=((hv.pre P8).1).at hi
 have ri:=rdi.1 0 27 (by omega)
 rw[Nat.add_zero,List.drop_zero,List.take_of_length_le (by omega)] at ri
 ((try simp (maxSteps:=3000000) (dsimp:=false) (disch:=first|omega|simp only[lnx];omega) only[↓ypre,ypost,↓reduceIte,reduceEqDiff,reduceAdd,reduceSub,reduceLeDiff,zz0,ynew,rdn_of gF,cel_len,F9,tF,rd1_of g1,ixi,ri]);try simp only[yback])
 refine s_l03Factor (q:=x.ps.getD I []) byi hf fun H9 p9=>⟨p9,?_⟩
 have g1:=pre_get p9 g1
 have g2:=pre_get p9 g2
 have gF:=pre_get p9 gF
 have l2:=get_lt g2
 have P9:=P8.trans p9
 have ea:=eqaV_cel (k:=.u8) F9 (seg_n9 a27 hf) (by omega)
 cases c5:(F==seg (x.ps.getD I []) r) with
 | true=>
  rw[c5] at hQ ea
  simp only[if_true] at hQ
  ((try simp (maxSteps:=3000000) (dsimp:=false) (disch:=first|omega|simp only[lnx];omega) only[↓ypre,ypost,↓reduceIte,reduceEqDiff,reduceAdd,reduceSub,reduceLeDiff,zz0,ynew,aggV,ea,fillL,wr_of g2,splice_eq,rdn_put_same]);try simp only[yback])
  exact hQ _ _ (pre_put P9 (by omega)) zeroS_kn
 | false=>
 rw[c5] at hQ ea
 simp only[Bool.false_eq_true,if_false] at hQ
 have vl:=hv.1.len
 by_cases h30:x.ps.length=30
 ·rw[if_pos h30] at hQ
  ((try simp (maxSteps:=3000000) (dsimp:=false) (disch:=first|omega|simp only[lnx];omega) only[↓ypre,ypost,↓reduceIte,reduceEqDiff,reduceAdd,reduceSub,reduceLeDiff,zz0,ynew,aggV,ea,rd1_of g1,vl,decide_eq_true (show (x.ps.length:Int)=30 by omega),fillL,wr_of g2,splice_eq,rdn_put_same]);try simp only[yback])
  exact hQ _ _ (pre_put P9 (by omega)) zeroS_kn
 rw[if_neg h30] at hQ
 have lP9:=pre_len P9
 have q29:=pre_len (p3.trans (p4.trans (p5.trans (p6.trans (p7.trans (p8.trans p9))))))
 have w27:Wid 27 x.ps:=hv.1.widL
 have gX:=GX.of' hv hx
 have gS:=split_GX gX hF hi hf c3 c4 (by simpa using c5) (by omega)
 ((try simp (maxSteps:=3000000) (dsimp:=false) (disch:=first|omega|simp only[lnx];omega) only[↓ypre,ypost,↓reduceIte,reduceEqDiff,reduceAdd,reduceSub,reduceLeDiff,zz0,ynew,aggV,ea,rd1_of g1,vl,decide_eq_false (show ¬ (x.ps.length:Int)=30 by omega),fillL,zrep]);try simp only[yback])
 refine copy_zero (hv.1.pre P9) (by omega) (by omega) fun HA lA pA gB=>?_
 have g15:=g1
 have g25:=g2
 have g1:=pre_get pA g1
 have gF:=pre_get pA gF
 refine WO_cut (fun f:Fr=>f 1=I64 I∧f 2=I64 r∧f 4=.pointer (some ⟨h.length,0,none⟩)∧f 7=.pointer (some ⟨H1.length,0,none⟩)∧f 8=.pointer (some ⟨HF.length,0,none⟩)∧f 63=.slice (some ⟨H9.length+1,0,none⟩) x.ps.length 27∧True) ⟨(by first|rfl|simp[upd_apply]),(by first|rfl|simp[upd_apply]),(by first|rfl|simp[upd_apply]),(by first|rfl|simp[upd_apply]),(by first|rfl|simp[upd_apply]),(by first|rfl|simp[upd_apply]),trivial⟩ ?_
 rintro f ⟨f1,f2,f4,f7,f8,f63,-⟩
 have ri:=rd_prod gB w27 hi
 have ii:=ixs_own (B:=H9.length+1) hi
 have EL:splL x.p x.ps I r F=x.ps.set I (wth (x.ps.getD I []) r F)++[spTwo x.p (x.ps.getD I []) r F]:=rfl
 have bw:=split_wb zp hF w27 hv.2 hi hf
 have bL:=splL_len (p:=x.p) (L:=x.ps) (i:=I) (f:=r) (F:=F)
 generalize x.ps.getD I []=a at *
 generalize splL x.p x.ps I r F=PL at *
 have t27:(cel .u8 a).take 27=cel .u8 a:=List.take_of_length_le (by rw[cel_len,a27];exact Nat.le_refl _)
 ((try simp (maxSteps:=3000000) (dsimp:=false) (disch:=first|omega|simp only[lnx];omega) only[↓ypre,ypost,↓reduceIte,reduceEqDiff,reduceAdd,reduceSub,reduceLeDiff,zz0,ynew,f1,f2,f4,f7,f8,f63,ii,ri,cel_all,cellsL_cel,cel_len,a27,t27,List.append_nil,rdn_of gF,F9,tF]);try simp only[yback])
 generalize hK1:AH.new HA _=K1
 obtain⟨ka,pa,na⟩:=new_facts hK1
 have gF:=pre_get pa gF
 have g1:=pre_get pa g1
 have gB:=pre_get pa gB
 refine s_l03With (q:=a) (f:=r) byi hF hf fun K2 q2=>?_
 have by1:=wth_by (f:=r) byi hF hf
 have l1:=by1.1
 have ka:=pre_get q2 ka
 have gF:=pre_get q2 gF
 have g1:=pre_get q2 g1
 have gB:=pre_get q2 gB
 obtain⟨K3,w3,n3,gB,kp3,pp3⟩:=wr_prod gB w27 l1 hi
 have P3':H9<+:K3:=pp3 H9 (by omega) (pA.trans (pa.trans q2))
 have qq2:=pre_len q2
 have ka:=kp3 _ _ (by omega) ka
 have gF:=kp3 _ _ (by omega) gF
 have g1:=kp3 _ _ (by omega) g1
 ((try simp (maxSteps:=3000000) (dsimp:=false) (disch:=first|omega|simp only[lnx];omega) only[↓ypre,ypost,↓reduceIte,reduceEqDiff,reduceAdd,reduceSub,reduceLeDiff,zz0,ynew,f1,f2,f4,f7,f8,f63,aggV,cel_all,cel_len,l1,ii,w3,rdn_of ka,a27,t27,rd1_of g1]);try simp only[yback])
 refine s_l03Factor (q:=a) byi hf fun K4 q4=>⟨q4,?_⟩
 have gF:=pre_get q4 gF
 ((try simp (maxSteps:=3000000) (dsimp:=false) (disch:=first|omega|simp only[lnx];omega) only[↓ypre,ypost,↓reduceIte,reduceEqDiff,reduceAdd,reduceSub,reduceLeDiff,zz0,ynew,f1,f2,f4,f7,f8,f63,rdn_of gF,cel_len,F9,tF]);try simp only[yback])
 refine s_l01Add (k:=-1) zp (seg_by byi hf) hF (by omega) fun K5 q5=>⟨q5,?_⟩
 ((try simp (maxSteps:=3000000) (dsimp:=false) (disch:=first|omega|simp only[lnx];omega) only[↓ypre,ypost,↓reduceIte,reduceEqDiff,reduceAdd,reduceSub,reduceLeDiff,zz0,ynew,f1,f2,f4,f7,f8,f63]);try simp only[yback])
 have ad:=addF_by (k:=-1) (b:=F) (i:=9) zp (seg_by byi hf) (Nat.le_refl _)
 refine s_l03With (q:=a) (f:=r) byi ad hf fun K6 q6=>?_
 have e3:wth a r (addF x.p (seg a r) F (-1) 9)=spTwo x.p a r F:=rfl
 rw[e3]
 have l3:=(spTwo_by (F:=F) zp byi hf).1
 ((try simp (maxSteps:=3000000) (dsimp:=false) (disch:=first|omega|simp only[lnx];omega) only[↓ypre,ypost,↓reduceIte,reduceEqDiff,reduceAdd,reduceSub,reduceLeDiff,zz0,ynew,f1,f2,f4,f7,f8,f63,aggV,cel_all,cel_len,l3,zrep27,sp27z l3,fillL,List.append_nil,List.length_replicate]);try simp only[yback])
 generalize hJ1:AH.new K6 _=J1
 obtain⟨bq,t1,m1⟩:=new_facts hJ1
 have q36:=q4.trans (q5.trans q6)
 have oo:OwnP H9.length J1 (.slice (some ⟨H9.length+1,0,none⟩) x.ps.length 27) (x.ps.set I (wth a r F)):=⟨wid_set w27 l1,.inr ⟨_,false,by rw[List.length_set],by omega,pre_get (q36.trans t1) gB⟩⟩
 have PJ:H9<+:J1:=P3'.trans (q36.trans t1)
 ((try simp (maxSteps:=3000000) (dsimp:=false) (disch:=first|omega|simp only[lnx];omega) only[↓ypre,ypost,↓reduceIte,reduceEqDiff,reduceAdd,reduceSub,reduceLeDiff,zz0,ynew,f1,f2,f4,f7,f8,f63]);try simp only[yback])
 refine oo.appR (rdE_one bq l3) (wid_one l3) (by rw[List.length_set,List.length_singleton];omega) (pre_len PJ) fun sv2 J2 t2' o2=>?_
 have t2:H9<+:J2:=t2' _ (Nat.le_refl _) PJ
 rw[←EL] at o2
 have g1:=pre_get t2 g15
 have g2:=pre_get t2 g25
 ((try simp (maxSteps:=3000000) (dsimp:=false) (disch:=first|omega|simp only[lnx];omega) only[↓ypre,ypost,↓reduceIte,reduceEqDiff,reduceAdd,reduceSub,reduceLeDiff,zz0,ynew,f1,f2,f4,f7,f8,f63,rdn_of g1]);try simp only[yback])
 refine s_l03Told (x:=x) o1 (o2.prods bw.2) (by omega) fun w' H13 p13 hw'=>?_
 rw[told_split gS] at hw' ⊢
 have g13:=pre_get p13 g2
 have l13:=get_lt g13
 have lt2:=pre_len t2
 ((try simp (maxSteps:=3000000) (dsimp:=false) (disch:=first|omega|simp only[lnx];omega) only[↓ypre,ypost,↓reduceIte,reduceEqDiff,reduceAdd,reduceSub,reduceLeDiff,zz0,ynew,f1,f2,f4,f7,f8,f63,schV,hw'.now.one,wr_of g13,splice_eq,rdn_put_same]);try simp only[yback])
 exact hQ w' _ (pre_put (P9.trans (t2.trans p13)) (by omega)) (KN.mono (KN.put hw' (by omega)) (by omega))
theorem i_PlusMove {x:Sch} {v:Value} {i k:Int} {h:AH} {Q:Value→AH→Prop} (hv:Prods h v x.ps) (nk:NK v) (hl:SmallX x.ps)
  (hQ:∀ w h',h<+:h'→KN h.length h' (fun h2=>Prods h2 w (pmR x i k).1.ps)→NK w→Q (.tuple #[schV (pmR x i k).1 w,I64 (pmR x i k).2]) h'):WF S 14 [schV x v,I64 i,I64 k] h Q:=by
 refine WF_fn (fn:=c14) rfl rfl ?_
 dsimp only[c14,oO,oM,oS,oG,oK,oE,oL,oF,oX,oN]
 have o1:=hv.one
 have nz:NK (.slice none 0 0):=.inl (.inl rfl)
 ((try simp (maxSteps:=3000000) (dsimp:=false) (disch:=first|omega|simp only[lnx];omega) only[↓ypre,ypost,↓reduceIte,reduceEqDiff,reduceAdd,reduceSub,reduceLeDiff,zz0,ynew,schV,o1]);try simp only[yback])
 generalize hH1:AH.new h _=H1
 obtain⟨hb1,p1,n1⟩:=new_facts hH1
 generalize hH2:AH.new H1 _=H2
 obtain⟨hb2,p2,n2⟩:=new_facts hH2
 have g1:=pre_get p2 hb1
 ((try simp (maxSteps:=3000000) (dsimp:=false) (disch:=first|omega|simp only[lnx];omega) only[↓ypre,ypost,↓reduceIte,reduceEqDiff,reduceAdd,reduceSub,reduceLeDiff,zz0,ynew,rdn_of g1]);try simp only[yback])
 refine i_IsScheme (x:=x) (hv.pre (p1.trans p2)) hl fun H3 p3=>?_
 have g1:=pre_get p3 g1
 have g2:=pre_get p3 hb2
 have l2:=get_lt g2
 unfold pmR at hQ
 cases hx:isX x with
 | false=>
  rw[hx] at hQ
  ((try simp (maxSteps:=3000000) (dsimp:=false) (disch:=first|omega|simp only[lnx];omega) only[↓ypre,ypost,↓reduceIte,reduceEqDiff,reduceAdd,reduceSub,reduceLeDiff,zz0,ynew,fillL,wr_of g2,splice_eq,rdn_put_same]);try simp only[yback])
  exact hQ _ _ (pre_put (p1.trans (p2.trans p3)) (by omega)) zeroS_kn nz
 | true=>
 rw[hx] at hQ
 simp only[if_true] at hQ
 obtain⟨z,hl30⟩:=isX_sz hx
 have zp:=z.p
 ((try simp (maxSteps:=3000000) (dsimp:=false) (disch:=first|omega|simp only[lnx];omega) only[↓ypre,ypost,↓reduceIte,reduceEqDiff,reduceAdd,reduceSub,reduceLeDiff,zz0,ynew,rdn_of g1,fillL,zrep]);try simp only[yback])
 generalize hH4:AH.new H3 _=H4
 obtain⟨hb4,p4,n4⟩:=new_facts hH4
 refine i_isIndex (x:=x) (ns:=[i,k]) (hv.pre (p1.trans (p2.trans (p3.trans p4)))) hl (Ints.own (ns:=[i,k]) hb4 rfl) (by simp) fun H5 p5=>?_
 have g1:=pre_get (p4.trans p5) g1
 have g2:=pre_get (p4.trans p5) g2
 have l2:=get_lt g2
 have P5:=p1.trans (p2.trans (p3.trans (p4.trans p5)))
 cases c1:[i,k].all (numOk x.ps.length) with
 | false=>
  rw[c1] at hQ
  ((try simp (maxSteps:=3000000) (dsimp:=false) (disch:=first|omega|simp only[lnx];omega) only[↓ypre,ypost,↓reduceIte,reduceEqDiff,reduceAdd,reduceSub,reduceLeDiff,zz0,ynew,fillL,wr_of g2,splice_eq,rdn_put_same]);try simp only[yback])
  exact hQ _ _ (pre_put P5 (by omega)) zeroS_kn nz
 | true=>
 rw[c1] at hQ
 simp only[if_true] at hQ
 simp only[List.all_cons,List.all_nil,Bool.and_true,Bool.and_eq_true] at c1
 have bi:=of_decide_eq_true c1.1
 have bk:=of_decide_eq_true c1.2
 obtain⟨I,rfl⟩:∃ n:Nat,i=n:=⟨i.toNat,by omega⟩
 obtain⟨K,rfl⟩:∃ n:Nat,k=n:=⟨k.toNat,by omega⟩
 simp only[Int.toNat_natCast] at hQ
 by_cases hik:(I:Int)=K
 ·rw[if_pos hik] at hQ
  ((try simp (maxSteps:=3000000) (dsimp:=false) (disch:=first|omega|simp only[lnx];omega) only[↓ypre,ypost,↓reduceIte,reduceEqDiff,reduceAdd,reduceSub,reduceLeDiff,zz0,ynew,decide_eq_true hik,fillL,wr_of g2,splice_eq,rdn_put_same]);try simp only[yback])
  exact hQ _ _ (pre_put P5 (by omega)) zeroS_kn nz
 rw[if_neg hik] at hQ
 have vl:=hv.1.len
 by_cases h30:x.ps.length=30
 ·rw[if_pos h30] at hQ
  ((try simp (maxSteps:=3000000) (dsimp:=false) (disch:=first|omega|simp only[lnx];omega) only[↓ypre,ypost,↓reduceIte,reduceEqDiff,reduceAdd,reduceSub,reduceLeDiff,zz0,ynew,decide_eq_false hik,rd1_of g1,vl,decide_eq_true (show (x.ps.length:Int)=30 by omega),fillL,wr_of g2,splice_eq,rdn_put_same]);try simp only[yback])
  exact hQ _ _ (pre_put P5 (by omega)) zeroS_kn nz
 rw[if_neg h30] at hQ
 have hi:I<x.ps.length:=by omega
 have hk:K<x.ps.length:=by omega
 have lP5:=pre_len P5
 have q25:=pre_len (p3.trans (p4.trans p5))
 have w27:Wid 27 x.ps:=hv.1.widL
 ((try simp (maxSteps:=3000000) (dsimp:=false) (disch:=first|omega|simp only[lnx];omega) only[↓ypre,ypost,↓reduceIte,reduceEqDiff,reduceAdd,reduceSub,reduceLeDiff,zz0,ynew,decide_eq_false hik,rd1_of g1,vl,decide_eq_false (show ¬ (x.ps.length:Int)=30 by omega)]);try simp only[yback])
 refine i_CloneP ((hv.pre P5).1) nk (by omega) fun w0 H6 p6 on=>⟨?_,?_⟩
 ·simp only[List.map_cons,List.map_nil,ev_tmp,updo_some,upd_apply,Nat.reduceEqDiff,↓reduceIte]
  exact KpU_one (m:=h.length+1) (Kp.of p6) (by show h.length≠h.length+1;omega)
 obtain⟨-,⟨-,e0⟩|⟨B,fu,rfl,hB,gB⟩⟩:=on
 ·rw[e0] at hi
  simp at hi
 have g15:=g1
 have g25:=g2
 have g1:=pre_get p6 g1
 have g2:=pre_get p6 g2
 have lB:=get_lt gB
 refine WO_cut (fun f:Fr=>f 1=I64 I∧f 2=I64 K∧f 3=.pointer (some ⟨h.length,0,none⟩)∧f 6=.pointer (some ⟨H1.length,0,none⟩)∧f 37=I64 x.p∧f 40=.slice (some ⟨B,0,none⟩) x.ps.length 27∧True) ⟨(by first|rfl|simp[upd_apply]),(by first|rfl|simp[upd_apply]),(by first|rfl|simp[upd_apply]),(by first|rfl|simp[upd_apply]),(by first|rfl|simp[upd_apply]),(by first|rfl|simp[upd_apply]),trivial⟩ ?_
 rintro f ⟨f1,f2,f3,f6,f37,f40,-⟩
 have byi:=hv.by hi
 have byk:=hv.by hk
 have ri:=rd_prod gB w27 hi
 have rk:=rd_prod gB w27 hk
 have ii:=ixs_own (B:=B) hi
 have ik:=ixs_own (B:=B) hk
 have EL:plusL x.p x.ps I K=(x.ps.set I (plOne x.p (x.ps.getD I []) (x.ps.getD K []))).set K (plTwo x.p (x.ps.getD I []) (x.ps.getD K []))++[plThr x.p (x.ps.getD I []) (x.ps.getD K [])]:=rfl
 have bw:=plus_wb zp w27 hv.2 hi hk
 have bL:=plusL_len (p:=x.p) (L:=x.ps) (i:=I) (k:=K)
 generalize x.ps.getD I []=a at *
 generalize x.ps.getD K []=b at *
 generalize plusL x.p x.ps I K=PL at *
 have a27:=byi.1
 have b27:=byk.1
 have ta:(cel .u8 a).take 27=cel .u8 a:=List.take_of_length_le (by rw[cel_len,a27];exact Nat.le_refl _)
 have tb:(cel .u8 b).take 27=cel .u8 b:=List.take_of_length_le (by rw[cel_len,b27];exact Nat.le_refl _)
 have ca:=cel_s0 (q:=a)
 have cb:=cel_s0 (q:=b)
 have wp:IntKind.i64.wrap (x.p-1)=x.p-1:=wrap64_in (by omega) (by omega)
 ((try simp (maxSteps:=3000000) (dsimp:=false) (disch:=first|omega|simp only[lnx];omega) only[↓ypre,ypost,↓reduceIte,reduceEqDiff,reduceAdd,reduceSub,reduceLeDiff,zz0,ynew,f1,f2,f3,f6,f37,f40,ii,ik,ri,rk,cellsL_cel,cel_all,cel_len,a27,b27,ta,tb,ca,cb,wp]);try simp only[yback])
 generalize hK1:AH.new H6 _=K1
 obtain⟨ka,pa,na⟩:=new_facts hK1
 generalize hK2:AH.new K1 _=K2
 obtain⟨kb,pb,nb⟩:=new_facts hK2
 have ka:=pre_get pb ka
 have P2:H6<+:K2:=pa.trans pb
 have gB:=pre_get P2 gB
 obtain⟨a0,a1,a2,a3⟩:=rd_q ka a27
 obtain⟨b0,b1,b2,b3⟩:=rd_q kb b27
 have sa:=fun j (hj:j<3)=>seg_by byi hj
 have sb:=fun j (hj:j<3)=>seg_by byk hj
 have sa0:=(sa 0 (by omega)).1
 have sa1:=(sa 1 (by omega)).1
 have sa2:=(sa 2 (by omega)).1
 have sb0:=(sb 0 (by omega)).1
 have sb1:=(sb 1 (by omega)).1
 have sb2:=(sb 2 (by omega)).1
 refine i_sum (k:=x.p-1) zp (sa 0 (by omega)) (sb 0 (by omega)) (by omega) fun K3 q3=>⟨q3,?_⟩
 rw[addF_cong (s:=x.p-1) (t:=-1) zp.1 ⟨1,by omega⟩]
 have ad1:=addF_by (k:=-1) (b:=seg b 0) (i:=9) zp (sa 0 (by omega)) (Nat.le_refl _)
 have ka:=pre_get q3 ka
 have kb:=pre_get q3 kb
 have gB:=pre_get q3 gB
 obtain⟨a0,a1,a2,a3⟩:=rd_q ka a27
 have by1:By 27 (plOne x.p a b):=plOne_by zp byi
 have l1:=by1.1
 obtain⟨sp1,sp2,sp3⟩:=sp27 ad1.1 sa1 sa2
 have e1:addF x.p (seg a 0) (seg b 0) (-1) 9++seg a 1++seg a 2=plOne x.p a b:=by
  rw[←seg3 l1]
  rw[plOne_seg a27 (by omega),plOne_seg a27 (by omega),plOne_seg a27 (by omega),if_pos rfl,if_neg (by decide),if_neg (by decide)]
 rw[e1] at sp3
 obtain⟨K5,w5,n5,gB,kp5,pp5⟩:=wr_prod gB w27 l1 hi
 have P5':H5<+:K5:=pp5 H5 hB (p6.trans (P2.trans q3))
 have lq3:=pre_len q3
 have ka:=kp5 _ _ (by omega) ka
 have kb:=kp5 _ _ (by omega) kb
 obtain⟨b0,b1,b2,b3⟩:=rd_q kb b27
 have r2:=(rd_q ka a27).2.2.1
 have r3:=(rd_q ka a27).2.2.2
 ((try simp (maxSteps:=3000000) (dsimp:=false) (disch:=first|omega|simp only[lnx];omega) only[↓ypre,ypost,↓reduceIte,reduceEqDiff,reduceAdd,reduceSub,reduceLeDiff,zz0,ynew,f1,f2,f3,f6,f37,f40,aggV,zeros27,a2,a3,ad1.1,sa1,sa2,List.length_replicate,sp1,sp2,sp3,cel_all,cel_len,l1,ii,w5,b1,r2,r3,b3]);try simp only[yback])
 refine i_sum (k:=1) zp (sa 2 (by omega)) (sb 2 (by omega)) (by omega) fun K6 q6=>⟨q6,?_⟩
 have ka:=pre_get q6 ka
 have kb:=pre_get q6 kb
 have gB:=pre_get q6 gB
 have ad2:=addF_by (k:=1) (b:=seg b 2) (i:=9) zp (sa 2 (by omega)) (Nat.le_refl _)
 have by2:By 27 (plTwo x.p a b):=plTwo_by zp byi byk
 have l2':=by2.1
 obtain⟨sp1,sp2,sp3⟩:=sp27 sb0 sa1 ad2.1
 have e2:seg b 0++seg a 1++addF x.p (seg a 2) (seg b 2) 1 9=plTwo x.p a b:=rfl
 rw[e2] at sp3
 have w27':=wid_set (e:=I) w27 l1
 obtain⟨K7,w7,n7,gB,kp7,pp7⟩:=wr_prod gB w27' l2' (i:=K) (by rw[List.length_set];exact hk)
 have P7':H5<+:K7:=pp7 H5 hB (P5'.trans q6)
 have l67:=pre_len q6
 have ka:=kp7 _ _ (by omega) ka
 have kb:=kp7 _ _ (by omega) kb
 obtain⟨a0,a1,a2,a3⟩:=rd_q ka a27
 obtain⟨b0,b1,b2,b3⟩:=rd_q kb b27
 ((try simp (maxSteps:=3000000) (dsimp:=false) (disch:=first|omega|simp only[lnx];omega) only[↓ypre,ypost,↓reduceIte,reduceEqDiff,reduceAdd,reduceSub,reduceLeDiff,zz0,ynew,f1,f2,f3,f6,f37,f40,aggV,zeros27,sb0,sa1,ad2.1,List.length_replicate,sp1,sp2,sp3,cel_all,cel_len,l2',ik,w7,b1,b2,a2,wp]);try simp only[yback])
 refine i_sum (k:=x.p-1) zp (sb 1 (by omega)) (sa 1 (by omega)) (by omega) fun K8 q8=>⟨q8,?_⟩
 rw[addF_cong (s:=x.p-1) (t:=-1) zp.1 ⟨1,by omega⟩]
 have ad3:=addF_by (k:=-1) (b:=seg a 1) (i:=9) zp (sb 1 (by omega)) (Nat.le_refl _)
 have by3:By 27 (plThr x.p a b):=plThr_by zp byk
 have l3:=by3.1
 obtain⟨sp1,sp2,sp3⟩:=sp27 sb0 ad3.1 sb2
 have e3:seg b 0++addF x.p (seg b 1) (seg a 1) (-1) 9++seg b 2=plThr x.p a b:=by
  rw[←seg3 l3]
  rw[plThr_seg b27 (by omega),plThr_seg b27 (by omega),plThr_seg b27 (by omega),if_neg (by decide),if_pos rfl,if_neg (by decide)]
 rw[e3] at sp3
 have kb:=pre_get q8 kb
 obtain⟨-,-,-,b3⟩:=rd_q kb b27
 ((try simp (maxSteps:=3000000) (dsimp:=false) (disch:=first|omega|simp only[lnx];omega) only[↓ypre,ypost,↓reduceIte,reduceEqDiff,reduceAdd,reduceSub,reduceLeDiff,zz0,ynew,f1,f2,f3,f6,f37,f40,aggV,zeros27,b3,sb0,ad3.1,sb2,sp1,sp2,sp3,cel_all,cel_len,l3,zrep27,sp27z l3,fillL,List.append_nil,List.length_replicate]);try simp only[yback])
 generalize hJ1:AH.new K8 _=J1
 obtain⟨bq,t1,m1⟩:=new_facts hJ1
 have oo:OwnP H5.length J1 (.slice (some ⟨B,0,none⟩) x.ps.length 27) ((x.ps.set I (plOne x.p a b)).set K (plTwo x.p a b)):=⟨wid_set w27' l2',.inr ⟨_,fu,by rw[List.length_set,List.length_set],hB,pre_get (q8.trans t1) gB⟩⟩
 have PJ:H5<+:J1:=P7'.trans (q8.trans t1)
 ((try simp (maxSteps:=3000000) (dsimp:=false) (disch:=first|omega|simp only[lnx];omega) only[↓ypre,ypost,↓reduceIte,reduceEqDiff,reduceAdd,reduceSub,reduceLeDiff,zz0,ynew,f1,f2,f3,f6,f37,f40]);try simp only[yback])
 refine oo.appR (rdE_one bq l3) (wid_one l3) (by rw[List.length_set,List.length_set,List.length_singleton];omega) (pre_len PJ) fun sv2 J2 t2' o2=>?_
 have t2:H5<+:J2:=t2' _ (Nat.le_refl _) PJ
 rw[←EL] at o2
 have g1:=pre_get t2 g15
 have g2:=pre_get t2 g25
 obtain⟨-,⟨-,e0⟩|⟨B2,fu2,rfl,hB2,gB2⟩⟩:=o2
 ·rw[e0] at bL
  simp at bL
 have lt2:=pre_len t2
 ((try simp (maxSteps:=3000000) (dsimp:=false) (disch:=first|omega|simp only[lnx];omega) only[↓ypre,ypost,↓reduceIte,reduceEqDiff,reduceAdd,reduceSub,reduceLeDiff,zz0,ynew,f1,f2,f3,f6,f37,f40,rdn_of g1]);try simp only[yback])
 refine i_keptP gB2 bw.1 bw.2 (by omega) fun R K13 k13 wR g13=>⟨?_,?_⟩
 ·simp only[List.map_cons,List.map_nil,ev_tmp,updo_some,upd_apply,Nat.reduceEqDiff,↓reduceIte,f3]
  exact KpU_one k13 (by show h.length≠B2;omega)
 have g2:=k13.get (by omega) g2
 have P13:H5<+:K13:=k13.pre t2 hB2
 ((try simp (maxSteps:=3000000) (dsimp:=false) (disch:=first|omega|simp only[lnx];omega) only[↓ypre,ypost,↓reduceIte,reduceEqDiff,reduceAdd,reduceSub,reduceLeDiff,zz0,ynew,f1,f2,f3,f6,f37,f40]);try simp only[yback])
 refine i_with (x:=x) (L:=toldL PL) (v:=v) o1 rfl rfl fun K14 q14=>?_
 have g14:=pre_get q14 g2
 have l14:=get_lt g14
 have wT:Wid 27 (toldL PL):=told_wid bw.1
 have gR:=pre_get q14 g13
 have kn:KN H5.length K14 fun h2=>Prods h2 (.slice (some ⟨B2,0,none⟩) (toldL PL).length 27) (toldL PL):=fun h2 d1 d2=>⟨.inr ⟨B2,0,_,rfl,(d2 B2 hB2 (get_lt gR)).trans gR,fun j hj=>?_⟩,told_byt bw.1 bw.2⟩
 ·((try simp (maxSteps:=3000000) (dsimp:=false) (disch:=first|omega|simp only[lnx];omega) only[↓ypre,ypost,↓reduceIte,reduceEqDiff,reduceAdd,reduceSub,reduceLeDiff,zz0,ynew,f1,f2,f3,f6,f37,f40,schV,wr_of g14,splice_eq,rdn_put_same]);try simp only[yback])
  exact hQ _ _ (pre_put (P5.trans (P13.trans q14)) (by omega)) ((KN.put kn (by omega)).mono (by omega)) (.inr ⟨_,_,_,rfl⟩)
 ·have e1:Els .u8 27 K14 (.slice (some ⟨B2,0,none⟩) (toldL PL++R).length 27) (toldL PL++R):=(blk_kN (lo:=0) gR (fun q hq=>by rcases List.mem_append.1 hq with h|h;exact wT q h;exact wR q h) (Nat.zero_le _)).now
  obtain⟨b',o',blk',e2,e3,e4⟩:=e1.resolve_left (fun e=>by cases e.2.choose_spec.2)
  simp only[Value.slice.injEq,Option.some.injEq,Addr.mk.injEq] at e2
  obtain⟨⟨rfl,rfl,-⟩,-⟩:=e2
  rw[gR] at e3
  cases e3
  have:=e4 j (by rw[List.length_append];omega)
  rwa [getD_app_l hj] at this
theorem idx_pl {x:Sch} {f:Nat} (hf:f<3):idx1V 3 (.agg #[I64 (x.n*x.m),I64 (x.m*x.k),I64 (x.n*x.k)]) (I64 f)=some (I64 (pl x f)):=by
 have e:f=0∨f=1∨f=2:=by omega
 rcases e with rfl|rfl|rfl<;>rfl
theorem app_keep {kb:Nat} {h:AH} {v:Value} {C R:List (List Int)} {fu:Bool} {Q:Value→AH→Prop} (g:h.get kb=some ⟨cel .u8 C.flatten,53,false,fu⟩) (wC:Wid 27 C) (hv:RdE h v R) (h0:0<R.length) (hl:C.length+R.length≤1000)
  (hQ:∀ H':AH,H'.length=h.length+1→Kp kb h H'→H'.get h.length=some ⟨cel .u8 (C++R).flatten,53,false,false⟩→Q (.slice (some ⟨h.length,0,none⟩) (C++R).length 27) H'):OQ (appV 53 27 27 (.slice (some ⟨kb,0,none⟩) C.length 27) v h) Q:=by
 rcases hv with⟨rfl,_⟩|⟨n,off,rfl,e2⟩
 ·simp at h0
 have fl:=flat_len wC
 have e:appV 53 27 27 (.slice (some ⟨kb,0,none⟩) C.length 27) (.slice (some ⟨n,off,none⟩) R.length 27) h=some (.slice (some ⟨h.length,0,none⟩) (C++R).length 27,(h.kill kb).new ⟨cel .u8 (C++R).flatten,53,false,false⟩):=by
  simp only[appV,xop,ev,if_true,e2,g]
  rw[if_pos (by omega),if_neg (by omega)]
  simp[cel_len,fl,cel_app]
 rw[e,OQ_some]
 exact hQ _ (by rw[len_new,len_kill]) ⟨by rw[len_new,len_kill];omega,fun j hj hn=>by rw[get_new_lt (by rw[len_kill];exact hj),get_kill_ne (Ne.symm hn)]⟩ (get_new_eq (by rw[len_kill]))
theorem i_SplitProduct {x:Sch} {v:Value} {i f0:Int} {F:List Int} {h:AH} {Q:Value→AH→Prop} (hv:Prods h v x.ps) (nk:NK v) (hl:SmallX x.ps) (hF:By 9 F)
  (hQ:∀ w h',h<+:h'→KN h.length h' (fun h2=>Prods h2 w (spR x i f0 F).1.ps)→NK w→Q (.tuple #[schV (spR x i f0 F).1 w,I64 (spR x i f0 F).2]) h'):WF S 11 [schV x v,I64 i,I64 f0,aggV .u8 F] h Q:=by
 refine WF_fn (fn:=c11) rfl rfl ?_
 dsimp only[c11,oO,oM,oS,oG,oK,oE,oL,oF,oX,oN]
 have o1:=hv.one
 have nz:NK (.slice none 0 0):=.inl (.inl rfl)
 have F9:=hF.1
 have tF:(cel .u8 F).take 9=cel .u8 F:=List.take_of_length_le (by rw[cel_len,F9];exact Nat.le_refl _)
 ((try simp (maxSteps:=3000000) (dsimp:=false) (disch:=first|omega|simp only[lnx];omega) only[↓ypre,ypost,↓reduceIte,reduceEqDiff,reduceAdd,reduceSub,reduceLeDiff,zz0,ynew,schV,o1,aggV,cellsL_cel,cel_all]);try simp only[yback])
 generalize hH1:AH.new h _=H1
 obtain⟨hb1,p1,n1⟩:=new_facts hH1
 generalize hHF:AH.new H1 _=HF
 obtain⟨hbF,pF,nF⟩:=new_facts hHF
 generalize hH2:AH.new HF _=H2
 obtain⟨hb2,p2,n2⟩:=new_facts hH2
 have P2:=p1.trans (pF.trans p2)
 have g1:=pre_get (pF.trans p2) hb1
 have gF:=pre_get p2 hbF
 ((try simp (maxSteps:=3000000) (dsimp:=false) (disch:=first|omega|simp only[lnx];omega) only[↓ypre,ypost,↓reduceIte,reduceEqDiff,reduceAdd,reduceSub,reduceLeDiff,zz0,ynew,rdn_of g1]);try simp only[yback])
 refine i_IsScheme (x:=x) (hv.pre P2) hl fun H3 p3=>?_
 have g1:=pre_get p3 g1
 have gF:=pre_get p3 gF
 have g2:=pre_get p3 hb2
 have l2:=get_lt g2
 unfold spR at hQ
 cases hx:isX x with
 | false=>
  rw[hx] at hQ
  ((try simp (maxSteps:=3000000) (dsimp:=false) (disch:=first|omega|simp only[lnx];omega) only[↓ypre,ypost,↓reduceIte,reduceEqDiff,reduceAdd,reduceSub,reduceLeDiff,zz0,ynew,fillL,wr_of g2,splice_eq,rdn_put_same]);try simp only[yback])
  exact hQ _ _ (pre_put (P2.trans p3) (by omega)) zeroS_kn nz
 | true=>
 rw[hx] at hQ
 simp only[if_true] at hQ
 obtain⟨z,hl30⟩:=isX_sz hx
 have zp:=z.p
 ((try simp (maxSteps:=3000000) (dsimp:=false) (disch:=first|omega|simp only[lnx];omega) only[↓ypre,ypost,↓reduceIte,reduceEqDiff,reduceAdd,reduceSub,reduceLeDiff,zz0,ynew,rdn_of g1,fillL,zrep]);try simp only[yback])
 generalize hH4:AH.new H3 _=H4
 obtain⟨hb4,p4,n4⟩:=new_facts hH4
 refine i_isIndex (x:=x) (ns:=[i]) (hv.pre (P2.trans (p3.trans p4))) hl (Ints.own (ns:=[i]) hb4 rfl) (by simp) fun H5 p5=>?_
 have g1:=pre_get (p4.trans p5) g1
 have g2:=pre_get (p4.trans p5) g2
 have gF:=pre_get (p4.trans p5) gF
 have l2:=get_lt g2
 have P5:=P2.trans (p3.trans (p4.trans p5))
 have no:∀ {a b c:Bool},(a&&b)=false∨c=false→((a&&b)&&c)=false:=fun h=>by rcases h with h|h<;>rw[h]<;>simp
 cases c1:[i].all (numOk x.ps.length) with
 | false=>
  rw[show spOk x i f0 F=false from no (.inl (by rw[c1];rfl))] at hQ
  ((try simp (maxSteps:=3000000) (dsimp:=false) (disch:=first|omega|simp only[lnx];omega) only[↓ypre,ypost,↓reduceIte,reduceEqDiff,reduceAdd,reduceSub,reduceLeDiff,zz0,ynew,yWG_un,fillL,wr_of g2,splice_eq,rdn_put_same]);try simp only[yback])
  exact hQ _ _ (pre_put P5 (by omega)) zeroS_kn nz
 | true=>
 by_cases c2a:f0<0
 ·rw[show spOk x i f0 F=false from no (.inl (by rw[decide_eq_false (show ¬ (0≤f0∧f0≤2) by omega),Bool.and_false]))] at hQ
  ((try simp (maxSteps:=3000000) (dsimp:=false) (disch:=first|omega|simp only[lnx];omega) only[↓ypre,ypost,↓reduceIte,reduceEqDiff,reduceAdd,reduceSub,reduceLeDiff,zz0,ynew,decide_eq_true c2a,yWG_un,fillL,wr_of g2,splice_eq,rdn_put_same]);try simp only[yback])
  exact hQ _ _ (pre_put P5 (by omega)) zeroS_kn nz
 by_cases c2b:f0>2
 ·rw[show spOk x i f0 F=false from no (.inl (by rw[decide_eq_false (show ¬ (0≤f0∧f0≤2) by omega),Bool.and_false]))] at hQ
  ((try simp (maxSteps:=3000000) (dsimp:=false) (disch:=first|omega|simp only[lnx];omega) only[↓ypre,ypost,↓reduceIte,reduceEqDiff,reduceAdd,reduceSub,reduceLeDiff,zz0,ynew,decide_eq_false c2a,decide_eq_true c2b,yWG_un,fillL,wr_of g2,splice_eq,rdn_put_same]);try simp only[yback])
  exact hQ _ _ (pre_put P5 (by omega)) zeroS_kn nz
 obtain⟨r,rfl⟩:∃ n:Nat,f0=n:=⟨f0.toNat,by omega⟩
 have hf:r<3:=by omega
 have e0:spOk x i (r:Int) F=okForm x.p (pl x r) F:=by
  unfold spOk
  rw[c1,decide_eq_true (show 0≤(r:Int)∧(r:Int)≤2 by omega),Int.toNat_natCast]
  rfl
 rw[e0] at hQ
 ((try simp (maxSteps:=3000000) (dsimp:=false) (disch:=first|omega|simp only[lnx];omega) only[↓ypre,ypost,↓reduceIte,reduceEqDiff,reduceAdd,reduceSub,reduceLeDiff,zz0,ynew,decide_eq_false c2a,decide_eq_false c2b,rd1_of g1,rdn_of g1]);try simp only[yback])
 refine i_placesOf (x:=x) o1 z fun H6 p6=>⟨p6,?_⟩
 have gF:=pre_get p6 gF
 ((try simp (maxSteps:=3000000) (dsimp:=false) (disch:=first|omega|simp only[lnx];omega) only[↓ypre,ypost,↓reduceIte,reduceEqDiff,reduceAdd,reduceSub,reduceLeDiff,zz0,ynew,↓WX_idx1,idx_pl hf,rdn_of gF,cel_len,F9,tF]);try simp only[yback])
 refine i_isForm (n:=pl x r) hF fun H7 p7=>?_
 have g1:=pre_get (p6.trans p7) g1
 have g2:=pre_get (p6.trans p7) g2
 have gF:=pre_get p7 gF
 have l2:=get_lt g2
 have P7:=P5.trans (p6.trans p7)
 cases c3:okForm x.p (pl x r) F with
 | false=>
  rw[c3] at hQ
  ((try simp (maxSteps:=3000000) (dsimp:=false) (disch:=first|omega|simp only[lnx];omega) only[↓ypre,ypost,↓reduceIte,reduceEqDiff,reduceAdd,reduceSub,reduceLeDiff,zz0,ynew,fillL,wr_of g2,splice_eq,rdn_put_same]);try simp only[yback])
  exact hQ _ _ (pre_put P7 (by omega)) zeroS_kn nz
 | true=>
 rw[c3] at hQ
 simp only[if_true] at hQ
 simp only[List.all_cons,List.all_nil,Bool.and_true] at c1
 have bi:=of_decide_eq_true c1
 obtain⟨I,rfl⟩:∃ n:Nat,i=n:=⟨i.toNat,by omega⟩
 have hi:I<x.ps.length:=by omega
 simp only[Int.toNat_natCast,spSt] at hQ
 have byi:=hv.by hi
 have a27:=byi.1
 obtain⟨ni,oi,ixi,rdi⟩:=((hv.pre P7).1).at hi
 have ri:=rdi.1 0 27 (by omega)
 rw[Nat.add_zero,List.drop_zero,List.take_of_length_le (by omega)] at ri
 ((try simp (maxSteps:=3000000) (dsimp:=false) (disch:=first|omega|simp only[lnx];omega) only[↓ypre,ypost,↓reduceIte,reduceEqDiff,reduceAdd,reduceSub,reduceLeDiff,zz0,ynew,rd1_of g1,ixi,ri]);try simp only[yback])
 refine i_factors (q:=x.ps.getD I []) a27 fun H8 p8=>?_
 have g1:=pre_get p8 g1
 have g2:=pre_get p8 g2
 have gF:=pre_get p8 gF
 have gX:=GX.of' hv hx
 have EL:splL x.p x.ps I r F=x.ps.set I (wth (x.ps.getD I []) r F)++[spTwo x.p (x.ps.getD I []) r F]:=rfl
 have w27:Wid 27 x.ps:=hv.1.widL
 have bw:=split_wb zp hF w27 hv.2 hi hf
 have bL:=splL_len (p:=x.p) (L:=x.ps) (i:=I) (f:=r) (F:=F)
 generalize x.ps.getD I []=a at *
 generalize splL x.p x.ps I r F=PL at *
 have t27:(cel .u8 a).take 27=cel .u8 a:=List.take_of_length_le (by rw[cel_len,a27];exact Nat.le_refl _)
 have l2:=get_lt g2
 refine WO_cut (fun f:Fr=>f 1=I64 I∧f 2=I64 r∧f 4=.pointer (some ⟨h.length,0,none⟩)∧f 7=.pointer (some ⟨H1.length,0,none⟩)∧f 8=.pointer (some ⟨HF.length,0,none⟩)∧f 49=aggV .u8 a∧True) ⟨(by first|rfl|simp[upd_apply]),(by first|rfl|simp[upd_apply]),(by first|rfl|simp[upd_apply]),(by first|rfl|simp[upd_apply]),(by first|rfl|simp[upd_apply]),(by first|rfl|simp[upd_apply]),trivial⟩ ?_
 rintro f ⟨f1,f2,f4,f7,f8,f49,-⟩
 ((try simp (maxSteps:=3000000) (dsimp:=false) (disch:=first|omega|simp only[lnx];omega) only[↓ypre,ypost,↓reduceIte,reduceEqDiff,reduceAdd,reduceSub,reduceLeDiff,zz0,ynew,f1,f2,f4,f7,f8,f49,aggV,cellsL_cel,cel_all,cel_len,a27,t27,List.append_nil,rdn_of gF,F9,tF,fillL]);try simp only[yback])
 generalize hK1:AH.new H8 _=K1
 obtain⟨ka,pa,na⟩:=new_facts hK1
 generalize hK2:AH.new K1 _=K2
 obtain⟨kb,pb,nb⟩:=new_facts hK2
 have ka:=pre_get pb ka
 have P8:=P7.trans (p8.trans (pa.trans pb))
 have g1:=pre_get (pa.trans pb) g1
 have g2:=pre_get (pa.trans pb) g2
 have gF:=pre_get (pa.trans pb) gF
 have l2:=get_lt g2
 have ez:eqaV false 9 (.agg (cel .u8 F).toArray) (.agg [.int .u8 0,.int .u8 0,.int .u8 0,.int .u8 0,.int .u8 0,.int .u8 0,.int .u8 0,.int .u8 0,.int .u8 0].toArray)=some (.bool (F==z9)):=eqaV_cel (k:=.u8) (r:=z9) F9 rfl (by omega)
 cases c4:isZ F with
 | true=>
  rw[c4] at hQ
  simp only[Bool.true_or,if_true] at hQ
  rw[show (F==z9)=true from c4] at ez
  ((try simp (maxSteps:=3000000) (dsimp:=false) (disch:=first|omega|simp only[lnx];omega) only[↓ypre,ypost,↓reduceIte,reduceEqDiff,reduceAdd,reduceSub,reduceLeDiff,zz0,ynew,f1,f2,f4,f7,f8,f49,ez,yWG_un,wr_of g2,splice_eq,rdn_put_same]);try simp only[yback])
  exact hQ _ _ (pre_put P8 (by omega)) zeroS_kn nz
 | false=>
 rw[c4] at hQ
 simp only[Bool.false_or] at hQ
 rw[show (F==z9)=false from c4] at ez
 have ia:=ixa_f (n:=H8.length) hf
 have ra:=rd_seg ka a27 hf
 have ea:=eqaV_cel (k:=.u8) F9 (seg_n9 a27 hf) (by omega)
 have lK8:=pre_len p8
 cases c5:(F==seg a r) with
 | true=>
  rw[c5] at hQ ea
  simp only[if_true] at hQ
  ((try simp (maxSteps:=3000000) (dsimp:=false) (disch:=first|omega|simp only[lnx];omega) only[↓ypre,ypost,↓reduceIte,reduceEqDiff,reduceAdd,reduceSub,reduceLeDiff,zz0,ynew,f1,f2,f4,f7,f8,f49,ez,rdn_of gF,F9,tF,cel_len,fillL,↓WX_ixa,ia,ra,ea,wr_of g2,splice_eq,rdn_put_same]);try simp only[yback])
  exact hQ _ _ (pre_put P8 (by omega)) zeroS_kn nz
 | false=>
 rw[c5] at hQ ea
 simp only[Bool.false_eq_true,if_false] at hQ
 have vl:=hv.1.len
 by_cases h30:x.ps.length=30
 ·rw[if_pos h30] at hQ
  ((try simp (maxSteps:=3000000) (dsimp:=false) (disch:=first|omega|simp only[lnx];omega) only[↓ypre,ypost,↓reduceIte,reduceEqDiff,reduceAdd,reduceSub,reduceLeDiff,zz0,ynew,f1,f2,f4,f7,f8,f49,ez,rdn_of gF,F9,tF,cel_len,fillL,↓WX_ixa,ia,ra,ea,rd1_of g1,vl,decide_eq_true (show (x.ps.length:Int)=30 by omega),wr_of g2,splice_eq,rdn_put_same]);try simp only[yback])
  exact hQ _ _ (pre_put P8 (by omega)) zeroS_kn nz
 rw[if_neg h30] at hQ
 have by1:=wth_by (f:=r) byi hF hf
 have l1:=by1.1
 have w1:=wr_seg ka a27 F9 hf
 have lA:=get_lt ka
 generalize hK3:AH.put K2 _ _=K3 at w1
 have ka3:K3.get H8.length=some ⟨cel .u8 (wth a r F),68,false,true⟩:=by rw[←hK3];exact get_put_same lA
 have kp3:∀ m c,m≠H8.length→AH.get K2 m=some c→AH.get K3 m=some c:=fun m c hm g=>by rw[←hK3,get_put_ne (Ne.symm hm)];exact g
 have kb3:=kp3 _ _ (by omega) kb
 have g13:=kp3 _ _ (by omega) g1
 have g23:=kp3 _ _ (by omega) g2
 have gF3:=kp3 _ _ (by omega) gF
 have P3:h<+:K3:=by rw[←hK3];exact pre_put P8 (by have:=pre_len (P7.trans p8);omega)
 have ib:=ixa_f (n:=K1.length) hf
 have rb:=rd_seg kb3 a27 hf
 have wp:IntKind.i64.wrap (x.p-1)=x.p-1:=wrap64_in (by omega) (by omega)
 ((try simp (maxSteps:=3000000) (dsimp:=false) (disch:=first|omega|simp only[lnx];omega) only[↓ypre,ypost,↓reduceIte,reduceEqDiff,reduceAdd,reduceSub,reduceLeDiff,zz0,ynew,f1,f2,f4,f7,f8,f49,ez,rdn_of gF,F9,tF,cel_len,fillL,↓WX_ixa,ia,ra,ea,rd1_of g1,vl,decide_eq_false (show ¬ (x.ps.length:Int)=30 by omega),aggV,cellsL_cel,cel_all,cel_len,w1,rd1_of g13,ib,rb,rdn_of gF3,wp]);try simp only[yback])
 refine i_sum (k:=x.p-1) zp (seg_by byi hf) hF (by omega) fun K4 q4=>?_
 rw[addF_cong (s:=x.p-1) (t:=-1) zp.1 ⟨1,by omega⟩]
 have ad:=addF_by (k:=-1) (b:=F) (i:=9) zp (seg_by byi hf) (Nat.le_refl _)
 have kb4:=pre_get q4 kb3
 have ka4:=pre_get q4 ka3
 have g14:=pre_get q4 g13
 have g24:=pre_get q4 g23
 have w2:=wr_seg kb4 a27 ad.1 hf
 have e2:wth a r (addF x.p (seg a r) F (-1) 9)=spTwo x.p a r F:=rfl
 rw[e2] at w2
 have l3:=(spTwo_by (F:=F) zp byi hf).1
 have lB:=get_lt kb4
 generalize hK5:AH.put K4 _ _=K5 at w2
 have kb5:K5.get K1.length=some ⟨cel .u8 (spTwo x.p a r F),68,false,true⟩:=by rw[←hK5];exact get_put_same lB
 have kp5:∀ m c,m≠K1.length→AH.get K4 m=some c→AH.get K5 m=some c:=fun m c hm g=>by rw[←hK5,get_put_ne (Ne.symm hm)];exact g
 have ka5:=kp5 _ _ (by omega) ka4
 have g15:=kp5 _ _ (by omega) g14
 have g25:=kp5 _ _ (by omega) g24
 have l8P:=pre_len (P7.trans p8)
 have P5':h<+:K5:=by rw[←hK5];exact pre_put (P3.trans q4) (by omega)
 ((try simp (maxSteps:=3000000) (dsimp:=false) (disch:=first|omega|simp only[lnx];omega) only[↓ypre,ypost,↓reduceIte,reduceEqDiff,reduceAdd,reduceSub,reduceLeDiff,zz0,ynew,f1,f2,f4,f7,f8,f49,aggV,cellsL_cel,cel_all,cel_len,ad.1,↓WX_ixa,ib,w2,rd1_of g15]);try simp only[yback])
 refine i_CloneP ((hv.pre P5').1) nk (by omega) fun w0 K6 q6 on=>?_
 obtain⟨-,⟨-,e0⟩|⟨B,fu,rfl,hB,gB⟩⟩:=on
 ·rw[e0] at hi
  simp at hi
 have ka6:=pre_get q6 ka5
 have kb6:=pre_get q6 kb5
 have g16:=pre_get q6 g15
 have g26:=pre_get q6 g25
 have t1:(cel .u8 (wth a r F)).take 27=cel .u8 (wth a r F):=List.take_of_length_le (by rw[cel_len,l1];exact Nat.le_refl _)
 have t3:(cel .u8 (spTwo x.p a r F)).take 27=cel .u8 (spTwo x.p a r F):=List.take_of_length_le (by rw[cel_len,l3];exact Nat.le_refl _)
 ((try simp (maxSteps:=3000000) (dsimp:=false) (disch:=first|omega|simp only[lnx];omega) only[↓ypre,ypost,↓reduceIte,reduceEqDiff,reduceAdd,reduceSub,reduceLeDiff,zz0,ynew,f1,f2,f4,f7,f8,f49,rdn_of ka6,cel_len,l1,t1]);try simp only[yback])
 refine i_productOf l1 fun K7 q7=>?_
 have gB7:=pre_get q7 gB
 have ii:=ixs_own (B:=B) hi
 obtain⟨K8,w8,n8,gB8,kp8,pp8⟩:=wr_prod gB7 w27 l1 hi
 have lK5:=pre_len P5'
 have l56:=pre_len q6
 have lka:=get_lt ka5
 have lkb:=get_lt kb5
 have lg2:=get_lt g25
 have kb8:=kp8 _ _ (by omega) (pre_get q7 kb6)
 have g18:=kp8 _ _ (by omega) (pre_get q7 g16)
 have g28:=kp8 _ _ (by omega) (pre_get q7 g26)
 have P8':K5<+:K8:=pp8 K5 hB (q6.trans q7)
 ((try simp (maxSteps:=3000000) (dsimp:=false) (disch:=first|omega|simp only[lnx];omega) only[↓ypre,ypost,↓reduceIte,reduceEqDiff,reduceAdd,reduceSub,reduceLeDiff,zz0,ynew,f1,f2,f4,f7,f8,f49,aggV,cel_all,cel_len,l1,ii,w8,rdn_of g18,rdn_of kb8,l3,t3]);try simp only[yback])
 refine i_productOf l3 fun K9 q9=>⟨q9,?_⟩
 ((try simp (maxSteps:=3000000) (dsimp:=false) (disch:=first|omega|simp only[lnx];omega) only[↓ypre,ypost,↓reduceIte,reduceEqDiff,reduceAdd,reduceSub,reduceLeDiff,zz0,ynew,f1,f2,f4,f7,f8,f49,aggV,cel_all,cel_len,l3,zrep27,sp27z l3,fillL,List.append_nil,List.length_replicate]);try simp only[yback])
 generalize hJ1:AH.new K9 _=J1
 obtain⟨bq,t1',m1⟩:=new_facts hJ1
 have w27':=wid_set (e:=I) w27 l1
 have PJ:=P8'.trans (q9.trans t1')
 have gJ:=pre_get (q9.trans t1') gB8
 have lS:(x.ps.set I (wth a r F)).length=x.ps.length:=List.length_set
 have gg2:=pre_get (q9.trans t1') g28
 rw[←lS]
 refine app_keep gJ w27' (rdE_one bq l3) (by simp) (by rw[lS,List.length_singleton];omega) fun J2 n2' k2' g2'=>⟨?_,?_⟩
 ·simp only[List.map_cons,List.map_nil,ev_tmp,updo_some,upd_apply,Nat.reduceEqDiff,↓reduceIte,f4]
  exact KpU_one k2' (by show h.length≠B;omega)
 rw[←EL] at g2' ⊢
 have g2J:=k2'.get (by omega) gg2
 have PJ2:K5<+:J2:=k2'.pre PJ hB
 ((try simp (maxSteps:=3000000) (dsimp:=false) (disch:=first|omega|simp only[lnx];omega) only[↓ypre,ypost,↓reduceIte,reduceEqDiff,reduceAdd,reduceSub,reduceLeDiff,zz0,ynew,f1,f2,f4,f7,f8,f49,schV]);try simp only[yback])
 refine i_with (x:=x) (L:=PL) (v:=v) o1 rfl rfl fun J3 q3=>?_
 have g23:=pre_get q3 g2J
 have l23:=get_lt g23
 have gP:=pre_get q3 g2'
 have lJ1:=pre_len PJ
 have lJ2:=pre_len PJ2
 have kn:KN K5.length J3 fun h2=>Prods h2 (.slice (some ⟨J1.length,0,none⟩) PL.length 27) PL:=fun h2 d1 d2=>⟨blk_kN (lo:=K5.length) gP bw.1 (by omega) h2 d1 d2,bw.2⟩
 ((try simp (maxSteps:=3000000) (dsimp:=false) (disch:=first|omega|simp only[lnx];omega) only[↓ypre,ypost,↓reduceIte,reduceEqDiff,reduceAdd,reduceSub,reduceLeDiff,zz0,ynew,f1,f2,f4,f7,f8,f49,schV,wr_of g23,splice_eq,rdn_put_same]);try simp only[yback])
 exact hQ _ _ (pre_put (P5'.trans (PJ2.trans q3)) (by omega)) ((KN.put kn (by omega)).mono (by omega)) (.inr ⟨_,_,_,rfl⟩)
theorem s_DrawNormalProducts {h:AH} {cv:Value} {code:List (List Int)} {Q:Value→AH→Prop} (c:Cod h cv code)
  (hQ:∀ (x:Sch) (v:Value) (h':AH),h<+:h'→Prods h' v x.ps→SmallX x.ps→Q (schV x v) h'):WF S 20 [cv] h Q:=by
 refine WF_fn (fn:=c20) rfl rfl ?_
 dsimp only[c20,oO,oM,oS,oG,oK,oE,oL,oF,oX,oN]
 ((try simp (maxSteps:=3000000) (dsimp:=false) (disch:=first|omega|simp only[lnx];omega) only[↓ypre,ypost,↓reduceIte,reduceEqDiff,reduceAdd,reduceSub,reduceLeDiff,zz0,ynew]);try simp only[yback])
 generalize hH1:AH.new h _=H1
 obtain⟨hb1,p1,n1⟩:=new_facts hH1
 refine s_l01From (c.els.pre p1) c.byt c.len fun H2 p2 l2 s2=>?_
 ((try simp (maxSteps:=3000000) (dsimp:=false) (disch:=first|omega|simp only[lnx];omega) only[↓ypre,ypost,↓reduceIte,reduceEqDiff,reduceAdd,reduceSub,reduceLeDiff,zz0,ynew]);try simp only[yback])
 refine s_l01Spoil s2 fun x v H3 k3 s3 sd xb=>?_
 have g1:=k3.get (by omega) (pre_get p2 hb1)
 have lg:=get_lt g1
 have o1:isOne v=true:=sd.now.one
 ((try simp (maxSteps:=3000000) (dsimp:=false) (disch:=first|omega|simp only[lnx];omega) only[↓ypre,ypost,↓reduceIte,reduceEqDiff,reduceAdd,reduceSub,reduceLeDiff,zz0,ynew,schV,o1,wr_of g1,splice_eq,rdn_put_same]);try simp only[yback])
 exact hQ x v _ (pre_put (p1.trans s3.p) (Nat.le_refl _)) (KN.put sd (by omega)).now xb.l
theorem OQ_Cpm {f:Fr} {h:AH} {a b c n:Nat} {e:TypeId} {cl:List Value} {ro fl:Bool} {x y:Value} {Q:Value→AH→Prop} (fa:f a=.pointer (some ⟨n,0,none⟩)) (fb:f b=x) (fc:f c=y)
  (ha:h.get n=some ⟨cl,e,ro,fl⟩) (hl:cl.length=5) (hQ:Q (.tuple #[.agg cl.toArray,x,y]) h):OQ (Option.map (fun x=>(x,h)) (xres f h [.celln a 5,.tmp b,.tmp c])) Q:=by
 have e:xres f h [.celln a 5,.tmp b,.tmp c]=some (.tuple #[.agg cl.toArray,x,y]):=by
  unfold xres xresl xresl xresl xresl
  rw[show xres1 f h (.celln a 5)=some (.agg cl.toArray) from xresn fa ha hl,xres1_tmp,xres1_tmp,fb,fc]
 rw[e,Option.map_some,OQ_some]
 exact hQ
theorem s_DrawPlusMove {h:AH} {cv:Value} {code:List (List Int)} {Q:Value→AH→Prop} (c:Cod h cv code)
  (hQ:∀ (x:Sch) (v:Value) (i k:Int) (h':AH),h<+:h'→Prods h' v x.ps→SchB x→NK v→Q (.tuple #[schV x v,I64 i,I64 k]) h'):WF S 13 [cv] h Q:=by
 refine WF_fn (fn:=c13) rfl rfl ?_
 dsimp only[c13,oO,oM,oS,oG,oK,oE,oL,oF,oX,oN]
 ((try simp (maxSteps:=3000000) (dsimp:=false) (disch:=first|omega|simp only[lnx];omega) only[↓ypre,ypost,↓reduceIte,reduceEqDiff,reduceAdd,reduceSub,reduceLeDiff,zz0,ynew]);try simp only[yback])
 generalize hH1:AH.new h _=H1
 obtain⟨hb1,p1,n1⟩:=new_facts hH1
 refine s_l01From (c.els.pre p1) c.byt c.len fun H2 p2 l2 s2=>?_
 ((try simp (maxSteps:=3000000) (dsimp:=false) (disch:=first|omega|simp only[lnx];omega) only[↓ypre,ypost,↓reduceIte,reduceEqDiff,reduceAdd,reduceSub,reduceLeDiff,zz0,ynew]);try simp only[yback])
 refine s_l03Draw s2 fun x v H3 k3 s3 sd xb nk=>?_
 have g1:=k3.get (by omega) (pre_get p2 hb1)
 have k3l:=k3.len
 have o1:=nk.one
 have vl:=sd.now.1.len
 have bn:=xb.l
 unfold SmallX at bn
 refine WO_cut (fun f:Fr=>f 2=.pointer (some ⟨h.length,0,none⟩)∧f 5=srcP H1.length∧f 11=schV x v∧True) ⟨(by first|rfl|simp[upd_apply]),(by first|rfl|simp[upd_apply]),(by first|rfl|simp[upd_apply]),trivial⟩ ?_
 rintro f ⟨f2,f5,f11,-⟩
 ((try simp (maxSteps:=3000000) (dsimp:=false) (disch:=first|omega|simp only[lnx];omega) only[↓ypre,ypost,↓reduceIte,reduceEqDiff,reduceAdd,reduceSub,reduceLeDiff,zz0,ynew,f2,f5,f11,schV,o1,vl,wrap64_in,WX_mm,mmT]);try simp only[yback])
 generalize hH4:AH.new H3 _=H4
 obtain⟨hb4,p4,n4⟩:=new_facts hH4
 have g1:=pre_get p4 g1
 have sd:SchD H2.length H4 v x:=KN.pre sd p4
 have s4:=s3.kp p4
 have r3:H1.length<H3.length:=by omega
 obtain⟨mxl,mxh⟩:-1000000000≤max ((x.ps.length:Int)-1) 0∧max ((x.ps.length:Int)-1) 0≤1000000000:=by omega
 refine⟨by omega,?_⟩
 refine s_l01Near s4 ⟨mxl,mxh⟩ fun q1 H5 k5 s5 _=>?_
 refine⟨⟨_,rfl,k5⟩,?_⟩
 have g1:=k5.get (by omega) g1
 have sd:SchD H2.length H5 v x:=KN.kp sd k5 (by omega)
 refine WO_cut (fun f:Fr=>f 2=.pointer (some ⟨h.length,0,none⟩)∧f 5=srcP H1.length∧f 6=.pointer (some ⟨H3.length,0,none⟩)∧f 7=I64 (max ((x.ps.length:Int)-1) 0)∧f 17=schV x v∧f 20=I64 q1∧True) ⟨(by first|rfl|exact f2|simp[upd_apply,f2]),(by first|rfl|exact f5|simp[upd_apply,f5]),(by first|rfl|simp[upd_apply]),(by first|rfl|simp[upd_apply]),(by first|rfl|simp[upd_apply]),(by first|rfl|simp[upd_apply]),trivial⟩ ?_
 rintro f ⟨f2,f5,f6,f7,f17,f20,-⟩
 ((try simp (maxSteps:=3000000) (dsimp:=false) (disch:=first|omega|simp only[lnx];omega) only[↓ypre,ypost,↓reduceIte,reduceEqDiff,reduceAdd,reduceSub,reduceLeDiff,zz0,ynew,f2,f5,f6,f7,f17,f20]);try simp only[yback])
 refine⟨by omega,?_⟩
 refine s_l01Near s5 ⟨mxl,mxh⟩ fun q2 H6 k6 s6 _=>?_
 refine⟨⟨_,rfl,k6⟩,?_⟩
 have g1:=k6.get (by omega) g1
 have sd:SchD H2.length H6 v x:=KN.kp sd k6 (by omega)
 have l1:=get_lt g1
 refine WO_cut (fun f:Fr=>f 2=.pointer (some ⟨h.length,0,none⟩)∧f 17=schV x v∧f 20=I64 q1∧f 23=I64 q2∧True) ⟨(by first|rfl|exact f2|simp[upd_apply,f2]),(by first|rfl|exact f17|simp[upd_apply,f17]),(by first|rfl|exact f20|simp[upd_apply,f20]),(by first|rfl|simp[upd_apply]),trivial⟩ ?_
 rintro f ⟨f2,f17,f20,f23,-⟩
 ((try simp (maxSteps:=3000000) (dsimp:=false) (disch:=first|omega|simp only[lnx];omega) only[↓ypre,ypost,↓reduceIte,reduceEqDiff,reduceAdd,reduceSub,reduceLeDiff,zz0,ynew,f2,f17,f20,f23,schV,o1,wr_of g1,splice_eq]);try simp only[yback])
 generalize hHZ:AH.put H6 _ _=HZ
 have F1:HZ.get h.length=some ⟨[I64 x.p,I64 x.n,I64 x.m,I64 x.k,v],26,false,true⟩:=hHZ▸get_put_same l1
 refine OQ_Cpm (x:=I64 q1) (y:=I64 q2) (a:=2) (b:=3) (c:=4) (n:=h.length) ?_ ?_ ?_ F1 rfl ?_
 ·exact f2
 ·rfl
 ·rfl
 ·rw[←hHZ]
  exact hQ x v q1 q2 _ (pre_put (p1.trans s6.p) (Nat.le_refl _)) (KN.put sd (by omega)).now xb nk
theorem s_DrawReduceScheme {h:AH} {cv:Value} {code:List (List Int)} {Q:Value→AH→Prop} (c:Cod h cv code)
  (hQ:∀ (x:Sch) (v:Value) (h':AH),h<+:h'→Prods h' v x.ps→SmallX x.ps→Q (schV x v) h'):WF S 5 [cv] h Q:=by
 refine WF_fn (fn:=c5) rfl rfl ?_
 dsimp only[c5,oO,oM,oS,oG,oK,oE,oL,oF,oX,oN]
 ((try simp (maxSteps:=3000000) (dsimp:=false) (disch:=first|omega|simp only[lnx];omega) only[↓ypre,ypost,↓reduceIte,reduceEqDiff,reduceAdd,reduceSub,reduceLeDiff,zz0,ynew]);try simp only[yback])
 generalize hH1:AH.new h _=H1
 obtain⟨hb1,p1,n1⟩:=new_facts hH1
 refine s_l01From (c.els.pre p1) c.byt c.len fun H2 p2 l2 s2=>?_
 ((try simp (maxSteps:=3000000) (dsimp:=false) (disch:=first|omega|simp only[lnx];omega) only[↓ypre,ypost,↓reduceIte,reduceEqDiff,reduceAdd,reduceSub,reduceLeDiff,zz0,ynew]);try simp only[yback])
 refine s_l03Draw s2 fun x v H3 k3 s3 sd xb nk=>?_
 have g1:=k3.get (by omega) (pre_get p2 hb1)
 have k3l:=k3.len
 have o1:=nk.one
 refine WO_cut (fun f:Fr=>f 2=.pointer (some ⟨h.length,0,none⟩)∧f 3=srcP H1.length∧f 10=schV x v∧True) ⟨(by first|rfl|simp[upd_apply]),(by first|rfl|simp[upd_apply]),(by first|rfl|simp[upd_apply]),trivial⟩ ?_
 rintro f ⟨f2,f3,f10,-⟩
 ((try simp (maxSteps:=3000000) (dsimp:=false) (disch:=first|omega|simp only[lnx];omega) only[↓ypre,ypost,↓reduceIte,reduceEqDiff,reduceAdd,reduceSub,reduceLeDiff,zz0,ynew,f2,f3,f10,schV,o1]);try simp only[yback])
 generalize hH4:AH.new H3 _=H4
 obtain⟨hb4,p4,n4⟩:=new_facts hH4
 have g1:=pre_get p4 g1
 have sd:SchD H2.length H4 v x:=KN.pre sd p4
 have s4:=s3.kp p4
 ((try simp (maxSteps:=3000000) (dsimp:=false) (disch:=first|omega|simp only[lnx];omega) only[↓ypre,ypost,↓reduceIte,reduceEqDiff,reduceAdd,reduceSub,reduceLeDiff,zz0,ynew,f2,f3,f10,rdn_of hb4]);try simp only[yback])
 refine s_l01Is (x:=x) sd.now xb.l fun H5 p5=>?_
 have g1:=pre_get p5 g1
 have g4:=pre_get p5 hb4
 have sd:SchD H2.length H5 v x:=KN.pre sd p5
 have s5:=s4.kp p5
 have vl:=sd.now.1.len
 have fin:∀ (x':Sch) (v':Value) (H':AH),h<+:H'→KN H2.length H' (fun h2=>Prods h2 v' x'.ps)→SmallX x'.ps→Q (schV x' v') (H'.put h.length ⟨[I64 x'.p,I64 x'.n,I64 x'.m,I64 x'.k,v'],26,false,true⟩):=fun x' v' H' p' k' s'=>hQ x' v' _ (pre_put p' (Nat.le_refl _)) (KN.put k' (by omega)).now s'
 refine WO_cut (fun f:Fr=>f 2=.pointer (some ⟨h.length,0,none⟩)∧f 3=srcP H1.length∧f 4=.pointer (some ⟨H3.length,0,none⟩)∧f 12=.bool (isX x)∧True) ⟨(by first|rfl|exact f2|simp[upd_apply,f2]),(by first|rfl|exact f3|simp[upd_apply,f3]),(by first|rfl|simp[upd_apply]),(by first|rfl|simp[upd_apply]),trivial⟩ ?_
 rintro f ⟨f2,f3,f4,f12,-⟩
 cases hx:isX x with
 | false=>
  have lg:=get_lt g1
  ((try simp (maxSteps:=3000000) (dsimp:=false) (disch:=first|omega|simp only[lnx];omega) only[↓ypre,ypost,↓reduceIte,reduceEqDiff,reduceAdd,reduceSub,reduceLeDiff,zz0,ynew,f2,f3,f4,f12,hx,yWG_un,rdn_of g4,schV,o1,wr_of g1,splice_eq,rdn_put_same]);try simp only[yback])
  exact fin x v H5 (p1.trans s5.p) sd xb.l
 | true=>
 ((try simp (maxSteps:=3000000) (dsimp:=false) (disch:=first|omega|simp only[lnx];omega) only[↓ypre,ypost,↓reduceIte,reduceEqDiff,reduceAdd,reduceSub,reduceLeDiff,zz0,ynew,f2,f3,f4,f12,hx]);try simp only[yback])
 refine s_l01Next s5 fun r H6 k6 l6 s6 hr _=>?_
 have lt5:=s5.lt
 have g1:=k6.get (by omega) g1
 have g4:=k6.get (by omega) g4
 have sd:SchD H2.length H6 v x:=KN.kp sd k6 (by omega)
 have lg:=get_lt g1
 have P6:=p1.trans s6.p
 by_cases r0:r=0
 case neg=>
  ((try simp (maxSteps:=3000000) (dsimp:=false) (disch:=first|omega|simp only[lnx];omega) only[↓ypre,ypost,↓reduceIte,reduceEqDiff,reduceAdd,reduceSub,reduceLeDiff,zz0,ynew,f2,f3,f4,f12,decide_eq_false r0,yWG_un,rdn_of g4,schV,o1,wr_of g1,splice_eq,rdn_put_same]);try simp only[yback])
  exact fin x v H6 P6 sd xb.l
 by_cases c1:(x.ps.length:Int)>0
 case neg=>
  ((try simp (maxSteps:=3000000) (dsimp:=false) (disch:=first|omega|simp only[lnx];omega) only[↓ypre,ypost,↓reduceIte,reduceEqDiff,reduceAdd,reduceSub,reduceLeDiff,zz0,ynew,f2,f3,f4,f12,decide_eq_true r0,rd1_of g4,vl,decide_eq_false c1,yWG_un,rdn_of g4,schV,o1,wr_of g1,splice_eq,rdn_put_same]);try simp only[yback])
  exact fin x v H6 P6 sd xb.l
 by_cases c2:(x.ps.length:Int)<20
 case neg=>
  ((try simp (maxSteps:=3000000) (dsimp:=false) (disch:=first|omega|simp only[lnx];omega) only[↓ypre,ypost,↓reduceIte,reduceEqDiff,reduceAdd,reduceSub,reduceLeDiff,zz0,ynew,f2,f3,f4,f12,decide_eq_true r0,rd1_of g4,vl,decide_eq_true c1,decide_eq_false c2,yWG_un,rdn_of g4,schV,o1,wr_of g1,splice_eq,rdn_put_same]);try simp only[yback])
  exact fin x v H6 P6 sd xb.l
 ((try simp (maxSteps:=3000000) (dsimp:=false) (disch:=first|omega|simp only[lnx];omega) only[↓ypre,ypost,↓reduceIte,reduceEqDiff,reduceAdd,reduceSub,reduceLeDiff,zz0,ynew,f2,f3,f4,f12,decide_eq_true r0,rd1_of g4,vl,decide_eq_true c1,decide_eq_true c2,rdn_of g4]);try simp only[yback])
 refine⟨by omega,?_⟩
 refine s_l01Next s6 fun r2 H7 k7 l7 s7 _ _=>?_
 refine⟨⟨_,rfl,k7⟩,?_⟩
 have g1:=k7.get (by omega) g1
 have g4:=k7.get (by omega) g4
 have sd:SchD H2.length H7 v x:=KN.kp sd k7 (by omega)
 have k7l:=k7.len
 ((try simp (maxSteps:=3000000) (dsimp:=false) (disch:=first|omega|simp only[lnx];omega) only[↓ypre,ypost,↓reduceIte,reduceEqDiff,reduceAdd,reduceSub,reduceLeDiff,zz0,ynew,f2,f3,f4,f12]);try simp only[yback])
 refine s_PlusMove (x:=x) (i:=0) (k:=r2) sd.now xb.l fun w H8 p8 kw=>?_
 have sF:SmallX (pmR x 0 r2).1.ps:=pmR_small ⟨sd.now.1.widL,sd.now.2⟩
 generalize pmR x 0 r2=F at *
 have s8:=s7.kp p8
 have g1:=pre_get p8 g1
 have g4:=pre_get p8 g4
 have sd:SchD H2.length H8 v x:=KN.pre sd p8
 ((try simp (maxSteps:=3000000) (dsimp:=false) (disch:=first|omega|simp only[lnx];omega) only[↓ypre,ypost,↓reduceIte,reduceEqDiff,reduceAdd,reduceSub,reduceLeDiff,zz0,ynew,f2,f3,f4,f12,schV,kw.now.one]);try simp only[yback])
 generalize hH9:AH.new H8 _=H9
 obtain⟨g9,p9,n9⟩:=new_facts hH9
 have g1:=pre_get p9 g1
 have g4:=pre_get p9 g4
 have lg:=get_lt g1
 have P9:=p1.trans (s8.kp p9).p
 by_cases c3:F.2=0
 ·((try simp (maxSteps:=3000000) (dsimp:=false) (disch:=first|omega|simp only[lnx];omega) only[↓ypre,ypost,↓reduceIte,reduceEqDiff,reduceAdd,reduceSub,reduceLeDiff,zz0,ynew,f2,f3,f4,f12,decide_eq_true c3,rdn_of g9,kw.now.one,wr_of g1,splice_eq,rdn_put_same]);try simp only[yback])
  exact fin F.1 w H9 P9 ((kw.pre p9).mono (by omega)) sF
 ·((try simp (maxSteps:=3000000) (dsimp:=false) (disch:=first|omega|simp only[lnx];omega) only[↓ypre,ypost,↓reduceIte,reduceEqDiff,reduceAdd,reduceSub,reduceLeDiff,zz0,ynew,f2,f3,f4,f12,decide_eq_false c3,rdn_of g4,schV,o1,wr_of g1,splice_eq,rdn_put_same]);try simp only[yback])
  exact fin x v H9 P9 (sd.pre p9) xb.l
theorem OQ_Csp {f:Fr} {h:AH} {n m:Nat} {e e':TypeId} {cl cf:List Value} {ro fl ro' fl':Bool} {x y:Value} {Q:Value→AH→Prop} (fa:f 2=.pointer (some ⟨n,0,none⟩)) (fb:f 3=x) (fc:f 4=y) (fd:f 5=.pointer (some ⟨m,0,none⟩))
  (ha:h.get n=some ⟨cl,e,ro,fl⟩) (hl:cl.length=5) (hb:h.get m=some ⟨cf,e',ro',fl'⟩) (hm:cf.length=9) (hQ:Q (.tuple #[.agg cl.toArray,x,y,.agg cf.toArray]) h):OQ (Option.map (fun x=>(x,h)) (xres f h [.celln 2 5,.tmp 3,.tmp 4,.celln 5 9])) Q:=by
 have e:xres f h [.celln 2 5,.tmp 3,.tmp 4,.celln 5 9]=some (.tuple #[.agg cl.toArray,x,y,.agg cf.toArray]):=by
  unfold xres xresl xresl xresl xresl xresl
  rw[show xres1 f h (.celln 2 5)=some (.agg cl.toArray) from xresn fa ha hl,show xres1 f h (.celln 5 9)=some (.agg cf.toArray) from xresn fd hb hm,xres1_tmp,xres1_tmp,fb,fc]
 rw[e,Option.map_some,OQ_some]
 exact hQ
def e1F:List Int:=[1,0,0,0,0,0,0,0,0]
theorem e1F_by:By 9 e1F:=⟨rfl,fun j hj=>by
 have:j=0∨j=1∨j=2∨j=3∨j=4∨j=5∨j=6∨j=7∨j=8:=by omega
 rcases this with rfl|rfl|rfl|rfl|rfl|rfl|rfl|rfl|rfl<;>decide⟩
theorem KX.kp {lo bx n:Nat} {h h':AH} {p:AH→Prop} (k:KX lo bx h p) (d:Kp n h h') (hn:n<lo):KX lo bx h' p:=fun h2 l2 g2=>k h2 (Nat.le_trans d.1 l2) fun m h1 h3 h4=>(g2 m h1 (Nat.lt_of_lt_of_le h3 d.1) h4).trans (d.2 m h3 (by omega))
theorem pl_in {x:Sch} (z:SZ x) {i:Nat}:1≤pl x i∧pl x i≤9:=by
 have h1:=z.nm
 have h2:=z.mk2
 have h3:=z.nk
 unfold pl
 split
 ·omega
 ·split<;>omega
theorem s_DrawSplitProduct {h:AH} {cv:Value} {code:List (List Int)} {Q:Value→AH→Prop} (c:Cod h cv code)
  (hQ:∀ (x:Sch) (v:Value) (i r:Int) (F:List Int) (h':AH),h<+:h'→Prods h' v x.ps→SchB x→NK v→By 9 F→Q (.tuple #[schV x v,I64 i,I64 r,aggV .u8 F]) h'):WF S 10 [cv] h Q:=by
 refine WF_fn (fn:=c10) rfl rfl ?_
 dsimp only[c10,oO,oM,oS,oG,oK,oE,oL,oF,oX,oN]
 ((try simp (maxSteps:=3000000) (dsimp:=false) (disch:=first|omega|simp only[lnx];omega) only[↓ypre,ypost,↓reduceIte,reduceEqDiff,reduceAdd,reduceSub,reduceLeDiff,zz0,ynew]);try simp only[yback])
 generalize hA1:AH.new h _=A1
 obtain⟨a1,pa1,na1⟩:=new_facts hA1
 generalize hH1:AH.new A1 _=H1
 obtain⟨hb1,p1,n1⟩:=new_facts hH1
 have a1:=pre_get p1 a1
 have PA:=pa1.trans p1
 refine s_l01From (c.els.pre PA) c.byt c.len fun H2 p2 l2 s2=>?_
 ((try simp (maxSteps:=3000000) (dsimp:=false) (disch:=first|omega|simp only[lnx];omega) only[↓ypre,ypost,↓reduceIte,reduceEqDiff,reduceAdd,reduceSub,reduceLeDiff,zz0,ynew]);try simp only[yback])
 refine s_l03Draw s2 fun x v H3 k3 s3 sd xb nk=>?_
 have g2:=k3.get (by omega) (pre_get p2 a1)
 have g5:=k3.get (by omega) (pre_get p2 hb1)
 have k3l:=k3.len
 have o1:=nk.one
 have vl:=sd.now.1.len
 have bn:=xb.l
 unfold SmallX at bn
 refine WO_cut (fun f:Fr=>f 2=.pointer (some ⟨h.length,0,none⟩)∧f 5=.pointer (some ⟨A1.length,0,none⟩)∧f 6=srcP H1.length∧f 14=schV x v∧True) ⟨(by first|rfl|simp[upd_apply]),(by first|rfl|simp[upd_apply]),(by first|rfl|simp[upd_apply]),(by first|rfl|simp[upd_apply]),trivial⟩ ?_
 rintro f ⟨f2,f5,f6,f14,-⟩
 ((try simp (maxSteps:=3000000) (dsimp:=false) (disch:=first|omega|simp only[lnx];omega) only[↓ypre,ypost,↓reduceIte,reduceEqDiff,reduceAdd,reduceSub,reduceLeDiff,zz0,ynew,f2,f5,f6,f14,schV,o1,vl,wrap64_in,WX_mm,mmT]);try simp only[yback])
 generalize hH4:AH.new H3 _=H4
 obtain⟨g7,p4,n4⟩:=new_facts hH4
 have g2:=pre_get p4 g2
 have g5:=pre_get p4 g5
 have sd:SchD H2.length H4 v x:=KN.pre sd p4
 have s4:=s3.kp p4
 have r3:H1.length<H3.length:=by omega
 obtain⟨mxl,mxh⟩:-1000000000≤max ((x.ps.length:Int)-1) 0∧max ((x.ps.length:Int)-1) 0≤1000000000:=by omega
 refine s_l01Near s4 ⟨mxl,mxh⟩ fun i H5 k5 s5 _=>?_
 have g2:=k5.get (by omega) g2
 have g5:=k5.get (by omega) g5
 have g7:=k5.get (by omega) g7
 have sd:SchD H2.length H5 v x:=KN.kp sd k5 (by omega)
 refine WO_cut (fun f:Fr=>f 2=.pointer (some ⟨h.length,0,none⟩)∧f 5=.pointer (some ⟨A1.length,0,none⟩)∧f 6=srcP H1.length∧f 7=.pointer (some ⟨H3.length,0,none⟩)∧f 21=I64 i∧True) ⟨(by first|rfl|exact f2|simp[upd_apply,f2]),(by first|rfl|exact f5|simp[upd_apply,f5]),(by first|rfl|exact f6|simp[upd_apply,f6]),(by first|rfl|simp[upd_apply]),(by first|rfl|simp[upd_apply]),trivial⟩ ?_
 rintro f ⟨f2,f5,f6,f7,f21,-⟩
 ((try simp (maxSteps:=3000000) (dsimp:=false) (disch:=first|omega|simp only[lnx];omega) only[↓ypre,ypost,↓reduceIte,reduceEqDiff,reduceAdd,reduceSub,reduceLeDiff,zz0,ynew,f2,f5,f6,f7,f21]);try simp only[yback])
 refine s_l01Near s5 (by omega) fun r H6 k6 s6 _=>?_
 have l5:=k5.len
 have g2:=k6.get (by omega) g2
 have g5:=k6.get (by omega) g5
 have g7:=k6.get (by omega) g7
 have sd:SchD H2.length H6 v x:=KN.kp sd k6 (by omega)
 refine WO_cut (fun f:Fr=>f 2=.pointer (some ⟨h.length,0,none⟩)∧f 5=.pointer (some ⟨A1.length,0,none⟩)∧f 6=srcP H1.length∧f 7=.pointer (some ⟨H3.length,0,none⟩)∧f 21=I64 i∧f 23=I64 r∧True) ⟨(by first|rfl|exact f2|simp[upd_apply,f2]),(by first|rfl|exact f5|simp[upd_apply,f5]),(by first|rfl|exact f6|simp[upd_apply,f6]),(by first|rfl|exact f7|simp[upd_apply,f7]),(by first|rfl|exact f21|simp[upd_apply,f21]),(by first|rfl|simp[upd_apply]),trivial⟩ ?_
 rintro f ⟨f2,f5,f6,f7,f21,f23,-⟩
 ((try simp (maxSteps:=3000000) (dsimp:=false) (disch:=first|omega|simp only[lnx];omega) only[↓ypre,ypost,↓reduceIte,reduceEqDiff,reduceAdd,reduceSub,reduceLeDiff,zz0,ynew,f2,f5,f6,f7,f21,f23,rdn_of g7]);try simp only[yback])
 refine s_l01Is (x:=x) sd.now xb.l fun H7 p7=>?_
 have g2:=pre_get p7 g2
 have g5:=pre_get p7 g5
 have g7:=pre_get p7 g7
 have sd:SchD H2.length H7 v x:=KN.pre sd p7
 have s7:=s6.kp p7
 have t9:∀ q:List Int,q.length=9→(cel .u8 q).take 9=cel .u8 q:=fun q h=>List.take_of_length_le (by rw[cel_len,h];exact Nat.le_refl _)
 refine WO_cut (fun f:Fr=>f 2=.pointer (some ⟨h.length,0,none⟩)∧f 5=.pointer (some ⟨A1.length,0,none⟩)∧f 6=srcP H1.length∧f 7=.pointer (some ⟨H3.length,0,none⟩)∧f 8=I64 i∧f 9=I64 r∧f 25=.bool (isX x)∧True) ⟨(by first|rfl|exact f2|simp[upd_apply,f2]),(by first|rfl|exact f5|simp[upd_apply,f5]),(by first|rfl|exact f6|simp[upd_apply,f6]),(by first|rfl|exact f7|simp[upd_apply,f7]),(by first|rfl|simp[upd_apply]),(by first|rfl|simp[upd_apply]),(by first|rfl|simp[upd_apply]),trivial⟩ ?_
 rintro f ⟨f2,f5,f6,f7,f8,f9,f25,-⟩
 have fin:∀ (F:List Int) (H':AH) (f:Fr),h<+:H'→SchD H2.length H' v x→H1.length≤H'.length→By 9 F→f 2=.pointer (some ⟨h.length,0,none⟩)→f 5=.pointer (some ⟨A1.length,0,none⟩)→f 3=I64 i→f 4=I64 r →
   OQ (Option.map (fun y=>(y,(H'.put A1.length ⟨cel .u8 F,34,false,true⟩).put h.length ⟨[I64 x.p,I64 x.n,I64 x.m,I64 x.k,v],26,false,true⟩)) (xres f ((H'.put A1.length ⟨cel .u8 F,34,false,true⟩).put h.length ⟨[I64 x.p,I64 x.n,I64 x.m,I64 x.k,v],26,false,true⟩) [.celln 2 5,.tmp 3,.tmp 4,.celln 5 9])) Q:=by
  intro F H' f p' sd' lH hF e2 e5 e3 e4
  refine OQ_Csp e2 e3 e4 e5 (get_put_same (by rw[len_put];omega)) rfl ((get_put_ne (by omega)).trans (get_put_same (by omega))) (by rw[cel_len];exact hF.1) ?_
  exact hQ x v i r F _ (pre_put (pre_put p' (by omega)) (Nat.le_refl _)) (KN.put (KN.put sd' (by omega)) (by omega)).now xb nk hF
 have f1:∀ {H':AH},AH.get H' A1.length=some ⟨cel .u8 (List.replicate 9 0),34,false,true⟩→AH.wr H' A1.length 0 [.int .u8 1,.int .u8 0,.int .u8 0,.int .u8 0,.int .u8 0,.int .u8 0,.int .u8 0,.int .u8 0,.int .u8 0]=some (AH.put H' A1.length ⟨cel .u8 e1F,34,false,true⟩):=fun g=>wr_full (vs:=cel .u8 e1F) g rfl
 have g5:AH.get H7 A1.length=some ⟨cel .u8 (List.replicate 9 0),34,false,true⟩:=g5
 have l7:=s7.lt
 cases hx:isX x with
 | false=>
  ((try simp (maxSteps:=3000000) (dsimp:=false) (disch:=first|omega|simp only[lnx];omega) only[↓ypre,ypost,↓reduceIte,reduceEqDiff,reduceAdd,reduceSub,reduceLeDiff,zz0,ynew,f2,f5,f6,f7,f8,f9,f25,hx,yWG_un,rdn_of g7,fillL,o1,wr_of g2,splice_eq,f1 g5]);try simp only[yback])
  exact fin e1F H7 _ (PA.trans s7.p) sd (by omega) e1F_by f2 f5 rfl rfl
 | true=>
 ((try simp (maxSteps:=3000000) (dsimp:=false) (disch:=first|omega|simp only[lnx];omega) only[↓ypre,ypost,↓reduceIte,reduceEqDiff,reduceAdd,reduceSub,reduceLeDiff,zz0,ynew,f2,f5,f6,f7,f8,f9,f25,hx]);try simp only[yback])
 refine s_l01In ?_
 by_cases hr:0≤r∧r≤2
 case neg=>
  ((try simp (maxSteps:=3000000) (dsimp:=false) (disch:=first|omega|simp only[lnx];omega) only[↓ypre,ypost,↓reduceIte,reduceEqDiff,reduceAdd,reduceSub,reduceLeDiff,zz0,ynew,f2,f5,f6,f7,f8,f9,f25,decide_eq_false hr,rdn_of g7,fillL,o1,wr_of g2,splice_eq,f1 g5]);try simp only[yback])
  exact fin e1F H7 _ (PA.trans s7.p) sd (by omega) e1F_by f2 f5 rfl rfl
 obtain⟨R,rfl⟩:∃ n:Nat,r=n:=⟨r.toNat,by omega⟩
 obtain⟨z,h30⟩:=isX_sz hx
 have hR:R<3:=by omega
 ((try simp (maxSteps:=3000000) (dsimp:=false) (disch:=first|omega|simp only[lnx];omega) only[↓ypre,ypost,↓reduceIte,reduceEqDiff,reduceAdd,reduceSub,reduceLeDiff,zz0,ynew,f2,f5,f6,f7,f8,f9,f25,decide_eq_true hr,rd1_of g7,rdn_of g7]);try simp only[yback])
 refine s_l03Length (x:=x) o1 z hR fun H8 p8=>⟨p8,?_⟩
 obtain⟨W,hW⟩:∃ W:Nat,pl x R=W:=⟨(pl x R).toNat,by have:=pl_in z (i:=R);omega⟩
 have bW:=pl_in z (i:=R)
 rw[hW] at bW ⊢
 have s8:=s7.kp p8
 ((try simp (maxSteps:=3000000) (dsimp:=false) (disch:=first|omega|simp only[lnx];omega) only[↓ypre,ypost,↓reduceIte,reduceEqDiff,reduceAdd,reduceSub,reduceLeDiff,zz0,ynew,f2,f5,f6,f7,f8,f9,f25]);try simp only[yback])
 refine s_l01DrawForm s8 z.p (by omega) fun q H9 k9 s9 fq zq=>?_
 have q9:=fq.1.1
 have g2:=k9.get (by omega) (pre_get p8 g2)
 have g5:=k9.get (by omega) (pre_get p8 g5)
 have g7:=k9.get (by omega) (pre_get p8 g7)
 have lt7:=get_lt g7
 have sd:SchD H2.length H9 v x:=KN.kp (KN.pre sd p8) k9 (by omega)
 ((try simp (maxSteps:=3000000) (dsimp:=false) (disch:=first|omega|simp only[lnx];omega) only[↓ypre,ypost,↓reduceIte,reduceEqDiff,reduceAdd,reduceSub,reduceLeDiff,zz0,ynew,f2,f5,f6,f7,f8,f9,f25,aggV,cellsL_cel,cel_all,cel_len,q9,t9]);try simp only[yback])
 generalize hHA:AH.new H9 _=HA
 obtain⟨gA,pA,nA⟩:=new_facts hHA
 have g2:=pre_get pA g2
 have g5:=pre_get pA g5
 have g7:=pre_get pA g7
 have kx:KX H2.length H9.length HA (fun h2=>Prods h2 v x.ps):=by rw[←hHA];exact KX.new sd rfl
 have sA:=s9.kp pA
 have l9:=k9.len
 have l8:=pre_len p8
 refine s_l01Next sA fun d HB kB lB sB hd _=>?_
 have g2:=kB.get (by omega) g2
 have g5:=kB.get (by omega) g5
 have g7:=kB.get (by omega) g7
 have gA:=kB.get (by omega) gA
 have kx:=kx.kp kB (by omega)
 refine WO_cut (fun f:Fr=>f 2=.pointer (some ⟨h.length,0,none⟩)∧f 5=.pointer (some ⟨A1.length,0,none⟩)∧f 6=srcP H1.length∧f 7=.pointer (some ⟨H3.length,0,none⟩)∧f 8=I64 i∧f 9=I64 R∧f 10=.pointer (some ⟨H9.length,0,none⟩)∧f 44=I64 d∧True) ⟨(by first|rfl|exact f2|simp[upd_apply,f2]),(by first|rfl|exact f5|simp[upd_apply,f5]),(by first|rfl|exact f6|simp[upd_apply,f6]),(by first|rfl|exact f7|simp[upd_apply,f7]),(by first|rfl|exact f8|simp[upd_apply,f8]),(by first|rfl|exact f9|simp[upd_apply,f9]),(by first|rfl|simp[upd_apply]),(by first|rfl|simp[upd_apply]),trivial⟩ ?_
 rintro f ⟨f2,f5,f6,f7,f8,f9,f10,f44,-⟩
 refine WO_joinR (fun f H=>(f 2=.pointer (some ⟨h.length,0,none⟩)∧f 5=.pointer (some ⟨A1.length,0,none⟩)∧f 7=.pointer (some ⟨H3.length,0,none⟩)∧f 8=I64 i∧f 9=I64 R∧f 10=.pointer (some ⟨H9.length,0,none⟩))∧Src H1 H H1.length∧KX H2.length H9.length H (fun h2=>Prods h2 v x.ps)∧AH.get H h.length=some ⟨[I64 0,I64 0,I64 0,I64 0,.slice none 0 0],26,false,true⟩∧AH.get H A1.length=some ⟨cel .u8 (List.replicate 9 0),34,false,true⟩∧AH.get H H3.length=some ⟨[I64 x.p,I64 x.n,I64 x.m,I64 x.k,v],26,false,true⟩∧∃ q,By 9 q∧AH.get H H9.length=some ⟨cel .u8 q,34,false,true⟩) ?_ ?_
 ·have lB':=kB.len
  have lt9:=s9.lt
  have pt:∀ (HX:AH) (q':List Int) (f:Fr),f 2=.pointer (some ⟨h.length,0,none⟩)→f 5=.pointer (some ⟨A1.length,0,none⟩)→f 7=.pointer (some ⟨H3.length,0,none⟩)→f 8=I64 i→f 9=I64 R→f 10=.pointer (some ⟨H9.length,0,none⟩)→Kp H1.length HB HX→Src H1 HX H1.length→By 9 q' →
    (f 2=.pointer (some ⟨h.length,0,none⟩)∧f 5=.pointer (some ⟨A1.length,0,none⟩)∧f 7=.pointer (some ⟨H3.length,0,none⟩)∧f 8=I64 i∧f 9=I64 R∧f 10=.pointer (some ⟨H9.length,0,none⟩))∧Src H1 (AH.put HX H9.length ⟨cel .u8 q',34,false,true⟩) H1.length∧KX H2.length H9.length (AH.put HX H9.length ⟨cel .u8 q',34,false,true⟩) (fun h2=>Prods h2 v x.ps)∧AH.get (AH.put HX H9.length ⟨cel .u8 q',34,false,true⟩) h.length=some ⟨[I64 0,I64 0,I64 0,I64 0,.slice none 0 0],26,false,true⟩∧AH.get (AH.put HX H9.length ⟨cel .u8 q',34,false,true⟩) A1.length=some ⟨cel .u8 (List.replicate 9 0),34,false,true⟩∧AH.get (AH.put HX H9.length ⟨cel .u8 q',34,false,true⟩) H3.length=some ⟨[I64 x.p,I64 x.n,I64 x.m,I64 x.k,v],26,false,true⟩∧∃ q,By 9 q∧AH.get (AH.put HX H9.length ⟨cel .u8 q',34,false,true⟩) H9.length=some ⟨cel .u8 q,34,false,true⟩:=by
   intro HX q' f e2 e5 e7 e8 e9 e10 kX sX bq
   have lX:=kX.len
   refine⟨⟨e2,e5,e7,e8,e9,e10⟩,sX.putb (by omega) (by omega),(kx.kp kX (by omega)).put (.inr rfl),?_,?_,?_,q',bq,get_put_same (by omega)⟩
   ·rw[get_put_ne (by omega)];exact kX.get (by omega) g2
   ·rw[get_put_ne (by omega)];exact kX.get (by omega) g5
   ·rw[get_put_ne (by omega)];exact kX.get (by omega) g7
  by_cases d0:d=0
  ·have w0:AH.wr HB H9.length 0 [.int .u8 0,.int .u8 0,.int .u8 0,.int .u8 0,.int .u8 0,.int .u8 0,.int .u8 0,.int .u8 0,.int .u8 0]=_:=wr_full (vs:=cel .u8 z9) gA (by rw[cel_len,cel_len,q9];rfl)
   ((try simp (maxSteps:=3000000) (dsimp:=false) (disch:=first|omega|simp only[lnx];omega) only[↓ypre,ypost,↓reduceIte,reduceEqDiff,reduceAdd,reduceSub,reduceLeDiff,zz0,ynew,f2,f5,f6,f7,f8,f9,f10,f44,decide_eq_true d0,fillL,w0]);try simp only[yback])
   exact pt HB z9 _ f2 f5 f7 f8 f9 f10 Kp.refl sB z9_by
  by_cases d1:d=1
  ·((try simp (maxSteps:=3000000) (dsimp:=false) (disch:=first|omega|simp only[lnx];omega) only[↓ypre,ypost,↓reduceIte,reduceEqDiff,reduceAdd,reduceSub,reduceLeDiff,zz0,ynew,f2,f5,f6,f7,f8,f9,f10,f44,decide_eq_false d0,decide_eq_true d1]);try simp only[yback])
   refine s_l01Next sB fun j HD kD lD sD hj _=>?_
   have hj:=hj (by omega)
   obtain⟨J,rfl⟩:∃ n:Nat,j=n:=⟨j.toNat,by omega⟩
   ((try simp (maxSteps:=3000000) (dsimp:=false) (disch:=first|omega|simp only[lnx];omega) only[↓ypre,ypost,↓reduceIte,reduceEqDiff,reduceAdd,reduceSub,reduceLeDiff,zz0,ynew,f2,f5,f6,f7,f8,f9,f10,f44]);try simp only[yback])
   refine s_l01Next sD fun e HE kE lE sE he _=>?_
   have he:=he (by omega)
   have gA:=(kD.trans kE).get (by omega) gA
   have st:=cel_set (k:=.u8) (q:=q) (j:=J) (x:=e) (by omega)
   ((try simp (maxSteps:=3000000) (dsimp:=false) (disch:=first|omega|simp only[lnx];omega) only[↓ypre,ypost,↓reduceIte,reduceEqDiff,reduceAdd,reduceSub,reduceLeDiff,zz0,ynew,f2,f5,f6,f7,f8,f9,f10,f44,wrap8_in,↓WX_ixa,ixaV_ptr,Int.toNat_natCast,Nat.mul_one,wr_of gA,st,cel_len,q9]);try simp only[yback])
   refine⟨by omega,?_⟩
   ((try simp (maxSteps:=3000000) (dsimp:=false) (disch:=first|omega|simp only[lnx];omega) only[↓ypre,ypost,↓reduceIte,reduceEqDiff,reduceAdd,reduceSub,reduceLeDiff,zz0,ynew,f2,f5,f6,f7,f8,f9,f10,f44]);try simp only[yback])
   exact pt HE (q.set J e) _ f2 f5 f7 f8 f9 f10 (kD.trans kE) sE (fq.1.set (by omega) (by omega))
  by_cases d2:d=2
  ·((try simp (maxSteps:=3000000) (dsimp:=false) (disch:=first|omega|simp only[lnx];omega) only[↓ypre,ypost,↓reduceIte,reduceEqDiff,reduceAdd,reduceSub,reduceLeDiff,zz0,ynew,f2,f5,f6,f7,f8,f9,f10,f44,decide_eq_false d0,decide_eq_false d1,decide_eq_true d2,rdn_of g7,fillL,zrep]);try simp only[yback])
   generalize hHD:AH.new HB _=HD
   obtain⟨gD,pD,nD⟩:=new_facts hHD
   have kD:Kp H1.length HB HD:=Kp.of pD
   refine s_l03Numbers (x:=x) (ns:=[i]) ((kx.kp kD (by omega)).now) xb.l (Ints.own (ns:=[i]) gD rfl) (by simp) fun HE pE=>?_
   have kE:=kD.trans (Kp.of pE)
   have sE:=(sB.kp pD).kp pE
   have g7E:=kE.get (by omega) g7
   cases c1:[i].all (numOk x.ps.length) with
   | false=>
    ((try simp (maxSteps:=3000000) (dsimp:=false) (disch:=first|omega|simp only[lnx];omega) only[↓ypre,ypost,↓reduceIte,reduceEqDiff,reduceAdd,reduceSub,reduceLeDiff,zz0,ynew,f2,f5,f6,f7,f8,f9,f10,f44]);try simp only[yback])
    exact⟨⟨f2,f5,f7,f8,f9,f10⟩,sE,kx.kp kE (by omega),kE.get (by omega) g2,kE.get (by omega) g5,g7E,q,fq.1,kE.get (by omega) gA⟩
   | true=>
    simp only[List.all_cons,List.all_nil,Bool.and_true] at c1
    have bi:=of_decide_eq_true c1
    obtain⟨I,rfl⟩:∃ n:Nat,i=n:=⟨i.toNat,by omega⟩
    have hi:I<x.ps.length:=by omega
    have pE':=(kx.kp kE (by omega)).now
    have byi:=pE'.by hi
    obtain⟨ni,oi,ixi,rdi⟩:=(pE'.1).at hi
    have ri:=rdi.1 0 27 (by omega)
    rw[Nat.add_zero,List.drop_zero,List.take_of_length_le (by have:=byi.1;omega)] at ri
    ((try simp (maxSteps:=3000000) (dsimp:=false) (disch:=first|omega|simp only[lnx];omega) only[↓ypre,ypost,↓reduceIte,reduceEqDiff,reduceAdd,reduceSub,reduceLeDiff,zz0,ynew,f2,f5,f6,f7,f8,f9,f10,f44,rd1_of g7E,ixi,ri]);try simp only[yback])
    refine s_l03Factor (q:=x.ps.getD I []) byi hR fun HG pG=>?_
    have kG:=kE.trans (Kp.of pG)
    have sb:=seg_by byi hR
    have w9:=wr_full (vs:=cel .u8 (seg (x.ps.getD I []) R)) (kG.get (by omega) gA) (by rw[cel_len,cel_len,q9];exact sb.1)
    ((try simp (maxSteps:=3000000) (dsimp:=false) (disch:=first|omega|simp only[lnx];omega) only[↓ypre,ypost,↓reduceIte,reduceEqDiff,reduceAdd,reduceSub,reduceLeDiff,zz0,ynew,f2,f5,f6,f7,f8,f9,f10,f44,aggV,cellsL_cel,cel_all,cel_len,sb.1,w9]);try simp only[yback])
    exact pt HG _ _ f2 f5 f7 f8 f9 f10 kG (sE.kp pG) sb
  ((try simp (maxSteps:=3000000) (dsimp:=false) (disch:=first|omega|simp only[lnx];omega) only[↓ypre,ypost,↓reduceIte,reduceEqDiff,reduceAdd,reduceSub,reduceLeDiff,zz0,ynew,f2,f5,f6,f7,f8,f9,f10,f44,decide_eq_false d0,decide_eq_false d1,decide_eq_false d2]);try simp only[yback])
  exact⟨⟨f2,f5,f7,f8,f9,f10⟩,sB,kx,g2,g5,g7,q,fq.1,gA⟩
 ·rintro f HC ⟨⟨f2,f5,f7,f8,f9,f10⟩,sC,sd,g2,g5,g7,q,bq,gA⟩
  have q9:=bq.1
  have w9:=wr_full (vs:=cel .u8 q) g5 (by rw[cel_len,cel_len,q9];rfl)
  have lC:=sC.lt
  ((try simp (maxSteps:=3000000) (dsimp:=false) (disch:=first|omega|simp only[lnx];omega) only[↓ypre,ypost,↓reduceIte,reduceEqDiff,reduceAdd,reduceSub,reduceLeDiff,zz0,ynew,f2,f5,f7,f8,f9,f10,rdn_of g7,rdn_of gA,cel_len,q9,t9,o1,cellsL_cel,cel_all,wr_of g2,splice_eq,w9]);try simp only[yback])
  refine⟨by omega,?_⟩
  exact fin q HC _ (PA.trans sC.p) sd.kN (by omega) bq f2 f5 rfl rfl
end Go.Proofs.YtigpfopobpoamaaGreat.X
