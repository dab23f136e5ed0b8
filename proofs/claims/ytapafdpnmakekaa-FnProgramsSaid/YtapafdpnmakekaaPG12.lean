/- Texts of one claim, put together by merge.py: XP11, XDQ, XArgs, XA2, XA3, XA5, XHPG. -/
import Derived.Test.YtapafdpnmakekaaPG11
import Derived.Test.YtapafdpnmakekaaPG10
import Derived.Test.YtapafdpnmakekaaPG3
import Derived.Deep.Slices
import Derived.WideKeyArgs
import Derived.ChangeOld
import Derived.ChangeArms
import Derived.OpenShut
import Derived.Test.YtapafdpnmakekaaPG7
import Derived.Test.YtapafdpnmakekaaPG8
import Derived.Test.YtapafdpnmakekaaRows
import Derived.ProofKit
import Derived.ShutString
import Derived.Below
import Derived.SizedLaws
set_option linter.unusedVariables false
set_option linter.unusedSimpArgs false
set_option maxRecDepth 20000
set_option maxHeartbeats 4000000
namespace Go.Proofs.Ytapafdpnmakekaa.X
open Go Go.RowKit
open Nat (reduceEqDiff reduceAdd reduceSub reduceLeDiff)
theorem nmI_at {x:Prg} {c j:Nat} (hj:j<c):(gen c (rk x)).getD j 0=rk x j:=gen_get hj
theorem i_WithoutNeedless {v w:Value} {x:Prg} {h:AH} {Q:Value→AH→Prop} (hv:PrgR h v w x) (hl:SmallP x)
  (hQ:∀ v' w' h',h<+:h'→InP h.length h'.length h' v' w' (wnR x).1→Q (.tuple #[prgV (wnR x).1 v' w',I64 (wnR x).2]) h'):WF S 57 [prgV x v w] h Q:=by
 refine WF_fn (fn:=c57) rfl rfl ?_
 dsimp only[c57,oO,oM,oS,oG,oK,oE,oL,oF,oX,oN]
 ((try simp (maxSteps:=3000000) (dsimp:=false) (disch:=first|omega|simp only[lnx];omega) only[↓ypre,ypost,↓reduceIte,reduceEqDiff,reduceAdd,reduceSub,reduceLeDiff,zz0,ynew,prgV,hv.1.one,hv.2.one]);try simp only[yback])
 generalize hH1:AH.new h _=H1
 obtain⟨hb1,p1,n1⟩:=new_facts hH1
 generalize hH2:AH.new H1 _=H2
 obtain⟨hb2,p2,n2⟩:=new_facts hH2
 have hb1:=pre_get p2 hb1
 ((try simp (maxSteps:=3000000) (dsimp:=false) (disch:=first|omega|simp only[lnx];omega) only[↓ypre,ypost,↓reduceIte,reduceEqDiff,reduceAdd,reduceSub,reduceLeDiff,zz0,ynew,rdn_of hb1]);try simp only[yback])
 refine i_IsPrg (hv.pre (p1.trans p2)) hl fun H3 p3=>?_
 have hb1:=pre_get p3 hb1
 have hb2:=pre_get p3 hb2
 have lt2:=get_lt hb2
 unfold wnR at hQ
 cases h1:isPrg x with
 | false=>
  rw[h1,if_neg (by decide)] at hQ
  ((try simp (maxSteps:=3000000) (dsimp:=false) (disch:=first|omega|simp only[lnx];omega) only[↓ypre,ypost,↓reduceIte,reduceEqDiff,reduceAdd,reduceSub,reduceLeDiff,zz0,ynew,wr_of hb2]);try simp only[yback])
  exact hQ (.slice none 0 0) (.slice none 0 0) _ (pre_put ((p1.trans p2).trans p3) (by omega)) ⟨h.length,Nat.le_refl _,by rw[len_put];omega,.inl ⟨rfl,rfl⟩,.inl ⟨rfl,rfl⟩⟩
 | true=>
  rw[h1,if_pos rfl] at hQ
  have pf:=isPrg_facts h1
  have fp:=pf.p
  have fn:=pf.n
  have fst:=pf.st
  have fout:=pf.out
  have p13:=(p1.trans p2).trans p3
  have l13:=pre_len p3
  obtain⟨N,hN⟩:∃ N:Nat,x.n=N:=⟨x.n.toNat,by omega⟩
  have hNt:x.n.toNat=N:=by omega
  obtain⟨C,hC⟩:∃ C:Nat,C=N+x.st.length:=⟨_,rfl⟩
  have eC:x.n+(x.st.length:Int)=(C:Int):=by omega
  have uol:∀ i,(uO x i).length=C:=fun i=>by rw[uO_len,hNt,hC]
  have usl:∀ i,(uS x i).length=C:=fun i=>by rw[uS_len,hNt,hC]
  ((try simp (maxSteps:=3000000) (dsimp:=false) (disch:=first|omega|simp only[lnx];omega) only[↓ypre,ypost,↓reduceIte,reduceEqDiff,reduceAdd,reduceSub,reduceLeDiff,zz0,ynew,rd1_of hb1,hv.1.len,eC,wrap64_in]);try simp only[yback])
  refine⟨by omega,?_⟩
  rw[Int.toNat_natCast,zrep_bools]
  generalize hH4:AH.new H3 _=H4
  obtain⟨hb4,p4,n4⟩:=new_facts hH4
  have bu0:Bls H4 H3.length (uO x 0):=by
   unfold uO
   rw[hNt,←hC]
   exact hb4
  ((try simp (maxSteps:=3000000) (dsimp:=false) (disch:=first|omega|simp only[lnx];omega) only[↓ypre,ypost,↓reduceIte,reduceEqDiff,reduceAdd,reduceSub,reduceLeDiff,zz0,ynew,rd1_of (pre_get p4 hb1),hv.2.len]);try simp only[yback])
  refine WC_loop_inv (fun m f K1=>∃ (i:Nat),m=x.out.length-i∧i≤x.out.length∧f 1=.pointer (some ⟨h.length,0,none⟩)∧f 2=.pointer (some ⟨H1.length,0,none⟩)∧f 4=I64 x.n∧f 5=sl H3.length C∧f 29=w∧f 30=I64 x.out.length∧f 31=I64 i∧(H3<+:K1)∧(Bls K1 H3.length (uO x i))) ?_ (x.out.length-0) _ _ ⟨0,rfl,by omega,(by first|rfl|simp[upd_apply]),(by first|rfl|simp[upd_apply]),(by first|rfl|simp[upd_apply]),(by first|rfl|simp[upd_apply]),(by first|rfl|simp[upd_apply]),(by first|rfl|simp[upd_apply]),(by first|rfl|simp[upd_apply]),p4,bu0⟩
  rintro m f K1 ⟨i,rfl,hi,f1,f2,f4,f5,f29,f30,f31,pp,bu⟩
  have hbK:=pre_get pp hb1
  have ltK:=get_lt hbK
  have hvK:=hv.pre (p13.trans pp)
  by_cases hlt:(i:Int)<x.out.length
  ·have hi':i<x.out.length:=by omega
   obtain⟨n',off',hix',hrn'⟩:=hvK.2.rdw hi'
   obtain⟨a,b,hq⟩:=all2 (hvK.2.wid hi')
   rw[hq,cel_2] at hrn'
   have s2:=pf.out2 hi' hq
   have en:nOut x i=a.toNat:=by unfold nOut nq;rw[hq];rfl
   have e1:(x.out.getD i []).getD 1 0=b:=by rw[hq];rfl
   by_cases hb0:b=0
   ·((try simp (maxSteps:=3000000) (dsimp:=false) (disch:=first|omega|simp only[lnx];omega) only[↓ypre,ypost,↓reduceIte,reduceEqDiff,reduceAdd,reduceSub,reduceLeDiff,zz0,ynew,f1,f2,f4,f5,f29,f30,f31,decide_eq_true hlt,hix',hrn',decide_eq_false (show ¬ b≠0 from fun y=>y hb0),wrap64_in]);try simp only[yback])
    refine InvQ_go (x.out.length-(i+1)) (by omega) ⟨(i+1),rfl,by omega,(by first|rfl|exact f1|(simp only[upd_apply];rfl)|(show I64 _=_;congr 1;omega)),(by first|rfl|exact f2|(simp only[upd_apply];rfl)|(show I64 _=_;congr 1;omega)),(by first|rfl|exact f4|(simp only[upd_apply];rfl)|(show I64 _=_;congr 1;omega)),(by first|rfl|exact f5|(simp only[upd_apply];rfl)|(show I64 _=_;congr 1;omega)),(by first|rfl|exact f29|(simp only[upd_apply];rfl)|(show I64 _=_;congr 1;omega)),(by first|rfl|exact f30|(simp only[upd_apply];rfl)|(show I64 _=_;congr 1;omega)),(by first|rfl|exact f31|(simp only[upd_apply];rfl)|(show I64 _=_;congr 1;omega)),(pre_new pp),(by unfold uO;rw[if_pos (by rw[e1];exact hb0)];exact bu.pre (pre_new (List.prefix_refl _)))⟩
   ·have ixa:=Lst.ix (n:=H3.length) (j:=a) (len:=C) (by omega)
    ((try simp (maxSteps:=3000000) (dsimp:=false) (disch:=first|omega|simp only[lnx];omega) only[↓ypre,ypost,↓reduceIte,reduceEqDiff,reduceAdd,reduceSub,reduceLeDiff,zz0,ynew,f1,f2,f4,f5,f29,f30,f31,decide_eq_true hlt,hix',hrn',decide_eq_true (show b≠0 from hb0),ixa,wrap64_in]);try simp only[yback])
    generalize hHB:AH.new K1 _=HB
    obtain⟨hbB,pB,nB⟩:=new_facts hHB
    obtain⟨H5,w5,e5,b5⟩:=(bu.pre pB).wr (j:=a.toNat) (x:=true) (by rw[uol];omega)
    ((try simp (maxSteps:=3000000) (dsimp:=false) (disch:=first|omega|simp only[lnx];omega) only[↓ypre,ypost,↓reduceIte,reduceEqDiff,reduceAdd,reduceSub,reduceLeDiff,zz0,ynew,f1,f2,f4,f5,f29,f30,f31,w5,wrap64_in]);try simp only[yback])
    refine InvQ_go (x.out.length-(i+1)) (by omega) ⟨(i+1),rfl,by omega,(by first|rfl|exact f1|(simp only[upd_apply];rfl)|(show I64 _=_;congr 1;omega)),(by first|rfl|exact f2|(simp only[upd_apply];rfl)|(show I64 _=_;congr 1;omega)),(by first|rfl|exact f4|(simp only[upd_apply];rfl)|(show I64 _=_;congr 1;omega)),(by first|rfl|exact f5|(simp only[upd_apply];rfl)|(show I64 _=_;congr 1;omega)),(by first|rfl|exact f29|(simp only[upd_apply];rfl)|(show I64 _=_;congr 1;omega)),(by first|rfl|exact f30|(simp only[upd_apply];rfl)|(show I64 _=_;congr 1;omega)),(by first|rfl|exact f31|(simp only[upd_apply];rfl)|(show I64 _=_;congr 1;omega)),(by rw[e5];exact pre_put (pp.trans pB) (Nat.le_refl _)),(by unfold uO;rw[if_neg (by rw[e1];exact hb0),en];exact b5)⟩
  have ei:i=x.out.length:=by omega
  subst ei
  ((try simp (maxSteps:=3000000) (dsimp:=false) (disch:=first|omega|simp only[lnx];omega) only[↓ypre,ypost,↓reduceIte,reduceEqDiff,reduceAdd,reduceSub,reduceLeDiff,zz0,ynew,f1,f2,f4,f5,f29,f30,f31,rd1_of hbK,hvK.1.len,decide_eq_false hlt,wrap64_in]);try simp only[yback])
  refine WC_loop_inv (fun m f K2=>∃ (z:Nat),m=x.st.length-z∧z≤x.st.length∧f 1=.pointer (some ⟨h.length,0,none⟩)∧f 2=.pointer (some ⟨H1.length,0,none⟩)∧f 4=I64 x.n∧f 5=sl H3.length C∧f 8=I64 ((x.st.length:Int)-1-(z:Int))∧(H3<+:K2)∧(Bls K2 H3.length (uS x z))) ?_ (x.st.length-0) _ _ ⟨0,rfl,by omega,(by first|rfl|exact f1|(simp[upd_apply];done)),(by first|rfl|exact f2|(simp[upd_apply];done)),(by first|rfl|exact f4|(simp[upd_apply];done)),(by first|rfl|exact f5|(simp[upd_apply];done)),(by first|rfl|simp[upd_apply]),pp,bu⟩
  rintro m f K2 ⟨z,rfl,hz,f1,f2,f4,f5,f8,pp,bu⟩
  have hbK:=pre_get pp hb1
  have ltK:=get_lt hbK
  have hvK:=hv.pre (p13.trans pp)
  by_cases hlt:0≤(x.st.length:Int)-1-(z:Int)
  ·obtain⟨i,hi⟩:∃ i:Nat,i=x.st.length-1-z:=⟨_,rfl⟩
   have hi':i<x.st.length:=by omega
   have ei:(x.st.length:Int)-1-(z:Int)=(i:Int):=by omega
   obtain⟨n',off',hix',hrn',hr1⟩:=hvK.1.at hi'
   obtain⟨a,b,d,hq⟩:=all3 (hvK.1.wid hi')
   have r0:=hr1 0 (by omega)
   have r1:=hr1 1 (by omega)
   rw[hq] at r0 r1
   simp only[Nat.add_zero,List.getD_cons_zero,List.getD_cons_succ] at r0 r1
   have s3:=pf.st3 hi' hq
   have ea:nSt x i 0=a.toNat:=by unfold nSt nq;rw[hq];rfl
   have eb:nSt x i 1=b.toNat:=by unfold nSt nq;rw[hq];rfl
   have eni:x.n+(i:Int)=((N+i:Nat):Int):=by omega
   have ixu:=Lst.ix (n:=H3.length) (j:=((N+i:Nat):Int)) (len:=C) (by omega)
   have ixa:=Lst.ix (n:=H3.length) (j:=a) (len:=C) (by omega)
   have ixb:=Lst.ix (n:=H3.length) (j:=b) (len:=C) (by omega)
   rw[Int.toNat_natCast] at ixu
   have ru:=bu.rd (j:=N+i) (by rw[usl];omega)
   have eu:uS x (z+1)=if (uS x z).getD (N+i) false=true then ((uS x z).set a.toNat true).set b.toNat true else uS x z:=by
    show (if (uS x z).getD (x.n.toNat+(x.st.length-1-z)) false=true then ((uS x z).set (nSt x (x.st.length-1-z) 0) true).set (nSt x (x.st.length-1-z) 1) true else uS x z)=_
    rw[←hi,hNt,ea,eb]
   cases hU:(uS x z).getD (N+i) false with
   | false=>
    rw[hU] at ru eu
    rw[if_neg (by decide)] at eu
    ((try simp (maxSteps:=3000000) (dsimp:=false) (disch:=first|omega|simp only[lnx];omega) only[↓ypre,ypost,↓reduceIte,reduceEqDiff,reduceAdd,reduceSub,reduceLeDiff,zz0,ynew,f1,f2,f4,f5,f8,Nat.add_zero,rd1_of hbK,decide_eq_true (show (0:Int)≤(i:Int) by omega),ei,eni,ixu,ru,wrap64_in]);try simp only[yback])
    refine InvQ_go (x.st.length-(z+1)) (by omega) ⟨(z+1),rfl,by omega,(by first|rfl|exact f1|(simp only[upd_apply];rfl)|(show I64 _=_;congr 1;omega)),(by first|rfl|exact f2|(simp only[upd_apply];rfl)|(show I64 _=_;congr 1;omega)),(by first|rfl|exact f4|(simp only[upd_apply];rfl)|(show I64 _=_;congr 1;omega)),(by first|rfl|exact f5|(simp only[upd_apply];rfl)|(show I64 _=_;congr 1;omega)),(by show I64 _=I64 _;congr 1;omega),pp,(by rw[eu];exact bu)⟩
   | true=>
    rw[hU] at ru eu
    rw[if_pos rfl] at eu
    obtain⟨H5,w5,e5,b5⟩:=bu.wr (j:=a.toNat) (x:=true) (by rw[usl];omega)
    obtain⟨H6,w6,e6,b6⟩:=b5.wr (j:=b.toNat) (x:=true) (by rw[List.length_set,usl];omega)
    have q5:H3<+:H5:=by rw[e5];exact pre_put pp (Nat.le_refl _)
    have q6:H3<+:H6:=by rw[e6];exact pre_put q5 (Nat.le_refl _)
    obtain⟨m5,o5,hix5,hrn5,hr5⟩:=(hv.pre (p13.trans q5)).1.at hi'
    have ha:=hix' .i64
    rw[hix5 .i64] at ha
    simp only[Option.some.injEq,Value.pointer.injEq,Addr.mk.injEq,and_true] at ha
    obtain⟨rfl,rfl⟩:=ha
    have r15:=hr5 1 (by omega)
    rw[hq] at r15
    simp only[List.getD_cons_zero,List.getD_cons_succ] at r15
    ((try simp (maxSteps:=3000000) (dsimp:=false) (disch:=first|omega|simp only[lnx];omega) only[↓ypre,ypost,↓reduceIte,reduceEqDiff,reduceAdd,reduceSub,reduceLeDiff,zz0,ynew,f1,f2,f4,f5,f8,Nat.add_zero,rd1_of hbK,decide_eq_true (show (0:Int)≤(i:Int) by omega),ei,eni,ixu,ru,hix',r0,ixa,w5,rd1_of (pre_get q5 hb1),r15,ixb,w6,wrap64_in]);try simp only[yback])
    refine InvQ_go (x.st.length-(z+1)) (by omega) ⟨(z+1),rfl,by omega,(by first|rfl|exact f1|(simp only[upd_apply];rfl)|(show I64 _=_;congr 1;omega)),(by first|rfl|exact f2|(simp only[upd_apply];rfl)|(show I64 _=_;congr 1;omega)),(by first|rfl|exact f4|(simp only[upd_apply];rfl)|(show I64 _=_;congr 1;omega)),(by first|rfl|exact f5|(simp only[upd_apply];rfl)|(show I64 _=_;congr 1;omega)),(by show I64 _=I64 _;congr 1;omega),q6,(by rw[eu];exact b6)⟩
  have ez:z=x.st.length:=by omega
  subst ez
  ((try simp (maxSteps:=3000000) (dsimp:=false) (disch:=first|omega|simp only[lnx];omega) only[↓ypre,ypost,↓reduceIte,reduceEqDiff,reduceAdd,reduceSub,reduceLeDiff,zz0,ynew,f1,f2,f4,f5,f8,rd1_of hbK,decide_eq_false hlt]);try simp only[yback])
  have k2:=pre_len pp
  generalize hH7:AH.new K2 _=H7
  obtain⟨hb7,p7,n7⟩:=new_facts hH7
  generalize hH8:AH.new H7 _=H8
  obtain⟨hb8,p8,n8⟩:=new_facts hH8
  have ln0:Lst H8 K2.length (gen 0 (rk x)) true:=pre_get p8 hb7
  refine WC_loop_inv (fun m f K3=>∃ (k:Nat) (kv:Nat) (fu:Bool),m=N-k∧k≤N∧f 1=.pointer (some ⟨h.length,0,none⟩)∧f 2=.pointer (some ⟨H1.length,0,none⟩)∧f 4=I64 x.n∧f 5=sl H3.length C∧f 9=.pointer (some ⟨H7.length,0,none⟩)∧f 10=sl kv (gen k (rk x)).length∧f 78=I64 x.n∧f 79=I64 k∧(K2<+:K3)∧(Lst K3 kv (gen k (rk x)) fu)∧(K2.length≤kv∧kv≠H7.length)∧(OwnB K3 H7.length [I64 x.p,I64 x.n,.slice none 0 0,.slice none 0 0] true)) ?_ (N-0) _ _ ⟨0,K2.length,true,rfl,by omega,(by first|rfl|exact f1|(simp[upd_apply];done)),(by first|rfl|exact f2|(simp[upd_apply];done)),(by first|rfl|exact f4|(simp[upd_apply];done)),(by first|rfl|exact f5|(simp[upd_apply];done)),(by first|rfl|simp[upd_apply]),(by first|rfl|simp[upd_apply]),(by first|rfl|simp[upd_apply]),(by first|rfl|simp[upd_apply]),p7.trans p8,ln0,⟨Nat.le_refl _,by omega⟩,⟨_,hb8⟩⟩
  rintro m f K3 ⟨k,kv,fu,rfl,hk,f1,f2,f4,f5,f9,f10,f78,f79,p2x,ln,hkv,g9⟩
  have k3:=pre_len p2x
  have gl:=gen_len (N:=k) (g:=rk x)
  obtain⟨e9,g9⟩:=g9
  have lt9:=get_lt g9
  by_cases hltk:(k:Int)<x.n
  ·have hrk:rk x k=k:=rk_low (by omega)
   ((try simp (maxSteps:=3000000) (dsimp:=false) (disch:=first|omega|simp only[lnx];omega) only[↓ypre,ypost,↓reduceIte,reduceEqDiff,reduceAdd,reduceSub,reduceLeDiff,zz0,ynew,f1,f2,f4,f5,f9,f10,f78,f79,decide_eq_true hltk,wrap64_in]);try simp only[yback])
   refine ln.app3 (by omega) fun H5 l5 pre5 keep5 ln5=>?_
   rw[←hrk,←gen_succ] at ln5
   ((try simp (maxSteps:=3000000) (dsimp:=false) (disch:=first|omega|simp only[lnx];omega) only[↓ypre,ypost,↓reduceIte,reduceEqDiff,reduceAdd,reduceSub,reduceLeDiff,zz0,ynew,f1,f2,f4,f5,f9,f10,f78,f79,wrap64_in]);try simp only[yback])
   refine InvQ_go (N-(k+1)) (by omega) ⟨(k+1),(K3.length+1),false,rfl,by omega,(by first|rfl|exact f1|(simp only[upd_apply];rfl)|(show I64 _=_;congr 1;omega)),(by first|rfl|exact f2|(simp only[upd_apply];rfl)|(show I64 _=_;congr 1;omega)),(by first|rfl|exact f4|(simp only[upd_apply];rfl)|(show I64 _=_;congr 1;omega)),(by first|rfl|exact f5|(simp only[upd_apply];rfl)|(show I64 _=_;congr 1;omega)),(by first|rfl|exact f9|(simp only[upd_apply];rfl)|(show I64 _=_;congr 1;omega)),(by rw[gen_succ,hrk];rfl),(by first|rfl|exact f78|(simp only[upd_apply];rfl)|(show I64 _=_;congr 1;omega)),(by first|rfl|exact f79|(simp only[upd_apply];rfl)|(show I64 _=_;congr 1;omega)),(pre5 _ hkv.1 p2x),ln5,⟨by omega,by omega⟩,⟨e9,keep5 _ _ (fun e=>hkv.2 e.symm) g9⟩⟩
  have ek:k=N:=by omega
  subst ek
  have pK:=pp.trans p2x
  have hbK:=pre_get pK hb1
  ((try simp (maxSteps:=3000000) (dsimp:=false) (disch:=first|omega|simp only[lnx];omega) only[↓ypre,ypost,↓reduceIte,reduceEqDiff,reduceAdd,reduceSub,reduceLeDiff,zz0,ynew,f1,f2,f4,f5,f9,f10,f78,f79,decide_eq_false hltk,rd1_of hbK,hv.1.len]);try simp only[yback])
  have ws0:WayX (181) .i64 3 K3 K2.length [kv,H7.length] (.slice none 0 0) (wnSt x 0):=⟨fun r hr=>by simp[wnSt] at hr,.inl ⟨rfl,rfl⟩⟩
  have ln0':Lst K3 kv (gen (k+0) (rk x)) fu:=ln
  refine WC_loop_inv (fun m f K4=>∃ (y:Nat) (kv:Nat) (fu:Bool) (sv:Value),m=x.st.length-y∧y≤x.st.length∧f 1=.pointer (some ⟨h.length,0,none⟩)∧f 2=.pointer (some ⟨H1.length,0,none⟩)∧f 4=I64 x.n∧f 5=sl H3.length C∧f 9=.pointer (some ⟨H7.length,0,none⟩)∧f 10=sl kv (gen (k+y) (rk x)).length∧f 88=v∧f 89=I64 x.st.length∧f 90=I64 y∧(K2<+:K4)∧(Lst K4 kv (gen (k+y) (rk x)) fu)∧(WayX (181) .i64 3 K4 K2.length [kv,H7.length] sv (wnSt x y))∧(K2.length≤kv∧kv≠H7.length)∧(OwnB K4 H7.length [I64 x.p,I64 x.n,sv,.slice none 0 0] true)) ?_ (x.st.length-0) _ _ ⟨0,kv,fu,.slice none 0 0,rfl,by omega,(by first|rfl|exact f1|(simp[upd_apply];done)),(by first|rfl|exact f2|(simp[upd_apply];done)),(by first|rfl|exact f4|(simp[upd_apply];done)),(by first|rfl|exact f5|(simp[upd_apply];done)),(by first|rfl|exact f9|(simp[upd_apply];done)),(by first|rfl|exact f10|(simp[upd_apply];done)),(by first|rfl|simp[upd_apply]),(by first|rfl|simp[upd_apply]),(by first|rfl|simp[upd_apply]),p2x,ln0',ws0,hkv,⟨_,g9⟩⟩
  rintro m f K4 ⟨y,kv,fu,sv,rfl,hy,f1,f2,f4,f5,f9,f10,f88,f89,f90,p2x,ln,wb,hkv,g9⟩
  have k4:=pre_len p2x
  have pK:=pp.trans p2x
  have hbK:=pre_get pK hb1
  have ltK:=get_lt hbK
  have hvK:=hv.pre (p13.trans pK)
  obtain⟨e9,g9⟩:=g9
  have lt9:=get_lt g9
  have ltv:=ln.lt
  have wle:=wnSt_le (x:=x) (i:=y)
  have wln:=wnSt_len (x:=x) (i:=y)
  have gl:=gen_len (N:=k+y) (g:=rk x)
  rw[hNt] at wln
  by_cases hlt:(y:Int)<x.st.length
  ·have hy:y<x.st.length:=by omega
   obtain⟨n',off',hix',hrn'⟩:=hvK.1.rdw hy
   obtain⟨a,b,d,hq⟩:=all3 (hvK.1.wid hy)
   rw[hq,cel_3] at hrn'
   have s3:=pf.st3 hy hq
   have ea:nSt x y 0=a.toNat:=by unfold nSt nq;rw[hq];rfl
   have eb:nSt x y 1=b.toNat:=by unfold nSt nq;rw[hq];rfl
   have eny:x.n+(y:Int)=((k+y:Nat):Int):=by omega
   have enl:x.n+((wnSt x y).length:Int)=rk x (k+y):=by omega
   have ixu:=Lst.ix (n:=H3.length) (j:=((k+y:Nat):Int)) (len:=C) (by omega)
   rw[Int.toNat_natCast] at ixu
   have ru:=(bu.pre (show K2<+:K4 from p2x)).rd (j:=k+y) (by rw[usl];omega)
   have eu:wnSt x (y+1)=if (uS x x.st.length).getD (k+y) false=true then wnSt x y++[[rk x a.toNat,rk x b.toNat,d]] else wnSt x y:=by
    show (if (uS x x.st.length).getD (x.n.toNat+y) false=true then wnSt x y++[[rk x (nSt x y 0),rk x (nSt x y 1),(x.st.getD y []).getD 2 0]] else wnSt x y)=_
    rw[hNt,ea,eb,hq]
    rfl
   have egs:gen (k+y) (rk x)++[rk x (k+y)]=gen (k+(y+1)) (rk x):=gen_succ.symm
   have gl':=gen_len (N:=k+(y+1)) (g:=rk x)
   ((try simp (maxSteps:=3000000) (dsimp:=false) (disch:=first|omega|simp only[lnx];omega) only[↓ypre,ypost,↓reduceIte,reduceEqDiff,reduceAdd,reduceSub,reduceLeDiff,zz0,ynew,f1,f2,f4,f5,f9,f10,f88,f89,f90,decide_eq_true hlt,hix',hrn',rd1_of g9,wb.len,enl,wrap64_in]);try simp only[yback])
   generalize hHB:AH.new K4 _=HB
   obtain⟨hbB,pB,nB⟩:=new_facts hHB
   refine (ln.pre pB).app3 (by omega) fun H5 l5 pre5 keep5 ln5=>?_
   have q5:K2<+:H5:=pre5 _ hkv.1 (p2x.trans pB)
   have g5:=keep5 _ _ (fun e=>hkv.2 e.symm) (pre_get pB g9)
   have gB:=keep5 _ _ (by omega) hbB
   have ru:=(bu.pre q5).rd (j:=k+y) (by rw[usl];omega)
   have wb5:WayX (181) .i64 3 H5 K2.length [HB.length+1,H7.length] sv (wnSt x y):=(((wb.exc (ex':=[kv,H7.length,HB.length+1]) (fun m' hm=>by
    simp only[List.mem_cons,List.not_mem_nil,or_false] at hm ⊢
    omega)).pre pB).keep (fun m' c' f' hm _ g=>keep5 _ _ (fun e=>hm (by rw[e];simp)) g)).exc (fun m' hm=>.inl (by
    simp only[List.mem_cons,List.not_mem_nil,or_false] at hm ⊢
    omega))
   cases hU:(uS x x.st.length).getD (k+y) false with
   | false=>
    rw[hU] at ru eu
    rw[if_neg (by decide)] at eu
    ((try simp (maxSteps:=3000000) (dsimp:=false) (disch:=first|omega|simp only[lnx];omega) only[↓ypre,ypost,↓reduceIte,reduceEqDiff,reduceAdd,reduceSub,reduceLeDiff,zz0,ynew,f1,f2,f4,f5,f9,f10,f88,f89,f90,eny,ixu,ru,wrap64_in]);try simp only[yback])
    refine InvQ_go (x.st.length-(y+1)) (by omega) ⟨(y+1),(HB.length+1),false,sv,rfl,by omega,(by first|rfl|exact f1|(simp only[upd_apply];rfl)|(show I64 _=_;congr 1;omega)),(by first|rfl|exact f2|(simp only[upd_apply];rfl)|(show I64 _=_;congr 1;omega)),(by first|rfl|exact f4|(simp only[upd_apply];rfl)|(show I64 _=_;congr 1;omega)),(by first|rfl|exact f5|(simp only[upd_apply];rfl)|(show I64 _=_;congr 1;omega)),(by first|rfl|exact f9|(simp only[upd_apply];rfl)|(show I64 _=_;congr 1;omega)),(by rw[←egs];rfl),(by first|rfl|exact f88|(simp only[upd_apply];rfl)|(show I64 _=_;congr 1;omega)),(by first|rfl|exact f89|(simp only[upd_apply];rfl)|(show I64 _=_;congr 1;omega)),(by first|rfl|exact f90|(simp only[upd_apply];rfl)|(show I64 _=_;congr 1;omega)),q5,(by rw[←egs];exact ln5),(by rw[eu];exact wb5),⟨by omega,by omega⟩,⟨e9,g5⟩⟩
   | true=>
    have cl:=uS_closed hvK pf (Nat.le_refl _) y (by omega) hy (by rw[hNt];exact hU)
    rw[ea,eb] at cl
    rw[hU] at ru eu
    rw[if_pos rfl] at eu
    have ixa:=Lst.ix (n:=HB.length+1) (j:=a) (len:=(gen (k+y) (rk x)++[rk x (k+y)]).length) (by rw[egs];omega)
    have ixb:=Lst.ix (n:=HB.length+1) (j:=b) (len:=(gen (k+y) (rk x)++[rk x (k+y)]).length) (by rw[egs];omega)
    have ra:=ln5.rd (j:=a.toNat) (by rw[egs];omega)
    have rb:=ln5.rd (j:=b.toNat) (by rw[egs];omega)
    rw[egs,nmI_at (by omega)] at ra rb
    ((try simp (maxSteps:=3000000) (dsimp:=false) (disch:=first|omega|simp only[lnx];omega) only[↓ypre,ypost,↓reduceIte,reduceEqDiff,reduceAdd,reduceSub,reduceLeDiff,zz0,ynew,f1,f2,f4,f5,f9,f10,f88,f89,f90,eny,ixu,ru,rd1_of gB,rd1_of g5,ixa,ra,ixb,rb,wrap64_in]);try simp only[yback])
    refine wb5.app (q:=[rk x a.toNat,rk x b.toNat,d]) rfl (by omega) (by omega) (by omega) (by simp;omega) fun sv' H' l' pre' keep' wb'=>?_
    have g9':=keep' _ _ (.inr (by simp)) g5
    have ln6:Lst H' (HB.length+1) (gen (k+(y+1)) (rk x)) false:=by
     rw[←egs]
     exact keep' _ _ (.inr (by simp)) ln5
    have lt9':=get_lt g9'
    ((try simp (maxSteps:=3000000) (dsimp:=false) (disch:=first|omega|simp only[lnx];omega) only[↓ypre,ypost,↓reduceIte,reduceEqDiff,reduceAdd,reduceSub,reduceLeDiff,zz0,ynew,f1,f2,f4,f5,f9,f10,f88,f89,f90,wb'.one,wb'.cells,wr_of g9',wrap64_in]);try simp only[yback])
    refine InvQ_go (x.st.length-(y+1)) (by omega) ⟨(y+1),(HB.length+1),false,sv',rfl,by omega,(by first|rfl|exact f1|(simp only[upd_apply];rfl)|(show I64 _=_;congr 1;omega)),(by first|rfl|exact f2|(simp only[upd_apply];rfl)|(show I64 _=_;congr 1;omega)),(by first|rfl|exact f4|(simp only[upd_apply];rfl)|(show I64 _=_;congr 1;omega)),(by first|rfl|exact f5|(simp only[upd_apply];rfl)|(show I64 _=_;congr 1;omega)),(by first|rfl|exact f9|(simp only[upd_apply];rfl)|(show I64 _=_;congr 1;omega)),(by rw[←egs];rfl),(by first|rfl|exact f88|(simp only[upd_apply];rfl)|(show I64 _=_;congr 1;omega)),(by first|rfl|exact f89|(simp only[upd_apply];rfl)|(show I64 _=_;congr 1;omega)),(by first|rfl|exact f90|(simp only[upd_apply];rfl)|(show I64 _=_;congr 1;omega)),(pre_put (pre' _ (Nat.le_refl _) q5) (by omega)),(ln6.put_ne (by omega)),(by rw[eu];exact (wb'.put (.inr (by simp))).mlo (by omega)),⟨by omega,by omega⟩,⟨e9,get_put_same lt9'⟩⟩
  have ey:y=x.st.length:=by omega
  subst ey
  ((try simp (maxSteps:=3000000) (dsimp:=false) (disch:=first|omega|simp only[lnx];omega) only[↓ypre,ypost,↓reduceIte,reduceEqDiff,reduceAdd,reduceSub,reduceLeDiff,zz0,ynew,f1,f2,f4,f5,f9,f10,f88,f89,f90,rd1_of hbK,hvK.2.len,decide_eq_false hlt]);try simp only[yback])
  obtain⟨E,hE,hold⟩:=wb.hold
  have wo0:WayX (183) .i64 2 K4 K4.length (H7.length::kv::E) (.slice none 0 0) (wnOut x 0):=⟨fun r hr=>by simp[wnOut] at hr,.inl ⟨rfl,rfl⟩⟩
  refine WC_loop_inv (fun m f K5=>∃ (j:Nat) (so:Value),m=x.out.length-j∧j≤x.out.length∧f 1=.pointer (some ⟨h.length,0,none⟩)∧f 2=.pointer (some ⟨H1.length,0,none⟩)∧f 9=.pointer (some ⟨H7.length,0,none⟩)∧f 10=sl kv (gen (k+x.st.length) (rk x)).length∧f 129=w∧f 130=I64 x.out.length∧f 131=I64 j∧(K2<+:K5)∧(Lst K5 kv (gen (k+x.st.length) (rk x)) fu)∧(WayX (183) .i64 2 K5 K4.length (H7.length::kv::E) so (wnOut x j))∧(OwnB K5 H7.length [I64 x.p,I64 x.n,sv,so] true)∧(∀ m b,m∈E→K4.get m=some b→K5.get m=some b)∧(K4.length≤K5.length)) ?_ (x.out.length-0) _ _ ⟨0,.slice none 0 0,rfl,by omega,(by first|rfl|exact f1|(simp[upd_apply];done)),(by first|rfl|exact f2|(simp[upd_apply];done)),(by first|rfl|exact f9|(simp[upd_apply];done)),(by first|rfl|exact f10|(simp[upd_apply];done)),(by first|rfl|simp[upd_apply]),(by first|rfl|simp[upd_apply]),(by first|rfl|simp[upd_apply]),p2x,ln,wo0,⟨_,g9⟩,fun m b _ q=>q,Nat.le_refl _⟩
  rintro m f K5 ⟨j,so,rfl,hj,f1,f2,f9,f10,f129,f130,f131,p2x,kn,wo,g9,hh,k45⟩
  have k5:=pre_len p2x
  have pK:=pp.trans p2x
  have hbK:=pre_get pK hb1
  have ltK:=get_lt hbK
  have hvK:=hv.pre (p13.trans pK)
  obtain⟨e9,g9⟩:=g9
  have lt9:=get_lt g9
  have wle:=wnOut_len (x:=x) (i:=j)
  by_cases hlt:(j:Int)<x.out.length
  ·have hj:j<x.out.length:=by omega
   obtain⟨n',off',hix',hrn'⟩:=hvK.2.rdw hj
   obtain⟨a,b,hq⟩:=all2 (hvK.2.wid hj)
   rw[hq,cel_2] at hrn'
   have s2:=pf.out2 hj hq
   have en:nOut x j=a.toNat:=by unfold nOut nq;rw[hq];rfl
   have e1:(x.out.getD j []).getD 1 0=b:=by rw[hq];rfl
   have eu:wnOut x (j+1)=wnOut x j++[[rk x a.toNat,b]]:=by
    show wnOut x j++[[rk x (nOut x j),(x.out.getD j []).getD 1 0]]=_
    rw[en,e1]
   have ixa:=Lst.ix (n:=kv) (j:=a) (len:=(gen (k+x.st.length) (rk x)).length) (by omega)
   have ra:=kn.rd (j:=a.toNat) (by omega)
   rw[nmI_at (by omega)] at ra
   ((try simp (maxSteps:=3000000) (dsimp:=false) (disch:=first|omega|simp only[lnx];omega) only[↓ypre,ypost,↓reduceIte,reduceEqDiff,reduceAdd,reduceSub,reduceLeDiff,zz0,ynew,f1,f2,f9,f10,f129,f130,f131,decide_eq_true hlt,hix',hrn',rd1_of g9,ixa,ra,wrap64_in]);try simp only[yback])
   generalize hHB:AH.new K5 _=HB
   obtain⟨hbB,pB,nB⟩:=new_facts hHB
   have kB:=pre_len pB
   refine (wo.pre pB).app (q:=[rk x a.toNat,b]) rfl (by omega) (by omega) (by omega) (fun r hr=>by
    simp only[List.mem_cons] at hr
    rcases hr with hr|hr|hr
    ·omega
    ·have:=kn.lt
     omega
    ·have:=(hE _ hr).2.1
     omega) fun so' H' l' pre' keep' wo'=>?_
   have g9':=keep' _ _ (.inr (by simp)) (pre_get pB g9)
   have lt9':=get_lt g9'
   have hk9:∀ m' b',m'∈E→K4.get m'=some b'→(H'.put H7.length ⟨[I64 x.p,I64 x.n,sv,so'],e9,false,true⟩).get m'=some b':=fun m' b' hr hc=>by
    rw[get_put_ne (fun q=>(hE _ hr).2.2 (by rw[←q];simp))]
    exact keep' _ _ (.inr (List.mem_cons_of_mem _ (List.mem_cons_of_mem _ hr))) (pre_get pB (hh _ _ hr hc))
   have kn':Lst H' kv (gen (k+x.st.length) (rk x)) fu:=keep' _ _ (.inr (by simp)) (kn.pre pB)
   ((try simp (maxSteps:=3000000) (dsimp:=false) (disch:=first|omega|simp only[lnx];omega) only[↓ypre,ypost,↓reduceIte,reduceEqDiff,reduceAdd,reduceSub,reduceLeDiff,zz0,ynew,f1,f2,f9,f10,f129,f130,f131,wo'.one,wo'.cells,wr_of g9',wrap64_in]);try simp only[yback])
   refine InvQ_go (x.out.length-(j+1)) (by omega) ⟨(j+1),so',rfl,by omega,(by first|rfl|exact f1|(simp only[upd_apply];rfl)|(show I64 _=_;congr 1;omega)),(by first|rfl|exact f2|(simp only[upd_apply];rfl)|(show I64 _=_;congr 1;omega)),(by first|rfl|exact f9|(simp only[upd_apply];rfl)|(show I64 _=_;congr 1;omega)),(by first|rfl|exact f10|(simp only[upd_apply];rfl)|(show I64 _=_;congr 1;omega)),(by first|rfl|exact f129|(simp only[upd_apply];rfl)|(show I64 _=_;congr 1;omega)),(by first|rfl|exact f130|(simp only[upd_apply];rfl)|(show I64 _=_;congr 1;omega)),(by first|rfl|exact f131|(simp only[upd_apply];rfl)|(show I64 _=_;congr 1;omega)),(pre_put (pre' _ (by omega) (p2x.trans pB)) (by omega)),(kn'.put_ne (fun e=>hkv.2 e.symm)),(by rw[eu];exact (wo'.put (.inr (by simp))).mlo (by omega)),⟨e9,get_put_same lt9'⟩,hk9,(by rw[len_put];omega)⟩
  have ej:j=x.out.length:=by omega
  subst ej
  have hb2K:=pre_get pK hb2
  have lb2:=get_lt hb2K
  obtain⟨ws,is⟩:=hold _ hh
  ((try simp (maxSteps:=3000000) (dsimp:=false) (disch:=first|omega|simp only[lnx];omega) only[↓ypre,ypost,↓reduceIte,reduceEqDiff,reduceAdd,reduceSub,reduceLeDiff,zz0,ynew,f1,f2,f9,f10,f129,f130,f131,decide_eq_false hlt,rdn_of g9,wr_of hb2K,ws.one,ws.cells,wo.one,wo.cells]);try simp only[yback])
  have l13':=pre_len p13
  exact hQ sv so _ (pre_put (p13.trans pK) (by omega)) ⟨K4.length,by omega,by rw[len_put];omega,(is.putb (by omega)).mono (by omega) (Nat.le_refl _),(wo.put (.inl (by omega))).inE.mono (Nat.le_refl _) (Nat.le_refl _)⟩
theorem shR_0 {p n:Int} {rows:List (List Int)} (h:(shR p n rows).2=0):lsOK p n rows=true∧(shR p n rows).1=pgO p n rows true:=by
 unfold shR at h ⊢
 split at h
 ·rename_i h1
  rw[if_pos h1]
  exact⟨h1,rfl⟩
 ·simp at h
theorem plR_1 {p n:Int} {rows:List (List Int)} (h:lsOK p n rows=true):plR p n rows=(pgO p n rows false,0):=if_pos h
theorem wnR_0 {x:Prg} (h:(wnR x).2=0):isPrg x=true∧(wnR x).1=wnP x:=by
 unfold wnR at h ⊢
 split at h
 ·rename_i h1
  rw[if_pos h1]
  exact⟨h1,rfl⟩
 ·simp at h
theorem law_Programs {h:AH} {cv:Value} {code:List (List Int)} (c:Els .u8 1 h cv code) (b:Byt 1 code):WF S 6 [cv] h (fun v _=>v=.bool true):=by
 refine WF_fn (fn:=c6) rfl rfl ?_
 dsimp only[c6,oO,oM,oS,oG,oK,oE,oL,oF,oX,oN]
 ((try simp (maxSteps:=3000000) (dsimp:=false) (disch:=first|omega|simp only[lnx];omega) only[↓ypre,ypost,↓reduceIte,reduceEqDiff,reduceAdd,reduceSub,reduceLeDiff,zz0,ynew]);try simp only[yback])
 refine l_big c ?_
 by_cases hbig:(code.length:Int)>4096
 ·((try simp (maxSteps:=3000000) (dsimp:=false) (disch:=first|omega|simp only[lnx];omega) only[↓ypre,ypost,↓reduceIte,reduceEqDiff,reduceAdd,reduceSub,reduceLeDiff,zz0,ynew,decide_eq_true hbig]);try simp only[yback])
 ((try simp (maxSteps:=3000000) (dsimp:=false) (disch:=first|omega|simp only[lnx];omega) only[↓ypre,ypost,↓reduceIte,reduceEqDiff,reduceAdd,reduceSub,reduceLeDiff,zz0,ynew,decide_eq_false hbig]);try simp only[yback])
 have c:Cod h cv code:=⟨c,b,by omega⟩
 refine s_DrawSharedProgram c fun p n rows v H1 p1 hv sm=>?_
 refine WO_cut (fun f:Fr=>f 0=cv∧f 54=.tuple #[I64 p,I64 n,v]∧True) ⟨(by first|rfl|simp[upd_apply]),(by first|rfl|simp[upd_apply]),trivial⟩ ?_
 rintro f ⟨f0,f54,-⟩
 ((try simp (maxSteps:=3000000) (dsimp:=false) (disch:=first|omega|simp only[lnx];omega) only[↓ypre,ypost,↓reduceIte,reduceEqDiff,reduceAdd,reduceSub,reduceLeDiff,zz0,ynew,f0,f54]);try simp only[yback])
 refine i_SharedProgram (p:=p) (n:=n) hv sm fun v1 w1 H2 p2 o1=>?_
 have hsR:SmallP (shR p n rows).1:=shR_small p n rows
 generalize hR:shR p n rows=R at o1 hsR
 have o1:=o1.rd
 refine WO_cut (fun f:Fr=>f 0=cv∧f 3=I64 p∧f 4=I64 n∧f 5=v∧f 62=.tuple #[prgV R.1 v1 w1,I64 R.2]∧True) ⟨(by first|rfl|exact f0|simp[upd_apply,f0]),(by first|rfl|simp[upd_apply]),(by first|rfl|simp[upd_apply]),(by first|rfl|simp[upd_apply]),(by first|rfl|simp[upd_apply]),trivial⟩ ?_
 rintro f ⟨f0,f3,f4,f5,f62,-⟩
 ((try simp (maxSteps:=3000000) (dsimp:=false) (disch:=first|omega|simp only[lnx];omega) only[↓ypre,ypost,↓reduceIte,reduceEqDiff,reduceAdd,reduceSub,reduceLeDiff,zz0,ynew,f0,f3,f4,f5,f62,prgV,o1.1.one,o1.2.one]);try simp only[yback])
 generalize hH3:AH.new H2 _=H3
 obtain⟨g3,p3,n3⟩:=new_facts hH3
 ((try simp (maxSteps:=3000000) (dsimp:=false) (disch:=first|omega|simp only[lnx];omega) only[↓ypre,ypost,↓reduceIte,reduceEqDiff,reduceAdd,reduceSub,reduceLeDiff,zz0,ynew,f0,f3,f4,f5,f62]);try simp only[yback])
 refine s_SharedProgram (p:=p) (n:=n) (hv.pre (p2.trans p3)) sm fun v2 w2 H4 p4 o2=>?_
 rw[hR] at o2
 simp only[hR]
 have o2:=o2.rd
 refine WO_cut (fun f:Fr=>f 0=cv∧f 3=I64 p∧f 4=I64 n∧f 5=v∧f 6=.pointer (some ⟨H2.length,0,none⟩)∧f 7=I64 R.2∧f 69=.tuple #[prgV R.1 v2 w2,I64 R.2]∧True) ⟨(by first|rfl|exact f0|simp[upd_apply,f0]),(by first|rfl|exact f3|simp[upd_apply,f3]),(by first|rfl|exact f4|simp[upd_apply,f4]),(by first|rfl|exact f5|simp[upd_apply,f5]),(by first|rfl|simp[upd_apply]),(by first|rfl|simp[upd_apply]),(by first|rfl|simp[upd_apply]),trivial⟩ ?_
 rintro f ⟨f0,f3,f4,f5,f6,f7,f69,-⟩
 ((try simp (maxSteps:=3000000) (dsimp:=false) (disch:=first|omega|simp only[lnx];omega) only[↓ypre,ypost,↓reduceIte,reduceEqDiff,reduceAdd,reduceSub,reduceLeDiff,zz0,ynew,f0,f3,f4,f5,f6,f7,f69,prgV,o2.1.one,o2.2.one]);try simp only[yback])
 generalize hH5:AH.new H4 _=H5
 obtain⟨g5,p5,n5⟩:=new_facts hH5
 ((try simp (maxSteps:=3000000) (dsimp:=false) (disch:=first|omega|simp only[lnx];omega) only[↓ypre,ypost,↓reduceIte,reduceEqDiff,reduceAdd,reduceSub,reduceLeDiff,zz0,ynew,f0,f3,f4,f5,f6,f7,f69]);try simp only[yback])
 refine i_PlainProgram (p:=p) (n:=n) (hv.pre ((p2.trans p3).trans (p4.trans p5))) sm fun v3 w3 H6 p6 o3=>?_
 have hsW:SmallP (plR p n rows).1:=plR_small p n rows
 generalize hW:plR p n rows=W at o3 hsW
 have o3:=o3.rd
 refine WO_cut (fun f:Fr=>f 0=cv∧f 3=I64 p∧f 4=I64 n∧f 5=v∧f 6=.pointer (some ⟨H2.length,0,none⟩)∧f 7=I64 R.2∧f 8=.pointer (some ⟨H4.length,0,none⟩)∧f 9=I64 R.2∧f 76=.tuple #[prgV W.1 v3 w3,I64 W.2]∧True) ⟨(by first|rfl|exact f0|simp[upd_apply,f0]),(by first|rfl|exact f3|simp[upd_apply,f3]),(by first|rfl|exact f4|simp[upd_apply,f4]),(by first|rfl|exact f5|simp[upd_apply,f5]),(by first|rfl|exact f6|simp[upd_apply,f6]),(by first|rfl|exact f7|simp[upd_apply,f7]),(by first|rfl|simp[upd_apply]),(by first|rfl|simp[upd_apply]),(by first|rfl|simp[upd_apply]),trivial⟩ ?_
 rintro f ⟨f0,f3,f4,f5,f6,f7,f8,f9,f76,-⟩
 ((try simp (maxSteps:=3000000) (dsimp:=false) (disch:=first|omega|simp only[lnx];omega) only[↓ypre,ypost,↓reduceIte,reduceEqDiff,reduceAdd,reduceSub,reduceLeDiff,zz0,ynew,f0,f3,f4,f5,f6,f7,f8,f9,f76,prgV,o3.1.one,o3.2.one]);try simp only[yback])
 generalize hH7:AH.new H6 _=H7
 obtain⟨g7,p7,n7⟩:=new_facts hH7
 ((try simp (maxSteps:=3000000) (dsimp:=false) (disch:=first|omega|simp only[lnx];omega) only[↓ypre,ypost,↓reduceIte,reduceEqDiff,reduceAdd,reduceSub,reduceLeDiff,zz0,ynew,f0,f3,f4,f5,f6,f7,f8,f9,f76]);try simp only[yback])
 refine s_PlainProgram (p:=p) (n:=n) (hv.pre ((p2.trans (p3.trans p4)).trans (p5.trans (p6.trans p7)))) sm fun v4 w4 H8 p8 o4=>?_
 rw[hW] at o4
 simp only[hW]
 have o4:=o4.rd
 refine WO_cut (fun f:Fr=>f 0=cv∧f 5=v∧f 6=.pointer (some ⟨H2.length,0,none⟩)∧f 7=I64 R.2∧f 8=.pointer (some ⟨H4.length,0,none⟩)∧f 9=I64 R.2∧f 10=.pointer (some ⟨H6.length,0,none⟩)∧f 11=I64 W.2∧f 83=.tuple #[prgV W.1 v4 w4,I64 W.2]∧True) ⟨(by first|rfl|exact f0|simp[upd_apply,f0]),(by first|rfl|exact f5|simp[upd_apply,f5]),(by first|rfl|exact f6|simp[upd_apply,f6]),(by first|rfl|exact f7|simp[upd_apply,f7]),(by first|rfl|exact f8|simp[upd_apply,f8]),(by first|rfl|exact f9|simp[upd_apply,f9]),(by first|rfl|simp[upd_apply]),(by first|rfl|simp[upd_apply]),(by first|rfl|simp[upd_apply]),trivial⟩ ?_
 rintro f ⟨f0,f5,f6,f7,f8,f9,f10,f11,f83,-⟩
 ((try simp (maxSteps:=3000000) (dsimp:=false) (disch:=first|omega|simp only[lnx];omega) only[↓ypre,ypost,↓reduceIte,reduceEqDiff,reduceAdd,reduceSub,reduceLeDiff,zz0,ynew,f0,f5,f6,f7,f8,f9,f10,f11,f83,prgV,o4.1.one,o4.2.one]);try simp only[yback])
 generalize hH9:AH.new H8 _=H9
 obtain⟨g9,p9,n9⟩:=new_facts hH9
 have g3:=pre_get ((p4.trans (p5.trans p6)).trans (p7.trans (p8.trans p9))) g3
 have g5:=pre_get ((p6.trans p7).trans (p8.trans p9)) g5
 ((try simp (maxSteps:=3000000) (dsimp:=false) (disch:=first|omega|simp only[lnx];omega) only[↓ypre,ypost,↓reduceIte,reduceEqDiff,reduceAdd,reduceSub,reduceLeDiff,zz0,ynew,f0,f5,f6,f7,f8,f9,f10,f11,f83,decide_eq_false (show ¬ (R.2)≠(R.2) from fun h=>h rfl),rdn_of g3,rdn_of g5]);try simp only[yback])
 refine l_programs5 (x:=R.1) (o1.pre ((p3.trans (p4.trans p5)).trans ((p6.trans p7).trans (p8.trans p9)))) (o2.pre ((p5.trans p6).trans (p7.trans (p8.trans p9)))) hsR fun H10 p10=>?_
 refine WO_cut (fun f:Fr=>f 0=cv∧f 5=v∧f 6=.pointer (some ⟨H2.length,0,none⟩)∧f 7=I64 R.2∧f 10=.pointer (some ⟨H6.length,0,none⟩)∧f 11=I64 W.2∧f 12=.pointer (some ⟨H8.length,0,none⟩)∧f 13=I64 W.2∧f 89=.bool false∧f 92=.bool true∧True) ⟨(by first|rfl|exact f0|simp[upd_apply,f0]),(by first|rfl|exact f5|simp[upd_apply,f5]),(by first|rfl|exact f6|simp[upd_apply,f6]),(by first|rfl|exact f7|simp[upd_apply,f7]),(by first|rfl|exact f10|simp[upd_apply,f10]),(by first|rfl|exact f11|simp[upd_apply,f11]),(by first|rfl|simp[upd_apply]),(by first|rfl|simp[upd_apply]),(by first|rfl|simp[upd_apply]),(by first|rfl|simp[upd_apply]),trivial⟩ ?_
 rintro f ⟨f0,f5,f6,f7,f10,f11,f12,f13,f89,f92,-⟩
 have g7:=pre_get (p8.trans (p9.trans p10)) g7
 have g9:=pre_get p10 g9
 ((try simp (maxSteps:=3000000) (dsimp:=false) (disch:=first|omega|simp only[lnx];omega) only[↓ypre,ypost,↓reduceIte,reduceEqDiff,reduceAdd,reduceSub,reduceLeDiff,zz0,ynew,f0,f5,f6,f7,f10,f11,f12,f13,f89,f92,decide_eq_false (show ¬ (W.2)≠(W.2) from fun h=>h rfl),rdn_of g7,rdn_of g9]);try simp only[yback])
 refine l_programs5 (x:=W.1) (o3.pre ((p7.trans p8).trans (p9.trans p10))) (o4.pre (p9.trans p10)) hsW fun H11 p11=>?_
 refine WO_cut (fun f:Fr=>f 0=cv∧f 5=v∧f 6=.pointer (some ⟨H2.length,0,none⟩)∧f 7=I64 R.2∧f 10=.pointer (some ⟨H6.length,0,none⟩)∧f 11=I64 W.2∧f 100=.bool false∧f 103=.bool true∧True) ⟨(by first|rfl|exact f0|simp[upd_apply,f0]),(by first|rfl|exact f5|simp[upd_apply,f5]),(by first|rfl|exact f6|simp[upd_apply,f6]),(by first|rfl|exact f7|simp[upd_apply,f7]),(by first|rfl|exact f10|simp[upd_apply,f10]),(by first|rfl|exact f11|simp[upd_apply,f11]),(by first|rfl|simp[upd_apply]),(by first|rfl|simp[upd_apply]),trivial⟩ ?_
 rintro f ⟨f0,f5,f6,f7,f10,f11,f100,f103,-⟩
 refine WO_join2 (Kcv h cv) ?_ ?_
 ·skip
  by_cases z1:R.2=0
  case neg=>
   ((try simp (maxSteps:=3000000) (dsimp:=false) (disch:=first|omega|simp only[lnx];omega) only[↓ypre,ypost,↓reduceIte,reduceEqDiff,reduceAdd,reduceSub,reduceLeDiff,zz0,ynew,f0,f5,f6,f7,f10,f11,f100,f103,decide_eq_false z1]);try simp only[yback])
   rw[JnQ_n]
   exact⟨f0,(((p1.trans p2).trans (p3.trans (p4.trans p5))).trans ((p6.trans (p7.trans p8)).trans (p9.trans (p10.trans p11))))⟩
  by_cases z2:W.2=0
  case neg=>
   ((try simp (maxSteps:=3000000) (dsimp:=false) (disch:=first|omega|simp only[lnx];omega) only[↓ypre,ypost,↓reduceIte,reduceEqDiff,reduceAdd,reduceSub,reduceLeDiff,zz0,ynew,f0,f5,f6,f7,f10,f11,f100,f103,decide_eq_true z1,decide_eq_false z2]);try simp only[yback])
   rw[JnQ_n]
   exact⟨f0,(((p1.trans p2).trans (p3.trans (p4.trans p5))).trans ((p6.trans (p7.trans p8)).trans (p9.trans (p10.trans p11))))⟩
  obtain⟨ok,eR⟩:=shR_0 (show (shR p n rows).2=0 by rw[hR];exact z1)
  rw[hR] at eR
  have eW:W.1=pgO p n rows false:=by rw[←hW,plR_1 ok]
  have fR:fmR R.1=(rows,0):=by
   unfold fmR
   rw[eR,if_pos (pgO_isPrg ok),fmL_pgO ok]
  have fW:fmR W.1=(rows,0):=by
   unfold fmR
   rw[eW,if_pos (pgO_isPrg ok),fmL_pgO ok]
  have le:R.1.st.length≤W.1.st.length:=by
   rw[eR,eW]
   exact shP_le ok
  have g3:=pre_get (p10.trans p11) g3
  ((try simp (maxSteps:=3000000) (dsimp:=false) (disch:=first|omega|simp only[lnx];omega) only[↓ypre,ypost,↓reduceIte,reduceEqDiff,reduceAdd,reduceSub,reduceLeDiff,zz0,ynew,f0,f5,f6,f7,f10,f11,f100,f103,decide_eq_true z1,decide_eq_true z2,rdn_of g3]);try simp only[yback])
  refine i_FormsOf (x:=R.1) (o1.pre (((p3.trans p4).trans (p5.trans p6)).trans ((p7.trans p8).trans (p9.trans (p10.trans p11))))) hsR fun v5 H12 p12 o5=>?_
  rw[fR] at o5 ⊢
  have o5:Rows H12 v5 rows:=o5.rows
  refine WO_cut (fun f:Fr=>f 0=cv∧f 5=v∧f 6=.pointer (some ⟨H2.length,0,none⟩)∧f 10=.pointer (some ⟨H6.length,0,none⟩)∧f 114=.tuple #[v5,I64 0]∧True) ⟨(by first|rfl|exact f0|simp[upd_apply,f0]),(by first|rfl|exact f5|simp[upd_apply,f5]),(by first|rfl|exact f6|simp[upd_apply,f6]),(by first|rfl|exact f10|simp[upd_apply,f10]),(by first|rfl|simp[upd_apply]),trivial⟩ ?_
  rintro f ⟨f0,f5,f6,f10,f114,-⟩
  have g7:=pre_get (p11.trans p12) g7
  ((try simp (maxSteps:=3000000) (dsimp:=false) (disch:=first|omega|simp only[lnx];omega) only[↓ypre,ypost,↓reduceIte,reduceEqDiff,reduceAdd,reduceSub,reduceLeDiff,zz0,ynew,f0,f5,f6,f10,f114,rdn_of g7]);try simp only[yback])
  refine i_FormsOf (x:=W.1) (o3.pre ((p7.trans (p8.trans p9)).trans (p10.trans (p11.trans p12)))) hsW fun v6 H13 p13 o6=>?_
  rw[fW] at o6 ⊢
  have o6:Rows H13 v6 rows:=o6.rows
  refine WO_cut (fun f:Fr=>f 0=cv∧f 5=v∧f 6=.pointer (some ⟨H2.length,0,none⟩)∧f 10=.pointer (some ⟨H6.length,0,none⟩)∧f 14=v5∧f 15=I64 0∧f 119=.tuple #[v6,I64 0]∧True) ⟨(by first|rfl|exact f0|simp[upd_apply,f0]),(by first|rfl|exact f5|simp[upd_apply,f5]),(by first|rfl|exact f6|simp[upd_apply,f6]),(by first|rfl|exact f10|simp[upd_apply,f10]),(by first|rfl|simp[upd_apply]),(by first|rfl|simp[upd_apply]),(by first|rfl|simp[upd_apply]),trivial⟩ ?_
  rintro f ⟨f0,f5,f6,f10,f14,f15,f119,-⟩
  ((try simp (maxSteps:=3000000) (dsimp:=false) (disch:=first|omega|simp only[lnx];omega) only[↓ypre,ypost,↓reduceIte,reduceEqDiff,reduceAdd,reduceSub,reduceLeDiff,zz0,ynew,f0,f5,f6,f10,f14,f15,f119,decide_eq_false (show ¬ (0:Int)≠(0:Int) from fun h=>h rfl)]);try simp only[yback])
  refine l_rows5 (o5.pre p13) (hv.pre (((p2.trans (p3.trans p4)).trans (p5.trans (p6.trans p7))).trans ((p8.trans (p9.trans p10)).trans (p11.trans (p12.trans p13))))) sm ?_
  refine WO_cut (fun f:Fr=>f 0=cv∧f 5=v∧f 6=.pointer (some ⟨H2.length,0,none⟩)∧f 10=.pointer (some ⟨H6.length,0,none⟩)∧f 16=v6∧f 128=.bool false∧f 131=.bool true∧True) ⟨(by first|rfl|exact f0|simp[upd_apply,f0]),(by first|rfl|exact f5|simp[upd_apply,f5]),(by first|rfl|exact f6|simp[upd_apply,f6]),(by first|rfl|exact f10|simp[upd_apply,f10]),(by first|rfl|simp[upd_apply]),(by first|rfl|simp[upd_apply]),(by first|rfl|simp[upd_apply]),trivial⟩ ?_
  rintro f ⟨f0,f5,f6,f10,f16,f128,f131,-⟩
  ((try simp (maxSteps:=3000000) (dsimp:=false) (disch:=first|omega|simp only[lnx];omega) only[↓ypre,ypost,↓reduceIte,reduceEqDiff,reduceAdd,reduceSub,reduceLeDiff,zz0,ynew,f0,f5,f6,f10,f16,f128,f131]);try simp only[yback])
  refine l_rows5 o6 (hv.pre (((p2.trans (p3.trans p4)).trans (p5.trans (p6.trans p7))).trans ((p8.trans (p9.trans p10)).trans (p11.trans (p12.trans p13))))) sm ?_
  refine WO_cut (fun f:Fr=>f 0=cv∧f 6=.pointer (some ⟨H2.length,0,none⟩)∧f 10=.pointer (some ⟨H6.length,0,none⟩)∧f 134=.bool false∧f 137=.bool true∧True) ⟨(by first|rfl|exact f0|simp[upd_apply,f0]),(by first|rfl|exact f6|simp[upd_apply,f6]),(by first|rfl|exact f10|simp[upd_apply,f10]),(by first|rfl|simp[upd_apply]),(by first|rfl|simp[upd_apply]),trivial⟩ ?_
  rintro f ⟨f0,f6,f10,f134,f137,-⟩
  have g3:=pre_get (p12.trans p13) g3
  have g7:=pre_get p13 g7
  ((try simp (maxSteps:=3000000) (dsimp:=false) (disch:=first|omega|simp only[lnx];omega) only[↓ypre,ypost,↓reduceIte,reduceEqDiff,reduceAdd,reduceSub,reduceLeDiff,zz0,ynew,f0,f6,f10,f134,f137,rd1_of g3,o1.1.len,rd1_of g7,o3.1.len,decide_eq_false (show ¬ (R.1.st.length:Int)>(W.1.st.length:Int) by omega)]);try simp only[yback])
  rw[JnQ_n]
  exact⟨f0,(((p1.trans (p2.trans p3)).trans (p4.trans (p5.trans p6))).trans ((p7.trans (p8.trans p9)).trans ((p10.trans p11).trans (p12.trans p13))))⟩
 rintro f HX14 ⟨f0,pX14⟩
 ((try simp (maxSteps:=3000000) (dsimp:=false) (disch:=first|omega|simp only[lnx];omega) only[↓ypre,ypost,↓reduceIte,reduceEqDiff,reduceAdd,reduceSub,reduceLeDiff,zz0,ynew,f0]);try simp only[yback])
 refine s_DrawWithoutNeedless (c.pre pX14) fun x v w H15 p15 hv xb=>?_
 refine WO_cut (fun f:Fr=>f 0=cv∧f 150=prgV x v w∧True) ⟨(by first|rfl|exact f0|simp[upd_apply,f0]),(by first|rfl|simp[upd_apply]),trivial⟩ ?_
 rintro f ⟨f0,f150,-⟩
 ((try simp (maxSteps:=3000000) (dsimp:=false) (disch:=first|omega|simp only[lnx];omega) only[↓ypre,ypost,↓reduceIte,reduceEqDiff,reduceAdd,reduceSub,reduceLeDiff,zz0,ynew,f0,f150,prgV,hv.1.one,hv.2.one]);try simp only[yback])
 generalize hH16:AH.new H15 _=H16
 obtain⟨g16,p16,n16⟩:=new_facts hH16
 ((try simp (maxSteps:=3000000) (dsimp:=false) (disch:=first|omega|simp only[lnx];omega) only[↓ypre,ypost,↓reduceIte,reduceEqDiff,reduceAdd,reduceSub,reduceLeDiff,zz0,ynew,f0,f150,rdn_of g16]);try simp only[yback])
 refine i_WithoutNeedless (x:=x) (hv.pre p16) xb.small fun v1 w1 H17 p17 o1=>?_
 have hsR:SmallP (wnR x).1:=wnR_small x
 generalize hR:wnR x=R at o1 hsR
 have o1:=o1.rd
 refine WO_cut (fun f:Fr=>f 0=cv∧f 18=.pointer (some ⟨H15.length,0,none⟩)∧f 153=.tuple #[prgV R.1 v1 w1,I64 R.2]∧True) ⟨(by first|rfl|exact f0|simp[upd_apply,f0]),(by first|rfl|simp[upd_apply]),(by first|rfl|simp[upd_apply]),trivial⟩ ?_
 rintro f ⟨f0,f18,f153,-⟩
 ((try simp (maxSteps:=3000000) (dsimp:=false) (disch:=first|omega|simp only[lnx];omega) only[↓ypre,ypost,↓reduceIte,reduceEqDiff,reduceAdd,reduceSub,reduceLeDiff,zz0,ynew,f0,f18,f153,prgV,o1.1.one,o1.2.one]);try simp only[yback])
 generalize hH18:AH.new H17 _=H18
 obtain⟨g18,p18,n18⟩:=new_facts hH18
 have g16:=pre_get (p17.trans p18) g16
 ((try simp (maxSteps:=3000000) (dsimp:=false) (disch:=first|omega|simp only[lnx];omega) only[↓ypre,ypost,↓reduceIte,reduceEqDiff,reduceAdd,reduceSub,reduceLeDiff,zz0,ynew,f0,f18,f153,rdn_of g16]);try simp only[yback])
 refine s_WithoutNeedless (x:=x) (hv.pre (p16.trans (p17.trans p18))) xb.small fun v2 w2 H19 p19 o2=>?_
 rw[hR] at o2
 simp only[hR]
 have o2:=o2.rd
 refine WO_cut (fun f:Fr=>f 0=cv∧f 18=.pointer (some ⟨H15.length,0,none⟩)∧f 19=.pointer (some ⟨H17.length,0,none⟩)∧f 20=I64 R.2∧f 158=.tuple #[prgV R.1 v2 w2,I64 R.2]∧True) ⟨(by first|rfl|exact f0|simp[upd_apply,f0]),(by first|rfl|exact f18|simp[upd_apply,f18]),(by first|rfl|simp[upd_apply]),(by first|rfl|simp[upd_apply]),(by first|rfl|simp[upd_apply]),trivial⟩ ?_
 rintro f ⟨f0,f18,f19,f20,f158,-⟩
 ((try simp (maxSteps:=3000000) (dsimp:=false) (disch:=first|omega|simp only[lnx];omega) only[↓ypre,ypost,↓reduceIte,reduceEqDiff,reduceAdd,reduceSub,reduceLeDiff,zz0,ynew,f0,f18,f19,f20,f158,prgV,o2.1.one,o2.2.one]);try simp only[yback])
 generalize hH20:AH.new H19 _=H20
 obtain⟨g20,p20,n20⟩:=new_facts hH20
 have g18:=pre_get (p19.trans p20) g18
 ((try simp (maxSteps:=3000000) (dsimp:=false) (disch:=first|omega|simp only[lnx];omega) only[↓ypre,ypost,↓reduceIte,reduceEqDiff,reduceAdd,reduceSub,reduceLeDiff,zz0,ynew,f0,f18,f19,f20,f158,decide_eq_false (show ¬ (R.2)≠(R.2) from fun h=>h rfl),rdn_of g18,rdn_of g20]);try simp only[yback])
 refine l_programs5 (x:=R.1) (o1.pre (p18.trans (p19.trans p20))) (o2.pre p20) hsR fun H21 p21=>?_
 refine WO_cut (fun f:Fr=>f 0=cv∧f 18=.pointer (some ⟨H15.length,0,none⟩)∧f 19=.pointer (some ⟨H17.length,0,none⟩)∧f 20=I64 R.2∧f 164=.bool false∧f 167=.bool true∧True) ⟨(by first|rfl|exact f0|simp[upd_apply,f0]),(by first|rfl|exact f18|simp[upd_apply,f18]),(by first|rfl|exact f19|simp[upd_apply,f19]),(by first|rfl|exact f20|simp[upd_apply,f20]),(by first|rfl|simp[upd_apply]),(by first|rfl|simp[upd_apply]),trivial⟩ ?_
 rintro f ⟨f0,f18,f19,f20,f164,f167,-⟩
 have g16:=pre_get (p19.trans (p20.trans p21)) g16
 ((try simp (maxSteps:=3000000) (dsimp:=false) (disch:=first|omega|simp only[lnx];omega) only[↓ypre,ypost,↓reduceIte,reduceEqDiff,reduceAdd,reduceSub,reduceLeDiff,zz0,ynew,f0,f18,f19,f20,f164,f167,rdn_of g16]);try simp only[yback])
 refine i_IsPrg (x:=x) (hv.pre ((p16.trans (p17.trans p18)).trans (p19.trans (p20.trans p21)))) xb.small fun H22 p22=>?_
 refine⟨p22,?_⟩
 refine WO_cut (fun f:Fr=>f 0=cv∧f 18=.pointer (some ⟨H15.length,0,none⟩)∧f 19=.pointer (some ⟨H17.length,0,none⟩)∧f 20=I64 R.2∧f 170=.bool false∧f 172=.bool (isPrg x)∧True) ⟨(by first|rfl|exact f0|simp[upd_apply,f0]),(by first|rfl|exact f18|simp[upd_apply,f18]),(by first|rfl|exact f19|simp[upd_apply,f19]),(by first|rfl|exact f20|simp[upd_apply,f20]),(by first|rfl|simp[upd_apply]),(by first|rfl|simp[upd_apply]),trivial⟩ ?_
 rintro f ⟨f0,f18,f19,f20,f170,f172,-⟩
 have g16:=pre_get p22 g16
 ((try simp (maxSteps:=3000000) (dsimp:=false) (disch:=first|omega|simp only[lnx];omega) only[↓ypre,ypost,↓reduceIte,reduceEqDiff,reduceAdd,reduceSub,reduceLeDiff,zz0,ynew,f0,f18,f19,f20,f170,f172,rdn_of g16]);try simp only[yback])
 refine s_IsProgram (x:=x) (hv.pre ((p16.trans (p17.trans p18)).trans ((p19.trans p20).trans (p21.trans p22)))) xb.small fun H23 p23=>?_
 refine WO_cut (fun f:Fr=>f 0=cv∧f 18=.pointer (some ⟨H15.length,0,none⟩)∧f 19=.pointer (some ⟨H17.length,0,none⟩)∧f 20=I64 R.2∧f 170=.bool false∧f 172=.bool (isPrg x)∧f 174=.bool (isPrg x)∧True) ⟨(by first|rfl|exact f0|simp[upd_apply,f0]),(by first|rfl|exact f18|simp[upd_apply,f18]),(by first|rfl|exact f19|simp[upd_apply,f19]),(by first|rfl|exact f20|simp[upd_apply,f20]),(by first|rfl|exact f170|simp[upd_apply,f170]),(by first|rfl|exact f172|simp[upd_apply,f172]),(by first|rfl|simp[upd_apply]),trivial⟩ ?_
 rintro f ⟨f0,f18,f19,f20,f170,f172,f174,-⟩
 refine WO_join2 (Kcv h cv) ?_ ?_
 ·skip
  by_cases z:R.2=0
  case neg=>
   ((try simp (maxSteps:=3000000) (dsimp:=false) (disch:=first|omega|simp only[lnx];omega) only[↓ypre,ypost,↓reduceIte,reduceEqDiff,reduceAdd,reduceSub,reduceLeDiff,zz0,ynew,f0,f18,f19,f20,f170,f172,f174,show (((isPrg x)==(isPrg x)) != true)=false by simp,decide_eq_false z]);try simp only[yback])
   rw[JnQ_n]
   exact⟨f0,(((pX14.trans p15).trans (p16.trans (p17.trans p18))).trans ((p19.trans p20).trans (p21.trans (p22.trans p23))))⟩
  obtain⟨hx,eR⟩:=wnR_0 (show (wnR x).2=0 by rw[hR];exact z)
  rw[hR] at eR
  have wf:=wnF_of (hv.pre (((p16.trans p17).trans (p18.trans p19)).trans ((p20.trans p21).trans (p22.trans p23)))) (isPrg_facts hx)
  have hy:=wn_isPrg wf hx
  have q1:=(o1.pre ((p18.trans (p19.trans p20)).trans (p21.trans (p22.trans p23))))
  rw[eR] at q1
  have wg:=wnF_of q1 (isPrg_facts hy)
  have fx:fmR x=(fmL x,0):=if_pos hx
  have fR:fmR R.1=(fmL x,0):=by
   unfold fmR
   rw[eR,if_pos hy,wn_forms wf]
  have dR:dpR R.1=dpR x:=by rw[eR,wn_depths wf hx]
  have d0:(dpR x).2=0:=by unfold dpR;rw[if_pos hx]
  have wR:wnR R.1=(R.1,0):=by
   unfold wnR
   rw[eR,if_pos hy,wn_idem wf wg]
  have le:R.1.st.length≤x.st.length:=by
   rw[eR]
   exact wnSt_le
  have hsF:SmallM (fmR x).1:=fmR_small x
  rw[fx] at hsF
  have hsD:(((dpR x).1.length:Nat):Int)≤1048576:=dpR_small x
  have g16:=pre_get p23 g16
  ((try simp (maxSteps:=3000000) (dsimp:=false) (disch:=first|omega|simp only[lnx];omega) only[↓ypre,ypost,↓reduceIte,reduceEqDiff,reduceAdd,reduceSub,reduceLeDiff,zz0,ynew,f0,f18,f19,f20,f170,f172,f174,show (((isPrg x)==(isPrg x)) != true)=false by simp,decide_eq_true z,rdn_of g16]);try simp only[yback])
  refine i_FormsOf (x:=x) (hv.pre (((p16.trans p17).trans (p18.trans p19)).trans ((p20.trans p21).trans (p22.trans p23)))) xb.small fun v5 H24 p24 o5=>?_
  rw[fx] at o5 ⊢
  have o5:Rows H24 v5 (fmL x):=o5.rows
  refine WO_cut (fun f:Fr=>f 0=cv∧f 18=.pointer (some ⟨H15.length,0,none⟩)∧f 19=.pointer (some ⟨H17.length,0,none⟩)∧f 181=.tuple #[v5,I64 0]∧True) ⟨(by first|rfl|exact f0|simp[upd_apply,f0]),(by first|rfl|exact f18|simp[upd_apply,f18]),(by first|rfl|exact f19|simp[upd_apply,f19]),(by first|rfl|simp[upd_apply]),trivial⟩ ?_
  rintro f ⟨f0,f18,f19,f181,-⟩
  have g18:=pre_get ((p21.trans p22).trans (p23.trans p24)) g18
  ((try simp (maxSteps:=3000000) (dsimp:=false) (disch:=first|omega|simp only[lnx];omega) only[↓ypre,ypost,↓reduceIte,reduceEqDiff,reduceAdd,reduceSub,reduceLeDiff,zz0,ynew,f0,f18,f19,f181,rdn_of g18]);try simp only[yback])
  refine i_FormsOf (x:=R.1) (o1.pre ((p18.trans (p19.trans p20)).trans ((p21.trans p22).trans (p23.trans p24)))) hsR fun v6 H25 p25 o6=>?_
  rw[fR] at o6 ⊢
  have o6:Rows H25 v6 (fmL x):=o6.rows
  refine WO_cut (fun f:Fr=>f 0=cv∧f 18=.pointer (some ⟨H15.length,0,none⟩)∧f 19=.pointer (some ⟨H17.length,0,none⟩)∧f 23=v5∧f 24=I64 0∧f 186=.tuple #[v6,I64 0]∧True) ⟨(by first|rfl|exact f0|simp[upd_apply,f0]),(by first|rfl|exact f18|simp[upd_apply,f18]),(by first|rfl|exact f19|simp[upd_apply,f19]),(by first|rfl|simp[upd_apply]),(by first|rfl|simp[upd_apply]),(by first|rfl|simp[upd_apply]),trivial⟩ ?_
  rintro f ⟨f0,f18,f19,f23,f24,f186,-⟩
  have g18:=pre_get p25 g18
  ((try simp (maxSteps:=3000000) (dsimp:=false) (disch:=first|omega|simp only[lnx];omega) only[↓ypre,ypost,↓reduceIte,reduceEqDiff,reduceAdd,reduceSub,reduceLeDiff,zz0,ynew,f0,f18,f19,f23,f24,f186,rdn_of g18]);try simp only[yback])
  refine i_WithoutNeedless (x:=R.1) (o1.pre (((p18.trans p19).trans (p20.trans p21)).trans ((p22.trans p23).trans (p24.trans p25)))) hsR fun v7 w7 H26 p26 o7=>?_
  have o7:=o7.rd
  rw[wR] at o7 ⊢
  refine WO_cut (fun f:Fr=>f 0=cv∧f 18=.pointer (some ⟨H15.length,0,none⟩)∧f 19=.pointer (some ⟨H17.length,0,none⟩)∧f 23=v5∧f 24=I64 0∧f 25=v6∧f 26=I64 0∧f 191=.tuple #[prgV R.1 v7 w7,I64 0]∧True) ⟨(by first|rfl|exact f0|simp[upd_apply,f0]),(by first|rfl|exact f18|simp[upd_apply,f18]),(by first|rfl|exact f19|simp[upd_apply,f19]),(by first|rfl|exact f23|simp[upd_apply,f23]),(by first|rfl|exact f24|simp[upd_apply,f24]),(by first|rfl|simp[upd_apply]),(by first|rfl|simp[upd_apply]),(by first|rfl|simp[upd_apply]),trivial⟩ ?_
  rintro f ⟨f0,f18,f19,f23,f24,f25,f26,f191,-⟩
  ((try simp (maxSteps:=3000000) (dsimp:=false) (disch:=first|omega|simp only[lnx];omega) only[↓ypre,ypost,↓reduceIte,reduceEqDiff,reduceAdd,reduceSub,reduceLeDiff,zz0,ynew,f0,f18,f19,f23,f24,f25,f26,f191,prgV,o7.1.one,o7.2.one]);try simp only[yback])
  generalize hH27:AH.new H26 _=H27
  obtain⟨g27,p27,n27⟩:=new_facts hH27
  have g16:=pre_get ((p24.trans p25).trans (p26.trans p27)) g16
  ((try simp (maxSteps:=3000000) (dsimp:=false) (disch:=first|omega|simp only[lnx];omega) only[↓ypre,ypost,↓reduceIte,reduceEqDiff,reduceAdd,reduceSub,reduceLeDiff,zz0,ynew,f0,f18,f19,f23,f24,f25,f26,f191,rdn_of g16]);try simp only[yback])
  refine i_DepthsOf (x:=x) (hv.pre (((p16.trans (p17.trans p18)).trans (p19.trans (p20.trans p21))).trans ((p22.trans (p23.trans p24)).trans (p25.trans (p26.trans p27))))) xb.small fun v8 H28 p28 o8=>?_
  rw[d0]
  have o8:=o8.ints
  refine WO_cut (fun f:Fr=>f 0=cv∧f 18=.pointer (some ⟨H15.length,0,none⟩)∧f 19=.pointer (some ⟨H17.length,0,none⟩)∧f 23=v5∧f 24=I64 0∧f 25=v6∧f 26=I64 0∧f 27=.pointer (some ⟨H26.length,0,none⟩)∧f 28=I64 0∧f 196=.tuple #[v8,I64 0]∧True) ⟨(by first|rfl|exact f0|simp[upd_apply,f0]),(by first|rfl|exact f18|simp[upd_apply,f18]),(by first|rfl|exact f19|simp[upd_apply,f19]),(by first|rfl|exact f23|simp[upd_apply,f23]),(by first|rfl|exact f24|simp[upd_apply,f24]),(by first|rfl|exact f25|simp[upd_apply,f25]),(by first|rfl|exact f26|simp[upd_apply,f26]),(by first|rfl|simp[upd_apply]),(by first|rfl|simp[upd_apply]),(by first|rfl|simp[upd_apply]),trivial⟩ ?_
  rintro f ⟨f0,f18,f19,f23,f24,f25,f26,f27,f28,f196,-⟩
  have g18:=pre_get (p26.trans (p27.trans p28)) g18
  ((try simp (maxSteps:=3000000) (dsimp:=false) (disch:=first|omega|simp only[lnx];omega) only[↓ypre,ypost,↓reduceIte,reduceEqDiff,reduceAdd,reduceSub,reduceLeDiff,zz0,ynew,f0,f18,f19,f23,f24,f25,f26,f27,f28,f196,rdn_of g18]);try simp only[yback])
  refine i_DepthsOf (x:=R.1) (o1.pre (((p18.trans p19).trans (p20.trans (p21.trans p22))).trans ((p23.trans (p24.trans p25)).trans (p26.trans (p27.trans p28))))) hsR fun v9 H29 p29 o9=>?_
  rw[dR] at o9 ⊢
  rw[d0]
  have o9:=o9.ints
  refine WO_cut (fun f:Fr=>f 0=cv∧f 18=.pointer (some ⟨H15.length,0,none⟩)∧f 19=.pointer (some ⟨H17.length,0,none⟩)∧f 23=v5∧f 24=I64 0∧f 25=v6∧f 26=I64 0∧f 27=.pointer (some ⟨H26.length,0,none⟩)∧f 28=I64 0∧f 29=v8∧f 30=I64 0∧f 201=.tuple #[v9,I64 0]∧True) ⟨(by first|rfl|exact f0|simp[upd_apply,f0]),(by first|rfl|exact f18|simp[upd_apply,f18]),(by first|rfl|exact f19|simp[upd_apply,f19]),(by first|rfl|exact f23|simp[upd_apply,f23]),(by first|rfl|exact f24|simp[upd_apply,f24]),(by first|rfl|exact f25|simp[upd_apply,f25]),(by first|rfl|exact f26|simp[upd_apply,f26]),(by first|rfl|exact f27|simp[upd_apply,f27]),(by first|rfl|exact f28|simp[upd_apply,f28]),(by first|rfl|simp[upd_apply]),(by first|rfl|simp[upd_apply]),(by first|rfl|simp[upd_apply]),trivial⟩ ?_
  rintro f ⟨f0,f18,f19,f23,f24,f25,f26,f27,f28,f29,f30,f201,-⟩
  ((try simp (maxSteps:=3000000) (dsimp:=false) (disch:=first|omega|simp only[lnx];omega) only[↓ypre,ypost,↓reduceIte,reduceEqDiff,reduceAdd,reduceSub,reduceLeDiff,zz0,ynew,f0,f18,f19,f23,f24,f25,f26,f27,f28,f29,f30,f201,decide_eq_false (show ¬ (0:Int)≠(0:Int) from fun h=>h rfl)]);try simp only[yback])
  refine l_rows5 (o5.pre ((p25.trans p26).trans (p27.trans (p28.trans p29)))) (o6.pre ((p26.trans p27).trans (p28.trans p29))) hsF ?_
  refine WO_cut (fun f:Fr=>f 0=cv∧f 18=.pointer (some ⟨H15.length,0,none⟩)∧f 19=.pointer (some ⟨H17.length,0,none⟩)∧f 27=.pointer (some ⟨H26.length,0,none⟩)∧f 29=v8∧f 31=v9∧f 222=.bool false∧f 225=.bool true∧True) ⟨(by first|rfl|exact f0|simp[upd_apply,f0]),(by first|rfl|exact f18|simp[upd_apply,f18]),(by first|rfl|exact f19|simp[upd_apply,f19]),(by first|rfl|exact f27|simp[upd_apply,f27]),(by first|rfl|exact f29|simp[upd_apply,f29]),(by first|rfl|simp[upd_apply]),(by first|rfl|simp[upd_apply]),(by first|rfl|simp[upd_apply]),trivial⟩ ?_
  rintro f ⟨f0,f18,f19,f27,f29,f31,f222,f225,-⟩
  have g27:=pre_get (p28.trans p29) g27
  have g18:=pre_get p29 g18
  ((try simp (maxSteps:=3000000) (dsimp:=false) (disch:=first|omega|simp only[lnx];omega) only[↓ypre,ypost,↓reduceIte,reduceEqDiff,reduceAdd,reduceSub,reduceLeDiff,zz0,ynew,f0,f18,f19,f27,f29,f31,f222,f225,rdn_of g27,rdn_of g18]);try simp only[yback])
  refine l_programs5 (x:=R.1) (o7.pre (p27.trans (p28.trans p29))) (o1.pre (((p18.trans (p19.trans p20)).trans (p21.trans (p22.trans p23))).trans ((p24.trans (p25.trans p26)).trans (p27.trans (p28.trans p29))))) hsR fun H30 p30=>?_
  refine WO_cut (fun f:Fr=>f 0=cv∧f 18=.pointer (some ⟨H15.length,0,none⟩)∧f 19=.pointer (some ⟨H17.length,0,none⟩)∧f 29=v8∧f 31=v9∧f 228=.bool false∧f 231=.bool true∧True) ⟨(by first|rfl|exact f0|simp[upd_apply,f0]),(by first|rfl|exact f18|simp[upd_apply,f18]),(by first|rfl|exact f19|simp[upd_apply,f19]),(by first|rfl|exact f29|simp[upd_apply,f29]),(by first|rfl|exact f31|simp[upd_apply,f31]),(by first|rfl|simp[upd_apply]),(by first|rfl|simp[upd_apply]),trivial⟩ ?_
  rintro f ⟨f0,f18,f19,f29,f31,f228,f231,-⟩
  ((try simp (maxSteps:=3000000) (dsimp:=false) (disch:=first|omega|simp only[lnx];omega) only[↓ypre,ypost,↓reduceIte,reduceEqDiff,reduceAdd,reduceSub,reduceLeDiff,zz0,ynew,f0,f18,f19,f29,f31,f228,f231]);try simp only[yback])
  refine l_like (o8.pre (p29.trans p30)) (o9.pre p30) hsD ?_
  refine WO_cut (fun f:Fr=>f 0=cv∧f 18=.pointer (some ⟨H15.length,0,none⟩)∧f 19=.pointer (some ⟨H17.length,0,none⟩)∧f 234=.bool false∧f 237=.bool true∧True) ⟨(by first|rfl|exact f0|simp[upd_apply,f0]),(by first|rfl|exact f18|simp[upd_apply,f18]),(by first|rfl|exact f19|simp[upd_apply,f19]),(by first|rfl|simp[upd_apply]),(by first|rfl|simp[upd_apply]),trivial⟩ ?_
  rintro f ⟨f0,f18,f19,f234,f237,-⟩
  have g18:=pre_get p30 g18
  have g16:=pre_get (p28.trans (p29.trans p30)) g16
  ((try simp (maxSteps:=3000000) (dsimp:=false) (disch:=first|omega|simp only[lnx];omega) only[↓ypre,ypost,↓reduceIte,reduceEqDiff,reduceAdd,reduceSub,reduceLeDiff,zz0,ynew,f0,f18,f19,f234,f237,rd1_of g18,o1.1.len,rd1_of g16,hv.1.len,decide_eq_false (show ¬ (R.1.st.length:Int)>(x.st.length:Int) by omega)]);try simp only[yback])
  rw[JnQ_n]
  exact⟨f0,((((pX14.trans p15).trans (p16.trans p17)).trans ((p18.trans p19).trans (p20.trans p21))).trans (((p22.trans p23).trans (p24.trans p25)).trans ((p26.trans p27).trans (p28.trans (p29.trans p30)))))⟩
 rintro f HX31 ⟨f0,pX31⟩
 ((try simp (maxSteps:=3000000) (dsimp:=false) (disch:=first|omega|simp only[lnx];omega) only[↓ypre,ypost,↓reduceIte,reduceEqDiff,reduceAdd,reduceSub,reduceLeDiff,zz0,ynew,f0]);try simp only[yback])
 refine s_DrawFormsOf (c.pre pX31) fun x v w H32 p32 hv xb=>?_
 refine WO_cut (fun f:Fr=>f 0=cv∧f 250=prgV x v w∧True) ⟨(by first|rfl|exact f0|simp[upd_apply,f0]),(by first|rfl|simp[upd_apply]),trivial⟩ ?_
 rintro f ⟨f0,f250,-⟩
 ((try simp (maxSteps:=3000000) (dsimp:=false) (disch:=first|omega|simp only[lnx];omega) only[↓ypre,ypost,↓reduceIte,reduceEqDiff,reduceAdd,reduceSub,reduceLeDiff,zz0,ynew,f0,f250,prgV,hv.1.one,hv.2.one]);try simp only[yback])
 generalize hH33:AH.new H32 _=H33
 obtain⟨g33,p33,n33⟩:=new_facts hH33
 ((try simp (maxSteps:=3000000) (dsimp:=false) (disch:=first|omega|simp only[lnx];omega) only[↓ypre,ypost,↓reduceIte,reduceEqDiff,reduceAdd,reduceSub,reduceLeDiff,zz0,ynew,f0,f250,rdn_of g33]);try simp only[yback])
 refine i_FormsOf (x:=x) (hv.pre p33) xb.small fun v1 H34 p34 o1=>?_
 have hsF:SmallM (fmR x).1:=fmR_small x
 generalize hF:fmR x=F at o1 hsF
 have o1:=o1.rows
 refine WO_cut (fun f:Fr=>f 0=cv∧f 33=.pointer (some ⟨H32.length,0,none⟩)∧f 253=.tuple #[v1,I64 F.2]∧True) ⟨(by first|rfl|exact f0|simp[upd_apply,f0]),(by first|rfl|simp[upd_apply]),(by first|rfl|simp[upd_apply]),trivial⟩ ?_
 rintro f ⟨f0,f33,f253,-⟩
 have g33:=pre_get p34 g33
 ((try simp (maxSteps:=3000000) (dsimp:=false) (disch:=first|omega|simp only[lnx];omega) only[↓ypre,ypost,↓reduceIte,reduceEqDiff,reduceAdd,reduceSub,reduceLeDiff,zz0,ynew,f0,f33,f253,rdn_of g33]);try simp only[yback])
 refine s_FormsOf (x:=x) (hv.pre (p33.trans p34)) xb.small fun v2 H35 p35 o2=>?_
 rw[hF] at o2 ⊢
 have o2:=o2.rows
 refine WO_cut (fun f:Fr=>f 0=cv∧f 34=v1∧f 35=I64 F.2∧f 258=.tuple #[v2,I64 F.2]∧True) ⟨(by first|rfl|exact f0|simp[upd_apply,f0]),(by first|rfl|simp[upd_apply]),(by first|rfl|simp[upd_apply]),(by first|rfl|simp[upd_apply]),trivial⟩ ?_
 rintro f ⟨f0,f34,f35,f258,-⟩
 ((try simp (maxSteps:=3000000) (dsimp:=false) (disch:=first|omega|simp only[lnx];omega) only[↓ypre,ypost,↓reduceIte,reduceEqDiff,reduceAdd,reduceSub,reduceLeDiff,zz0,ynew,f0,f34,f35,f258]);try simp only[yback])
 refine s_DrawDepthsOf (c.pre ((pX31.trans p32).trans (p33.trans (p34.trans p35)))) fun y v3 w3 H36 p36 hy yb=>?_
 refine WO_cut (fun f:Fr=>f 0=cv∧f 34=v1∧f 35=I64 F.2∧f 36=v2∧f 37=I64 F.2∧f 262=prgV y v3 w3∧True) ⟨(by first|rfl|exact f0|simp[upd_apply,f0]),(by first|rfl|exact f34|simp[upd_apply,f34]),(by first|rfl|exact f35|simp[upd_apply,f35]),(by first|rfl|simp[upd_apply]),(by first|rfl|simp[upd_apply]),(by first|rfl|simp[upd_apply]),trivial⟩ ?_
 rintro f ⟨f0,f34,f35,f36,f37,f262,-⟩
 ((try simp (maxSteps:=3000000) (dsimp:=false) (disch:=first|omega|simp only[lnx];omega) only[↓ypre,ypost,↓reduceIte,reduceEqDiff,reduceAdd,reduceSub,reduceLeDiff,zz0,ynew,f0,f34,f35,f36,f37,f262,prgV,hy.1.one,hy.2.one]);try simp only[yback])
 generalize hH37:AH.new H36 _=H37
 obtain⟨g37,p37,n37⟩:=new_facts hH37
 ((try simp (maxSteps:=3000000) (dsimp:=false) (disch:=first|omega|simp only[lnx];omega) only[↓ypre,ypost,↓reduceIte,reduceEqDiff,reduceAdd,reduceSub,reduceLeDiff,zz0,ynew,f0,f34,f35,f36,f37,f262,rdn_of g37]);try simp only[yback])
 refine i_DepthsOf (x:=y) (hy.pre p37) yb.small fun v4 H38 p38 o4=>?_
 have hsD:(((dpR y).1.length:Nat):Int)≤1048576:=dpR_small y
 generalize hD:dpR y=D at o4 hsD
 have o4:=o4.ints
 refine WO_cut (fun f:Fr=>f 0=cv∧f 34=v1∧f 35=I64 F.2∧f 36=v2∧f 37=I64 F.2∧f 38=.pointer (some ⟨H36.length,0,none⟩)∧f 265=.tuple #[v4,I64 D.2]∧True) ⟨(by first|rfl|exact f0|simp[upd_apply,f0]),(by first|rfl|exact f34|simp[upd_apply,f34]),(by first|rfl|exact f35|simp[upd_apply,f35]),(by first|rfl|exact f36|simp[upd_apply,f36]),(by first|rfl|exact f37|simp[upd_apply,f37]),(by first|rfl|simp[upd_apply]),(by first|rfl|simp[upd_apply]),trivial⟩ ?_
 rintro f ⟨f0,f34,f35,f36,f37,f38,f265,-⟩
 have g37:=pre_get p38 g37
 ((try simp (maxSteps:=3000000) (dsimp:=false) (disch:=first|omega|simp only[lnx];omega) only[↓ypre,ypost,↓reduceIte,reduceEqDiff,reduceAdd,reduceSub,reduceLeDiff,zz0,ynew,f0,f34,f35,f36,f37,f38,f265,rdn_of g37]);try simp only[yback])
 refine s_DepthsOf (x:=y) (hy.pre (p37.trans p38)) yb.small fun v5 H39 p39 o5=>?_
 rw[hD] at o5 ⊢
 have o5:=o5.ints
 refine WO_cut (fun f:Fr=>f 0=cv∧f 34=v1∧f 35=I64 F.2∧f 36=v2∧f 37=I64 F.2∧f 39=v4∧f 40=I64 D.2∧f 270=.tuple #[v5,I64 D.2]∧True) ⟨(by first|rfl|exact f0|simp[upd_apply,f0]),(by first|rfl|exact f34|simp[upd_apply,f34]),(by first|rfl|exact f35|simp[upd_apply,f35]),(by first|rfl|exact f36|simp[upd_apply,f36]),(by first|rfl|exact f37|simp[upd_apply,f37]),(by first|rfl|simp[upd_apply]),(by first|rfl|simp[upd_apply]),(by first|rfl|simp[upd_apply]),trivial⟩ ?_
 rintro f ⟨f0,f34,f35,f36,f37,f39,f40,f270,-⟩
 ((try simp (maxSteps:=3000000) (dsimp:=false) (disch:=first|omega|simp only[lnx];omega) only[↓ypre,ypost,↓reduceIte,reduceEqDiff,reduceAdd,reduceSub,reduceLeDiff,zz0,ynew,f0,f34,f35,f36,f37,f39,f40,f270]);try simp only[yback])
 refine s_DrawPlainProgram (c.pre (((pX31.trans p32).trans (p33.trans p34)).trans ((p35.trans p36).trans (p37.trans (p38.trans p39))))) fun p n rows v6 H40 p40 hu sm=>?_
 refine WO_cut (fun f:Fr=>f 34=v1∧f 35=I64 F.2∧f 36=v2∧f 37=I64 F.2∧f 39=v4∧f 40=I64 D.2∧f 41=v5∧f 42=I64 D.2∧f 275=.tuple #[I64 p,I64 n,v6]∧True) ⟨(by first|rfl|exact f34|simp[upd_apply,f34]),(by first|rfl|exact f35|simp[upd_apply,f35]),(by first|rfl|exact f36|simp[upd_apply,f36]),(by first|rfl|exact f37|simp[upd_apply,f37]),(by first|rfl|exact f39|simp[upd_apply,f39]),(by first|rfl|exact f40|simp[upd_apply,f40]),(by first|rfl|simp[upd_apply]),(by first|rfl|simp[upd_apply]),(by first|rfl|simp[upd_apply]),trivial⟩ ?_
 rintro f ⟨f34,f35,f36,f37,f39,f40,f41,f42,f275,-⟩
 ((try simp (maxSteps:=3000000) (dsimp:=false) (disch:=first|omega|simp only[lnx];omega) only[↓ypre,ypost,↓reduceIte,reduceEqDiff,reduceAdd,reduceSub,reduceLeDiff,zz0,ynew,f34,f35,f36,f37,f39,f40,f41,f42,f275]);try simp only[yback])
 refine i_PlainProgram (p:=p) (n:=n) hu sm fun v7 w7 H41 p41 o7=>?_
 have hsW:SmallP (plR p n rows).1:=plR_small p n rows
 generalize hW:plR p n rows=W at o7 hsW
 have o7:=o7.rd
 refine WO_cut (fun f:Fr=>f 34=v1∧f 35=I64 F.2∧f 36=v2∧f 37=I64 F.2∧f 39=v4∧f 40=I64 D.2∧f 41=v5∧f 42=I64 D.2∧f 43=I64 p∧f 44=I64 n∧f 45=v6∧f 283=.tuple #[prgV W.1 v7 w7,I64 W.2]∧True) ⟨(by first|rfl|exact f34|simp[upd_apply,f34]),(by first|rfl|exact f35|simp[upd_apply,f35]),(by first|rfl|exact f36|simp[upd_apply,f36]),(by first|rfl|exact f37|simp[upd_apply,f37]),(by first|rfl|exact f39|simp[upd_apply,f39]),(by first|rfl|exact f40|simp[upd_apply,f40]),(by first|rfl|exact f41|simp[upd_apply,f41]),(by first|rfl|exact f42|simp[upd_apply,f42]),(by first|rfl|simp[upd_apply]),(by first|rfl|simp[upd_apply]),(by first|rfl|simp[upd_apply]),(by first|rfl|simp[upd_apply]),trivial⟩ ?_
 rintro f ⟨f34,f35,f36,f37,f39,f40,f41,f42,f43,f44,f45,f283,-⟩
 ((try simp (maxSteps:=3000000) (dsimp:=false) (disch:=first|omega|simp only[lnx];omega) only[↓ypre,ypost,↓reduceIte,reduceEqDiff,reduceAdd,reduceSub,reduceLeDiff,zz0,ynew,f34,f35,f36,f37,f39,f40,f41,f42,f43,f44,f45,f283,prgV,o7.1.one,o7.2.one]);try simp only[yback])
 generalize hH42:AH.new H41 _=H42
 obtain⟨g42,p42,n42⟩:=new_facts hH42
 ((try simp (maxSteps:=3000000) (dsimp:=false) (disch:=first|omega|simp only[lnx];omega) only[↓ypre,ypost,↓reduceIte,reduceEqDiff,reduceAdd,reduceSub,reduceLeDiff,zz0,ynew,f34,f35,f36,f37,f39,f40,f41,f42,f43,f44,f45,f283]);try simp only[yback])
 refine s_PlainProgram (p:=p) (n:=n) (hu.pre (p41.trans p42)) sm fun v8 w8 H43 p43 o8=>?_
 rw[hW] at o8
 simp only[hW]
 have o8:=o8.rd
 refine WO_cut (fun f:Fr=>f 34=v1∧f 35=I64 F.2∧f 36=v2∧f 37=I64 F.2∧f 39=v4∧f 40=I64 D.2∧f 41=v5∧f 42=I64 D.2∧f 46=.pointer (some ⟨H41.length,0,none⟩)∧f 47=I64 W.2∧f 290=.tuple #[prgV W.1 v8 w8,I64 W.2]∧True) ⟨(by first|rfl|exact f34|simp[upd_apply,f34]),(by first|rfl|exact f35|simp[upd_apply,f35]),(by first|rfl|exact f36|simp[upd_apply,f36]),(by first|rfl|exact f37|simp[upd_apply,f37]),(by first|rfl|exact f39|simp[upd_apply,f39]),(by first|rfl|exact f40|simp[upd_apply,f40]),(by first|rfl|exact f41|simp[upd_apply,f41]),(by first|rfl|exact f42|simp[upd_apply,f42]),(by first|rfl|simp[upd_apply]),(by first|rfl|simp[upd_apply]),(by first|rfl|simp[upd_apply]),trivial⟩ ?_
 rintro f ⟨f34,f35,f36,f37,f39,f40,f41,f42,f46,f47,f290,-⟩
 ((try simp (maxSteps:=3000000) (dsimp:=false) (disch:=first|omega|simp only[lnx];omega) only[↓ypre,ypost,↓reduceIte,reduceEqDiff,reduceAdd,reduceSub,reduceLeDiff,zz0,ynew,f34,f35,f36,f37,f39,f40,f41,f42,f46,f47,f290,prgV,o8.1.one,o8.2.one]);try simp only[yback])
 generalize hH44:AH.new H43 _=H44
 obtain⟨g44,p44,n44⟩:=new_facts hH44
 ((try simp (maxSteps:=3000000) (dsimp:=false) (disch:=first|omega|simp only[lnx];omega) only[↓ypre,ypost,↓reduceIte,reduceEqDiff,reduceAdd,reduceSub,reduceLeDiff,zz0,ynew,f34,f35,f36,f37,f39,f40,f41,f42,f46,f47,f290,decide_eq_true (show (F.2)=(F.2) from rfl)]);try simp only[yback])
 refine l_rows5 (o1.pre (((p35.trans p36).trans (p37.trans (p38.trans p39))).trans ((p40.trans p41).trans (p42.trans (p43.trans p44))))) (o2.pre (((p36.trans p37).trans (p38.trans p39)).trans ((p40.trans p41).trans (p42.trans (p43.trans p44))))) hsF ?_
 refine WO_cut (fun f:Fr=>f 39=v4∧f 40=I64 D.2∧f 41=v5∧f 42=I64 D.2∧f 46=.pointer (some ⟨H41.length,0,none⟩)∧f 47=I64 W.2∧f 48=.pointer (some ⟨H43.length,0,none⟩)∧f 49=I64 W.2∧f 296=.bool true∧f 299=.bool true∧True) ⟨(by first|rfl|exact f39|simp[upd_apply,f39]),(by first|rfl|exact f40|simp[upd_apply,f40]),(by first|rfl|exact f41|simp[upd_apply,f41]),(by first|rfl|exact f42|simp[upd_apply,f42]),(by first|rfl|exact f46|simp[upd_apply,f46]),(by first|rfl|exact f47|simp[upd_apply,f47]),(by first|rfl|simp[upd_apply]),(by first|rfl|simp[upd_apply]),(by first|rfl|simp[upd_apply]),(by first|rfl|simp[upd_apply]),trivial⟩ ?_
 rintro f ⟨f39,f40,f41,f42,f46,f47,f48,f49,f296,f299,-⟩
 ((try simp (maxSteps:=3000000) (dsimp:=false) (disch:=first|omega|simp only[lnx];omega) only[↓ypre,ypost,↓reduceIte,reduceEqDiff,reduceAdd,reduceSub,reduceLeDiff,zz0,ynew,f39,f40,f41,f42,f46,f47,f48,f49,f296,f299,decide_eq_true (show (D.2)=(D.2) from rfl)]);try simp only[yback])
 refine l_like (o4.pre ((p39.trans (p40.trans p41)).trans (p42.trans (p43.trans p44)))) (o5.pre ((p40.trans p41).trans (p42.trans (p43.trans p44)))) hsD ?_
 refine WO_cut (fun f:Fr=>f 46=.pointer (some ⟨H41.length,0,none⟩)∧f 47=I64 W.2∧f 48=.pointer (some ⟨H43.length,0,none⟩)∧f 49=I64 W.2∧f 306=.bool true∧f 309=.bool true∧True) ⟨(by first|rfl|exact f46|simp[upd_apply,f46]),(by first|rfl|exact f47|simp[upd_apply,f47]),(by first|rfl|exact f48|simp[upd_apply,f48]),(by first|rfl|exact f49|simp[upd_apply,f49]),(by first|rfl|simp[upd_apply]),(by first|rfl|simp[upd_apply]),trivial⟩ ?_
 rintro f ⟨f46,f47,f48,f49,f306,f309,-⟩
 have g42:=pre_get (p43.trans p44) g42
 ((try simp (maxSteps:=3000000) (dsimp:=false) (disch:=first|omega|simp only[lnx];omega) only[↓ypre,ypost,↓reduceIte,reduceEqDiff,reduceAdd,reduceSub,reduceLeDiff,zz0,ynew,f46,f47,f48,f49,f306,f309,decide_eq_true (show (W.2)=(W.2) from rfl),rdn_of g42,rdn_of g44]);try simp only[yback])
 refine l_programs5 (x:=W.1) (o7.pre (p42.trans (p43.trans p44))) (o8.pre p44) hsW fun H45 p45=>?_
 refine WO_cut (fun f:Fr=>f 316=.bool true∧f 319=.bool true∧True) ⟨(by first|rfl|simp[upd_apply]),(by first|rfl|simp[upd_apply]),trivial⟩ ?_
 rintro f ⟨f316,f319,-⟩
 ((try simp (maxSteps:=3000000) (dsimp:=false) (disch:=first|omega|simp only[lnx];omega) only[↓ypre,ypost,↓reduceIte,reduceEqDiff,reduceAdd,reduceSub,reduceLeDiff,zz0,ynew,f316,f319]);try simp only[yback])
end Go.Proofs.Ytapafdpnmakekaa.X

set_option linter.unusedVariables false
set_option linter.unusedSimpArgs false
namespace Go.Proofs.Ytapafdpnmakekaa.X
open Go Go.RowKit Go.ChangeShapes Go.WideShapes Go.Deep
structure Adm (P:Program) (W:World) (γ:List G) (h:AH):Prop where
 rel:Rel P W.heap.size γ h W
 ro:∀ n b,h.get n=some b→b.ro=true
theorem Adm.nil (P:Program) (W:World):Adm P W [] [] where
 rel:={
  len:=rfl
  cell:=fun n b g h=>by simp[AH.get] at h
  rw:=fun n b g h=>by simp[AH.get] at h
  ro:=fun n b g h=>by simp[AH.get] at h
  inj:=fun n m bn bm g g' h=>by simp[AH.get] at h
  base:=Nat.le_refl _ }
 ro:=fun n b h=>by simp[AH.get] at h
theorem Adm.new {P:Program} {W:World} {γ:List G} {h:AH} (A:Adm P W γ h) {g:G} {cs:List Value} {e:TypeId} (hb:g.b<W.heap.size)
  (hc:∀ j v,cs[j]?=some v→isOne v=true∧∃ v',W.cell? ⟨g.b,g.o+j,none⟩=some v'∧VR γ v v'):Adm P W (γ++[g]) (h.new ⟨cs,e,true,false⟩):=by
 have hl:=A.rel.len
 have hp:γ<+:γ++[g]:=List.prefix_append _ _
 have old:∀ {n:Nat} {g':G},n<h.length→(γ++[g])[n]?=some g'→γ[n]?=some g':=fun hn hg=>by
  rw[List.getElem?_append_left (by omega)] at hg
  exact hg
 have new:∀ {g':G},(γ++[g])[h.length]?=some g'→g'=g:=fun hg=>by
  rw[←hl] at hg
  simpa using hg.symm
 refine⟨⟨by simp[len_new,hl],?_,?_,?_,?_,Nat.le_refl _⟩,?_⟩
 ·intro n b g' hb' hg' j v hv
  rcases get_new_cases hb' with hb'|⟨rfl,rfl⟩
  ·obtain⟨q1,v',q2,q3⟩:=A.rel.cell n b g' hb' (old (get_lt hb') hg') j v hv
   exact⟨q1,v',q2,q3.mono hp⟩
  ·obtain rfl:=new hg'
   obtain⟨q1,v',q2,q3⟩:=hc j v hv
   exact⟨q1,v',q2,q3.mono hp⟩
 ·intro n b g' hb' hg' hro
  rcases get_new_cases hb' with hb'|⟨rfl,rfl⟩
  ·rw[A.ro n b hb'] at hro
   cases hro
  ·cases hro
 ·intro n b g' hb' hg' hro
  rcases get_new_cases hb' with hb'|⟨rfl,rfl⟩
  ·exact A.rel.ro n b g' hb' (old (get_lt hb') hg') hro
  ·obtain rfl:=new hg'
   exact hb
 ·intro n m bn bm g1 g2 h1 h2 h3 h4 hro
  rcases get_new_cases h1 with hb'|⟨rfl,rfl⟩
  ·rw[A.ro n bn hb'] at hro
   cases hro
  ·cases hro
 ·intro n b hb'
  rcases get_new_cases hb' with hb'|⟨rfl,rfl⟩
  ·exact A.ro n b hb'
  ·rfl
section
variable {H:Type} {enc:TypeId×Value→H} {P:Program} {W:World}
theorem add_off (a:Addr) (ha:a.spot=none) (i:Nat):a.add i=⟨a.block,a.off+i,none⟩:=by
 unfold Addr.add
 split
 ·rename_i h0
  subst h0
  obtain⟨b,o,s⟩:=a
  simp at ha
  subst ha
  rfl
 ·rfl
theorem adm_ints {γ:List G} {h:AH} (A:Adm P W γ h) {t e:TypeId} {n:Nat} {cs:List Value} {x:DataW H×List MemPlace} (ht:P.underlying t=some (.slice e)) (he:P.underlying e=some (.int .i64))
  (hc:P.cellsOf e=1) (hx:DataW.trod enc P W 0 (fun _=>true) true n t cs=some x) :
  ∃ v' v ns γ' h',cs=[v']∧γ<+:γ'∧h<+:h'∧Adm P W γ' h'∧VR γ' v v'∧Ints h' v ns∧ns.length≤maxLen:=by
 rcases open_slice1 ht hc hx with⟨rfl,_⟩|⟨a,len,cap,m,n',V,D,Pl,rfl,hb,hl,hm,hmm,_,hcell⟩
 ·exact⟨_,.slice none 0 0,[],γ,h,rfl,List.prefix_refl _,List.prefix_refl _,A,.nils,.inl ⟨rfl,0,by omega,rfl⟩,Nat.zero_le _⟩
 ·by_cases h0:len=0
  ·subst h0
   exact⟨_,.slice none 0 1,[],γ,h,rfl,List.prefix_refl _,List.prefix_refl _,A,.emp _ _,.inl ⟨rfl,1,by omega,rfl⟩,Nat.zero_le _⟩
  ·have hcell:∀ i,i<cap→W.cell? (a.add i)=some (V i)∧DataW.trod enc P W 0 (fun _=>true) true n' e [V i]=some (D i,Pl i):=fun i hi=>hcell i (by rw[show m=cap from hmm];exact hi)
   have hz:=(hcell 0 (by omega)).1
   have hsp:a.spot=none:=by
    simp only[Addr.add,if_true] at hz
    unfold World.cell? at hz
    split at hz
    ·split at hz
     ·cases hz
     ·rename_i hs
      simpa using hs
    ·cases hz
   have hbl:a.block<W.heap.size:=by
    have:=World.block_lt_of_cell? W _ hz
    simpa [Addr.add] using this
   have hV:∀ i,i<len→∃ k,V i=.int .i64 k:=fun i hi=>by
    obtain⟨k,hk,_⟩:=DataW.trod_int he (hcell i (by omega)).2
    exact⟨k,by simpa using hk⟩
   let ns:List Int:=(List.range len).map fun i=>match V i with
    | .int _ k=>k
    | _=>0
   have hns:ns.length=len:=by simp[ns]
   have hget:∀ i,i<len→ns.getD i 0=(match V i with
    | .int _ k=>k
    | _=>0):=fun i hi=>by simp[ns,List.getD_eq_getElem?_getD,List.getElem?_map,List.getElem?_range hi]
   refine⟨_,.slice (some ⟨h.length,0,none⟩) ns.length 1,ns,γ++[⟨a.block,a.off,cap⟩],h.new ⟨ns.map (Value.int .i64),e,true,false⟩,rfl,List.prefix_append _ _,pre_new (List.prefix_refl _),?_,?_,
    Ints.own get_new_same rfl,by rw[hns];omega⟩
   ·refine A.new hbl fun j v hv=>?_
    rw[List.getElem?_map] at hv
    obtain⟨k,hk,rfl⟩:=Option.map_eq_some_iff.1 hv
    have hj:j<len:=by rw[←hns];exact (List.getElem?_eq_some_iff.1 hk).1
    obtain⟨k',hk'⟩:=hV j hj
    have hg:=hget j hj
    rw[List.getD_eq_getElem?_getD,hk,hk'] at hg
    simp only[Option.getD_some] at hg
    subst hg
    refine⟨rfl,_,?_,.int _ _⟩
    have:=(hcell j (by omega)).1
    rw[add_off a hsp,hk'] at this
    exact this
   ·have:=VR.slc (γ:=γ++[⟨a.block,a.off,cap⟩]) h.length 0 ns.length 1 ⟨a.block,a.off,cap⟩ (by rw[←A.rel.len];simp) (by omega) (by simp only;omega)
    have e1:(some a:Option Addr)=some ⟨a.block,a.off+0,none⟩:=by
     obtain⟨b,o,s⟩:=a
     simp at hsp
     subst hsp
     rfl
    rw[e1]
    have e2:(cap-0) / 1=cap:=by simp
    rw[←hns,show (Value.slice (some ⟨a.block,a.off+0,none⟩) ns.length cap)=Value.slice (some ⟨a.block,a.off+0,none⟩) ns.length ((cap-0) / 1) by rw[e2]]
    exact this
theorem trod_field {t:TypeId} {fs:Array Field} {n:Nat} {cs:List Value} {x:DataW H×List MemPlace} (hs:P.underlying t=some (.struct fs)) (hx:DataW.trod enc P W 0 (fun _=>true) true n t cs=some x)
  {i:Nat} {f:Field} (hf:fs[i]?=some f):∃ m y,DataW.trod enc P W 0 (fun _=>true) true m f.type ((cs.drop f.offset).take (P.cellsOf f.type))=some y:=by
 obtain⟨xs,m,_,_,_,hl,hall⟩:=DataW.trod_struct hs hx
 have hi:i<xs.length:=by
  rw[hl]
  exact (Array.getElem?_eq_some_iff.1 hf).1
 exact⟨m,xs[i],by rw[hall i f hf,List.getElem?_eq_getElem hi]⟩
theorem trod_cells {t:TypeId} {fs:Array Field} {n:Nat} {cs:List Value} {x:DataW H×List MemPlace} (hs:P.underlying t=some (.struct fs)) (hx:DataW.trod enc P W 0 (fun _=>true) true n t cs=some x):cs.length=P.cellsOf t:=by
 obtain⟨xs,m,_,_,hl,_,_⟩:=DataW.trod_struct hs hx
 exact hl
theorem trod_field_int {t:TypeId} {fs:Array Field} {n:Nat} {cs:List Value} {x:DataW H×List MemPlace} (hs:P.underlying t=some (.struct fs)) (hx:DataW.trod enc P W 0 (fun _=>true) true n t cs=some x)
  {i:Nat} {f:Field} (hf:fs[i]?=some f) (ht:P.underlying f.type=some (.int .i64)):∃ k,(cs.drop f.offset).take (P.cellsOf f.type)=[I64 k]∧(Lit.int .i64 k).wf=true:=by
 obtain⟨m,y,hy⟩:=trod_field hs hx hf
 obtain⟨k,h1,_,h2⟩:=DataW.trod_int ht hy
 exact⟨k,h1,h2⟩
theorem agg_of_cells {v:Value} {l:List Value} (h:v.cells.toList=l) (h2:2≤l.length):v=.agg l.toArray:=by
 cases v with
 | agg cs=>
  simp only[Value.cells] at h
  rw[←h]
 | _=>
  simp only[Value.cells] at h
  rw[←h] at h2
  simp at h2
theorem adm_ints4 {γ:List G} {h:AH} (A:Adm P W γ h) {t e:TypeId} {f0 f1 f2 f3 f4:Field} {v:Value} {d:DataW H} {ps:List MemPlace} (hs:P.underlying t=some (.struct #[f0,f1,f2,f3,f4]))
  (hct:P.cellsOf t=5) (ho:f0.offset=0∧f1.offset=1∧f2.offset=2∧f3.offset=3∧f4.offset=4)
  (hi:P.underlying f0.type=some (.int .i64)∧P.underlying f1.type=some (.int .i64)∧P.underlying f2.type=some (.int .i64)∧P.underlying f3.type=some (.int .i64))
  (hc:P.cellsOf f0.type=1∧P.cellsOf f1.type=1∧P.cellsOf f2.type=1∧P.cellsOf f3.type=1∧P.cellsOf f4.type=1)
  (ht:P.underlying f4.type=some (.slice e)) (he:P.underlying e=some (.int .i64)) (hce:P.cellsOf e=1) (hx:DataW.Trod enc P W 0 (fun _=>true) true t v d ps) :
  ∃ a b c d ns v' γ' h',γ<+:γ'∧h<+:h'∧Adm P W γ' h'∧VR γ' (.agg #[I64 a,I64 b,I64 c,I64 d,v']) v∧Ints h' v' ns∧ns.length≤maxLen:=by
 obtain⟨n,hx⟩:=hx
 have hl:=trod_cells hs hx
 rw[hct] at hl
 obtain⟨a,ha,_⟩:=trod_field_int hs hx (i:=0) (f:=f0) rfl hi.1
 obtain⟨b,hb,_⟩:=trod_field_int hs hx (i:=1) (f:=f1) rfl hi.2.1
 obtain⟨c,hcc,_⟩:=trod_field_int hs hx (i:=2) (f:=f2) rfl hi.2.2.1
 obtain⟨d,hd,_⟩:=trod_field_int hs hx (i:=3) (f:=f3) rfl hi.2.2.2
 obtain⟨m,y,hy⟩:=trod_field hs hx (i:=4) (f:=f4) rfl
 obtain⟨v',u,ns,γ',h',e1,q1,q2,q3,q4,q5,q6⟩:=adm_ints A ht he hce hy
 generalize hcs:v.cells.toList=cs at *
 rw[ho.1,hc.1] at ha
 rw[ho.2.1,hc.2.1] at hb
 rw[ho.2.2.1,hc.2.2.1] at hcc
 rw[ho.2.2.2.1,hc.2.2.2.1] at hd
 rw[ho.2.2.2.2,hc.2.2.2.2] at e1
 obtain⟨c0,c1,c2,c3,c4,rfl⟩:∃ c0 c1 c2 c3 c4,cs=[c0,c1,c2,c3,c4]:=by
  match cs,hl with
  | [c0,c1,c2,c3,c4],_=>exact⟨_,_,_,_,_,rfl⟩
 simp at ha hb hcc hd e1
 subst ha hb hcc hd e1
 refine⟨a,b,c,d,ns,u,γ',h',q1,q2,q3,?_,q5,q6⟩
 rw[agg_of_cells hcs (by simp)]
 exact VR.aggL (VRL.cons (.int _ _) (VRL.cons (.int _ _) (VRL.cons (.int _ _) (VRL.cons (.int _ _) (VRL.cons q4 (VRL.nil _))))))
def tyInt (P:Program) (t:TypeId):Bool:=match P.underlying t with
 | some (.int .i64)=>true
 | _=>false
def tySlice (P:Program) (t e:TypeId):Bool:=match P.underlying t with
 | some (.slice e')=>e'==e
 | _=>false
theorem tyInt_eq {t:TypeId} (h:tyInt P t=true):P.underlying t=some (.int .i64):=by
 unfold tyInt at h
 split at h
 ·assumption
 ·cases h
theorem tySlice_eq {t e:TypeId} (h:tySlice P t e=true):P.underlying t=some (.slice e):=by
 unfold tySlice at h
 split at h
 ·rename_i e' he
  have:e'=e:=by simpa using h
  rw[he,this]
 ·cases h
def isInts4 (P:Program) (t e:TypeId):Bool:=match P.underlying t with
 | some (.struct fs)=>match fs.toList with
  | [f0,f1,f2,f3,f4]=>P.cellsOf t==5&&f0.offset==0&&f1.offset==1&&f2.offset==2&&f3.offset==3&&f4.offset==4 &&
    [f0,f1,f2,f3].all (fun f=>tyInt P f.type&&P.cellsOf f.type==1)&&P.cellsOf f4.type==1&&tySlice P f4.type e &&
    tyInt P e&&P.cellsOf e==1
  | _=>false
 | _=>false
theorem adm_tensor {γ:List G} {h:AH} (A:Adm P W γ h) {t:TypeId} (e:TypeId) (hk:isInts4 P t e=true) {v:Value} {d:DataW H} {ps:List MemPlace} (hx:DataW.Trod enc P W 0 (fun _=>true) true t v d ps) :
  ∃ a b c d ns v' γ' h',γ<+:γ'∧h<+:h'∧Adm P W γ' h'∧VR γ' (.agg #[I64 a,I64 b,I64 c,I64 d,v']) v∧Ints h' v' ns∧ns.length≤maxLen:=by
 unfold isInts4 at hk
 split at hk
 ·rename_i fs hs
  split at hk
  ·rename_i f0 f1 f2 f3 f4 hf
   have hfs:fs=#[f0,f1,f2,f3,f4]:=by
    rw[←hf]
   subst hfs
   simp only[List.all_cons,List.all_nil,Bool.and_true,Bool.and_eq_true,beq_iff_eq] at hk
   obtain⟨⟨⟨⟨⟨⟨⟨⟨⟨⟨k0,k1⟩,k2⟩,k3⟩,k4⟩,k5⟩,⟨i0,c0⟩,⟨i1,c1⟩,⟨i2,c2⟩,⟨i3,c3⟩⟩,c4⟩,s4⟩,ie⟩,ce⟩:=hk
   exact adm_ints4 A hs k0 ⟨k1,k2,k3,k4,k5⟩ ⟨tyInt_eq i0,tyInt_eq i1,tyInt_eq i2,tyInt_eq i3⟩ ⟨c0,c1,c2,c3,c4⟩ (tySlice_eq s4) (tyInt_eq ie) ce hx
  ·cases hk
 ·cases hk
theorem stays_all (hl:laidOutB P=true) {W W':World} (bel:Below W.heap.size W W'):∀ {ts:List TypeId} {vs:List Value} {ds:List (DataW H)} {ps:List MemPlace},
  (∀ t∈ts,P.readableRec t=true∧t<P.types.size)→DataW.TrodAll enc P W 0 (fun _=>true) true ts vs ds ps→DataW.TrodAll enc P W' 0 (fun b=>decide (b<W.heap.size)) true ts vs ds ps
 | [],[],[],_,_,h=>h
 | _::_,_::_,_::_,_,ht,⟨p,q,h1,h2,e⟩=>by
  have hlt:∀ r∈p,r.block<W.heap.size:=by
   have hall:DataW.TrodAll enc P W 0 (fun _=>true) true [_] [_] [_] p:=trodAll_mk1 h1
   exact hall.lt
  refine⟨p,q,Go.WideElems.Trod_stays hl (ht _ (List.mem_cons.2 (.inl rfl))).1 (ht _ (List.mem_cons.2 (.inl rfl))).2 h1 (fun r hr=>bel.same (hlt r hr)) (fun r hr=>by simpa using hlt r hr),?_,e⟩
  exact stays_all hl bel (fun t ht'=>ht t (List.mem_cons.2 (.inr ht'))) h2
theorem calls_of_WF {S:XS} (hm:P.follows .mixedOrders=true) (hE:ESound P S.E) (hT:TSound P S.T) {g:FuncId} {args args':List Value} {γ:List G} {h:AH} {W:World} {Q:Value→AH→Prop}
  (A:Adm P W γ h) (hv:VRL γ args args') (hw:WF S g args h Q) :
  Calls P g args'.toArray W (fun e W'=>∃ v v' γ' h',e=.returned v'∧VR γ' v v'∧Q v h'∧Below W.heap.size W W'):=by
 obtain⟨k,v,h',h1,h2⟩:=hw
 have:=(xcall_sound hm hE hT k g args h v h' h1).2 W.heap.size γ W args' A.rel hv
 refine this.mono fun e W' ⟨γ',v',q1,q2,q3⟩=>⟨v,v',γ',h',q1,q2,h2,?_⟩
 refine⟨q3.os,q3.tape,q3.output,q3.size,fun b hb=>q3.frame b hb fun ⟨n,blk,g,o1,o2,o3,o4⟩=>?_⟩
 rw[A.ro n blk o1] at o3
 cases o3
end
section
variable {H:Type} {enc:TypeId×Value→H} {P:Program} {W:World}
theorem cells_of_slice {t e:TypeId} {v:Value} {r:Reach} {base:Nat} (ht:P.underlying t=some (.slice e)) (hval:Value.okWide P W r base t v):v.cells.toList=[v]:=by
 cases v with
 | agg cs=>simp[Value.okWide,ht,Cell.okWide,Cell.ok] at hval
 | _=>rfl
end
theorem u8_in {n:Int} (h:(Lit.int .u8 n).wf=true):0≤n∧n≤255:=by
 simp[Lit.wf,IntKind.min,IntKind.max,IntKind.signed,IntKind.bits] at h
 omega
def sideBy (P:Program):List Field→Nat→Nat→Bool
 | [],o,m=>o==m
 | f::fs,o,m=>f.offset==o&&sideBy P fs (o+P.cellsOf f.type) m
def flatK (P:Program) (k:IntKind):Nat→TypeId→Bool
 | 0,_=>false
 | f+1,t=>match P.underlying t with
  | some (.int k')=>decide (k'=k)&&P.cellsOf t==1
  | some (.array n e)=>flatK P k f e&&P.cellsOf t==n*P.cellsOf e
  | some (.struct fs)=>sideBy P fs.toList 0 (P.cellsOf t)&&fs.toList.all fun x=>flatK P k f x.type
  | _=>false
theorem sideBy_at {P:Program}:∀ {fs:List Field} {o m j:Nat},sideBy P fs o m=true→o≤j→j<m→∃ (i:Nat) (f:Field),fs[i]?=some f∧f.offset≤j∧j<f.offset+P.cellsOf f.type
 | [],o,m,j,h,h1,h2=>by
  simp only[sideBy,beq_iff_eq] at h
  omega
 | f::fs,o,m,j,h,h1,h2=>by
  simp only[sideBy,Bool.and_eq_true,beq_iff_eq] at h
  by_cases hj:j<o+P.cellsOf f.type
  ·exact⟨0,f,rfl,by omega,by omega⟩
  ·obtain⟨i,g,q1,q2,q3⟩:=sideBy_at h.2 (by omega) h2
   exact⟨i+1,g,by rw[List.getElem?_cons_succ];exact q1,q2,q3⟩
section
variable {H:Type} {enc:TypeId×Value→H} {P:Program} {W:World} {k:IntKind}
theorem flat_trod:∀ (f:Nat) (t:TypeId) (n:Nat) (cs:List Value) (x:DataW H×List MemPlace),flatK P k f t=true→DataW.trod enc P W 0 (fun _=>true) true n t cs=some x →
  cs.length=P.cellsOf t∧∀ (j:Nat) (v:Value),cs[j]?=some v→∃ m,v=.int k m∧(Lit.int k m).wf=true
 | 0,_,_,_,_,h,_=>by cases h
 | f+1,t,n,cs,x,h,hx=>by
  unfold flatK at h
  split at h
  ·rename_i k' ht
   simp only[Bool.and_eq_true,decide_eq_true_eq,beq_iff_eq] at h
   obtain⟨rfl,hc⟩:=h
   obtain⟨m,rfl,_,hw⟩:=DataW.trod_int ht hx
   refine⟨by simpa using hc.symm,fun j v hv=>?_⟩
   have:j=0:=by
    have:=(List.getElem?_eq_some_iff.1 hv).1
    simp at this
    exact this
   subst this
   simp at hv
   exact⟨m,hv.symm,hw⟩
  ·rename_i c e ht
   simp only[Bool.and_eq_true,beq_iff_eq] at h
   obtain⟨xs,m,_,_,hl,hxs,hall⟩:=DataW.trod_array ht hx
   refine⟨hl,fun j v hv=>?_⟩
   have hj:=(List.getElem?_eq_some_iff.1 hv).1
   rw[hl,h.2] at hj
   have hc:0<P.cellsOf e:=Nat.pos_of_ne_zero fun e0=>by rw[e0] at hj;simp at hj
   have hi:j / P.cellsOf e<c:=Nat.div_lt_of_lt_mul (by rw[Nat.mul_comm];exact hj)
   have hy:=hall _ hi
   rw[List.getElem?_eq_getElem (by omega)] at hy
   have hdm:=Nat.div_add_mod j (P.cellsOf e)
   rw[Nat.mul_comm] at hdm
   refine (flat_trod f e m _ _ h.1 hy).2 (j%P.cellsOf e) v ?_
   rw[List.getElem?_take,if_pos (Nat.mod_lt _ hc),List.getElem?_drop,hdm]
   exact hv
  ·rename_i fs ht
   simp only[Bool.and_eq_true] at h
   obtain⟨xs,m,_,_,hl,hxs,hall⟩:=DataW.trod_struct ht hx
   refine⟨hl,fun j v hv=>?_⟩
   have hj:=(List.getElem?_eq_some_iff.1 hv).1
   rw[hl] at hj
   obtain⟨i,g,q1,q2,q3⟩:=sideBy_at h.1 (Nat.zero_le _) hj
   have q1':fs[i]?=some g:=by simpa using q1
   have hy:=hall i g q1'
   have hi:i<xs.length:=by
    rw[hxs]
    exact (Array.getElem?_eq_some_iff.1 q1').1
   rw[List.getElem?_eq_getElem hi] at hy
   have hg:flatK P k f g.type=true:=List.all_eq_true.1 h.2 g (List.mem_of_getElem? q1)
   refine (flat_trod f g.type m _ _ hg hy).2 (j-g.offset) v ?_
   rw[List.getElem?_take,if_pos (by omega),List.getElem?_drop,show g.offset+(j-g.offset)=j by omega]
   exact hv
  ·cases h
theorem adm_elems2 {γ:List G} {h:AH} (A:Adm P W γ h) {t e:TypeId} {n w f:Nat} {cs:List Value} {x:DataW H×List MemPlace} (ht:P.underlying t=some (.slice e)) (hf:flatK P k f e=true)
  (hw:P.cellsOf e=w) (hw0:0<w) (hx:DataW.trod enc P W 0 (fun _=>true) true n t cs=some x) :
  ∃ v' v L γ' h',cs=[v']∧γ<+:γ'∧h<+:h'∧Adm P W γ' h'∧VR γ' v v'∧Els k w h' v L∧L.length≤maxLen∧(L=[]→∃ t,t≤2∧v=.slice none 0 t)∧∀ i,i<L.length→∀ j,j<w→(Lit.int k ((L.getD i []).getD j 0)).wf=true:=by
 rcases open_slice ht hx with⟨rfl,_⟩|⟨a,len,cap,m,n',D,Pl,rfl,hb,hl,hm,hmm,_,hcell⟩
 ·exact⟨_,.slice none 0 0,[],γ,h,rfl,List.prefix_refl _,List.prefix_refl _,A,.nils,.inl ⟨rfl,0,by omega,rfl⟩,Nat.zero_le _,fun _=>⟨0,by omega,rfl⟩,fun i hi=>by simp at hi⟩
 ·by_cases h0:len=0
  ·subst h0
   exact⟨_,.slice none 0 1,[],γ,h,rfl,List.prefix_refl _,List.prefix_refl _,A,.emp _ _,.inl ⟨rfl,1,by omega,rfl⟩,Nat.zero_le _,fun _=>⟨1,by omega,rfl⟩,fun i hi=>by simp at hi⟩
  ·have hmc:m=cap:=hmm
   have cell:∀ i,i<cap→∀ r,r<w→∃ z,W.cell? ((a.add (i*w)).add r)=some (.int k z)∧(Lit.int k z).wf=true:=fun i hi r hr=>by
    obtain⟨cs',h1,h2⟩:=hcell i (by omega)
    rw[hw] at h1
    obtain⟨_,hlen,hc⟩:=World.cells?_some h1
    obtain⟨_,hall⟩:=flat_trod f e n' cs' _ hf h2
    have hr':r<cs'.length:=by omega
    obtain⟨z,hz,hwf⟩:=hall r _ (List.getElem?_eq_getElem hr')
    refine⟨z,?_,hwf⟩
    rw[hc r hr,List.getElem?_eq_getElem hr',hz]
   obtain⟨z0,hz,_⟩:=cell 0 (by omega) 0 hw0
   rw[Nat.zero_mul] at hz
   have a0:a.add 0=a:=by simp[Addr.add]
   rw[a0,a0] at hz
   have hsp:a.spot=none:=by
    unfold World.cell? at hz
    split at hz
    ·split at hz
     ·cases hz
     ·rename_i hs
      simpa using hs
    ·cases hz
   have hbl:a.block<W.heap.size:=World.block_lt_of_cell? W _ hz
   have cell':∀ j,j<len*w→∃ z,W.cell? ⟨a.block,a.off+j,none⟩=some (.int k z)∧(Lit.int k z).wf=true:=fun j hj=>by
    have hi:j / w<len:=Nat.div_lt_of_lt_mul (by rw[Nat.mul_comm];exact hj)
    obtain⟨z,q1,q2⟩:=cell (j / w) (by omega) (j%w) (Nat.mod_lt _ hw0)
    refine⟨z,?_,q2⟩
    rw[add_off a hsp,add_off _ rfl] at q1
    have hdm:=Nat.div_add_mod j w
    rw[Nat.mul_comm] at hdm
    rw[show a.off+j=a.off+j / w*w+j%w by omega]
    exact q1
   obtain⟨N,hN⟩:∃ N:Nat→Int,∀ j,j<len*w→W.cell? ⟨a.block,a.off+j,none⟩=some (.int k (N j))∧(Lit.int k (N j)).wf=true:=by
    refine⟨fun j=>if hj:j<len*w then (cell' j hj).choose else 0,fun j hj=>?_⟩
    simp only[dif_pos hj]
    exact (cell' j hj).choose_spec
   let L:List (List Int):=(List.range len).map fun i=>(List.range w).map fun r=>N (i*w+r)
   have hLl:L.length=len:=by simp[L]
   have hLg:∀ i,i<len→L.getD i []=(List.range w).map fun r=>N (i*w+r):=fun i hi=>by simp[L,List.getD_eq_getElem?_getD,List.getElem?_map,List.getElem?_range hi]
   let C:List Value:=cel k ((List.range (len*w)).map N)
   have hCl:C.length=len*w:=by simp[C,cel_len]
   refine⟨_,.slice (some ⟨h.length,0,none⟩) L.length w,L,γ++[⟨a.block,a.off,cap*w⟩],h.new ⟨C,e,true,false⟩,rfl,List.prefix_append _ _,pre_new (List.prefix_refl _),?_,?_,
    .inr ⟨h.length,0,_,rfl,get_new_same,fun i hi=>?_⟩,by rw[hLl];omega,fun hL=>absurd hLl (by rw[hL];exact fun e=>h0 (by simpa using e.symm)),fun i hi j hj=>?_⟩
   ·refine A.new hbl fun j v hv=>?_
    have hj:j<len*w:=by rw[←hCl];exact (List.getElem?_eq_some_iff.1 hv).1
    have hv':C[j]?=some (.int k (N j)):=by simp[C,cel,hj]
    rw[hv'] at hv
    obtain rfl:=Option.some.inj hv
    exact⟨rfl,_,(hN j hj).1,.int _ _⟩
   ·have hcw:len*w≤cap*w:=Nat.mul_le_mul_right _ hl
    have:=VR.slc (γ:=γ++[⟨a.block,a.off,cap*w⟩]) h.length 0 L.length w ⟨a.block,a.off,cap*w⟩ (by rw[←A.rel.len];simp) hw0 (by rw[hLl];simp only;omega)
    have e1:(some a:Option Addr)=some ⟨a.block,a.off+0,none⟩:=by
     obtain⟨b,o,s⟩:=a
     simp at hsp
     subst hsp
     rfl
    rw[e1]
    have e2:(cap*w-0) / w=cap:=by rw[Nat.sub_zero];exact Nat.mul_div_cancel _ hw0
    simp only[e2,hLl] at this
    rw[hLl]
    exact this
   ·rw[hLl] at hi
    have hr:i*w+w≤len*w:=mul_row hi
    refine⟨by simp only[hCl];omega,?_⟩
    rw[hLg i hi]
    simp only[C,cel_drop,cel_take,Nat.zero_add]
    congr 1
    refine List.ext_getElem? fun r=>?_
    rw[List.getElem?_take,List.getElem?_drop,List.getElem?_map,List.getElem?_map]
    by_cases hr':r<w
    ·rw[if_pos hr',List.getElem?_range hr',List.getElem?_range (by omega)]
     rfl
    ·rw[if_neg hr',List.getElem?_eq_none (by simp;omega)]
     rfl
   ·rw[hLl] at hi
    have hr:i*w+w≤len*w:=mul_row hi
    rw[hLg i hi]
    have:((List.range w).map fun r=>N (i*w+r)).getD j 0=N (i*w+j):=by simp[List.getD_eq_getElem?_getD,List.getElem?_map,List.getElem?_range hj]
    rw[this]
    exact (hN _ (by omega)).2
theorem adm_elems {γ:List G} {h:AH} (A:Adm P W γ h) {t e:TypeId} {n w f:Nat} {cs:List Value} {x:DataW H×List MemPlace} (ht:P.underlying t=some (.slice e)) (hf:flatK P k f e=true)
  (hw:P.cellsOf e=w) (hw0:0<w) (hx:DataW.trod enc P W 0 (fun _=>true) true n t cs=some x) :
  ∃ v' v L γ' h',cs=[v']∧γ<+:γ'∧h<+:h'∧Adm P W γ' h'∧VR γ' v v'∧Els k w h' v L∧L.length≤maxLen∧∀ i,i<L.length→∀ j,j<w→(Lit.int k ((L.getD i []).getD j 0)).wf=true:=by
 obtain⟨v',v,L,γ',h',e1,q1,q2,q3,q4,q5,q6,_,q7⟩:=adm_elems2 A ht hf hw hw0 hx
 exact⟨v',v,L,γ',h',e1,q1,q2,q3,q4,q5,q6,q7⟩
end
section
variable {H:Type} {enc:TypeId×Value→H} {P:Program} {W:World}
def isByteS (P:Program) (t e:TypeId):Bool:=tySlice P t e&&flatK P .u8 1 e&&P.cellsOf e==1
theorem adm_code {γ:List G} {h:AH} (A:Adm P W γ h) {t:TypeId} (e:TypeId) (hk:isByteS P t e=true) {v:Value} {d:DataW H} {ps:List MemPlace} {r:Reach} {base:Nat} (hval:Value.okWide P W r base t v)
  (hx:DataW.Trod enc P W 0 (fun _=>true) true t v d ps) :
  ∃ L u γ' h',γ<+:γ'∧h<+:h'∧Adm P W γ' h'∧VR γ' u v∧Els .u8 1 h' u L∧Byt 1 L:=by
 simp only[isByteS,Bool.and_eq_true,beq_iff_eq] at hk
 obtain⟨⟨k1,k2⟩,k3⟩:=hk
 obtain⟨n,hx⟩:=hx
 obtain⟨v',u,L,γ',h',e1,q1,q2,q3,q4,q5,q6,q7⟩:=adm_elems A (tySlice_eq k1) k2 k3 (by decide) hx
 rw[cells_of_slice (tySlice_eq k1) hval] at e1
 have e1:v=v':=by simpa using e1
 subst e1
 exact⟨L,u,γ',h',q1,q2,q3,q4,q5,fun i hi j hj=>u8_in (q7 i hi j hj)⟩
end
end Go.Proofs.Ytapafdpnmakekaa.X

namespace Go.Proofs.Ytapafdpnmakekaa.fnPrograms
open Go Go.ChangeShapes Go.WideShapes Go.ChangeAt Go.RowKit Go.Proofs.Ytapafdpnmakekaa.X
set_option linter.unusedVariables false
theorem own:ownKnob Try.prog.godebug=none:=by kernel_rfl
theorem laid:laidOutB Try.prog=true:=by kernel_rfl
theorem shapeY:isByteS Try.prog 22 5=true:=by kernel_rfl
theorem readable0:Try.prog.readableRec 22=true:=by kernel_rfl
theorem intable0:22<Try.prog.types.size:=of_decide_eq_true (by kernel_rfl)
theorem isbool:Try.prog.underlying 4=some .bool:=by kernel_rfl
theorem isint:Try.prog.underlying 2=some (.int .i64):=by kernel_rfl
set_option maxRecDepth 100000 in
theorem lifted (os:Os) (started:os.Started) (H:Type) (enc:TypeId×Value→H) :
  ReturnsInHanded {} Try.checked os 6 .any (Rows.fnProgramsSpec.pre6 enc Try.prog Try.f6 Rows.fnProgramsRow.domain false) (Rows.fnProgramsSpec.post enc Try.prog Try.f6 false true false false):=by
 refine returnsInHanded_of_change_sized (C:=Try.checked) own started (by kernel_rfl) Try.func6
  (ChangeSpec.witness6 (enc:=enc) (C:=Try.checked) false ⟨#[],#[.slice none 0 0],[]⟩ 8 (by kernel_rfl) (by kernel_rfl) (by kernel_rfl) (by kernel_rfl)) ?_
 intro W base args ds gs before hval0 hW hcnd hsz0 _
 have hval:∀ (j:Nat) t v,Try.f6.params[j]?=some t→args[j]?=some v→Value.okWide Try.prog W .any base t v:=hval0
 have hW':=hW
 obtain⟨p,q,hA0,hV,rfl,hfz,hnd⟩:=hW
 have hA:DataW.TrodAll enc Try.prog W 0 (fun _=>true) true Try.f6.params.toList args.toList ds p:=hA0
 rw[Try.params6] at hA hval
 obtain⟨v0,vs0,d0,ds0,p0,q0,hargs0,rfl,rfl,h0,r0⟩:=trodAll_cons hA
 obtain⟨rfl,rfl,rfl⟩:=trodAll_nil r0
 obtain rfl:args=#[v0]:=by cases args;simp_all
 obtain⟨rfl,rfl⟩:=trodVars_none hV
 obtain⟨ns0,u0,γ0,g0,pg0,ph0,A0,hv0,hi0,hl0⟩:=adm_code (Adm.nil Try.prog W) 5 shapeY (hval 0 _ v0 rfl rfl) h0
 have hi0':=hi0
 have key:=law_Programs hi0' hl0
 refine (calls_of_WF (S:=S) orders esound tsound A0 (VRL.cons hv0 (VRL.nil _)) key).mono fun e W' ⟨v,u,γ1,h1,he,hvr,hb,bel⟩=>?_
 subst hb
 obtain rfl:=hvr.bool_inv
 subst he
 have st:=stays_all laid bel (ts:=[22]) (fun t ht=>by
  simp only[List.mem_cons,List.not_mem_nil,or_false] at ht
  rw[ht]
  exact⟨readable0,intable0⟩) hA
 exact⟨_,rfl,_,_,_,[],_,[],hW',trodAll_mk1 (shut_bool isbool _),st,rfl,bel.frame _,fun h=>by cases h⟩
theorem j0:Program.unfollowed Try.pinned.checked.prog 6=false:=by kernel_rfl
theorem j1:(Rows.fnProgramsRow.inPlace==Program.inPlace Try.pinned.checked.prog 6)=true:=by kernel_rfl
theorem j2:(Rows.fnProgramsRow.unfollowed==Program.unfollowed Try.pinned.checked.prog 6)=true:=by
 rw[j0]
 rfl
theorem j3:(Rows.fnProgramsRow.recurses==Program.recurses Try.pinned.checked.prog 6)=true:=by kernel_rfl
theorem j4:(Rows.fnProgramsRow.named==Program.varsNamed Try.pinned.checked.prog 6)=true:=by kernel_rfl
theorem closed:joinedFacts Try.pinned.checked.prog 6 Try.f6 Rows.fnProgramsSpec Rows.fnProgramsRow=true:=by
 unfold joinedFacts
 rw[j1,j2,j3,j4]
 kernel_rfl
theorem over:Rows.fnProgramsRow.holds Try.pinned (OpenSpec.ofChange Rows.fnProgramsSpec):=
 OpenClaim.holds_of_wide 6 Try.f6 rfl rfl rfl rfl rfl rfl rfl ⟨rfl,rfl,rfl,rfl,rfl⟩ rfl rfl rfl rfl rfl (by kernel_rfl) Try.func6 closed
  (of_decide_eq_true (by kernel_rfl)) (by unfold Func.isWrapper;first|(rw[if_pos (by decide +kernel)];kernel_rfl)|(rw[if_neg (by decide +kernel)];exact⟨rfl,rfl⟩))
  (fun os started H enc _=>lifted os started H enc)
end Go.Proofs.Ytapafdpnmakekaa.fnPrograms
namespace Go.Proofs.Ytapafdpnmakekaa
theorem fnPrograms_holds:Rows.FnProgramsSaid:=fnPrograms.over
end Go.Proofs.Ytapafdpnmakekaa
