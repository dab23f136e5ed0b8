/- Texts of one claim, put together by merge.py: XBB, XMA, XBC, XBD, XBE, XDE, XF36, XM1, XDH, XBF, XS8, XS9, XS10, XS11, XS12, XS13, XS14, XS15, XM7, XDS, XBG, XArgs, XA2, XA3, XA5, XHFL. -/
import Derived.Test.YtapafdpnmakekaaFL10
import Derived.Test.YtapafdpnmakekaaFL9
import Derived.Test.YtapafdpnmakekaaFL7
import Derived.Test.YtapafdpnmakekaaFL8
import Derived.Test.YtapafdpnmakekaaFL3
import Derived.Deep.Slices
import Derived.WideKeyArgs
import Derived.ChangeOld
import Derived.ChangeArms
import Derived.OpenShut
import Derived.Test.YtapafdpnmakekaaRows
import Derived.ProofKit
import Derived.ShutString
import Derived.Below
import Derived.SizedLaws
set_option linter.unusedVariables false
set_option linter.unusedSimpArgs false
set_option maxRecDepth 20000
set_option maxHeartbeats 4000000
namespace Go.Proofs.Ytapafdpnmakekaa.X
open Go Go.RowKit
open Nat (reduceEqDiff reduceAdd reduceSub reduceLeDiff)
def KX (lo bx:Nat) (h:AH) (p:AH→Prop):Prop:=∀ h':AH,h.length≤h'.length→(∀ m,lo≤m→m<h.length→m≠bx→h'.get m=h.get m)→p h'
section
variable {lo lo' bx n:Nat} {h h':AH} {p:AH→Prop} {b:Blk}
theorem KX.now (k:KX lo bx h p):p h:=k h (Nat.le_refl _) fun _ _ _ _=>rfl
theorem KX.pre (k:KX lo bx h p) (d:h<+:h'):KX lo bx h' p:=fun h2 l2 g2=>k h2 (Nat.le_trans (pre_len d) l2) fun m h1 h3 h4=>(g2 m h1 (Nat.lt_of_lt_of_le h3 (pre_len d)) h4).trans (prefix_get d h3)
theorem KX.put (k:KX lo bx h p) (hm:n<lo∨n=bx):KX lo bx (h.put n b) p:=fun h2 l2 g2=>k h2 (by rw[len_put] at l2;exact l2) fun j h1 h3 h4=>(g2 j h1 (by rw[len_put];exact h3) h4).trans (get_put_ne (by omega))
theorem KX.kN (k:KX lo bx h p):KN lo h p:=fun h2 l2 g2=>k h2 l2 fun m h1 h3 _=>g2 m h1 h3
theorem KX.new (k:KN lo h p) (e:h.length=bx):KX lo bx (h.new b) p:=fun h2 l2 g2=>by
 rw[len_new] at l2
 refine k h2 (by omega) fun m h1 h3=>?_
 exact (g2 m h1 (by rw[len_new];omega) (by omega)).trans (prefix_get (pre_new (List.prefix_refl _)) h3)
theorem KX.of (k:KN lo' h p) (h1:bx<lo') (h2:lo≤lo'):KX lo bx h p:=fun h3 l2 g2=>k h3 l2 fun m h4 h5=>g2 m (by omega) h5 (by omega)
end
def wkOk (ns:List Int):Bool:=decide (ns.length≤200)&&ns.all fun n=>decide (0≤n)
def wkR (x:Sch) (ns:List Int):Sch×Int:=if isX x=true then (if wkOk ns=true then (wps x (walkL x.p x.ps ns),0) else (zeroS,2)) else (zeroS,1)
theorem step_of {p n:Int} {L:List (List Int)} {i k u:Nat} (h:flA L≠[]) (e:pickF L n=[(i:Int),k,u]):stepW p L n=toldL (flipL p L i k u 1):=by
 unfold stepW
 rw[if_neg h,e]
 simp only[List.getD_cons_zero,List.getD_cons_succ,Int.toNat_natCast]
theorem walk_succ {p:Int} {L:List (List Int)} {ns:List Int} {i:Nat} (hi:i<ns.length):walkL p L (ns.take (i+1))=stepW p (walkL p L (ns.take i)) (ns.getD i 0):=by
 unfold walkL
 rw[take_next (d:=0) hi,List.foldl_append]
 rfl
theorem walk_cut {p:Int} {L:List (List Int)} {ns:List Int} {i:Nat} (h:flA (walkL p L (ns.take i))=[]):walkL p L (ns.take i)=walkL p L ns:=by
 have e:walkL p L ns=walkL p (walkL p L (ns.take i)) (ns.drop i):=by
  unfold walkL
  rw[←List.foldl_append,List.take_append_drop]
 rw[e,walk_stop h]
theorem wkOk_nn {ns:List Int} (h:wkOk ns=true):ns.length≤200∧∀ n∈ns,0≤n:=by
 unfold wkOk at h
 rw[Bool.and_eq_true] at h
 exact⟨of_decide_eq_true h.1,fun n hn=>of_decide_eq_true (List.all_eq_true.1 h.2 n hn)⟩
theorem GX.of' {x:Sch} {h:AH} {v:Value} (hv:Prods h v x.ps) (hx:isX x=true):GX x:=⟨hx,hv.1.widL,hv.2⟩
theorem take_mem {ns:List Int} {P:Int→Prop} (h:∀ n∈ns,P n) (i:Nat):∀ n∈ns.take i,P n:=fun n hn=>h n (List.mem_of_mem_take hn)
theorem s_WalkFlips {x:Sch} {v w:Value} {ns:List Int} {h:AH} {Q:Value→AH→Prop} (hv:Prods h v x.ps) (hl:SmallX x.ps) (hw:Ints h w ns) (hn:(ns.length:Int)≤1048576)
  (hQ:∀ w' h',h<+:h'→KN h.length h' (fun h2=>Prods h2 w' (wkR x ns).1.ps)→Q (.tuple #[schV (wkR x ns).1 w',I64 (wkR x ns).2]) h'):WF S 16 [schV x v,w] h Q:=by
 refine WF_fn (fn:=c16) rfl rfl ?_
 dsimp only[c16,oO,oM,oS,oG,oK,oE,oL,oF,oX,oN]
 have o1:=hv.one
 have wl:=hw.len
 ((try simp (maxSteps:=3000000) (dsimp:=false) (disch:=first|omega|simp only[lnx];omega) only[↓ypre,ypost,↓reduceIte,reduceEqDiff,reduceAdd,reduceSub,reduceLeDiff,zz0,ynew,schV,o1]);try simp only[yback])
 generalize hH1:AH.new h _=H1
 obtain⟨hb1,p1,n1⟩:=new_facts hH1
 generalize hH2:AH.new H1 _=H2
 obtain⟨hb2,p2,n2⟩:=new_facts hH2
 have g1:=pre_get p2 hb1
 ((try simp (maxSteps:=3000000) (dsimp:=false) (disch:=first|omega|simp only[lnx];omega) only[↓ypre,ypost,↓reduceIte,reduceEqDiff,reduceAdd,reduceSub,reduceLeDiff,zz0,ynew,rdn_of g1]);try simp only[yback])
 refine s_l01Is (x:=x) (hv.pre (p1.trans p2)) hl fun H3 p3=>?_
 have g1:=pre_get p3 g1
 have g2:=pre_get p3 hb2
 have l2:=get_lt g2
 have P3:=p1.trans (p2.trans p3)
 have q3:=pre_len p3
 unfold wkR at hQ
 cases hx:isX x with
 | false=>
  rw[hx] at hQ
  ((try simp (maxSteps:=3000000) (dsimp:=false) (disch:=first|omega|simp only[lnx];omega) only[↓ypre,ypost,↓reduceIte,reduceEqDiff,reduceAdd,reduceSub,reduceLeDiff,zz0,ynew,fillL,wr_of g2,splice_eq,rdn_put_same]);try simp only[yback])
  exact hQ _ _ (pre_put P3 (by omega)) zeroS_kn
 | true=>
 rw[hx] at hQ
 simp only[if_true] at hQ
 by_cases c1:(ns.length:Int)>200
 ·have e:wkOk ns=false:=by unfold wkOk;rw[decide_eq_false (show ¬ ns.length≤200 by omega)];rfl
  rw[e] at hQ
  ((try simp (maxSteps:=3000000) (dsimp:=false) (disch:=first|omega|simp only[lnx];omega) only[↓ypre,ypost,↓reduceIte,reduceEqDiff,reduceAdd,reduceSub,reduceLeDiff,zz0,ynew,wl,decide_eq_true c1,fillL,wr_of g2,splice_eq,rdn_put_same]);try simp only[yback])
  exact hQ _ _ (pre_put P3 (by omega)) zeroS_kn
 ((try simp (maxSteps:=3000000) (dsimp:=false) (disch:=first|omega|simp only[lnx];omega) only[↓ypre,ypost,↓reduceIte,reduceEqDiff,reduceAdd,reduceSub,reduceLeDiff,zz0,ynew,wl,decide_eq_false c1]);try simp only[yback])
 refine WC_loop_inv (fun m f K1=>∃ (i:Nat),m=ns.length-i∧i≤ns.length∧f 1=w∧f 2=.pointer (some ⟨h.length,0,none⟩)∧f 4=.pointer (some ⟨H1.length,0,none⟩)∧f 6=I64 i∧K1=H3∧((∀ j,j<i→0≤ns.getD j 0))) ?_ (ns.length-0) _ _ ⟨0,rfl,by omega,(by first|rfl|simp[upd_apply]),(by first|rfl|simp[upd_apply]),(by first|rfl|simp[upd_apply]),(by first|rfl|simp[upd_apply]),rfl,(fun _ h=>absurd h (Nat.not_lt_zero _))⟩
 rintro m f K1 ⟨i,rfl,hi,f1,f2,f4,f6,rfl,al⟩
 by_cases hlt:(i:Int)<ns.length
 ·have hi:i<ns.length:=by omega
  obtain⟨nn,off,ix,rd⟩:=(hw.pre P3).cell hi
  have ix:=ix .i64
  by_cases c2:ns.getD i 0<0
  ·have e:wkOk ns=false:=by
    unfold wkOk
    rw[Bool.and_eq_false_iff]
    right
    rw[List.all_eq_false]
    refine⟨ns[i],List.getElem_mem hi,?_⟩
    rw[List.getD_eq_getElem?_getD,List.getElem?_eq_getElem hi,Option.getD_some] at c2
    rw[decide_eq_false (by omega)]
    decide
   rw[e] at hQ
   ((try simp (maxSteps:=3000000) (dsimp:=false) (disch:=first|omega|simp only[lnx];omega) only[↓ypre,ypost,↓reduceIte,reduceEqDiff,reduceAdd,reduceSub,reduceLeDiff,zz0,ynew,f1,f2,f4,f6,wl,decide_eq_true hlt,ix,rd,decide_eq_true c2,fillL,wr_of g2,splice_eq,rdn_put_same]);try simp only[yback])
   exact hQ _ _ (pre_put P3 (by omega)) zeroS_kn
  ·((try simp (maxSteps:=3000000) (dsimp:=false) (disch:=first|omega|simp only[lnx];omega) only[↓ypre,ypost,↓reduceIte,reduceEqDiff,reduceAdd,reduceSub,reduceLeDiff,zz0,ynew,f1,f2,f4,f6,wl,decide_eq_true hlt,ix,rd,decide_eq_false c2,wrap64_in]);try simp only[yback])
   refine InvQ_go (ns.length-(i+1)) (by omega) ⟨(i+1),rfl,by omega,(by first|rfl|exact f1|(simp only[upd_apply];rfl)|(show I64 _=_;congr 1;omega)),(by first|rfl|exact f2|(simp only[upd_apply];rfl)|(show I64 _=_;congr 1;omega)),(by first|rfl|exact f4|(simp only[upd_apply];rfl)|(show I64 _=_;congr 1;omega)),(by first|rfl|exact f6|(simp only[upd_apply];rfl)|(show I64 _=_;congr 1;omega)),rfl,(fun j hj=>by rcases Nat.lt_succ_iff_lt_or_eq.1 hj with h1|rfl;exact al j h1;omega)⟩
 have ei:i=ns.length:=by omega
 subst ei
 have nn:∀ n∈ns,0≤n:=fun n hn=>by
  obtain⟨j,hj,rfl⟩:=List.getElem_of_mem hn
  have:=al j hj
  rwa [List.getD_eq_getElem?_getD,List.getElem?_eq_getElem hj,Option.getD_some] at this
 have e:wkOk ns=true:=by
  unfold wkOk
  rw[decide_eq_true (show ns.length≤200 by omega),List.all_eq_true.2 fun n hn=>decide_eq_true (nn n hn)]
  rfl
 rw[e] at hQ
 simp only[if_true] at hQ
 have g:=GX.of' hv hx
 have zp:=(isX_sz hx).1.p
 have h30:=(isX_sz hx).2
 ((try simp (maxSteps:=3000000) (dsimp:=false) (disch:=first|omega|simp only[lnx];omega) only[↓ypre,ypost,↓reduceIte,reduceEqDiff,reduceAdd,reduceSub,reduceLeDiff,zz0,ynew,f1,f2,f4,f6,wl,decide_eq_false hlt,rd1_of g1,rdn_of g1]);try simp only[yback])
 refine s_l03Told (x:=x) o1 (hv.pre P3) (by omega) fun w0 H4 p4 kn=>?_
 rw[told_id hx] at kn ⊢
 have g1:=pre_get p4 g1
 have g2:=pre_get p4 g2
 have q4:=pre_len p4
 ((try simp (maxSteps:=3000000) (dsimp:=false) (disch:=first|omega|simp only[lnx];omega) only[↓ypre,ypost,↓reduceIte,reduceEqDiff,reduceAdd,reduceSub,reduceLeDiff,zz0,ynew,f1,f2,f4,f6,schV,kn.now.one]);try simp only[yback])
 generalize hH5:AH.new H4 _=H5
 obtain⟨g7,p5,n5⟩:=new_facts hH5
 have kx:KX H2.length H4.length H5 fun h2=>Prods h2 w0 (walkL x.p x.ps (ns.take 0)):=by rw[←hH5];exact KX.new (kn.mono q3) rfl
 have P5:K1<+:H5:=p4.trans p5
 refine WC_loop_inv (fun m f K2=>∃ (i:Nat) (vv:Value),m=ns.length-i∧i≤ns.length∧f 1=w∧f 2=.pointer (some ⟨h.length,0,none⟩)∧f 4=.pointer (some ⟨H1.length,0,none⟩)∧f 7=.pointer (some ⟨H4.length,0,none⟩)∧f 8=I64 i∧(K1<+:K2)∧(OwnB K2 H4.length [I64 x.p,I64 x.n,I64 x.m,I64 x.k,vv] true)∧(KX H2.length H4.length K2 (fun h2=>Prods h2 vv (walkL x.p x.ps (ns.take i))))) ?_ (ns.length-0) _ _ ⟨0,w0,rfl,by omega,(by first|rfl|exact f1|(simp[upd_apply];done)),(by first|rfl|exact f2|(simp[upd_apply];done)),(by first|rfl|exact f4|(simp[upd_apply];done)),(by first|rfl|simp[upd_apply]),(by first|rfl|simp[upd_apply]),P5,⟨_,g7⟩,kx⟩
 rintro m f K2 ⟨i,vv,rfl,hi,f1,f2,f4,f7,f8,pp,g7,kx⟩
 obtain⟨e7,g7⟩:=g7
 have l7:=get_lt g7
 have g2K:=pre_get pp (pre_get p3 hb2)
 have l2K:=get_lt g2K
 have fin:walkL x.p x.ps (ns.take i)=walkL x.p x.ps ns→Q (.tuple #[schV (wps x (walkL x.p x.ps ns)) vv,I64 0]) (AH.put K2 H1.length ⟨[I64 x.p,I64 x.n,I64 x.m,I64 x.k,vv],26,false,true⟩):=fun ew=>by
  rw[ew] at kx
  exact hQ vv _ (pre_put (P3.trans pp) (by omega)) ((KX.kN (kx.put (.inl (by omega)))).mono (by omega))
 obtain⟨gc,ec⟩:=walk_ok g (take_mem nn i)
 have pc:=kx.now
 have oc:isOne vv=true:=pc.one
 by_cases hlt:(i:Int)<ns.length
 ·have hi:i<ns.length:=by omega
  ((try simp (maxSteps:=3000000) (dsimp:=false) (disch:=first|omega|simp only[lnx];omega) only[↓ypre,ypost,↓reduceIte,reduceEqDiff,reduceAdd,reduceSub,reduceLeDiff,zz0,ynew,f1,f2,f4,f7,f8,wl,decide_eq_true hlt,rdn_of g7]);try simp only[yback])
  refine s_l03Flips (x:=wps x (walkL x.p x.ps (ns.take i))) pc (isX_sz gc.ok).2 fun kb fu B cs H6 p6 r=>?_
  have fl:lenV (sl kb (flA (walkL x.p x.ps (ns.take i))).length)=some (I64 ((flA (walkL x.p x.ps (ns.take i))).length)):=rfl
  have g76:=pre_get p6 g7
  have g26:=pre_get p6 g2K
  by_cases h0:flA (walkL x.p x.ps (ns.take i))=[]
  ·have e0:((flA (walkL x.p x.ps (ns.take i))).length:Int)=0:=by rw[h0];rfl
   have:=fin (walk_cut h0)
   have g26l:=get_lt g26
   have fin6:Q (.tuple #[schV (wps x (walkL x.p x.ps ns)) vv,I64 0]) (AH.put H6 H1.length ⟨[I64 x.p,I64 x.n,I64 x.m,I64 x.k,vv],26,false,true⟩):=by
    have kx6:=kx.pre p6
    rw[walk_cut h0] at kx6
    exact hQ vv _ (pre_put (P3.trans (pp.trans p6)) (by omega)) ((KX.kN (kx6.put (.inl (by omega)))).mono (by omega))
   ((try simp (maxSteps:=3000000) (dsimp:=false) (disch:=first|omega|simp only[lnx];omega) only[↓ypre,ypost,↓reduceIte,reduceEqDiff,reduceAdd,reduceSub,reduceLeDiff,zz0,ynew,f1,f2,f4,f7,f8,fl,decide_eq_true e0,rdn_of g76,wr_of g26,splice_eq,rdn_put_same,oc]);try simp only[yback])
   exact fin6
  ·have hlen:0<(flA (walkL x.p x.ps (ns.take i))).length:=List.length_pos_iff.2 h0
   have ni:0≤ns.getD i 0:=al i hi
   obtain⟨a,b,u,a1,a2,a3,a4,a5,a6,a7⟩:=pickF_of ni h0
   obtain⟨J,hJ⟩:∃ J:Nat,(ns.getD i 0).tmod ((flA (walkL x.p x.ps (ns.take i))).length:Int)=J:=⟨_,(Int.toNat_of_nonneg (Int.tmod_nonneg _ ni)).symm⟩
   rw[hJ,Int.toNat_natCast] at a7
   have eJ:(flA (walkL x.p x.ps (ns.take i))).getD J []=[(a:Int),b,u]:=by
    have:=a5
    unfold pickF at this
    rwa [hJ,Int.toNat_natCast] at this
   obtain⟨n0,off0,x0,ix0,rd0,i0⟩:=r.rows.row (i:=J) a7
   rw[eJ] at i0
   obtain⟨m0,o0,jx0,jr0⟩:=i0.cell (j:=0) (by simp)
   obtain⟨m1,o1',jx1,jr1⟩:=i0.cell (j:=1) (by simp)
   obtain⟨m2,o2,jx2,jr2⟩:=i0.cell (j:=2) (by simp)
   obtain⟨nn',off',ixn,rdn'⟩:=(hw.pre (P3.trans (pp.trans p6))).cell hi
   have ixn:=ixn .i64
   have jx0:ixsV 1 x0 (I64 0)=_:=jx0 .i64
   have jx1:ixsV 1 x0 (I64 1)=_:=jx1 .i64
   have jx2:ixsV 1 x0 (I64 2)=_:=jx2 .i64
   have jr0:AH.rd1 H6 m0 o0=some (I64 a):=jr0
   have jr1:AH.rd1 H6 m1 o1'=some (I64 b):=jr1
   have jr2:AH.rd1 H6 m2 o2=some (I64 u):=jr2
   ((try simp (maxSteps:=3000000) (dsimp:=false) (disch:=first|omega|simp only[lnx];omega) only[↓ypre,ypost,↓reduceIte,reduceEqDiff,reduceAdd,reduceSub,reduceLeDiff,zz0,ynew,f1,f2,f4,f7,f8,fl,decide_eq_false (show ¬ ((flA (walkL x.p x.ps (ns.take i))).length:Int)=0 by omega),ixn,rdn',bin_rem (show ((flA (walkL x.p x.ps (ns.take i))).length:Int)≠0 by omega),hJ,ix0 .i64,rd0,jx0,jr0,jx1,jr1,jx2,jr2,rdn_of g76]);try simp only[yback])
   refine s_l03Flip (x:=wps x (walkL x.p x.ps (ns.take i))) (s:=1) (pc.pre p6) (by have:=(isX_sz gc.ok).2;omega) zp a1 a2 a4 (by omega) fun w' H7 p7 kn7=>?_
   have g77:=pre_get p7 g76
   have l77:=get_lt g77
   have q67:=pre_len p7
   have l76:=get_lt g76
   have qq:=pre_len (pp.trans p6)
   ((try simp (maxSteps:=3000000) (dsimp:=false) (disch:=first|omega|simp only[lnx];omega) only[↓ypre,ypost,↓reduceIte,reduceEqDiff,reduceAdd,reduceSub,reduceLeDiff,zz0,ynew,f1,f2,f4,f7,f8,schV,kn7.now.one,wr_of g77,splice_eq,wrap64_in]);try simp only[yback])
   refine InvQ_go (ns.length-(i+1)) (by omega) ⟨(i+1),w',rfl,by omega,(by first|rfl|exact f1|(simp only[upd_apply];rfl)|(show I64 _=_;congr 1;omega)),(by first|rfl|exact f2|(simp only[upd_apply];rfl)|(show I64 _=_;congr 1;omega)),(by first|rfl|exact f4|(simp only[upd_apply];rfl)|(show I64 _=_;congr 1;omega)),(by first|rfl|exact f7|(simp only[upd_apply];rfl)|(show I64 _=_;congr 1;omega)),(by first|rfl|exact f8|(simp only[upd_apply];rfl)|(show I64 _=_;congr 1;omega)),(pre_put (pp.trans (p6.trans p7)) (by have:=pre_len p4;omega)),⟨_,get_put_same l77⟩,(by rw[walk_succ hi,step_of h0 a5];exact (KX.of kn7 (by omega) (by omega)).put (.inr rfl))⟩
 ·have ei:i=ns.length:=by omega
  subst ei
  rw[List.take_length] at fin
  ((try simp (maxSteps:=3000000) (dsimp:=false) (disch:=first|omega|simp only[lnx];omega) only[↓ypre,ypost,↓reduceIte,reduceEqDiff,reduceAdd,reduceSub,reduceLeDiff,zz0,ynew,f1,f2,f4,f7,f8,wl,decide_eq_false hlt,rdn_of g7,wr_of g2K,splice_eq,rdn_put_same,oc]);try simp only[yback])
  exact fin rfl
theorem i_WalkFlips {x:Sch} {v w:Value} {ns:List Int} {h:AH} {Q:Value→AH→Prop} (hv:Prods h v x.ps) (nk:NK v) (hl:SmallX x.ps) (hw:Ints h w ns) (hn:(ns.length:Int)≤1048576)
  (hQ:∀ w' h',h<+:h'→KN h.length h' (fun h2=>Prods h2 w' (wkR x ns).1.ps)→NK w'→Q (.tuple #[schV (wkR x ns).1 w',I64 (wkR x ns).2]) h'):WF S 15 [schV x v,w] h Q:=by
 refine WF_fn (fn:=c15) rfl rfl ?_
 dsimp only[c15,oO,oM,oS,oG,oK,oE,oL,oF,oX,oN]
 have o1:=hv.one
 have wl:=hw.len
 have nz:NK (.slice none 0 0):=.inl rfl
 ((try simp (maxSteps:=3000000) (dsimp:=false) (disch:=first|omega|simp only[lnx];omega) only[↓ypre,ypost,↓reduceIte,reduceEqDiff,reduceAdd,reduceSub,reduceLeDiff,zz0,ynew,schV,o1]);try simp only[yback])
 generalize hH1:AH.new h _=H1
 obtain⟨hb1,p1,n1⟩:=new_facts hH1
 generalize hH2:AH.new H1 _=H2
 obtain⟨hb2,p2,n2⟩:=new_facts hH2
 have g1:=pre_get p2 hb1
 ((try simp (maxSteps:=3000000) (dsimp:=false) (disch:=first|omega|simp only[lnx];omega) only[↓ypre,ypost,↓reduceIte,reduceEqDiff,reduceAdd,reduceSub,reduceLeDiff,zz0,ynew,rdn_of g1]);try simp only[yback])
 refine i_IsScheme (x:=x) (hv.pre (p1.trans p2)) hl fun H3 p3=>?_
 have g1:=pre_get p3 g1
 have g2:=pre_get p3 hb2
 have l2:=get_lt g2
 have P3:=p1.trans (p2.trans p3)
 have q3:=pre_len p3
 unfold wkR at hQ
 cases hx:isX x with
 | false=>
  rw[hx] at hQ
  ((try simp (maxSteps:=3000000) (dsimp:=false) (disch:=first|omega|simp only[lnx];omega) only[↓ypre,ypost,↓reduceIte,reduceEqDiff,reduceAdd,reduceSub,reduceLeDiff,zz0,ynew,fillL,wr_of g2,splice_eq,rdn_put_same]);try simp only[yback])
  exact hQ _ _ (pre_put P3 (by omega)) zeroS_kn nz
 | true=>
 rw[hx] at hQ
 simp only[if_true] at hQ
 by_cases c1:(ns.length:Int)>200
 ·have e:wkOk ns=false:=by unfold wkOk;rw[decide_eq_false (show ¬ ns.length≤200 by omega)];rfl
  rw[e] at hQ
  ((try simp (maxSteps:=3000000) (dsimp:=false) (disch:=first|omega|simp only[lnx];omega) only[↓ypre,ypost,↓reduceIte,reduceEqDiff,reduceAdd,reduceSub,reduceLeDiff,zz0,ynew,wl,decide_eq_true c1,fillL,wr_of g2,splice_eq,rdn_put_same]);try simp only[yback])
  exact hQ _ _ (pre_put P3 (by omega)) zeroS_kn nz
 ((try simp (maxSteps:=3000000) (dsimp:=false) (disch:=first|omega|simp only[lnx];omega) only[↓ypre,ypost,↓reduceIte,reduceEqDiff,reduceAdd,reduceSub,reduceLeDiff,zz0,ynew,wl,decide_eq_false c1]);try simp only[yback])
 refine WC_loop_inv (fun m f K1=>∃ (i:Nat),m=ns.length-i∧i≤ns.length∧f 1=w∧f 2=.pointer (some ⟨h.length,0,none⟩)∧f 4=.pointer (some ⟨H1.length,0,none⟩)∧f 20=w∧f 21=I64 ns.length∧f 22=I64 i∧K1=H3∧((∀ j,j<i→0≤ns.getD j 0))) ?_ (ns.length-0) _ _ ⟨0,rfl,by omega,(by first|rfl|simp[upd_apply]),(by first|rfl|simp[upd_apply]),(by first|rfl|simp[upd_apply]),(by first|rfl|simp[upd_apply]),(by first|rfl|simp[upd_apply]),(by first|rfl|simp[upd_apply]),rfl,(fun _ h=>absurd h (Nat.not_lt_zero _))⟩
 rintro m f K1 ⟨i,rfl,hi,f1,f2,f4,f20,f21,f22,rfl,al⟩
 by_cases hlt:(i:Int)<ns.length
 ·have hi:i<ns.length:=by omega
  obtain⟨nn,off,ix,rd⟩:=(hw.pre P3).cell hi
  have ix:=ix .i64
  by_cases c2:ns.getD i 0<0
  ·have e:wkOk ns=false:=by
    unfold wkOk
    rw[Bool.and_eq_false_iff]
    right
    rw[List.all_eq_false]
    refine⟨ns[i],List.getElem_mem hi,?_⟩
    rw[List.getD_eq_getElem?_getD,List.getElem?_eq_getElem hi,Option.getD_some] at c2
    rw[decide_eq_false (by omega)]
    decide
   rw[e] at hQ
   ((try simp (maxSteps:=3000000) (dsimp:=false) (disch:=first|omega|simp only[lnx];omega) only[↓ypre,ypost,↓reduceIte,reduceEqDiff,reduceAdd,reduceSub,reduceLeDiff,zz0,ynew,f1,f2,f4,f20,f21,f22,decide_eq_true hlt,ix,rd,decide_eq_true c2,fillL,wr_of g2,splice_eq,rdn_put_same]);try simp only[yback])
   exact hQ _ _ (pre_put P3 (by omega)) zeroS_kn nz
  ·((try simp (maxSteps:=3000000) (dsimp:=false) (disch:=first|omega|simp only[lnx];omega) only[↓ypre,ypost,↓reduceIte,reduceEqDiff,reduceAdd,reduceSub,reduceLeDiff,zz0,ynew,f1,f2,f4,f20,f21,f22,decide_eq_true hlt,ix,rd,decide_eq_false c2,wrap64_in]);try simp only[yback])
   refine InvQ_go (ns.length-(i+1)) (by omega) ⟨(i+1),rfl,by omega,(by first|rfl|exact f1|(simp only[upd_apply];rfl)|(show I64 _=_;congr 1;omega)),(by first|rfl|exact f2|(simp only[upd_apply];rfl)|(show I64 _=_;congr 1;omega)),(by first|rfl|exact f4|(simp only[upd_apply];rfl)|(show I64 _=_;congr 1;omega)),(by first|rfl|exact f20|(simp only[upd_apply];rfl)|(show I64 _=_;congr 1;omega)),(by first|rfl|exact f21|(simp only[upd_apply];rfl)|(show I64 _=_;congr 1;omega)),(by first|rfl|exact f22|(simp only[upd_apply];rfl)|(show I64 _=_;congr 1;omega)),rfl,(fun j hj=>by rcases Nat.lt_succ_iff_lt_or_eq.1 hj with h1|rfl;exact al j h1;omega)⟩
 have ei:i=ns.length:=by omega
 subst ei
 have nn:∀ n∈ns,0≤n:=fun n hn=>by
  obtain⟨j,hj,rfl⟩:=List.getElem_of_mem hn
  have:=al j hj
  rwa [List.getD_eq_getElem?_getD,List.getElem?_eq_getElem hj,Option.getD_some] at this
 have e:wkOk ns=true:=by
  unfold wkOk
  rw[decide_eq_true (show ns.length≤200 by omega),List.all_eq_true.2 fun n hn=>decide_eq_true (nn n hn)]
  rfl
 rw[e] at hQ
 simp only[if_true] at hQ
 have g:=GX.of' hv hx
 have zp:=(isX_sz hx).1.p
 have h30:=(isX_sz hx).2
 ((try simp (maxSteps:=3000000) (dsimp:=false) (disch:=first|omega|simp only[lnx];omega) only[↓ypre,ypost,↓reduceIte,reduceEqDiff,reduceAdd,reduceSub,reduceLeDiff,zz0,ynew,f1,f2,f4,f20,f21,f22,decide_eq_false hlt,rd1_of g1,rdn_of g1]);try simp only[yback])
 refine i_CloneP ((hv.pre P3).1) nk (by omega) fun w0 H4 p4 on=>⟨?_,?_⟩
 ·simp only[List.map_cons,List.map_nil,ev_tmp,updo_some,upd_apply,Nat.reduceEqDiff,↓reduceIte,f2]
  exact KpU_one (m:=h.length+1) (Kp.of p4) (by show h.length≠h.length+1;omega)
 have kn0:=on.kN hv.2 (Nat.le_refl _)
 ((try simp (maxSteps:=3000000) (dsimp:=false) (disch:=first|omega|simp only[lnx];omega) only[↓ypre,ypost,↓reduceIte,reduceEqDiff,reduceAdd,reduceSub,reduceLeDiff,zz0,ynew,f1,f2,f4,f20,f21,f22]);try simp only[yback])
 refine i_with (x:=x) (L:=x.ps) (v:=v) o1 on.nk.one on.nk.cells fun H5 p5=>?_
 have g1:=pre_get (p4.trans p5) g1
 have g2:=pre_get (p4.trans p5) g2
 have q4:=pre_len p4
 have q5:=pre_len p5
 have l1:=get_lt g1
 ((try simp (maxSteps:=3000000) (dsimp:=false) (disch:=first|omega|simp only[lnx];omega) only[↓ypre,ypost,↓reduceIte,reduceEqDiff,reduceAdd,reduceSub,reduceLeDiff,zz0,ynew,f1,f2,f4,f20,f21,f22,schV,on.nk.one,wr_of g1,splice_eq,wl]);try simp only[yback])
 generalize hH6:AH.put H5 _ _=H6
 have b1:H6.get h.length=some ⟨[I64 x.p,I64 x.n,I64 x.m,I64 x.k,w0],26,false,true⟩:=by rw[←hH6];exact get_put_same l1
 have P6:h<+:H6:=by rw[←hH6];exact pre_put (P3.trans (p4.trans p5)) (Nat.le_refl _)
 have r2:AH.get H6 H1.length=some ⟨_,_,false,true⟩:=(show AH.get H6 H1.length=AH.get H5 H1.length by rw[←hH6];exact get_put_ne (by omega)).trans g2
 have kx:KX H2.length h.length H6 fun h2=>Prods h2 w0 (walkL x.p x.ps (ns.take 0)):=by rw[←hH6];exact (KX.of (kn0.pre p5) (by omega) q3).put (.inr rfl)
 refine WC_loop_inv (fun m f K2=>∃ (i:Nat) (vv:Value),m=ns.length-i∧i≤ns.length∧f 2=.pointer (some ⟨h.length,0,none⟩)∧f 4=.pointer (some ⟨H1.length,0,none⟩)∧f 35=w∧f 36=I64 ns.length∧f 37=I64 i∧(h<+:K2)∧(OwnB K2 h.length [I64 x.p,I64 x.n,I64 x.m,I64 x.k,vv] true)∧(OwnB K2 H1.length [I64 0,I64 0,I64 0,I64 0,.slice none 0 0] true)∧(H2.length≤K2.length)∧(KX H2.length h.length K2 (fun h2=>Prods h2 vv (walkL x.p x.ps (ns.take i))))∧(NK vv)) ?_ (ns.length-0) _ _ ⟨0,w0,rfl,by omega,(by first|rfl|exact f2|(simp[upd_apply];done)),(by first|rfl|exact f4|(simp[upd_apply];done)),(by first|rfl|simp[upd_apply]),(by first|rfl|simp[upd_apply]),(by first|rfl|simp[upd_apply]),P6,⟨_,b1⟩,⟨_,r2⟩,(by rw[←hH6,len_put];omega),kx,on.nk⟩
 rintro m f K2 ⟨i,vv,rfl,hi,f2,f4,f35,f36,f37,pp,b1,r2,lK,kx,kv⟩
 obtain⟨e7,b1⟩:=b1
 obtain⟨e8,r2⟩:=r2
 have l7:=get_lt b1
 have l8:=get_lt r2
 obtain⟨gc,ec⟩:=walk_ok g (take_mem nn i)
 have pc:=kx.now
 have oc:isOne vv=true:=pc.one
 by_cases hlt:(i:Int)<ns.length
 ·have hi:i<ns.length:=by omega
  obtain⟨nn',off',ixn,rdn'⟩:=(hw.pre pp).cell hi
  have ixn:=ixn .i64
  ((try simp (maxSteps:=3000000) (dsimp:=false) (disch:=first|omega|simp only[lnx];omega) only[↓ypre,ypost,↓reduceIte,reduceEqDiff,reduceAdd,reduceSub,reduceLeDiff,zz0,ynew,f2,f4,f35,f36,f37,decide_eq_true hlt,ixn,rdn',rdn_of b1]);try simp only[yback])
  refine i_flips (x:=wps x (walkL x.p x.ps (ns.take i))) pc (isX_sz gc.ok).2 fun kb fu B cs H6 p6 r=>?_
  have fl:lenV (sl kb (flA (walkL x.p x.ps (ns.take i))).length)=some (I64 ((flA (walkL x.p x.ps (ns.take i))).length)):=rfl
  have g76:=pre_get p6 b1
  have g86:=pre_get p6 r2
  by_cases h0:flA (walkL x.p x.ps (ns.take i))=[]
  ·have e0:¬ ((flA (walkL x.p x.ps (ns.take i))).length:Int)>0:=by rw[h0];simp
   have es:walkL x.p x.ps (ns.take (i+1))=walkL x.p x.ps (ns.take i):=by rw[walk_succ hi];exact if_pos h0
   ((try simp (maxSteps:=3000000) (dsimp:=false) (disch:=first|omega|simp only[lnx];omega) only[↓ypre,ypost,↓reduceIte,reduceEqDiff,reduceAdd,reduceSub,reduceLeDiff,zz0,ynew,f2,f4,f35,f36,f37,fl,decide_eq_false e0,wrap64_in]);try simp only[yback])
   refine InvQ_go (ns.length-(i+1)) (by omega) ⟨(i+1),vv,rfl,by omega,(by first|rfl|exact f2|(simp only[upd_apply];rfl)|(show I64 _=_;congr 1;omega)),(by first|rfl|exact f4|(simp only[upd_apply];rfl)|(show I64 _=_;congr 1;omega)),(by first|rfl|exact f35|(simp only[upd_apply];rfl)|(show I64 _=_;congr 1;omega)),(by first|rfl|exact f36|(simp only[upd_apply];rfl)|(show I64 _=_;congr 1;omega)),(by first|rfl|exact f37|(simp only[upd_apply];rfl)|(show I64 _=_;congr 1;omega)),(pp.trans p6),⟨_,g76⟩,⟨_,g86⟩,(Nat.le_trans lK (pre_len p6)),(by rw[es];exact kx.pre p6),kv⟩
  ·have hlen:0<(flA (walkL x.p x.ps (ns.take i))).length:=List.length_pos_iff.2 h0
   have ni:0≤ns.getD i 0:=al i hi
   obtain⟨a,b,u,a1,a2,a3,a4,a5,a6,a7⟩:=pickF_of ni h0
   obtain⟨J,hJ⟩:∃ J:Nat,(ns.getD i 0).tmod ((flA (walkL x.p x.ps (ns.take i))).length:Int)=J:=⟨_,(Int.toNat_of_nonneg (Int.tmod_nonneg _ ni)).symm⟩
   rw[hJ,Int.toNat_natCast] at a7
   have eJ:(flA (walkL x.p x.ps (ns.take i))).getD J []=[(a:Int),b,u]:=by
    have:=a5
    unfold pickF at this
    rwa [hJ,Int.toNat_natCast] at this
   obtain⟨n0,off0,x0,ix0,rd0,i0⟩:=r.rows.row (i:=J) a7
   rw[eJ] at i0
   obtain⟨m0,o0,jx0,jr0⟩:=i0.cell (j:=0) (by simp)
   obtain⟨m1,o1',jx1,jr1⟩:=i0.cell (j:=1) (by simp)
   obtain⟨m2,o2,jx2,jr2⟩:=i0.cell (j:=2) (by simp)
   have jx0:ixsV 1 x0 (I64 0)=_:=jx0 .i64
   have jx1:ixsV 1 x0 (I64 1)=_:=jx1 .i64
   have jx2:ixsV 1 x0 (I64 2)=_:=jx2 .i64
   have jr0:AH.rd1 H6 m0 o0=some (I64 a):=jr0
   have jr1:AH.rd1 H6 m1 o1'=some (I64 b):=jr1
   have jr2:AH.rd1 H6 m2 o2=some (I64 u):=jr2
   ((try simp (maxSteps:=3000000) (dsimp:=false) (disch:=first|omega|simp only[lnx];omega) only[↓ypre,ypost,↓reduceIte,reduceEqDiff,reduceAdd,reduceSub,reduceLeDiff,zz0,ynew,f2,f4,f35,f36,f37,fl,decide_eq_true (show ((flA (walkL x.p x.ps (ns.take i))).length:Int)>0 by omega),bin_rem (show ((flA (walkL x.p x.ps (ns.take i))).length:Int)≠0 by omega),hJ,ix0 .i64,rd0,jx0,jr0,jx1,jr1,jx2,jr2,rdn_of g76]);try simp only[yback])
   refine i_flip (x:=wps x (walkL x.p x.ps (ns.take i))) (s:=1) (pc.pre p6) kv (by have:=(isX_sz gc.ok).2;omega) zp a1 a2 a4 (by show 1≤1∧1≤x.p;omega) fun w' H7 p7 kn7 nk7=>?_
   have g77:=pre_get p7 g76
   have g87:=pre_get p7 g86
   have l77:=get_lt g77
   have q67:=pre_len p7
   have l76:=get_lt g76
   have qq:=pre_len p6
   ((try simp (maxSteps:=3000000) (dsimp:=false) (disch:=first|omega|simp only[lnx];omega) only[↓ypre,ypost,↓reduceIte,reduceEqDiff,reduceAdd,reduceSub,reduceLeDiff,zz0,ynew,f2,f4,f35,f36,f37,schV,kn7.now.one,wr_of g77,splice_eq,wrap64_in]);try simp only[yback])
   refine InvQ_go (ns.length-(i+1)) (by omega) ⟨(i+1),w',rfl,by omega,(by first|rfl|exact f2|(simp only[upd_apply];rfl)|(show I64 _=_;congr 1;omega)),(by first|rfl|exact f4|(simp only[upd_apply];rfl)|(show I64 _=_;congr 1;omega)),(by first|rfl|exact f35|(simp only[upd_apply];rfl)|(show I64 _=_;congr 1;omega)),(by first|rfl|exact f36|(simp only[upd_apply];rfl)|(show I64 _=_;congr 1;omega)),(by first|rfl|exact f37|(simp only[upd_apply];rfl)|(show I64 _=_;congr 1;omega)),(pre_put (pp.trans (p6.trans p7)) (Nat.le_refl _)),⟨_,get_put_same l77⟩,⟨_,by rw[get_put_ne (by omega)];exact g87⟩,(by rw[len_put];omega),(by rw[walk_succ hi,step_of h0 a5];exact (KX.of kn7 (by omega) (by omega)).put (.inr rfl)),nk7⟩
 ·have ei:i=ns.length:=by omega
  subst ei
  rw[List.take_length] at kx
  ((try simp (maxSteps:=3000000) (dsimp:=false) (disch:=first|omega|simp only[lnx];omega) only[↓ypre,ypost,↓reduceIte,reduceEqDiff,reduceAdd,reduceSub,reduceLeDiff,zz0,ynew,f2,f4,f35,f36,f37,decide_eq_false hlt,rdn_of b1,wr_of r2,splice_eq,rdn_put_same,oc]);try simp only[yback])
  exact hQ vv _ (pre_put pp (by omega)) ((KX.kN (kx.put (.inl (by omega)))).mono (by omega)) kv
end Go.Proofs.Ytapafdpnmakekaa.X

set_option linter.unusedVariables false
set_option linter.unusedSimpArgs false
set_option maxRecDepth 20000
set_option maxHeartbeats 4000000
namespace Go.Proofs.Ytapafdpnmakekaa.X
open Go Go.RowKit
structure Fm (p:Int) (f:List Int):Prop where
 len:f.length=9
 n:∀ a∈f,0≤a∧a<p
section
variable {p k t:Int} {f g q r:List Int}
theorem Fm.of (h:By 9 f) (hn:∀ j,j<9→f.getD j 0<p):Fm p f:=⟨h.1,fun a ha=>by
 obtain⟨i,hi,rfl⟩:=List.getElem_of_mem ha
 have h1:=(h.2 i (by have:=h.1;omega)).1
 have h2:=hn i (by have:=h.1;omega)
 rw[List.getD_eq_getElem?_getD,List.getElem?_eq_getElem hi,Option.getD_some] at h1 h2
 exact⟨h1,h2⟩⟩
theorem Fm.at (h:Fm p f) {j:Nat} (hj:j<9):0≤f.getD j 0∧f.getD j 0<p:=by
 rw[List.getD_eq_getElem?_getD,List.getElem?_eq_getElem (by rw[h.len];exact hj),Option.getD_some]
 exact h.n _ (List.getElem_mem _)
theorem Fm.by (h:Fm p f) (hp:p≤5):By 9 f:=⟨h.len,fun j hj=>by have:=h.at hj;omega⟩
def scF (p:Int) (f:List Int) (k:Int):List Int:=addF p z9 f k 9
theorem z9_at {j:Nat}:z9.getD j 0=0:=isZ_at (q:=z9) rfl
structure Pr (p:Int) (q:List Int):Prop where
 bb:By 27 q
 f:∀ j,j<3→Fm p (seg q j)
 z:∀ j,j<3→isZ (seg q j)=false
theorem hasZ_iff:hasZ q=false↔∀ j,j<3→isZ (seg q j)=false:=by
 unfold hasZ
 simp only[Bool.or_eq_false_iff]
 constructor
 ·rintro⟨⟨h0,h1⟩,h2⟩ j hj
  have:j=0∨j=1∨j=2:=by omega
  rcases this with rfl|rfl|rfl
  ·exact h0
  ·exact h1
  ·exact h2
 ·intro h
  exact⟨⟨h 0 (by omega),h 1 (by omega)⟩,h 2 (by omega)⟩
theorem Pr.of {x:Sch} (hb:By 27 q) (h:okProd x q=true):Pr x.p q:=by
 obtain⟨h1,h2⟩:=okProd_iff.1 h
 exact⟨hb,fun j hj=>Fm.of (seg_by hb hj) fun i hi=>(okForm_gt (h1 j hj) hi).1,hasZ_iff.1 h2⟩
theorem scF_len:(scF p f k).length=9:=addF_len rfl (Nat.le_refl _)
end
end Go.Proofs.Ytapafdpnmakekaa.X

set_option linter.unusedVariables false
set_option linter.unusedSimpArgs false
set_option maxRecDepth 20000
set_option maxHeartbeats 4000000
namespace Go.Proofs.Ytapafdpnmakekaa.X
open Go Go.RowKit
open Nat (reduceEqDiff reduceAdd reduceSub reduceLeDiff)
theorem z9_by:By 9 z9:=⟨rfl,fun j _=>by rw[z9_at];omega⟩
theorem zeros9z:([.int .u8 0,.int .u8 0,.int .u8 0,.int .u8 0,.int .u8 0,.int .u8 0,.int .u8 0,.int .u8 0,.int .u8 0]:List Value)=cel .u8 z9:=rfl
theorem sp9q {q:List Int} (hq:q.length=9):splice (cel .u8 (List.replicate 9 0)) 0 (cel .u8 q)=cel .u8 q:=by
 rw[cel_splice]
 simp[hq]
theorem s_l01Scale {p k:Int} {q:List Int} {h:AH} {Q:Value→AH→Prop} (hp:2≤p∧p≤5) (hq:By 9 q) (hk:-1000≤k∧k≤1000) (hQ:∀ h',h<+:h'→Q (aggV .u8 (scF p q k)) h'):WF S 267 [I64 p,aggV .u8 q,I64 k] h Q:=by
 refine WF_fn (fn:=c267) rfl rfl ?_
 dsimp only[c267,oO,oM,oS,oG,oK,oE,oL,oF,oX,oN]
 have q9:=hq.1
 have tq:(cel .u8 q).take 9=cel .u8 q:=List.take_of_length_le (by rw[cel_len,q9];exact Nat.le_refl _)
 ((try simp (maxSteps:=3000000) (dsimp:=false) (disch:=first|omega|simp only[lnx];omega) only[↓ypre,ypost,↓reduceIte,reduceEqDiff,reduceAdd,reduceSub,reduceLeDiff,zz0,ynew,aggV,cellsL_cel,cel_all]);try simp only[yback])
 generalize hH1:AH.new h _=H1
 obtain⟨hb1,p1,n1⟩:=new_facts hH1
 generalize hH2:AH.new H1 _=H2
 obtain⟨hb2,p2,n2⟩:=new_facts hH2
 have g1:=pre_get p2 hb1
 ((try simp (maxSteps:=3000000) (dsimp:=false) (disch:=first|omega|simp only[lnx];omega) only[↓ypre,ypost,↓reduceIte,reduceEqDiff,reduceAdd,reduceSub,reduceLeDiff,zz0,ynew,fillL,zeros9z,cel_all,rdn_of g1,cel_len,q9,tq]);try simp only[yback])
 refine s_l01Add (a:=z9) (b:=q) hp z9_by hq hk fun H3 p3=>?_
 have g2:=pre_get p3 hb2
 have l2:=get_lt g2
 have sl:(scF p q k).length=9:=scF_len
 have e:addF p z9 q k 9=scF p q k:=rfl
 have w9:=wr_full (vs:=cel .u8 (scF p q k)) g2 (by rw[cel_len,sl];rfl)
 have ts:(cel .u8 (scF p q k)).take 9=cel .u8 (scF p q k):=List.take_of_length_le (by rw[cel_len,sl];exact Nat.le_refl _)
 rw[e]
 ((try simp (maxSteps:=3000000) (dsimp:=false) (disch:=first|omega|simp only[lnx];omega) only[↓ypre,ypost,↓reduceIte,reduceEqDiff,reduceAdd,reduceSub,reduceLeDiff,zz0,ynew,aggV,cellsL_cel,cel_len,sl,cel_all,w9,rdn_put_same,ts]);try simp only[yback])
 exact hQ _ (pre_put (p1.trans (p2.trans p3)) (by omega))
theorem scF_by {p k:Int} {q:List Int} (hp:2≤p∧p≤5):By 9 (scF p q k):=addF_by hp z9_by (Nat.le_refl _)
theorem s_l03Draw {h0 h:AH} {n:Nat} {Q:Value→AH→Prop} (s:Src h0 h n)
  (hQ:∀ (x:Sch) (v:Value) (h':AH),Kp n h h'→Src h0 h' n→SchD h.length h' v x→SchB x→NK v→Q (schV x v) h'):WF S 146 [srcP n] h Q:=by
 refine WF_fn (fn:=c146) rfl rfl ?_
 dsimp only[c146,oO,oM,oS,oG,oK,oE,oL,oF,oX,oN]
 have lt:=s.lt
 have l0:=pre_len s.p
 ((try simp (maxSteps:=3000000) (dsimp:=false) (disch:=first|omega|simp only[lnx];omega) only[↓ypre,ypost,↓reduceIte,reduceEqDiff,reduceAdd,reduceSub,reduceLeDiff,zz0,ynew]);try simp only[yback])
 generalize hH1:AH.new h _=H1
 obtain⟨hb1,p1,n1⟩:=new_facts hH1
 refine s_l01Draw (s.kp p1) fun x v H2 k2 s2 sd hx nk=>?_
 have g1:=k2.get (by omega) hb1
 have xb:=isX_SchB hx sd.now
 have k2l:=k2.len
 have o1:isOne v=true:=sd.now.one
 have zp:=(isX_sz hx).1.p
 have h30:=(isX_sz hx).2
 ((try simp (maxSteps:=3000000) (dsimp:=false) (disch:=first|omega|simp only[lnx];omega) only[↓ypre,ypost,↓reduceIte,reduceEqDiff,reduceAdd,reduceSub,reduceLeDiff,zz0,ynew,schV,o1]);try simp only[yback])
 generalize hH3:AH.new H2 _=H3
 obtain⟨hb3,p3,n3⟩:=new_facts hH3
 have s3:=s2.kp p3
 have k3:Kp n h H3:=((Kp.of p1).trans k2).trans (Kp.of p3)
 have g1:=pre_get p3 g1
 have sd3:SchD H1.length H3 v x:=KN.pre sd p3
 have vl:=sd3.now.1.len
 have fin:∀ (x':Sch) (v':Value) (h':AH),Kp n h h'→Src h0 h' n→SchD H1.length h' v' x'→SchB x'→NK v'→Q (schV x' v') (h'.put h.length ⟨[I64 x'.p,I64 x'.n,I64 x'.m,I64 x'.k,v'],26,false,true⟩):=fun x' v' h' kk ss sd' xb' nk'=>
  hQ x' v' _ (kk.putb (Nat.le_refl _)) (ss.putb (by omega) (by omega)) ((KN.put sd' (by omega)).mono (by omega)) xb' nk'
 by_cases c1:(x.ps.length:Int)>1
 case neg=>
  ((try simp (maxSteps:=3000000) (dsimp:=false) (disch:=first|omega|simp only[lnx];omega) only[↓ypre,ypost,↓reduceIte,reduceEqDiff,reduceAdd,reduceSub,reduceLeDiff,zz0,ynew,rd1_of hb3,rdn_of hb3,vl,decide_eq_false c1,yWG_un]);try simp only[yback])
  refine s_l01Bad (lo:=H1.length) s3 xb.1 (by omega) sd3 xb.2 nk fun x' v' H4 k4 s4 sd' xb' nk'=>?_
  have g1:=k4.get (by omega) g1
  have lg:=get_lt g1
  ((try simp (maxSteps:=3000000) (dsimp:=false) (disch:=first|omega|simp only[lnx];omega) only[↓ypre,ypost,↓reduceIte,reduceEqDiff,reduceAdd,reduceSub,reduceLeDiff,zz0,ynew,schV,nk'.one,wr_of g1,splice_eq,rdn_put_same]);try simp only[yback])
  exact fin x' v' H4 (k3.trans k4) s4 sd' xb' nk'
 ((try simp (maxSteps:=3000000) (dsimp:=false) (disch:=first|omega|simp only[lnx];omega) only[↓ypre,ypost,↓reduceIte,reduceEqDiff,reduceAdd,reduceSub,reduceLeDiff,zz0,ynew,rd1_of hb3,vl,decide_eq_true c1]);try simp only[yback])
 refine s_l01Next s3 fun r H4 k4 l4 s4 hr _=>?_
 have g1:=k4.get (by omega) g1
 have g3:=k4.get (by omega) hb3
 have sd4:SchD H1.length H4 v x:=KN.kp sd3 k4 (by omega)
 have k04:=k3.trans k4
 by_cases r0:r=0
 case neg=>
  ((try simp (maxSteps:=3000000) (dsimp:=false) (disch:=first|omega|simp only[lnx];omega) only[↓ypre,ypost,↓reduceIte,reduceEqDiff,reduceAdd,reduceSub,reduceLeDiff,zz0,ynew,decide_eq_false r0,rdn_of g3]);try simp only[yback])
  refine s_l01Bad (lo:=H1.length) s4 xb.1 (by omega) sd4 xb.2 nk fun x' v' H5 k5 s5 sd' xb' nk'=>?_
  have g1:=k5.get (by omega) g1
  have lg:=get_lt g1
  ((try simp (maxSteps:=3000000) (dsimp:=false) (disch:=first|omega|simp only[lnx];omega) only[↓ypre,ypost,↓reduceIte,reduceEqDiff,reduceAdd,reduceSub,reduceLeDiff,zz0,ynew,schV,nk'.one,wr_of g1,splice_eq,rdn_put_same]);try simp only[yback])
  exact fin x' v' H5 (k04.trans k5) s5 sd' xb' nk'
 have w27:Wid 27 x.ps:=sd4.now.1.widL
 ((try simp (maxSteps:=3000000) (dsimp:=false) (disch:=first|omega|simp only[lnx];omega) only[↓ypre,ypost,↓reduceIte,reduceEqDiff,reduceAdd,reduceSub,reduceLeDiff,zz0,ynew,decide_eq_true r0,fillL,zrep,rd1_of g3]);try simp only[yback])
 refine copy_zero sd4.now.1 (by omega) (by omega) fun H5 l5 p5 gB=>?_
 have s5:=s4.kp p5
 have g1:=pre_get p5 g1
 have g3:=pre_get p5 g3
 refine WO_cut (fun f:Fr=>f 0=srcP n∧f 2=.pointer (some ⟨h.length,0,none⟩)∧f 3=.pointer (some ⟨H2.length,0,none⟩)∧f 4=I64 x.ps.length∧f 25=.slice (some ⟨H4.length+1,0,none⟩) x.ps.length 27∧True) ⟨(by first|rfl|simp[upd_apply]),(by first|rfl|simp[upd_apply]),(by first|rfl|simp[upd_apply]),(by first|rfl|simp[upd_apply]),(by first|rfl|simp[upd_apply]),trivial⟩ ?_
 rintro f ⟨f0,f2,f3,f4,f25,-⟩
 ((try simp (maxSteps:=3000000) (dsimp:=false) (disch:=first|omega|simp only[lnx];omega) only[↓ypre,ypost,↓reduceIte,reduceEqDiff,reduceAdd,reduceSub,reduceLeDiff,zz0,ynew,f0,f2,f3,f4,f25]);try simp only[yback])
 refine s_l01Next s5 fun a H6 k6 l6 s6 ha _=>?_
 have ha:=ha (by omega)
 obtain⟨a,rfl⟩:∃ a':Nat,a=a':=⟨a.toNat,by omega⟩
 ((try simp (maxSteps:=3000000) (dsimp:=false) (disch:=first|omega|simp only[lnx];omega) only[↓ypre,ypost,↓reduceIte,reduceEqDiff,reduceAdd,reduceSub,reduceLeDiff,zz0,ynew,f0,f2,f3,f4,f25]);try simp only[yback])
 refine s_l01Next s6 fun b H7 k7 l7 s7 hb' _=>?_
 have hb':=hb' (by omega)
 obtain⟨b,rfl⟩:∃ a':Nat,b=a':=⟨b.toNat,by omega⟩
 have kA:=k6.trans k7
 have g1:=kA.get (by omega) g1
 have g3:=kA.get (by omega) g3
 have n3:=s3.lt
 have gB:=kA.get (by omega) gB
 refine WO_cut (fun f:Fr=>f 0=srcP n∧f 2=.pointer (some ⟨h.length,0,none⟩)∧f 3=.pointer (some ⟨H2.length,0,none⟩)∧f 5=.slice (some ⟨H4.length+1,0,none⟩) x.ps.length 27∧f 28=I64 a∧f 31=I64 b∧True) ⟨(by first|rfl|exact f0|simp[upd_apply,f0]),(by first|rfl|exact f2|simp[upd_apply,f2]),(by first|rfl|exact f3|simp[upd_apply,f3]),(by first|rfl|simp[upd_apply]),(by first|rfl|simp[upd_apply]),(by first|rfl|simp[upd_apply]),trivial⟩ ?_
 rintro f ⟨f0,f2,f3,f5,f28,f31,-⟩
 ((try simp (maxSteps:=3000000) (dsimp:=false) (disch:=first|omega|simp only[lnx];omega) only[↓ypre,ypost,↓reduceIte,reduceEqDiff,reduceAdd,reduceSub,reduceLeDiff,zz0,ynew,f0,f2,f3,f5,f28,f31]);try simp only[yback])
 refine WC_loop_inv (fun m f K1=>∃ (u:Nat) (L:List (List Int)),m=3-u∧u≤3∧f 0=srcP n∧f 2=.pointer (some ⟨h.length,0,none⟩)∧f 3=.pointer (some ⟨H2.length,0,none⟩)∧f 5=.slice (some ⟨H4.length+1,0,none⟩) x.ps.length 27∧f 6=I64 a∧f 7=I64 b∧f 8=I64 u∧(Kp n h K1)∧(Src h0 K1 n)∧(K1.get h.length=some ⟨_,_,false,true⟩)∧(K1.get H2.length=some ⟨_,_,false,true⟩)∧(K1.get (H4.length+1)=some ⟨cel .u8 L.flatten,138,false,false⟩)∧(Wid 27 L)∧(Byt 27 L)∧(L.length=x.ps.length)) ?_ (3-0) _ _ ⟨0,x.ps,rfl,by omega,(by first|rfl|exact f0|(simp[upd_apply];done)),(by first|rfl|exact f2|(simp[upd_apply];done)),(by first|rfl|exact f3|(simp[upd_apply];done)),(by first|rfl|exact f5|(simp[upd_apply];done)),(by first|rfl|simp[upd_apply]),(by first|rfl|simp[upd_apply]),(by first|rfl|simp[upd_apply]),(k04.trans (Kp.of p5)).trans kA,s7,g1,g3,gB,w27,sd4.now.2,rfl⟩
 rintro m f K1 ⟨u,L,rfl,hu,f0,f2,f3,f5,f6,f7,f8,kk,ss,g1,g3,gB,wL,bL,lL⟩
 by_cases hu:(u:Int)<3
 ·((try simp (maxSteps:=3000000) (dsimp:=false) (disch:=first|omega|simp only[lnx];omega) only[↓ypre,ypost,↓reduceIte,reduceEqDiff,reduceAdd,reduceSub,reduceLeDiff,zz0,ynew,f0,f2,f3,f5,f6,f7,f8,decide_eq_true hu]);try simp only[yback])
  have hu':u<3:=by omega
  have kkl:=kk.len
  refine s_l01Next ss fun r1 K2 k2' l2' s2' hr1 _=>?_
  have ltn:=ss.lt
  have g1:=k2'.get (by omega) g1
  have g3:=k2'.get (by omega) g3
  have gB:=k2'.get (by omega) gB
  have kk2:=kk.trans k2'
  have lgB2:=get_lt gB
  have lg32:=get_lt g3
  have lg12:=get_lt g1
  by_cases r1z:r1=0
  case neg=>
   ((try simp (maxSteps:=3000000) (dsimp:=false) (disch:=first|omega|simp only[lnx];omega) only[↓ypre,ypost,↓reduceIte,reduceEqDiff,reduceAdd,reduceSub,reduceLeDiff,zz0,ynew,f0,f2,f3,f5,f6,f7,f8,decide_eq_false r1z,wrap64_in]);try simp only[yback])
   refine InvQ_go (3-(u+1)) (by omega) ⟨(u+1),L,rfl,by omega,(by first|rfl|exact f0|(simp only[upd_apply];rfl)|(show I64 _=_;congr 1;omega)),(by first|rfl|exact f2|(simp only[upd_apply];rfl)|(show I64 _=_;congr 1;omega)),(by first|rfl|exact f3|(simp only[upd_apply];rfl)|(show I64 _=_;congr 1;omega)),(by first|rfl|exact f5|(simp only[upd_apply];rfl)|(show I64 _=_;congr 1;omega)),(by first|rfl|exact f6|(simp only[upd_apply];rfl)|(show I64 _=_;congr 1;omega)),(by first|rfl|exact f7|(simp only[upd_apply];rfl)|(show I64 _=_;congr 1;omega)),(by first|rfl|exact f8|(simp only[upd_apply];rfl)|(show I64 _=_;congr 1;omega)),kk2,s2',g1,g3,gB,wL,bL,lL⟩
  obtain⟨na,oa,ixa,rda⟩:=(show Els .u8 27 K2 (.slice (some ⟨H4.length+1,0,none⟩) x.ps.length 27) L from by rw[←lL];exact (blk_kN (lo:=0) gB wL (Nat.zero_le _)).now).at (i:=a) (by omega)
  have bya:=getD_byL wL bL (i:=a) (by omega)
  have ra:AH.rdn K2 na oa 27=some (cel .u8 (L.getD a [])):=by
   have:=rda.1 0 27 (by omega)
   rwa [Nat.add_zero,List.drop_zero,List.take_of_length_le (by have:=bya.1;omega)] at this
  ((try simp (maxSteps:=3000000) (dsimp:=false) (disch:=first|omega|simp only[lnx];omega) only[↓ypre,ypost,↓reduceIte,reduceEqDiff,reduceAdd,reduceSub,reduceLeDiff,zz0,ynew,f0,f2,f3,f5,f6,f7,f8,decide_eq_true r1z,ixa,ra]);try simp only[yback])
  refine s_l03Factor (q:=L.getD a []) bya hu' fun K3 p3'=>?_
  have byF0:=seg_by bya hu'
  have lF0:=byF0.1
  have kk3l:=kk2.len
  ((try simp (maxSteps:=3000000) (dsimp:=false) (disch:=first|omega|simp only[lnx];omega) only[↓ypre,ypost,↓reduceIte,reduceEqDiff,reduceAdd,reduceSub,reduceLeDiff,zz0,ynew,f0,f2,f3,f5,f6,f7,f8,aggV,cellsL_cel,cel_len,lF0,cel_all,zeros9,sp9q lF0,List.length_replicate]);try simp only[yback])
  generalize hK4:AH.new K3 _=K4
  obtain⟨gF,p4',n4'⟩:=new_facts hK4
  have P4:=p3'.trans p4'
  have g1:=pre_get P4 g1
  have g3:=pre_get P4 g3
  have gB:=pre_get P4 gB
  have s4':=s2'.kp P4
  have kk4:=kk2.trans (Kp.of P4)
  have q3:=pre_len p3'
  refine s_l01Next s4' fun r2 K5 k5' l5' s5' hr2 _=>?_
  have ln4:=s4'.lt
  have lg3:=get_lt g3
  have lgB:=get_lt gB
  have g1:=k5'.get (by omega) g1
  have g3:=k5'.get (by omega) g3
  have gB:=k5'.get (by omega) gB
  have gF:=k5'.get (by omega) gF
  have kk5:=kk4.trans k5'
  by_cases r2z:r2=0
  case neg=>
   have byF:=byF0
   have kkK:=kk5
   have ssK:=s5'
   obtain⟨nb,ob,ixb,rdb⟩:=(show Els .u8 27 K5 (.slice (some ⟨H4.length+1,0,none⟩) x.ps.length 27) L from by rw[←lL];exact (blk_kN (lo:=0) gB wL (Nat.zero_le _)).now).at (i:=b) (by omega)
   have byb:=getD_byL wL bL (i:=b) (by omega)
   have rb:AH.rdn K5 nb ob 27=some (cel .u8 (L.getD b [])):=by
    have:=rdb.1 0 27 (by omega)
    rwa [Nat.add_zero,List.drop_zero,List.take_of_length_le (by have:=byb.1;omega)] at this
   have tF:(cel .u8 (seg (L.getD a []) u)).take 9=cel .u8 (seg (L.getD a []) u):=List.take_of_length_le (by rw[cel_len,byF.1];exact Nat.le_refl _)
   have lF:=byF.1
   ((try simp (maxSteps:=3000000) (dsimp:=false) (disch:=first|omega|simp only[lnx];omega) only[↓ypre,ypost,↓reduceIte,reduceEqDiff,reduceAdd,reduceSub,reduceLeDiff,zz0,ynew,f0,f2,f3,f5,f6,f7,f8,decide_eq_false r2z,ixb,rb,rdn_of gF,cel_len,lF,tF]);try simp only[yback])
   refine s_l03With (q:=L.getD b []) (r:=seg (L.getD a []) u) byb byF (by omega) fun KZ pz=>?_
   have by3:=wth_by (f:=u) byb byF (by omega)
   have l3:=by3.1
   have sf:=splice_flat (k:=.u8) l3 wL (j:=b) (by omega)
   have fl:=flat_len wL
   have gBz:=pre_get pz gB
   have w3:AH.wr KZ (H4.length+1) (b*27) (cel .u8 (wth (L.getD b []) u (seg (L.getD a []) u)))=_:=wr_of gBz
   simp only[cel_len,l3,fl,sf] at w3
   rw[if_pos ⟨trivial,by omega⟩] at w3
   have ib:ixsV 27 (.slice (some ⟨H4.length+1,0,none⟩) x.ps.length 27) (I64 b)=some (.pointer (some ⟨H4.length+1,b*27,none⟩)):=by
    rw[ixsV_some,if_pos (by omega),Int.toNat_natCast,Nat.zero_add]
   ((try simp (maxSteps:=3000000) (dsimp:=false) (disch:=first|omega|simp only[lnx];omega) only[↓ypre,ypost,↓reduceIte,reduceEqDiff,reduceAdd,reduceSub,reduceLeDiff,zz0,ynew,f0,f2,f3,f5,f6,f7,f8,aggV,cellsL_cel,cel_all,cel_len,l3,ib,w3,wrap64_in]);try simp only[yback])
   refine InvQ_go (3-(u+1)) (by omega) ⟨(u+1),(L.set b (wth (L.getD b []) u (seg (L.getD a []) u))),rfl,by omega,(by first|rfl|exact f0|(simp only[upd_apply];rfl)|(show I64 _=_;congr 1;omega)),(by first|rfl|exact f2|(simp only[upd_apply];rfl)|(show I64 _=_;congr 1;omega)),(by first|rfl|exact f3|(simp only[upd_apply];rfl)|(show I64 _=_;congr 1;omega)),(by first|rfl|exact f5|(simp only[upd_apply];rfl)|(show I64 _=_;congr 1;omega)),(by first|rfl|exact f6|(simp only[upd_apply];rfl)|(show I64 _=_;congr 1;omega)),(by first|rfl|exact f7|(simp only[upd_apply];rfl)|(show I64 _=_;congr 1;omega)),(by first|rfl|exact f8|(simp only[upd_apply];rfl)|(show I64 _=_;congr 1;omega)),((kkK.trans (Kp.of pz)).putb (by omega)),((ssK.kp pz).putb (by omega) (by omega)),(by rw[get_put_ne (by omega)];exact pre_get pz g1),(by rw[get_put_ne (by omega)];exact pre_get pz g3),(get_put_same (get_lt gBz)),(wid_set wL l3),(byt_setq bL by3),(by rw[List.length_set];exact lL)⟩
  have tF0:(cel .u8 (seg (L.getD a []) u)).take 9=cel .u8 (seg (L.getD a []) u):=List.take_of_length_le (by rw[cel_len,lF0];exact Nat.le_refl _)
  ((try simp (maxSteps:=3000000) (dsimp:=false) (disch:=first|omega|simp only[lnx];omega) only[↓ypre,ypost,↓reduceIte,reduceEqDiff,reduceAdd,reduceSub,reduceLeDiff,zz0,ynew,f0,f2,f3,f5,f6,f7,f8,decide_eq_true r2z,rd1_of g3,rdn_of gF,cel_len,lF0,tF0,wrap64_in]);try simp only[yback])
  refine⟨⟨by omega,by omega⟩,?_⟩
  refine s_l01Next s5' fun r3 K6 k6' l6' s6' hr3 _=>?_
  have hr3:=hr3 (by omega)
  refine⟨⟨n,rfl,k6'⟩,?_⟩
  have g1:=k6'.get (by omega) g1
  have g3:=k6'.get (by omega) g3
  have gB:=k6'.get (by omega) gB
  have gF:=k6'.get (by omega) gF
  ((try simp (maxSteps:=3000000) (dsimp:=false) (disch:=first|omega|simp only[lnx];omega) only[↓ypre,ypost,↓reduceIte,reduceEqDiff,reduceAdd,reduceSub,reduceLeDiff,zz0,ynew,f0,f2,f3,f5,f6,f7,f8,wrap64_in]);try simp only[yback])
  refine s_l01Scale (q:=seg (L.getD a []) u) (k:=1+r3) zp byF0 (by omega) fun K7 p7'=>?_
  have byF:=scF_by (p:=x.p) (k:=1+r3) (q:=seg (L.getD a []) u) zp
  have gF:=pre_get p7' gF
  have wF:=wr_full (vs:=cel .u8 (scF x.p (seg (L.getD a []) u) (1+r3))) gF (by rw[cel_len,cel_len,lF0,byF.1])
  generalize hK8:AH.put K7 _ _=K8 at wF
  have lK8:K8.length=K7.length:=by rw[←hK8,len_put]
  have lgF:=get_lt gF
  have gF:AH.get K8 K3.length=some ⟨cel .u8 (scF x.p (seg (L.getD a []) u) (1+r3)),136,false,true⟩:=by rw[←hK8];exact get_put_same lgF
  have kp8:∀ m c,m≠K3.length→AH.get K7 m=some c→AH.get K8 m=some c:=fun m c hm g=>by rw[←hK8,get_put_ne (Ne.symm hm)];exact g
  have g1:=kp8 _ _ (by omega) (pre_get p7' g1)
  have g3:=kp8 _ _ (by omega) (pre_get p7' g3)
  have gB:=kp8 _ _ (by omega) (pre_get p7' gB)
  have kkK:Kp n h K8:=by rw[←hK8];exact ((kk5.trans k6').trans (Kp.of p7')).putb (by omega)
  have ssK:Src h0 K8 n:=by rw[←hK8];exact (s6'.kp p7').putb (by omega) (by omega)
  obtain⟨nb,ob,ixb,rdb⟩:=(show Els .u8 27 K8 (.slice (some ⟨H4.length+1,0,none⟩) x.ps.length 27) L from by rw[←lL];exact (blk_kN (lo:=0) gB wL (Nat.zero_le _)).now).at (i:=b) (by omega)
  have byb:=getD_byL wL bL (i:=b) (by omega)
  have rb:AH.rdn K8 nb ob 27=some (cel .u8 (L.getD b [])):=by
   have:=rdb.1 0 27 (by omega)
   rwa [Nat.add_zero,List.drop_zero,List.take_of_length_le (by have:=byb.1;omega)] at this
  have tF:(cel .u8 (scF x.p (seg (L.getD a []) u) (1+r3))).take 9=cel .u8 (scF x.p (seg (L.getD a []) u) (1+r3)):=List.take_of_length_le (by rw[cel_len,byF.1];exact Nat.le_refl _)
  have lF:=byF.1
  ((try simp (maxSteps:=3000000) (dsimp:=false) (disch:=first|omega|simp only[lnx];omega) only[↓ypre,ypost,↓reduceIte,reduceEqDiff,reduceAdd,reduceSub,reduceLeDiff,zz0,ynew,f0,f2,f3,f5,f6,f7,f8,aggV,cellsL_cel,cel_all,byF.1,wF,ixb,rb,rdn_of gF,cel_len,lF,tF]);try simp only[yback])
  refine s_l03With (q:=L.getD b []) (r:=scF x.p (seg (L.getD a []) u) (1+r3)) byb byF (by omega) fun KZ pz=>?_
  have by3:=wth_by (f:=u) byb byF (by omega)
  have l3:=by3.1
  have sf:=splice_flat (k:=.u8) l3 wL (j:=b) (by omega)
  have fl:=flat_len wL
  have gBz:=pre_get pz gB
  have w3:AH.wr KZ (H4.length+1) (b*27) (cel .u8 (wth (L.getD b []) u (scF x.p (seg (L.getD a []) u) (1+r3))))=_:=wr_of gBz
  simp only[cel_len,l3,fl,sf] at w3
  rw[if_pos ⟨trivial,by omega⟩] at w3
  have ib:ixsV 27 (.slice (some ⟨H4.length+1,0,none⟩) x.ps.length 27) (I64 b)=some (.pointer (some ⟨H4.length+1,b*27,none⟩)):=by
   rw[ixsV_some,if_pos (by omega),Int.toNat_natCast,Nat.zero_add]
  ((try simp (maxSteps:=3000000) (dsimp:=false) (disch:=first|omega|simp only[lnx];omega) only[↓ypre,ypost,↓reduceIte,reduceEqDiff,reduceAdd,reduceSub,reduceLeDiff,zz0,ynew,f0,f2,f3,f5,f6,f7,f8,aggV,cellsL_cel,cel_all,cel_len,l3,ib,w3,wrap64_in]);try simp only[yback])
  refine InvQ_go (3-(u+1)) (by omega) ⟨(u+1),(L.set b (wth (L.getD b []) u (scF x.p (seg (L.getD a []) u) (1+r3)))),rfl,by omega,(by first|rfl|exact f0|(simp only[upd_apply];rfl)|(show I64 _=_;congr 1;omega)),(by first|rfl|exact f2|(simp only[upd_apply];rfl)|(show I64 _=_;congr 1;omega)),(by first|rfl|exact f3|(simp only[upd_apply];rfl)|(show I64 _=_;congr 1;omega)),(by first|rfl|exact f5|(simp only[upd_apply];rfl)|(show I64 _=_;congr 1;omega)),(by first|rfl|exact f6|(simp only[upd_apply];rfl)|(show I64 _=_;congr 1;omega)),(by first|rfl|exact f7|(simp only[upd_apply];rfl)|(show I64 _=_;congr 1;omega)),(by first|rfl|exact f8|(simp only[upd_apply];rfl)|(show I64 _=_;congr 1;omega)),((kkK.trans (Kp.of pz)).putb (by omega)),((ssK.kp pz).putb (by omega) (by omega)),(by rw[get_put_ne (by omega)];exact pre_get pz g1),(by rw[get_put_ne (by omega)];exact pre_get pz g3),(get_put_same (get_lt gBz)),(wid_set wL l3),(byt_setq bL by3),(by rw[List.length_set];exact lL)⟩
 ·have l3E:=get_lt g3
  have l1E:=get_lt g1
  have lBE:=get_lt gB
  have kkl:=kk.len
  have sE:=ss.putb (m:=H2.length) (b:=⟨[I64 x.p,I64 x.n,I64 x.m,I64 x.k,.slice (some ⟨H4.length+1,0,none⟩) x.ps.length 27],26,false,true⟩) (by omega) (by omega)
  have kE:=kk.putb (m:=H2.length) (b:=⟨[I64 x.p,I64 x.n,I64 x.m,I64 x.k,.slice (some ⟨H4.length+1,0,none⟩) x.ps.length 27],26,false,true⟩) (by omega)
  have sdE:SchD H1.length (K1.put H2.length ⟨[I64 x.p,I64 x.n,I64 x.m,I64 x.k,.slice (some ⟨H4.length+1,0,none⟩) x.ps.length 27],26,false,true⟩) (.slice (some ⟨H4.length+1,0,none⟩) x.ps.length 27) (wps x L):=fun h2 d1 d2=>⟨by rw[←lL];exact blk_kN (lo:=H1.length) (by rw[get_put_ne (by omega)];exact gB) wL (by omega) h2 d1 d2,bL⟩
  have g1E:=(show AH.get (K1.put H2.length ⟨[I64 x.p,I64 x.n,I64 x.m,I64 x.k,.slice (some ⟨H4.length+1,0,none⟩) x.ps.length 27],26,false,true⟩) h.length=AH.get K1 h.length from get_put_ne (by omega)).trans g1
  ((try simp (maxSteps:=3000000) (dsimp:=false) (disch:=first|omega|simp only[lnx];omega) only[↓ypre,ypost,↓reduceIte,reduceEqDiff,reduceAdd,reduceSub,reduceLeDiff,zz0,ynew,f0,f2,f3,f5,f6,f7,f8,decide_eq_false hu,wr_of g3,splice_eq,rdn_put_same]);try simp only[yback])
  generalize AH.put K1 _ _=KE at *
  refine s_l01Bad (x:=wps x L) (lo:=H1.length) sE ⟨xb.1.p,xb.1.n,xb.1.m,xb.1.k,by unfold SmallX;show ((L.length:Nat):Int)≤_;rw[lL];exact xb.1.l⟩ (by have:=get_lt g1E;omega) sdE xb.2 (.inr ⟨_,_,_,rfl⟩) fun x' v' H8 k8 s8 sd' xb' nk'=>?_
  have g1:=k8.get (by omega) g1E
  have lg:=get_lt g1
  ((try simp (maxSteps:=3000000) (dsimp:=false) (disch:=first|omega|simp only[lnx];omega) only[↓ypre,ypost,↓reduceIte,reduceEqDiff,reduceAdd,reduceSub,reduceLeDiff,zz0,ynew,f0,f2,f3,f5,f6,f7,f8,schV,nk'.one,wr_of g1,splice_eq,rdn_put_same]);try simp only[yback])
  exact fin x' v' H8 (kE.trans k8) s8 sd' xb' nk'
theorem s_DrawFlipsOf {h:AH} {cv:Value} {code:List (List Int)} {Q:Value→AH→Prop} (c:Cod h cv code)
  (hQ:∀ (x:Sch) (v:Value) (h':AH),h<+:h'→Prods h' v x.ps→SchB x→NK v→Q (schV x v) h'):WF S 45 [cv] h Q:=by
 refine WF_fn (fn:=c45) rfl rfl ?_
 dsimp only[c45,oO,oM,oS,oG,oK,oE,oL,oF,oX,oN]
 ((try simp (maxSteps:=3000000) (dsimp:=false) (disch:=first|omega|simp only[lnx];omega) only[↓ypre,ypost,↓reduceIte,reduceEqDiff,reduceAdd,reduceSub,reduceLeDiff,zz0,ynew]);try simp only[yback])
 generalize hH1:AH.new h _=H1
 obtain⟨hb1,p1,n1⟩:=new_facts hH1
 refine s_l01From (c.els.pre p1) c.byt c.len fun H2 p2 l2 s2=>?_
 ((try simp (maxSteps:=3000000) (dsimp:=false) (disch:=first|omega|simp only[lnx];omega) only[↓ypre,ypost,↓reduceIte,reduceEqDiff,reduceAdd,reduceSub,reduceLeDiff,zz0,ynew]);try simp only[yback])
 refine s_l03Draw s2 fun x v H3 k3 s3 sd xb nk=>?_
 have g1:=k3.get (by omega) (pre_get p2 hb1)
 have lg:=get_lt g1
 ((try simp (maxSteps:=3000000) (dsimp:=false) (disch:=first|omega|simp only[lnx];omega) only[↓ypre,ypost,↓reduceIte,reduceEqDiff,reduceAdd,reduceSub,reduceLeDiff,zz0,ynew,schV,nk.one,wr_of g1,splice_eq,rdn_put_same]);try simp only[yback])
 exact hQ x v _ (pre_put (p1.trans s3.p) (Nat.le_refl _)) (KN.put sd (by omega)).now xb nk
theorem s_DrawWalkFlips {h:AH} {cv:Value} {code:List (List Int)} {Q:Value→AH→Prop} (c:Cod h cv code)
  (hQ:∀ (x:Sch) (v w:Value) (ns:List Int) (h':AH),h<+:h'→Prods h' v x.ps→SchB x→NK v→Ints h' w ns→ns.length≤1000→Q (.tuple #[schV x v,w]) h'):WF S 14 [cv] h Q:=by
 refine WF_fn (fn:=c14) rfl rfl ?_
 dsimp only[c14,oO,oM,oS,oG,oK,oE,oL,oF,oX,oN]
 ((try simp (maxSteps:=3000000) (dsimp:=false) (disch:=first|omega|simp only[lnx];omega) only[↓ypre,ypost,↓reduceIte,reduceEqDiff,reduceAdd,reduceSub,reduceLeDiff,zz0,ynew]);try simp only[yback])
 generalize hH1:AH.new h _=H1
 obtain⟨hb1,p1,n1⟩:=new_facts hH1
 refine s_l01From (c.els.pre p1) c.byt c.len fun H2 p2 l2 s2=>?_
 ((try simp (maxSteps:=3000000) (dsimp:=false) (disch:=first|omega|simp only[lnx];omega) only[↓ypre,ypost,↓reduceIte,reduceEqDiff,reduceAdd,reduceSub,reduceLeDiff,zz0,ynew]);try simp only[yback])
 refine s_l03Draw s2 fun x v H3 k3 s3 sd xb nk=>?_
 have g1:=k3.get (by omega) (pre_get p2 hb1)
 have k3l:=k3.len
 ((try simp (maxSteps:=3000000) (dsimp:=false) (disch:=first|omega|simp only[lnx];omega) only[↓ypre,ypost,↓reduceIte,reduceEqDiff,reduceAdd,reduceSub,reduceLeDiff,zz0,ynew,schV,nk.one,fillL,zrep]);try simp only[yback])
 generalize hH4:AH.new H3 _=H4
 obtain⟨g4,p4,n4⟩:=new_facts hH4
 generalize hH5:AH.new H4 _=H5
 obtain⟨g5,p5,n5⟩:=new_facts hH5
 have P5:=p4.trans p5
 have g1:=pre_get P5 g1
 have g4:=pre_get p5 g4
 have s5:=s3.kp P5
 have sd5:SchD H2.length H5 v x:=KN.pre sd P5
 have sl4:=s3.lt
 refine s_l01Next s5 fun r H6 k6 l6 s6 hr _=>?_
 have hr:=hr (by omega)
 have g1:=k6.get (by omega) g1
 have g4:=k6.get (by omega) g4
 have g5:=k6.get (by omega) g5
 refine WO_cut (fun f:Fr=>f 2=.pointer (some ⟨h.length,0,none⟩)∧f 4=srcP H1.length∧f 5=.pointer (some ⟨H4.length,0,none⟩)∧f 6=sl H3.length 0∧f 13=srcP H1.length∧f 15=I64 r∧True) ⟨(by first|rfl|simp[upd_apply]),(by first|rfl|simp[upd_apply]),(by first|rfl|simp[upd_apply]),(by first|rfl|simp[upd_apply]),(by first|rfl|simp[upd_apply]),(by first|rfl|simp[upd_apply]),trivial⟩ ?_
 rintro f ⟨f2,f4,f5,f6,f13,f15,-⟩
 ((try simp (maxSteps:=3000000) (dsimp:=false) (disch:=first|omega|simp only[lnx];omega) only[↓ypre,ypost,↓reduceIte,reduceEqDiff,reduceAdd,reduceSub,reduceLeDiff,zz0,ynew,f2,f4,f5,f6,f13,f15,fillL,zrep]);try simp only[yback])
 generalize hH7:AH.new H6 _=H7
 obtain⟨g7,p7,n7⟩:=new_facts hH7
 have s7:=s6.kp p7
 have lt7:=s6.lt
 have kv:=kp_new (n:=H1.length) (ns:=[0,1,2,5,r]) hH7 (by omega)
 refine s_l01Pick s7 kv (by simp) (by simp) fun j H8 k8 l8 s8 hj=>?_
 have bp:=pick_in (l:=[0,1,2,5,r]) (a:=0) (b:=40) (by simp;omega) hj
 generalize ([0,1,2,5,r]:List Int).getD j 0=M at bp
 obtain⟨M,rfl⟩:∃ m:Nat,M=m:=⟨M.toNat,by omega⟩
 have g1:=k8.get (by omega) (pre_get p7 g1)
 have g4:=k8.get (by omega) (pre_get p7 g4)
 have g5:=k8.get (by omega) (pre_get p7 g5)
 have kA:Kp H1.length H3 H8:=(Kp.of P5).trans (k6.trans ((Kp.of p7).trans k8))
 refine WO_cut (fun f:Fr=>f 2=.pointer (some ⟨h.length,0,none⟩)∧f 4=srcP H1.length∧f 5=.pointer (some ⟨H4.length,0,none⟩)∧f 6=sl H3.length 0∧f 17=I64 M∧True) ⟨(by first|rfl|exact f2|simp[upd_apply,f2]),(by first|rfl|exact f4|simp[upd_apply,f4]),(by first|rfl|exact f5|simp[upd_apply,f5]),(by first|rfl|exact f6|simp[upd_apply,f6]),(by first|rfl|simp[upd_apply]),trivial⟩ ?_
 rintro f ⟨f2,f4,f5,f6,f17,-⟩
 ((try simp (maxSteps:=3000000) (dsimp:=false) (disch:=first|omega|simp only[lnx];omega) only[↓ypre,ypost,↓reduceIte,reduceEqDiff,reduceAdd,reduceSub,reduceLeDiff,zz0,ynew,f2,f4,f5,f6,f17]);try simp only[yback])
 have f2':f 2=.pointer (some ⟨h.length,0,none⟩):=f2
 refine WC_loop_inv (fun m f K1=>∃ (i:Nat) (l:List Int) (b2:Nat) (fu:Bool),m=M-i∧i≤M∧f 2=.pointer (some ⟨h.length,0,none⟩)∧f 4=srcP H1.length∧f 5=.pointer (some ⟨H4.length,0,none⟩)∧f 6=sl b2 l.length∧f 7=I64 ((M-i:Nat):Int)∧(Src H1 K1 H1.length)∧(K1.get h.length=some ⟨_,_,false,true⟩)∧(K1.get H4.length=some ⟨[I64 x.p,I64 x.n,I64 x.m,I64 x.k,v],26,false,true⟩)∧((H3.length≤K1.length∧∀ m,H2.length≤m→m<H3.length→K1.get m=H3.get m))∧(Lst K1 b2 l fu)∧((H3.length≤b2∧b2≠H4.length))∧(l.length=i)) ?_ (M-0) _ _ ⟨0,[],H3.length,true,rfl,by omega,(by first|rfl|exact f2|(simp[upd_apply];done)),(by first|rfl|exact f4|(simp[upd_apply];done)),(by first|rfl|exact f5|(simp[upd_apply];done)),(by first|rfl|exact f6|(simp[upd_apply];done)),(by first|rfl|simp[upd_apply]),s8,g1,g5,⟨kA.len,fun m h1 h2=>kA.2 m h2 (by omega)⟩,g4,(by omega),rfl⟩
 rintro m f K1 ⟨i,l,b2,fu,rfl,hi,f2,f4,f5,f6,f7,ss,g1,g5,ag,q,hb,li⟩
 have l5K:=get_lt g5
 have l1K:=get_lt g1
 have lqK:=get_lt q
 by_cases hlt:((M-i:Nat):Int)>0
 ·((try simp (maxSteps:=3000000) (dsimp:=false) (disch:=first|omega|simp only[lnx];omega) only[↓ypre,ypost,↓reduceIte,reduceEqDiff,reduceAdd,reduceSub,reduceLeDiff,zz0,ynew,f2,f4,f5,f6,f7,decide_eq_true hlt]);try simp only[yback])
  refine s_l01Next ss fun y K2 k2' l2' s2' _ _=>?_
  have ltn:=ss.lt
  have g1:=k2'.get (by omega) g1
  have g5:=k2'.get (by omega) g5
  have q:Lst K2 b2 l fu:=k2'.get (by omega) q
  have ag2:∀ m,H2.length≤m→m<H3.length→K2.get m=H3.get m:=fun m h1 h2=>(k2'.2 m (by omega) (by omega)).trans (ag.2 m h1 h2)
  ((try simp (maxSteps:=3000000) (dsimp:=false) (disch:=first|omega|simp only[lnx];omega) only[↓ypre,ypost,↓reduceIte,reduceEqDiff,reduceAdd,reduceSub,reduceLeDiff,zz0,ynew,f2,f4,f5,f6,f7,fillL,zrep]);try simp only[yback])
  refine lst_app q (by omega) fun K3 l3' k3' q3=>?_
  have g1:=k3'.get (by omega) g1
  have g5:=k3'.get (by omega) g5
  ((try simp (maxSteps:=3000000) (dsimp:=false) (disch:=first|omega|simp only[lnx];omega) only[↓ypre,ypost,↓reduceIte,reduceEqDiff,reduceAdd,reduceSub,reduceLeDiff,zz0,ynew,f2,f4,f5,f6,f7,wrap64_in]);try simp only[yback])
  refine InvQ_go (M-(i+1)) (by omega) ⟨(i+1),(l++[y]),(K2.length+1),false,rfl,by omega,(by first|rfl|exact f2|(simp only[upd_apply];rfl)|(show I64 _=_;congr 1;omega)),(by first|rfl|exact f4|(simp only[upd_apply];rfl)|(show I64 _=_;congr 1;omega)),(by first|rfl|exact f5|(simp only[upd_apply];rfl)|(show I64 _=_;congr 1;omega)),(by first|rfl|exact f6|(simp only[upd_apply];rfl)|(show I64 _=_;congr 1;omega)),(by first|rfl|exact f7|(simp only[upd_apply];rfl)|(show I64 _=_;congr 1;omega)),(s2'.over k3' (by omega) (by omega)),g1,g5,⟨by omega,fun m h1 h2=>(k3'.2 m (by omega) (by omega)).trans (ag2 m h1 h2)⟩,q3,(by omega),(by rw[List.length_append,li];rfl)⟩
 ·((try simp (maxSteps:=3000000) (dsimp:=false) (disch:=first|omega|simp only[lnx];omega) only[↓ypre,ypost,↓reduceIte,reduceEqDiff,reduceAdd,reduceSub,reduceLeDiff,zz0,ynew,f2,f4,f5,f6,f7,decide_eq_false hlt]);try simp only[yback])
  refine s_l01Next ss fun y K2 k2' l2' s2' _ _=>?_
  have ltn:=ss.lt
  have g1:=k2'.get (by omega) g1
  have g5:=k2'.get (by omega) g5
  have q:Lst K2 b2 l fu:=k2'.get (by omega) q
  have ag2:∀ m,H2.length≤m→m<H3.length→K2.get m=H3.get m:=fun m h1 h2=>(k2'.2 m (by omega) (by omega)).trans (ag.2 m h1 h2)
  have l1K2:=get_lt g1
  have sd3:=sd
  by_cases y0:y=0
  ·((try simp (maxSteps:=3000000) (dsimp:=false) (disch:=first|omega|simp only[lnx];omega) only[↓ypre,ypost,↓reduceIte,reduceEqDiff,reduceAdd,reduceSub,reduceLeDiff,zz0,ynew,f2,f4,f5,f6,f7,decide_eq_true y0,fillL,zrep]);try simp only[yback])
   refine lst_app q (by omega) fun K3 l3' k3' q3=>?_
   have g1:=k3'.get (by omega) g1
   have g5:=k3'.get (by omega) g5
   have l1K3:=get_lt g1
   have ag3:∀ m,H2.length≤m→m<H3.length→K3.get m=H3.get m:=fun m h1 h2=>(k3'.2 m (by omega) (by omega)).trans (ag2 m h1 h2)
   ((try simp (maxSteps:=3000000) (dsimp:=false) (disch:=first|omega|simp only[lnx];omega) only[↓ypre,ypost,↓reduceIte,reduceEqDiff,reduceAdd,reduceSub,reduceLeDiff,zz0,ynew,f2,f4,f5,f6,f7,rdn_of g5,schV,nk.one,wr_of g1,splice_eq,rdn_put_same]);try simp only[yback])
   exact hQ x v _ (l++[-1]) _ (pre_put (p1.trans (s2'.over k3' (by omega) (by omega)).p) (Nat.le_refl _)) (sd _ (by rw[len_put];omega) fun m h1 h2=>by rw[get_put_ne (by omega)];exact ag3 m h1 h2) xb nk (Lst.ints (show Lst _ _ _ false from by unfold Lst;rw[get_put_ne (by omega)];exact q3)) (by rw[List.length_append];simp;omega)
  ·((try simp (maxSteps:=3000000) (dsimp:=false) (disch:=first|omega|simp only[lnx];omega) only[↓ypre,ypost,↓reduceIte,reduceEqDiff,reduceAdd,reduceSub,reduceLeDiff,zz0,ynew,f2,f4,f5,f6,f7,decide_eq_false y0,rdn_of g5,schV,nk.one,wr_of g1,splice_eq,rdn_put_same]);try simp only[yback])
   exact hQ x v _ l _ (pre_put (p1.trans s2'.p) (Nat.le_refl _)) (sd _ (by rw[len_put];omega) fun m h1 h2=>by rw[get_put_ne (by omega)];exact ag2 m h1 h2) xb nk (Lst.ints (show Lst _ _ _ fu from by unfold Lst;rw[get_put_ne (by omega)];exact q)) (by omega)
def JrQ (I:Fr→AH→Prop) (Q:XE→Fr→AH→Prop):XE→Fr→AH→Prop
 | .normal,f,h=>I f h
 | .exit id,f,h=>Q (.exit id) f h
 | .ret,f,h=>Q .ret f h
theorem JrQ_r {I:Fr→AH→Prop} {Q:XE→Fr→AH→Prop} {f:Fr} {h:AH}:JrQ I Q .ret f h=Q .ret f h:=rfl
theorem WO_joinR {S:XS} {ops:List XI} {a b:IR} {f:Fr} {h:AH} {Q:XE→Fr→AH→Prop} (I:Fr→AH→Prop) (w:WO S ops f h (RegQ (SeqQ S a (JrQ I Q)))) (hb:∀ f h,I f h→WC S b f h Q):WO S ops f h (RegQ (SeqQ S a (SeqQ S b Q))):=by
 refine w.mono fun f1 h1 q=>?_
 refine WC.mono q fun e f2 h2 q2=>?_
 cases e with
 | normal=>exact hb f2 h2 q2
 | exit id=>exact q2
 | ret=>exact q2
theorem OQ_C5 {f:Fr} {h:AH} {a b c d g n:Nat} {e:TypeId} {cl:List Value} {ro fl:Bool} {x y z w:Value} {Q:Value→AH→Prop} (fa:f a=.pointer (some ⟨n,0,none⟩)) (fb:f b=x) (fc:f c=y) (fd:f d=z) (fg:f g=w)
  (ha:h.get n=some ⟨cl,e,ro,fl⟩) (hl:cl.length=5) (hQ:Q (.tuple #[.agg cl.toArray,x,y,z,w]) h):OQ (Option.map (fun x=>(x,h)) (xres f h [.celln a 5,.tmp b,.tmp c,.tmp d,.tmp g])) Q:=by
 have e:xres f h [.celln a 5,.tmp b,.tmp c,.tmp d,.tmp g]=some (.tuple #[.agg cl.toArray,x,y,z,w]):=by
  unfold xres xresl xresl xresl xresl xresl xresl
  rw[show xres1 f h (.celln a 5)=some (.agg cl.toArray) from xresn fa ha hl,xres1_tmp,xres1_tmp,xres1_tmp,xres1_tmp,fb,fc,fd,fg]
 rw[e,Option.map_some,OQ_some]
 exact hQ
theorem s_DrawFlipProducts {h:AH} {cv:Value} {code:List (List Int)} {Q:Value→AH→Prop} (c:Cod h cv code)
  (hQ:∀ (x:Sch) (v:Value) (i k r s:Int) (h':AH),h<+:h'→Prods h' v x.ps→SchB x→NK v→Q (.tuple #[schV x v,I64 i,I64 k,I64 r,I64 s]) h'):WF S 40 [cv] h Q:=by
 refine WF_fn (fn:=c40) rfl rfl ?_
 dsimp only[c40,oO,oM,oS,oG,oK,oE,oL,oF,oX,oN]
 ((try simp (maxSteps:=3000000) (dsimp:=false) (disch:=first|omega|simp only[lnx];omega) only[↓ypre,ypost,↓reduceIte,reduceEqDiff,reduceAdd,reduceSub,reduceLeDiff,zz0,ynew]);try simp only[yback])
 generalize hH1:AH.new h _=H1
 obtain⟨hb1,p1,n1⟩:=new_facts hH1
 refine s_l01From (c.els.pre p1) c.byt c.len fun H2 p2 l2 s2=>?_
 ((try simp (maxSteps:=3000000) (dsimp:=false) (disch:=first|omega|simp only[lnx];omega) only[↓ypre,ypost,↓reduceIte,reduceEqDiff,reduceAdd,reduceSub,reduceLeDiff,zz0,ynew]);try simp only[yback])
 refine s_l03Draw s2 fun x v H3 k3 s3 sd xb nk=>?_
 have g1:=k3.get (by omega) (pre_get p2 hb1)
 have k3l:=k3.len
 have o1:=nk.one
 refine WO_cut (fun f:Fr=>f 2=.pointer (some ⟨h.length,0,none⟩)∧f 7=srcP H1.length∧f 15=schV x v∧True) ⟨(by first|rfl|simp[upd_apply]),(by first|rfl|simp[upd_apply]),(by first|rfl|simp[upd_apply]),trivial⟩ ?_
 rintro f ⟨f2,f7,f15,-⟩
 ((try simp (maxSteps:=3000000) (dsimp:=false) (disch:=first|omega|simp only[lnx];omega) only[↓ypre,ypost,↓reduceIte,reduceEqDiff,reduceAdd,reduceSub,reduceLeDiff,zz0,ynew,f2,f7,f15,schV,o1]);try simp only[yback])
 generalize hH4:AH.new H3 _=H4
 obtain⟨hb4,p4,n4⟩:=new_facts hH4
 have g1:=pre_get p4 g1
 have sd:SchD H2.length H4 v x:=KN.pre sd p4
 have s4:=s3.kp p4
 ((try simp (maxSteps:=3000000) (dsimp:=false) (disch:=first|omega|simp only[lnx];omega) only[↓ypre,ypost,↓reduceIte,reduceEqDiff,reduceAdd,reduceSub,reduceLeDiff,zz0,ynew,f2,f7,f15,rdn_of hb4]);try simp only[yback])
 refine s_l01Is (x:=x) sd.now xb.l fun H5 p5=>?_
 have g1:=pre_get p5 g1
 have g4:=pre_get p5 hb4
 have sd:SchD H2.length H5 v x:=KN.pre sd p5
 have s5:=s4.kp p5
 have l5:=pre_len p5
 have bn:=xb.l
 unfold SmallX at bn
 have bp:=xb.p
 have fin:∀ (i k r s:Int) (H' HZ:AH),H'.put h.length ⟨[I64 x.p,I64 x.n,I64 x.m,I64 x.k,v],26,false,true⟩=HZ→h<+:H'→SchD H2.length H' v x→Q (.tuple #[schV x v,I64 i,I64 k,I64 r,I64 s]) HZ:=by
  intro i k r s H' HZ hZ p' sd'
  subst hZ
  exact hQ x v i k r s _ (pre_put p' (Nat.le_refl _)) (KN.put sd' (by omega)).now xb nk
 refine WO_cut (fun f:Fr=>f 2=.pointer (some ⟨h.length,0,none⟩)∧f 7=srcP H1.length∧f 8=.pointer (some ⟨H3.length,0,none⟩)∧f 17=.bool (isX x)∧True) ⟨(by first|rfl|exact f2|simp[upd_apply,f2]),(by first|rfl|exact f7|simp[upd_apply,f7]),(by first|rfl|simp[upd_apply]),(by first|rfl|simp[upd_apply]),trivial⟩ ?_
 rintro f ⟨f2,f7,f8,f17,-⟩
 refine WO_joinR (fun f H=>(f 2=.pointer (some ⟨h.length,0,none⟩)∧f 7=srcP H1.length∧f 8=.pointer (some ⟨H3.length,0,none⟩))∧Src H1 H H1.length∧SchD H2.length H v x∧H.get h.length=some ⟨[I64 0,I64 0,I64 0,I64 0,.slice none 0 0],26,false,true⟩∧OwnB H H3.length [I64 x.p,I64 x.n,I64 x.m,I64 x.k,v] true) ?_ ?_
 ·cases hx:isX x with
  | false=>
   ((try simp (maxSteps:=3000000) (dsimp:=false) (disch:=first|omega|simp only[lnx];omega) only[↓ypre,ypost,↓reduceIte,reduceEqDiff,reduceAdd,reduceSub,reduceLeDiff,zz0,ynew,f2,f7,f8,f17,hx,yWG_un]);try simp only[yback])
   exact⟨⟨f2,f7,f8⟩,s5,sd,g1,⟨_,g4⟩⟩
  | true=>
   obtain⟨z,h30⟩:=isX_sz hx
   ((try simp (maxSteps:=3000000) (dsimp:=false) (disch:=first|omega|simp only[lnx];omega) only[↓ypre,ypost,↓reduceIte,reduceEqDiff,reduceAdd,reduceSub,reduceLeDiff,zz0,ynew,f2,f7,f8,f17,hx]);try simp only[yback])
   refine s_l01Next s5 fun r H6 k6 l6 s6 hr _=>?_
   have g1:=k6.get (by omega) g1
   have g4:=k6.get (by omega) g4
   have sd:SchD H2.length H6 v x:=KN.kp sd k6 (by omega)
   by_cases r0:r>0
   case neg=>
    ((try simp (maxSteps:=3000000) (dsimp:=false) (disch:=first|omega|simp only[lnx];omega) only[↓ypre,ypost,↓reduceIte,reduceEqDiff,reduceAdd,reduceSub,reduceLeDiff,zz0,ynew,f2,f7,f8,f17,decide_eq_false r0]);try simp only[yback])
    exact⟨⟨f2,f7,f8⟩,s6,sd,g1,⟨_,g4⟩⟩
   ((try simp (maxSteps:=3000000) (dsimp:=false) (disch:=first|omega|simp only[lnx];omega) only[↓ypre,ypost,↓reduceIte,reduceEqDiff,reduceAdd,reduceSub,reduceLeDiff,zz0,ynew,f2,f7,f8,f17,decide_eq_true r0,rdn_of g4]);try simp only[yback])
   refine s_l03Flips (x:=x) sd.now h30 fun kb fu B cs H7 p7 rd=>?_
   have g1:=pre_get p7 g1
   have g4:=pre_get p7 g4
   have sd:SchD H2.length H7 v x:=KN.pre sd p7
   have s7:=s6.kp p7
   have fl:lenV (sl kb (flI x.ps x.ps.length).length)=some (I64 ((flI x.ps x.ps.length).length)):=rfl
   by_cases e0:((flI x.ps x.ps.length).length:Int)>0
   case neg=>
    ((try simp (maxSteps:=3000000) (dsimp:=false) (disch:=first|omega|simp only[lnx];omega) only[↓ypre,ypost,↓reduceIte,reduceEqDiff,reduceAdd,reduceSub,reduceLeDiff,zz0,ynew,f2,f7,f8,f17,fl,decide_eq_false e0]);try simp only[yback])
    exact⟨⟨f2,f7,f8⟩,s7,sd,g1,⟨_,g4⟩⟩
   ((try simp (maxSteps:=3000000) (dsimp:=false) (disch:=first|omega|simp only[lnx];omega) only[↓ypre,ypost,↓reduceIte,reduceEqDiff,reduceAdd,reduceSub,reduceLeDiff,zz0,ynew,f2,f7,f8,f17,fl,decide_eq_true e0]);try simp only[yback])
   refine s_l01Next s7 fun j H8 k8 l8 s8 hj _=>?_
   have hj:=hj (by omega)
   obtain⟨J,rfl⟩:∃ m:Nat,j=m:=⟨j.toNat,by omega⟩
   have lt7:=s7.lt
   have g1:=k8.get (by omega) g1
   have g4:=k8.get (by omega) g4
   have sd:SchD H2.length H8 v x:=KN.kp sd k8 (by omega)
   have rd:RowD (H6.length+1) H8 kb fu (flI x.ps x.ps.length) B cs:=rd.kp k8 (by have:=s6.lt;omega)
   have hJ:J<(flI x.ps x.ps.length).length:=by omega
   obtain⟨a,b,u,a1,a2,a3,a4,a5,a6⟩:=flI_mem (show (flI x.ps x.ps.length).getD J []∈flI x.ps x.ps.length from by rw[List.getD_eq_getElem?_getD,List.getElem?_eq_getElem hJ];exact List.getElem_mem hJ)
   obtain⟨q1,q2,⟨fz,q3⟩,q4⟩:=rd.row J hJ
   rw[a5] at q2 q3
   obtain⟨n0,off0,x0,ix0,rd0,i0⟩:=rd.rows.row (i:=J) hJ
   have ix0:=ix0 .i64
   have rdk:AH.rd1 H8 kb J=some (sl (B J) 3):=by
    rw[rd1_of rd.get]
    show cs[J]?=_
    rw[getq (by rw[rd.len];exact hJ),q2]
    rfl
   have ixk:ixsV 1 (sl kb (flI x.ps x.ps.length).length) (I64 J)=some (.pointer (some ⟨kb,J,none⟩)):=by
    unfold sl
    rw[ixsV_some,if_pos (by omega),Int.toNat_natCast,Nat.mul_one,Nat.zero_add]
   have j0:ixsV 1 (sl (B J) 3) (I64 0)=some (.pointer (some ⟨B J,0,none⟩)):=rfl
   have j1:ixsV 1 (sl (B J) 3) (I64 1)=some (.pointer (some ⟨B J,1,none⟩)):=rfl
   have j2:ixsV 1 (sl (B J) 3) (I64 2)=some (.pointer (some ⟨B J,2,none⟩)):=rfl
   have q3':AH.get H8 (B J)=some ⟨[I64 a,I64 b,I64 u],_,false,fz⟩:=q3
   have l8':=get_lt g4
   have l6':=get_lt q3'
   have s6l:=s6.lt
   have r46:=k6.len
   have h4l:=get_lt hb4
   ((try simp (maxSteps:=3000000) (dsimp:=false) (disch:=first|omega|simp only[lnx];omega) only[↓ypre,ypost,↓reduceIte,reduceEqDiff,reduceAdd,reduceSub,reduceLeDiff,zz0,ynew,f2,f7,f8,f17,ixk,rdk,j0,j1,j2,rdn_of g4,rd1_of g4,rd1_of q3',wrap64_in]);try simp only[yback])
   refine⟨⟨by omega,by omega⟩,?_⟩
   refine s_l01Near s8 (by omega) fun rr H9 k9 s9 hrr=>?_
   refine⟨⟨_,rfl,k9⟩,?_⟩
   have g1:=k9.get (by omega) g1
   have sd:SchD H2.length H9 v x:=KN.kp sd k9 (by omega)
   have l1:=get_lt g1
   have wr:=wrap64_in (a:=1+rr) (by omega) (by omega)
   refine WO_cut (fun f:Fr=>f 2=.pointer (some ⟨h.length,0,none⟩)∧f 35=schV x v∧f 37=.pointer (some ⟨B J,0,none⟩)∧f 40=.pointer (some ⟨B J,1,none⟩)∧f 43=.pointer (some ⟨B J,2,none⟩)∧f 38=I64 a∧f 41=I64 b∧f 44=I64 u∧f 49=I64 rr∧True) ⟨(by first|rfl|exact f2|simp[upd_apply,f2]),(by first|rfl|simp[upd_apply]),(by first|rfl|simp[upd_apply]),(by first|rfl|simp[upd_apply]),(by first|rfl|simp[upd_apply]),(by first|rfl|simp[upd_apply]),(by first|rfl|simp[upd_apply]),(by first|rfl|simp[upd_apply]),(by first|rfl|simp[upd_apply]),trivial⟩ ?_
   rintro f ⟨f2,f35,f37,f40,f43,f38,f41,f44,f49,-⟩
   ((try simp (maxSteps:=3000000) (dsimp:=false) (disch:=first|omega|simp only[lnx];omega) only[↓ypre,ypost,↓reduceIte,reduceEqDiff,reduceAdd,reduceSub,reduceLeDiff,zz0,ynew,f2,f35,f37,f40,f43,f38,f41,f44,f49,schV,o1,wr,wr_of g1,splice_eq]);try simp only[yback])
   refine⟨by omega,?_⟩
   generalize hHZ:AH.put H9 _ _=HZ
   have F1:HZ.get h.length=some ⟨[I64 x.p,I64 x.n,I64 x.m,I64 x.k,v],26,false,true⟩:=hHZ▸get_put_same (by omega)
   rw[JrQ_r]
   ((try simp (maxSteps:=3000000) (dsimp:=false) (disch:=first|omega|simp only[lnx];omega) only[↓ypre,ypost,↓reduceIte,reduceEqDiff,reduceAdd,reduceSub,reduceLeDiff,zz0,ynew,f2,f35,f37,f40,f43,f38,f41,f44,f49]);try simp only[yback])
   refine OQ_C5 (x:=I64 a) (y:=I64 b) (z:=I64 u) (w:=I64 (1+rr)) (a:=2) (b:=3) (c:=4) (d:=5) (g:=6) (n:=h.length) ?_ ?_ ?_ ?_ ?_ F1 rfl (fin a b u (1+rr) H9 HZ hHZ (p1.trans s9.p) sd)
   ·exact f2
   ·rfl
   ·rfl
   ·rfl
   ·rfl
 ·rintro f H9 ⟨⟨f2,f7,f8⟩,s9,sd,g1,⟨e8,g4⟩⟩
  have vl:=sd.now.1.len
  have l1:=get_lt g1
  ((try simp (maxSteps:=3000000) (dsimp:=false) (disch:=first|omega|simp only[lnx];omega) only[↓ypre,ypost,↓reduceIte,reduceEqDiff,reduceAdd,reduceSub,reduceLeDiff,zz0,ynew,f2,f7,f8,rd1_of g4,vl,wrap64_in,WX_mm,mmT,rdn_of g4]);try simp only[yback])
  have hlo:=s9.lt
  obtain⟨mxl,mxh⟩:-1000000000≤max ((x.ps.length:Int)-1) 0∧max ((x.ps.length:Int)-1) 0≤1000000000:=by omega
  have r3:H1.length<H3.length:=by have:=k3.len;omega
  refine⟨by omega,?_⟩
  refine s_l01Near s9 (by omega) fun q1 H10 k10 s10 _=>?_
  refine⟨⟨_,rfl,k10⟩,?_⟩
  have g1:=k10.get (by omega) g1
  have sd:SchD H2.length H10 v x:=KN.kp sd k10 (by omega)
  refine WO_cut (fun f:Fr=>f 2=.pointer (some ⟨h.length,0,none⟩)∧f 7=srcP H1.length∧f 8=.pointer (some ⟨H3.length,0,none⟩)∧f 11=I64 (max ((x.ps.length:Int)-1) 0)∧f 56=schV x v∧f 59=I64 q1∧True) ⟨(by first|rfl|exact f2|simp[upd_apply,f2]),(by first|rfl|exact f7|simp[upd_apply,f7]),(by first|rfl|exact f8|simp[upd_apply,f8]),(by first|rfl|simp[upd_apply]),(by first|rfl|simp[upd_apply]),(by first|rfl|simp[upd_apply]),trivial⟩ ?_
  rintro f ⟨f2,f7,f8,f11,f56,f59,-⟩
  ((try simp (maxSteps:=3000000) (dsimp:=false) (disch:=first|omega|simp only[lnx];omega) only[↓ypre,ypost,↓reduceIte,reduceEqDiff,reduceAdd,reduceSub,reduceLeDiff,zz0,ynew,f2,f7,f8,f11,f56,f59]);try simp only[yback])
  refine⟨by omega,?_⟩
  refine s_l01Near s10 (by omega) fun q2 H11 k11 s11 _=>?_
  refine⟨⟨_,rfl,k11⟩,?_⟩
  have g1:=k11.get (by omega) g1
  have sd:SchD H2.length H11 v x:=KN.kp sd k11 (by omega)
  refine WO_cut (fun f:Fr=>f 2=.pointer (some ⟨h.length,0,none⟩)∧f 7=srcP H1.length∧f 8=.pointer (some ⟨H3.length,0,none⟩)∧f 56=schV x v∧f 59=I64 q1∧f 62=I64 q2∧True) ⟨(by first|rfl|exact f2|simp[upd_apply,f2]),(by first|rfl|exact f7|simp[upd_apply,f7]),(by first|rfl|exact f8|simp[upd_apply,f8]),(by first|rfl|exact f56|simp[upd_apply,f56]),(by first|rfl|exact f59|simp[upd_apply,f59]),(by first|rfl|simp[upd_apply]),trivial⟩ ?_
  rintro f ⟨f2,f7,f8,f56,f59,f62,-⟩
  ((try simp (maxSteps:=3000000) (dsimp:=false) (disch:=first|omega|simp only[lnx];omega) only[↓ypre,ypost,↓reduceIte,reduceEqDiff,reduceAdd,reduceSub,reduceLeDiff,zz0,ynew,f2,f7,f8,f56,f59,f62]);try simp only[yback])
  refine⟨by omega,?_⟩
  refine s_l01Near s11 (by omega) fun q3 H12 k12 s12 _=>?_
  refine⟨⟨_,rfl,k12⟩,?_⟩
  have g1:=k12.get (by omega) g1
  have sd:SchD H2.length H12 v x:=KN.kp sd k12 (by omega)
  have l1:=get_lt g1
  refine WO_cut (fun f:Fr=>f 2=.pointer (some ⟨h.length,0,none⟩)∧f 56=schV x v∧f 59=I64 q1∧f 62=I64 q2∧f 64=I64 q3∧True) ⟨(by first|rfl|exact f2|simp[upd_apply,f2]),(by first|rfl|exact f56|simp[upd_apply,f56]),(by first|rfl|exact f59|simp[upd_apply,f59]),(by first|rfl|exact f62|simp[upd_apply,f62]),(by first|rfl|simp[upd_apply]),trivial⟩ ?_
  rintro f ⟨f2,f56,f59,f62,f64,-⟩
  ((try simp (maxSteps:=3000000) (dsimp:=false) (disch:=first|omega|simp only[lnx];omega) only[↓ypre,ypost,↓reduceIte,reduceEqDiff,reduceAdd,reduceSub,reduceLeDiff,zz0,ynew,f2,f56,f59,f62,f64,schV,o1,wr_of g1,splice_eq]);try simp only[yback])
  generalize hHZ:AH.put H12 _ _=HZ
  have F1:HZ.get h.length=some ⟨[I64 x.p,I64 x.n,I64 x.m,I64 x.k,v],26,false,true⟩:=hHZ▸get_put_same (by omega)
  refine OQ_C5 (x:=I64 q1) (y:=I64 q2) (z:=I64 q3) (w:=I64 1) (a:=2) (b:=3) (c:=4) (d:=5) (g:=6) (n:=h.length) ?_ ?_ ?_ ?_ ?_ F1 rfl (fin q1 q2 q3 1 H12 HZ hHZ (p1.trans s12.p) sd)
  ·exact f2
  ·rfl
  ·rfl
  ·rfl
  ·rfl
end Go.Proofs.Ytapafdpnmakekaa.X

set_option linter.unusedVariables false
set_option linter.unusedSimpArgs false
set_option maxRecDepth 20000
set_option maxHeartbeats 4000000
namespace Go.Proofs.Ytapafdpnmakekaa.X
open Go Go.RowKit
theorem TenB.l {t:Ten} (b:TenB t):(t.ns.length:Int)≤1048576:=by
 have:=b.ns
 omega
theorem WO_mono' {S:XS} {A REST:IR} {f:Fr} {h:AH} {R:XE→Fr→AH→Prop} (I:Fr→AH→Prop) (w:WC S A f h (JnQ I)) (hr:∀ f h,I f h→WC S REST f h R):WC S A f h (SeqQ S REST R):=
 WC.mono w fun e f2 h2 q2=>by
  cases e with
  | normal=>exact hr f2 h2 q2
  | exit id=>exact q2.elim
  | ret=>exact q2.elim
def coOK (t:Ten) (s:Int) (ns:List Int):Prop:=(0≤s∧s≤2)∧allIn t.p ns=true∧(ns.length:Int)=sideN t s.toNat
instance {t:Ten} {s:Int} {ns:List Int}:Decidable (coOK t s ns):=by unfold coOK;infer_instance
end Go.Proofs.Ytapafdpnmakekaa.X

set_option linter.unusedVariables false
set_option linter.unusedSimpArgs false
set_option maxRecDepth 20000
set_option maxHeartbeats 4000000
namespace Go.Proofs.Ytapafdpnmakekaa.X
open Go Go.RowKit
open Nat (reduceEqDiff reduceAdd reduceSub reduceLeDiff)
theorem l_rows5 {v w:Value} {rows:List (List Int)} {h:AH} {Q:Value→AH→Prop} (hv:Rows h v rows) (hw:Rows h w rows) (hl:SmallM rows)
  (hQ:Q (.bool true) h):WF S 48 [v,w] h Q:=by
 refine WF_fn (fn:=c48) rfl rfl ?_
 dsimp only[c48,oO,oM,oS,oG,oK,oE,oL,oF,oX,oN]
 obtain⟨cs,hc,hcl,-⟩:=id hv
 obtain⟨ds,hd,hdl,-⟩:=id hw
 have c1:=hc.len
 have c2:=hd.len
 rw[hcl] at c1
 rw[hdl] at c2
 have h1:=hl.1
 ((try simp (maxSteps:=3000000) (dsimp:=false) (disch:=first|omega|simp only[lnx];omega) only[↓ypre,ypost,↓reduceIte,reduceEqDiff,reduceAdd,reduceSub,reduceLeDiff,zz0,ynew,c1,c2,decide_eq_false (show ¬ (rows.length:Int)≠rows.length from fun h=>h rfl)]);try simp only[yback])
 refine WC_loop_inv (fun m f K1=>∃ (i:Nat),m=rows.length-i∧i≤rows.length∧f 0=v∧f 1=w∧f 5=I64 i∧(K1=h)) ?_ (rows.length-0) _ _ ⟨0,rfl,by omega,(by first|rfl|simp[upd_apply]),(by first|rfl|simp[upd_apply]),(by first|rfl|simp[upd_apply]),rfl⟩
 rintro m f K1 ⟨i,rfl,hi,f0,f1,f5,hK⟩
 subst hK
 by_cases hlt:(i:Int)<rows.length
 ·obtain⟨n1,o1,x1,hix1,hrd1,i1⟩:=hv.row (i:=i) (by omega)
  obtain⟨n2,o2,x2,hix2,hrd2,i2⟩:=hw.row (i:=i) (by omega)
  ((try simp (maxSteps:=3000000) (dsimp:=false) (disch:=first|omega|simp only[lnx];omega) only[↓ypre,ypost,↓reduceIte,reduceEqDiff,reduceAdd,reduceSub,reduceLeDiff,zz0,ynew,f0,f1,f5,c1,decide_eq_true hlt,hix1,hrd1,hix2,hrd2]);try simp only[yback])
  refine l_likeInts i1 i2 (hl.2.1 i (by omega)) ?_
  ((try simp (maxSteps:=3000000) (dsimp:=false) (disch:=first|omega|simp only[lnx];omega) only[↓ypre,ypost,↓reduceIte,reduceEqDiff,reduceAdd,reduceSub,reduceLeDiff,zz0,ynew,f0,f1,f5,decide_true,wrap64_in]);try simp only[yback])
  refine InvQ_go (rows.length-(i+1)) (by omega) ⟨(i+1),rfl,by omega,(by first|rfl|exact f0|(simp only[upd_apply];rfl)|(show I64 _=_;congr 1;omega)),(by first|rfl|exact f1|(simp only[upd_apply];rfl)|(show I64 _=_;congr 1;omega)),(by first|rfl|exact f5|(simp only[upd_apply];rfl)|(show I64 _=_;congr 1;omega)),rfl⟩
 ·((try simp (maxSteps:=3000000) (dsimp:=false) (disch:=first|omega|simp only[lnx];omega) only[↓ypre,ypost,↓reduceIte,reduceEqDiff,reduceAdd,reduceSub,reduceLeDiff,zz0,ynew,f0,f1,f5,c1,decide_eq_false hlt]);try simp only[yback])
  exact hQ
theorem WO_join2 {S:XS} {ops:List XI} {a b REST:IR} {f:Fr} {h:AH} {R:XE→Fr→AH→Prop} (I:Fr→AH→Prop) (w:WO S ops f h (RegQ (SeqQ S a (SeqQ S b (JnQ I))))) (hr:∀ f h,I f h→WC S REST f h R) :
  WO S ops f h (RegQ (SeqQ S a (SeqQ S (.seq b REST) R))):=by
 refine w.mono fun f1 h1 q=>?_
 refine WC.mono q fun e f2 h2 q2=>?_
 cases e with
 | normal=>
  show WC S (.seq b REST) f2 h2 R
  rw[WC_seq]
  exact WO_mono' I q2 hr
 | exit id=>exact q2.elim
 | ret=>exact q2.elim
theorem l_schemes5 {v w:Value} {x:Sch} {h:AH} {Q:Value→AH→Prop} (hv:Prods h v x.ps) (hw:Prods h w x.ps) (hl:SmallX x.ps)
  (hQ:∀ h',h<+:h'→Q (.bool true) h'):WF S 43 [schV x v,schV x w] h Q:=by
 refine WF_fn (fn:=c43) rfl rfl ?_
 dsimp only[c43,oO,oM,oS,oG,oK,oE,oL,oF,oX,oN]
 unfold SmallX at hl
 ((try simp (maxSteps:=3000000) (dsimp:=false) (disch:=first|omega|simp only[lnx];omega) only[↓ypre,ypost,↓reduceIte,reduceEqDiff,reduceAdd,reduceSub,reduceLeDiff,zz0,ynew,schV,hv.one,hw.one]);try simp only[yback])
 generalize hH1:AH.new h _=H1
 obtain⟨hb1,p1,n1⟩:=new_facts hH1
 generalize hH2:AH.new H1 _=H2
 obtain⟨hb2,p2,n2⟩:=new_facts hH2
 have hb1:=pre_get p2 hb1
 have r:∀ a:Int,decide (a≠a)=false:=fun a=>decide_eq_false (fun h=>h rfl)
 have vl:=hv.1.len
 have wl:=hw.1.len
 ((try simp (maxSteps:=3000000) (dsimp:=false) (disch:=first|omega|simp only[lnx];omega) only[↓ypre,ypost,↓reduceIte,reduceEqDiff,reduceAdd,reduceSub,reduceLeDiff,zz0,ynew,rd1_of hb1,rd1_of hb2,r,vl,wl]);try simp only[yback])
 refine WC_loop_inv (fun m f K1=>∃ (i:Nat),m=x.ps.length-i∧i≤x.ps.length∧f 2=.pointer (some ⟨h.length,0,none⟩)∧f 3=.pointer (some ⟨H1.length,0,none⟩)∧f 5=I64 i∧K1=H2) ?_ (x.ps.length-0) _ _ ⟨0,rfl,by omega,(by first|rfl|simp[upd_apply]),(by first|rfl|simp[upd_apply]),(by first|rfl|simp[upd_apply]),rfl⟩
 rintro m f K1 ⟨i,rfl,hi,f2,f3,f5,rfl⟩
 by_cases hlt:(i:Int)<x.ps.length
 ·obtain⟨n1',o1,ix1,rd1⟩:=((hv.pre (p1.trans p2)).1).at (i:=i) (by omega)
  obtain⟨n2',o2,ix2,rd2⟩:=((hw.pre (p1.trans p2)).1).at (i:=i) (by omega)
  have b27:=(hv.by (i:=i) (by omega)).1
  have r1:=rd1.1 0 27 (by omega)
  have r2:=rd2.1 0 27 (by omega)
  rw[Nat.add_zero,List.drop_zero,List.take_of_length_le (by omega)] at r1 r2
  have e:=eqaV_ceT (k:=.u8) b27 b27 (by omega)
  rw[show (x.ps.getD i []==x.ps.getD i [])=true by simp] at e
  ((try simp (maxSteps:=3000000) (dsimp:=false) (disch:=first|omega|simp only[lnx];omega) only[↓ypre,ypost,↓reduceIte,reduceEqDiff,reduceAdd,reduceSub,reduceLeDiff,zz0,ynew,f2,f3,f5,rd1_of hb1,rd1_of hb2,vl,decide_eq_true hlt,ix1,ix2,r1,r2,e,Bool.not_true,wrap64_in]);try simp only[yback])
  refine InvQ_go (x.ps.length-(i+1)) (by omega) ⟨(i+1),rfl,by omega,(by first|rfl|exact f2|(simp only[upd_apply];rfl)|(show I64 _=_;congr 1;omega)),(by first|rfl|exact f3|(simp only[upd_apply];rfl)|(show I64 _=_;congr 1;omega)),(by first|rfl|exact f5|(simp only[upd_apply];rfl)|(show I64 _=_;congr 1;omega)),rfl⟩
 ·((try simp (maxSteps:=3000000) (dsimp:=false) (disch:=first|omega|simp only[lnx];omega) only[↓ypre,ypost,↓reduceIte,reduceEqDiff,reduceAdd,reduceSub,reduceLeDiff,zz0,ynew,f2,f3,f5,rd1_of hb1,vl,decide_eq_false hlt]);try simp only[yback])
  exact hQ _ (p1.trans p2)
section
variable {x y:Sch} {i k r s:Int} {ns:List Int}
theorem tofX_eq (gx:GX x) (gy:GX y) (e:EqS x y):tofX x=tofX y:=by
 obtain⟨e1,e2,e3,e4⟩:=e.l
 have z:=(isX_sz gx.ok).1
 have z1:=z.nm
 have z2:=z.mk2
 have z3:=z.nk
 unfold tofX tenT
 rw[←e1,←e2,←e3,←e4]
 congr 1
 refine gen_congr fun n hn=>?_
 unfold tenG lsN
 generalize x.n*x.m=I at *
 generalize x.m*x.k=J at *
 generalize x.n*x.k=K at *
 have hn':(n:Int)<I*J*K:=by omega
 have q1:(n:Int) / K<I*J:=Int.ediv_lt_of_lt_mul (by omega) hn'
 have q2:(n:Int) / K / J<I:=Int.ediv_lt_of_lt_mul (by omega) q1
 have q3:0≤(n:Int) / K:=Int.ediv_nonneg (by omega) (by omega)
 have q4:0≤(n:Int) / K / J:=Int.ediv_nonneg q3 (by omega)
 have q5:=Int.emod_lt_of_pos ((n:Int) / K) (show 0<J by omega)
 have q6:=Int.emod_lt_of_pos (n:Int) (show 0<K by omega)
 have q7:=Int.emod_nonneg ((n:Int) / K) (show J≠0 by omega)
 have q8:=Int.emod_nonneg (n:Int) (show K≠0 by omega)
 rw[lsX_eq gx gy e (by omega) (by omega) (by omega)]
theorem heR_true (gx:GX x) (gy:GX y) (e:EqS x y):heR x y=(true,0):=by
 have hc:likeC x y=0:=by
  unfold likeC
  rw[if_pos ⟨gx.ok,gy.ok⟩,if_pos e.l]
 unfold heR
 rw[if_pos hc,tofX_eq gx gy e]
 simp
theorem fpR_of (hv:Wid 27 x.ps∧Byt 27 x.ps) (h:(fpR x i k r s).2=0):∃ I K R:Nat,i=I∧k=K∧r=R∧GX x∧I<x.ps.length∧K<x.ps.length∧I≠K∧R<3∧(1≤s∧s≤x.p-1)∧seg (x.ps.getD I []) R=seg (x.ps.getD K []) R∧(fpR x i k r s).1=wps x (toldL (flipL x.p x.ps I K R s)):=by
 unfold fpR at h ⊢
 by_cases hx:isX x=true
 ·rw[if_pos hx] at h ⊢
  by_cases ho:fpOk x i k r s=true
  ·rw[if_pos ho] at h ⊢
   by_cases hs:fpSt x i k r=true
   ·rw[if_pos hs] at h
    cases h
   ·rw[if_neg hs]
    unfold fpOk at ho
    simp only[List.all_cons,List.all_nil,Bool.and_true,Bool.and_eq_true,decide_eq_true_eq] at ho
    obtain⟨⟨⟨h1,h2⟩,h3⟩,h4⟩:=ho
    have h1:=of_decide_eq_true h1
    have h2:=of_decide_eq_true h2
    unfold fpSt at hs
    rw[Bool.not_eq_true,Bool.or_eq_false_iff] at hs
    have h5:=of_decide_eq_false hs.1
    have h6:seg (x.ps.getD i.toNat []) r.toNat=seg (x.ps.getD k.toNat []) r.toNat:=by simpa using hs.2
    exact⟨i.toNat,k.toNat,r.toNat,by omega,by omega,by omega,⟨hx,hv.1,hv.2⟩,by omega,by omega,by omega,by omega,h4,h6,rfl⟩
  ·rw[if_neg ho] at h
   cases h
 ·rw[if_neg hx] at h
  cases h
theorem told_len {L:List (List Int)} (h:(toldL L).length=L.length):toldL L=L:=by
 unfold toldL at h ⊢
 rw[List.filter_eq_self]
 exact List.length_filter_eq_length_iff.1 h
theorem fpR_back {I K R:Nat} (g:GX x) (hi:I<x.ps.length) (hk:K<x.ps.length) (hik:I≠K) (hr:R<3) (hs:1≤s∧s≤x.p-1) (e:seg (x.ps.getD I []) R=seg (x.ps.getD K []) R)
  (hl:(toldL (flipL x.p x.ps I K R s)).length=x.ps.length):fpR (wps x (toldL (flipL x.p x.ps I K R s))) I K R (x.p-s)=(x,0):=by
 have et:=told_len (hl.trans (flipL_len (p:=x.p) (L:=x.ps) (i:=I) (k:=K) (f:=R) (s:=s)).symm)
 have gy:=flip_GX (s:=s) g hi hk hr
 have zp:=(isX_sz g.ok).1.p
 rw[et] at gy ⊢
 have ly:(flipL x.p x.ps I K R s).length=x.ps.length:=flipL_len
 have li:=getD_len27 g.w hi
 have lk:=getD_len27 g.w hk
 have e1:(flipL x.p x.ps I K R s).getD I []=flOne x.p (x.ps.getD I []) (x.ps.getD K []) R s:=by
  unfold flipL
  rw[getD_setne (Ne.symm hik),getD_seteq hi]
 have e2:(flipL x.p x.ps I K R s).getD K []=flTwo x.p (x.ps.getD I []) (x.ps.getD K []) R s:=by
  unfold flipL
  rw[getD_seteq (by rw[List.length_set];exact hk)]
 have f1:seg (flOne x.p (x.ps.getD I []) (x.ps.getD K []) R s) R=seg (x.ps.getD I []) R:=by
  unfold flOne
  rw[seg_wth li (addF_len (seg_n9 li flG_lt) (Nat.le_refl _)) flG_lt hr,if_neg (by unfold flG';omega)]
 have f2:seg (flTwo x.p (x.ps.getD I []) (x.ps.getD K []) R s) R=seg (x.ps.getD K []) R:=by
  unfold flTwo
  rw[seg_wth lk (addF_len (seg_n9 lk flH_lt) (Nat.le_refl _)) flH_lt hr,if_neg (by unfold flH';omega)]
 have ho:fpOk (wps x (flipL x.p x.ps I K R s)) I K R (x.p-s)=true:=by
  unfold fpOk
  simp only[List.all_cons,List.all_nil,Bool.and_true,Bool.and_eq_true,decide_eq_true_eq]
  refine⟨⟨⟨?_,?_⟩,by omega⟩,?_⟩
  ·unfold numOk
   exact decide_eq_true (by show (0:Int)≤I∧(I:Int)≤((flipL x.p x.ps I K R s).length:Int)-1;omega)
  ·unfold numOk
   exact decide_eq_true (by show (0:Int)≤K∧(K:Int)≤((flipL x.p x.ps I K R s).length:Int)-1;omega)
  ·show 1≤x.p-s∧x.p-s≤x.p-1
   omega
 have hst:fpSt (wps x (flipL x.p x.ps I K R s)) I K R=false:=by
  unfold fpSt
  simp only[Int.toNat_natCast]
  rw[e1,e2,f1,f2,e,decide_eq_false (by omega)]
  simp
 unfold fpR
 rw[if_pos gy.ok,if_pos ho,if_neg (by rw[hst];decide)]
 simp only[Int.toNat_natCast]
 have hb:=flip_back (s:=s) zp.1 g.w g.b (okL_of g.ok) hi hk hik hr
 rw[hb,told_id g.ok]
theorem wkR_of (hv:Wid 27 x.ps∧Byt 27 x.ps) (h:(wkR x ns).2=0):GX x∧wkOk ns=true∧(wkR x ns).1=wps x (walkL x.p x.ps ns)∧GX (wps x (walkL x.p x.ps ns))∧EqS x (wps x (walkL x.p x.ps ns)):=by
 unfold wkR at h ⊢
 by_cases hx:isX x=true
 ·rw[if_pos hx] at h ⊢
  by_cases ho:wkOk ns=true
  ·rw[if_pos ho]
   have g:GX x:=⟨hx,hv.1,hv.2⟩
   obtain⟨h1,h2⟩:=walk_ok g (wkOk_nn ho).2
   exact⟨g,ho,rfl,h1,h2⟩
  ·rw[if_neg ho] at h
   cases h
 ·rw[if_neg hx] at h
  cases h
theorem wkR_go (g:GX x) (ho:wkOk ns=true):wkR x ns=(wps x (walkL x.p x.ps ns),0):=by
 unfold wkR
 rw[if_pos g.ok,if_pos ho]
theorem wkOk_take (h:wkOk ns=true) (n:Nat):wkOk (ns.take n)=true∧wkOk (ns.drop n)=true:=by
 unfold wkOk at h ⊢
 simp only[Bool.and_eq_true,decide_eq_true_eq,List.all_eq_true] at h ⊢
 refine⟨⟨by rw[List.length_take];omega,fun m hm=>h.2 m (List.mem_of_mem_take hm)⟩,by rw[List.length_drop];omega,fun m hm=>h.2 m (List.mem_of_mem_drop hm)⟩
theorem walk_two {p:Int} {L:List (List Int)} (n:Nat):walkL p (walkL p L (ns.take n)) (ns.drop n)=walkL p L ns:=by
 unfold walkL
 rw[←List.foldl_append,List.take_append_drop]
theorem wps_small (g:GX y):SmallX y.ps:=by
 have:=(isX_sz g.ok).2
 unfold SmallX
 omega
theorem fpR_small (h:SmallX x.ps):SmallX (fpR x i k r s).1.ps:=by
 have z:SmallX zeroS.ps:=by unfold SmallX zeroS;simp
 unfold fpR
 split
 ·split
  ·split
   ·exact z
   ·have:=toldL_len (L:=flipL x.p x.ps i.toNat k.toNat r.toNat s)
    rw[flipL_len] at this
    unfold SmallX at h ⊢
    show (((toldL (flipL x.p x.ps i.toNat k.toNat r.toNat s)).length:Nat):Int)≤1048576
    omega
  ·exact z
 ·exact z
theorem wkR_small (hv:Wid 27 x.ps∧Byt 27 x.ps):SmallX (wkR x ns).1.ps:=by
 have z:SmallX zeroS.ps:=by unfold SmallX zeroS;simp
 by_cases h:(wkR x ns).2=0
 ·obtain⟨_,_,e,g,_⟩:=wkR_of hv h
  rw[e]
  exact wps_small g
 ·unfold wkR at h ⊢
  split
  ·rename_i hx
   rw[if_pos hx] at h
   split
   ·rename_i ho
    rw[if_pos ho] at h
    exact absurd rfl h
   ·exact z
  ·exact z
theorem smallM_big {rows:List (List Int)} {c N:Nat} (h1:rows.length≤N) (h2:∀ r∈rows,r.length≤c) (h3:N*c≤1048576) (h4:N≤1048576) (h5:c≤1048576):SmallM rows:=by
 have g:∀ i,i<rows.length→(rows.getD i []).length≤c:=fun i hi=>h2 _ (by rw[List.getD_eq_getElem?_getD,List.getElem?_eq_getElem hi];exact List.getElem_mem hi)
 have t:∀ i,i≤rows.length→tot rows i≤((i*c:Nat):Int):=fun i=>by
  induction i with
  | zero=>intro _;simp
  | succ i ih=>
   intro hi
   have:=ih (by omega)
   have:=g i (by omega)
   rw[tot_succ (by omega),Nat.succ_mul]
   omega
 refine⟨by omega,fun i hi=>by have:=g i hi;omega,?_⟩
 have:=t rows.length (Nat.le_refl _)
 have:=Nat.mul_le_mul_right c h1
 omega
theorem foR_small:SmallM (foR x).1:=by
 unfold foR
 split
 ·rename_i hx
  have h30:=(isX_sz hx).2
  have:=flI_len (L:=x.ps) (i:=x.ps.length)
  have:=Nat.mul_le_mul (Nat.mul_le_mul (Nat.le_refl 3) h30) h30
  refine smallM_big (N:=2700) (c:=3) (by show (flI x.ps x.ps.length).length≤2700;omega) (fun r hr=>?_) (by omega) (by omega) (by omega)
  obtain⟨i,k,u,-,-,-,-,e,-⟩:=flI_mem hr
  rw[e]
  exact Nat.le_refl _
 ·exact smallM_big (N:=0) (c:=0) (by simp) (fun r hr=>by simp at hr) (by omega) (by omega) (by omega)
end
theorem Ints.first {h:AH} {w:Value} {ns:List Int} (o:Ints h w ns) (h0:0<ns.length):∃ w',X.slcV 1 w none (some (I64 1))=some w'∧Ints h w' (ns.take 1):=by
 obtain⟨w',h1,h2⟩:=o.slcV (k1:=.i64) (k2:=.i64) (l:=0) (u:=1) (by omega)
 refine⟨w',?_,by simpa using h2⟩
 rw[←h1]
 rcases o with⟨rfl,_⟩|⟨b,off,blk,rfl,h2,h3,h4⟩
 ·simp at h0
 ·simp only[X.slcV,boundV]
  rw[if_pos ⟨trivial,by omega,by omega,by omega⟩,if_pos ⟨trivial,by omega,by omega,by omega⟩]
theorem Ints.rest {h:AH} {w:Value} {ns:List Int} (o:Ints h w ns) (h0:0<ns.length):∃ w',X.slcV 1 w (some (I64 1)) none=some w'∧Ints h w' (ns.drop 1):=by
 obtain⟨w',h1,h2⟩:=o.slcV (k1:=.i64) (k2:=.i64) (l:=1) (u:=ns.length) (by omega)
 refine⟨w',?_,?_⟩
 ·rw[←h1]
  rcases o with⟨rfl,_⟩|⟨b,off,blk,rfl,h2,h3,h4⟩
  ·simp at h0
  ·simp only[X.slcV,boundV]
 ·rw[List.take_of_length_le (by simp)] at h2
  exact h2
end Go.Proofs.Ytapafdpnmakekaa.X

set_option linter.unusedVariables false
set_option linter.unusedSimpArgs false
set_option maxRecDepth 20000
set_option maxHeartbeats 4000000
namespace Go.Proofs.Ytapafdpnmakekaa.X
open Go Go.RowKit
def smW (g:Nat→Int):Nat→Int
 | 0=>0
 | n+1=>smW g n+g n
def nz (a:Int):Int:=if a=0 then 0 else 1
def wt (f:List Int) (i:Nat):Int:=smW (fun j=>nz (f.getD j 0)) i
def cw (L:List (List Int)) (s:Nat) (i:Nat):Int:=smW (fun j=>wt (seg (L.getD j []) s) 9-1) i
def cc (L:List (List Int)) (c i:Nat):Int:=smW (fun j=>nz ((L.getD j []).getD (18+c) 0)) i
def mx (a:Int):Int:=if 0>a then 0 else a
def cq (L:List (List Int)) (n c:Nat):Int:=smW (fun c=>mx (cc L c n-1)) c
def more (x:Sch):Int:=cw x.ps 0 x.ps.length+cw x.ps 1 x.ps.length+cq x.ps x.ps.length 9
def mn (a:Int):Int:=if 1000000000000001<a then 1000000000000001 else a
def over (a b:Int):Prop:=0<mn b∧(1000000000000000:Int).tdiv (mn b)<mn a
instance {a b:Int}:Decidable (over a b):=by unfold over;infer_instance
def gain (n z:Int):Prop:=80000<z∨n<2*z*z*z-z*z
instance {n z:Int}:Decidable (gain n z):=by unfold gain;infer_instance
end Go.Proofs.Ytapafdpnmakekaa.X

set_option linter.unusedVariables false
set_option linter.unusedSimpArgs false
set_option maxRecDepth 20000
set_option maxHeartbeats 4000000
namespace Go.Proofs.Ytapafdpnmakekaa.X
open Go Go.RowKit
open Nat (reduceEqDiff reduceAdd reduceSub reduceLeDiff)
theorem law_Flips {h:AH} {cv:Value} {code:List (List Int)} (c:Els .u8 1 h cv code) (b:Byt 1 code):WF S 5 [cv] h (fun v _=>v=.bool true):=by
 refine WF_fn (fn:=c5) rfl rfl ?_
 dsimp only[c5,oO,oM,oS,oG,oK,oE,oL,oF,oX,oN]
 ((try simp (maxSteps:=3000000) (dsimp:=false) (disch:=first|omega|simp only[lnx];omega) only[↓ypre,ypost,↓reduceIte,reduceEqDiff,reduceAdd,reduceSub,reduceLeDiff,zz0,ynew]);try simp only[yback])
 refine l_big c ?_
 by_cases hbig:(code.length:Int)>4096
 ·((try simp (maxSteps:=3000000) (dsimp:=false) (disch:=first|omega|simp only[lnx];omega) only[↓ypre,ypost,↓reduceIte,reduceEqDiff,reduceAdd,reduceSub,reduceLeDiff,zz0,ynew,decide_eq_true hbig]);try simp only[yback])
 ((try simp (maxSteps:=3000000) (dsimp:=false) (disch:=first|omega|simp only[lnx];omega) only[↓ypre,ypost,↓reduceIte,reduceEqDiff,reduceAdd,reduceSub,reduceLeDiff,zz0,ynew,decide_eq_false hbig]);try simp only[yback])
 have c:Cod h cv code:=⟨c,b,by omega⟩
 refine s_DrawFlipProducts c fun x v1 i k r s H1 p1 hv1 xx nk1=>?_
 have o1:isOne v1=true:=nk1.one
 have vl1:=hv1.1.len
 refine WO_cut (fun f:Fr=>f 0=cv∧f 37=.tuple #[schV x v1,I64 i,I64 k,I64 r,I64 s]∧True) ⟨(by first|rfl|simp[upd_apply]),(by first|rfl|simp[upd_apply]),trivial⟩ ?_
 rintro f ⟨f0,f37,-⟩
 ((try simp (maxSteps:=3000000) (dsimp:=false) (disch:=first|omega|simp only[lnx];omega) only[↓ypre,ypost,↓reduceIte,reduceEqDiff,reduceAdd,reduceSub,reduceLeDiff,zz0,ynew,f0,f37,schV,o1]);try simp only[yback])
 generalize hH2:AH.new H1 _=H2
 obtain⟨g2,p2,n2⟩:=new_facts hH2
 ((try simp (maxSteps:=3000000) (dsimp:=false) (disch:=first|omega|simp only[lnx];omega) only[↓ypre,ypost,↓reduceIte,reduceEqDiff,reduceAdd,reduceSub,reduceLeDiff,zz0,ynew,f0,f37,rdn_of g2]);try simp only[yback])
 refine i_FlipProducts (x:=x) (hv1.pre p2) nk1 xx.l fun w1 H3 p3 kw1 nkw1=>?_
 generalize hF:fpR x i k r s=F at kw1
 have qw1:=kw1.now
 have ow1:isOne w1=true:=nkw1.one
 have vlw1:=qw1.1.len
 refine WO_cut (fun f:Fr=>f 0=cv∧f 3=.pointer (some ⟨H1.length,0,none⟩)∧f 4=I64 i∧f 5=I64 k∧f 6=I64 r∧f 7=I64 s∧f 49=.tuple #[schV F.1 w1,I64 F.2]∧True) ⟨(by first|rfl|exact f0|simp[upd_apply,f0]),(by first|rfl|simp[upd_apply]),(by first|rfl|simp[upd_apply]),(by first|rfl|simp[upd_apply]),(by first|rfl|simp[upd_apply]),(by first|rfl|simp[upd_apply]),(by first|rfl|simp[upd_apply]),trivial⟩ ?_
 rintro f ⟨f0,f3,f4,f5,f6,f7,f49,-⟩
 ((try simp (maxSteps:=3000000) (dsimp:=false) (disch:=first|omega|simp only[lnx];omega) only[↓ypre,ypost,↓reduceIte,reduceEqDiff,reduceAdd,reduceSub,reduceLeDiff,zz0,ynew,f0,f3,f4,f5,f6,f7,f49,schV,ow1]);try simp only[yback])
 generalize hH4:AH.new H3 _=H4
 obtain⟨g4,p4,n4⟩:=new_facts hH4
 have g2:=pre_get (p3.trans p4) g2
 ((try simp (maxSteps:=3000000) (dsimp:=false) (disch:=first|omega|simp only[lnx];omega) only[↓ypre,ypost,↓reduceIte,reduceEqDiff,reduceAdd,reduceSub,reduceLeDiff,zz0,ynew,f0,f3,f4,f5,f6,f7,f49,rdn_of g2]);try simp only[yback])
 refine s_FlipProducts (x:=x) (hv1.pre (p2.trans (p3.trans p4))) xx.l fun w2 H5 p5 kw2=>?_
 rw[hF] at kw2 ⊢
 have qw2:=kw2.now
 have ow2:isOne w2=true:=qw2.one
 have vlw2:=qw2.1.len
 have sF:SmallX F.1.ps:=by rw[←hF];exact fpR_small xx.l
 refine WO_cut (fun f:Fr=>f 0=cv∧f 3=.pointer (some ⟨H1.length,0,none⟩)∧f 4=I64 i∧f 5=I64 k∧f 6=I64 r∧f 7=I64 s∧f 8=.pointer (some ⟨H3.length,0,none⟩)∧f 9=I64 F.2∧f 58=.tuple #[schV F.1 w2,I64 F.2]∧True) ⟨(by first|rfl|exact f0|simp[upd_apply,f0]),(by first|rfl|exact f3|simp[upd_apply,f3]),(by first|rfl|exact f4|simp[upd_apply,f4]),(by first|rfl|exact f5|simp[upd_apply,f5]),(by first|rfl|exact f6|simp[upd_apply,f6]),(by first|rfl|exact f7|simp[upd_apply,f7]),(by first|rfl|simp[upd_apply]),(by first|rfl|simp[upd_apply]),(by first|rfl|simp[upd_apply]),trivial⟩ ?_
 rintro f ⟨f0,f3,f4,f5,f6,f7,f8,f9,f58,-⟩
 ((try simp (maxSteps:=3000000) (dsimp:=false) (disch:=first|omega|simp only[lnx];omega) only[↓ypre,ypost,↓reduceIte,reduceEqDiff,reduceAdd,reduceSub,reduceLeDiff,zz0,ynew,f0,f3,f4,f5,f6,f7,f8,f9,f58,schV,ow2]);try simp only[yback])
 generalize hH6:AH.new H5 _=H6
 obtain⟨g6,p6,n6⟩:=new_facts hH6
 have g4:=pre_get (p5.trans p6) g4
 ((try simp (maxSteps:=3000000) (dsimp:=false) (disch:=first|omega|simp only[lnx];omega) only[↓ypre,ypost,↓reduceIte,reduceEqDiff,reduceAdd,reduceSub,reduceLeDiff,zz0,ynew,f0,f3,f4,f5,f6,f7,f8,f9,f58,decide_eq_false (show ¬ (F.2)≠(F.2) from fun h=>h rfl),rdn_of g4,rdn_of g6]);try simp only[yback])
 refine l_schemes5 (x:=F.1) (qw1.pre (p4.trans (p5.trans p6))) (qw2.pre p6) sF fun H7 p7=>?_
 refine WO_cut (fun f:Fr=>f 0=cv∧f 3=.pointer (some ⟨H1.length,0,none⟩)∧f 4=I64 i∧f 5=I64 k∧f 6=I64 r∧f 7=I64 s∧f 8=.pointer (some ⟨H3.length,0,none⟩)∧f 9=I64 F.2∧f 64=.bool false∧f 67=.bool true∧True) ⟨(by first|rfl|exact f0|simp[upd_apply,f0]),(by first|rfl|exact f3|simp[upd_apply,f3]),(by first|rfl|exact f4|simp[upd_apply,f4]),(by first|rfl|exact f5|simp[upd_apply,f5]),(by first|rfl|exact f6|simp[upd_apply,f6]),(by first|rfl|exact f7|simp[upd_apply,f7]),(by first|rfl|exact f8|simp[upd_apply,f8]),(by first|rfl|exact f9|simp[upd_apply,f9]),(by first|rfl|simp[upd_apply]),(by first|rfl|simp[upd_apply]),trivial⟩ ?_
 rintro f ⟨f0,f3,f4,f5,f6,f7,f8,f9,f64,f67,-⟩
 refine WO_join2 (fun f h'=>(f 0=cv)∧H7<+:h') ?_ ?_
 ·skip
  by_cases z1:F.2=0
  case neg=>
   ((try simp (maxSteps:=3000000) (dsimp:=false) (disch:=first|omega|simp only[lnx];omega) only[↓ypre,ypost,↓reduceIte,reduceEqDiff,reduceAdd,reduceSub,reduceLeDiff,zz0,ynew,f0,f3,f4,f5,f6,f7,f8,f9,f64,f67,decide_eq_false z1]);try simp only[yback])
   rw[JnQ_n]
   exact⟨(by first|rfl|exact f0|(simp[upd_apply,f0];done)),List.prefix_refl _⟩
  obtain⟨I,K,R,rfl,rfl,rfl,gx,hI,hK,hIK,hR,hs,hseg,eF⟩:=fpR_of (x:=x) (i:=i) (k:=k) (r:=r) (s:=s) ⟨hv1.1.widL,hv1.2⟩ (by rw[hF];exact z1)
  rw[hF] at eF
  have gF:GX F.1:=by rw[eF];exact flip_GX gx hI hK hR
  have es:=heR_true gx gF (by rw[eF];exact flip_EqS gx hI hK hIK hR hseg)
  have pF:F.1.p=x.p:=by rw[eF]
  have zp:=(isX_sz gx.ok).1.p
  have ws:IntKind.i64.wrap (x.p-s)=x.p-s:=wrap64_in (by omega) (by omega)
  have g2:=pre_get (p5.trans (p6.trans p7)) g2
  have g4:=pre_get p7 g4
  ((try simp (maxSteps:=3000000) (dsimp:=false) (disch:=first|omega|simp only[lnx];omega) only[↓ypre,ypost,↓reduceIte,reduceEqDiff,reduceAdd,reduceSub,reduceLeDiff,zz0,ynew,f0,f3,f4,f5,f6,f7,f8,f9,f64,f67,decide_eq_true z1,rdn_of g2,rdn_of g4]);try simp only[yback])
  refine i_HaveEqualSums (x:=x) (y:=F.1) (hv1.pre ((p2.trans (p3.trans p4)).trans (p5.trans (p6.trans p7)))) xx.l (qw1.pre ((p4.trans p5).trans (p6.trans p7))) sF fun H8 p8=>?_
  rw[es]
  refine WO_cut (fun f:Fr=>f 0=cv∧f 3=.pointer (some ⟨H1.length,0,none⟩)∧f 4=I64 I∧f 5=I64 K∧f 6=I64 R∧f 7=I64 s∧f 8=.pointer (some ⟨H3.length,0,none⟩)∧f 75=.tuple #[.bool true,I64 0]∧True) ⟨(by first|rfl|exact f0|simp[upd_apply,f0]),(by first|rfl|exact f3|simp[upd_apply,f3]),(by first|rfl|exact f4|simp[upd_apply,f4]),(by first|rfl|exact f5|simp[upd_apply,f5]),(by first|rfl|exact f6|simp[upd_apply,f6]),(by first|rfl|exact f7|simp[upd_apply,f7]),(by first|rfl|exact f8|simp[upd_apply,f8]),(by first|rfl|simp[upd_apply]),trivial⟩ ?_
  rintro f ⟨f0,f3,f4,f5,f6,f7,f8,f75,-⟩
  have g4:=pre_get p8 g4
  have g2:=pre_get p8 g2
  by_cases zl:(F.1.ps.length:Int)=x.ps.length
  case neg=>
   ((try simp (maxSteps:=3000000) (dsimp:=false) (disch:=first|omega|simp only[lnx];omega) only[↓ypre,ypost,↓reduceIte,reduceEqDiff,reduceAdd,reduceSub,reduceLeDiff,zz0,ynew,f0,f3,f4,f5,f6,f7,f8,f75,show decide ((0:Int)≠0)=false from rfl,rd1_of g4,vlw1,rd1_of g2,vl1,decide_eq_false zl]);try simp only[yback])
   rw[JnQ_n]
   exact⟨(by first|rfl|exact f0|(simp[upd_apply,f0];done)),p8⟩
  have bk:fpR F.1 I K R (x.p-s)=(x,0):=by
   rw[eF] at zl ⊢
   exact fpR_back gx hI hK hIK hR hs hseg (by have:((toldL (flipL x.p x.ps I K R s)).length:Int)=x.ps.length:=zl;omega)
  ((try simp (maxSteps:=3000000) (dsimp:=false) (disch:=first|omega|simp only[lnx];omega) only[↓ypre,ypost,↓reduceIte,reduceEqDiff,reduceAdd,reduceSub,reduceLeDiff,zz0,ynew,f0,f3,f4,f5,f6,f7,f8,f75,show decide ((0:Int)≠0)=false from rfl,rd1_of g4,vlw1,rd1_of g2,vl1,decide_eq_true zl,rdn_of g4,ws]);try simp only[yback])
  refine i_FlipProducts (x:=F.1) (i:=I) (k:=K) (r:=R) (s:=x.p-s) (qw1.pre ((p4.trans p5).trans (p6.trans (p7.trans p8)))) nkw1 sF fun w3 H9 p9 kw3 nkw3=>?_
  rw[bk] at kw3 ⊢
  have qw3:=kw3.now
  have ow3:isOne w3=true:=nkw3.one
  refine WO_cut (fun f:Fr=>f 0=cv∧f 3=.pointer (some ⟨H1.length,0,none⟩)∧f 100=.tuple #[schV x w3,I64 0]∧True) ⟨(by first|rfl|exact f0|simp[upd_apply,f0]),(by first|rfl|exact f3|simp[upd_apply,f3]),(by first|rfl|simp[upd_apply]),trivial⟩ ?_
  rintro f ⟨f0,f3,f100,-⟩
  ((try simp (maxSteps:=3000000) (dsimp:=false) (disch:=first|omega|simp only[lnx];omega) only[↓ypre,ypost,↓reduceIte,reduceEqDiff,reduceAdd,reduceSub,reduceLeDiff,zz0,ynew,f0,f3,f100,schV,ow3]);try simp only[yback])
  generalize hH10:AH.new H9 _=H10
  obtain⟨g10,p10,n10⟩:=new_facts hH10
  have g2:=pre_get (p9.trans p10) g2
  ((try simp (maxSteps:=3000000) (dsimp:=false) (disch:=first|omega|simp only[lnx];omega) only[↓ypre,ypost,↓reduceIte,reduceEqDiff,reduceAdd,reduceSub,reduceLeDiff,zz0,ynew,f0,f3,f100,show decide ((0:Int)≠0)=false from rfl,rdn_of g10,rdn_of g2]);try simp only[yback])
  refine l_schemes5 (x:=x) (qw3.pre p10) (hv1.pre (((p2.trans p3).trans (p4.trans p5)).trans ((p6.trans p7).trans (p8.trans (p9.trans p10))))) xx.l fun H11 p11=>?_
  refine WO_cut (fun f:Fr=>f 0=cv∧f 105=.bool false∧f 108=.bool true∧True) ⟨(by first|rfl|exact f0|simp[upd_apply,f0]),(by first|rfl|simp[upd_apply]),(by first|rfl|simp[upd_apply]),trivial⟩ ?_
  rintro f ⟨f0,f105,f108,-⟩
  ((try simp (maxSteps:=3000000) (dsimp:=false) (disch:=first|omega|simp only[lnx];omega) only[↓ypre,ypost,↓reduceIte,reduceEqDiff,reduceAdd,reduceSub,reduceLeDiff,zz0,ynew,f0,f105,f108]);try simp only[yback])
  rw[JnQ_n]
  exact⟨(by first|rfl|exact f0|(simp[upd_apply,f0];done)),((p8.trans p9).trans (p10.trans p11))⟩
 rintro f HX12 ⟨f0,pX12⟩
 ((try simp (maxSteps:=3000000) (dsimp:=false) (disch:=first|omega|simp only[lnx];omega) only[↓ypre,ypost,↓reduceIte,reduceEqDiff,reduceAdd,reduceSub,reduceLeDiff,zz0,ynew,f0]);try simp only[yback])
 refine s_DrawWalkFlips (c.pre (((p1.trans p2).trans (p3.trans p4)).trans ((p5.trans p6).trans (p7.trans pX12)))) fun z v2 nw ns H13 p13 hv2 xz nk2 hn2 ln2=>?_
 have o2:isOne v2=true:=nk2.one
 have nwl:=hn2.len
 refine WO_cut (fun f:Fr=>f 0=cv∧f 113=.tuple #[schV z v2,nw]∧True) ⟨(by first|rfl|exact f0|simp[upd_apply,f0]),(by first|rfl|simp[upd_apply]),trivial⟩ ?_
 rintro f ⟨f0,f113,-⟩
 ((try simp (maxSteps:=3000000) (dsimp:=false) (disch:=first|omega|simp only[lnx];omega) only[↓ypre,ypost,↓reduceIte,reduceEqDiff,reduceAdd,reduceSub,reduceLeDiff,zz0,ynew,f0,f113,schV,o2]);try simp only[yback])
 generalize hH14:AH.new H13 _=H14
 obtain⟨g14,p14,n14⟩:=new_facts hH14
 ((try simp (maxSteps:=3000000) (dsimp:=false) (disch:=first|omega|simp only[lnx];omega) only[↓ypre,ypost,↓reduceIte,reduceEqDiff,reduceAdd,reduceSub,reduceLeDiff,zz0,ynew,f0,f113,rdn_of g14]);try simp only[yback])
 refine i_WalkFlips (x:=z) (hv2.pre p14) nk2 xz.l (hn2.pre p14) (by omega) fun u1 H15 p15 ku1 nku1=>?_
 generalize hW:wkR z ns=W at ku1
 have qu1:=ku1.now
 have ou1:isOne u1=true:=nku1.one
 refine WO_cut (fun f:Fr=>f 0=cv∧f 16=.pointer (some ⟨H13.length,0,none⟩)∧f 17=nw∧f 119=.tuple #[schV W.1 u1,I64 W.2]∧True) ⟨(by first|rfl|exact f0|simp[upd_apply,f0]),(by first|rfl|simp[upd_apply]),(by first|rfl|simp[upd_apply]),(by first|rfl|simp[upd_apply]),trivial⟩ ?_
 rintro f ⟨f0,f16,f17,f119,-⟩
 ((try simp (maxSteps:=3000000) (dsimp:=false) (disch:=first|omega|simp only[lnx];omega) only[↓ypre,ypost,↓reduceIte,reduceEqDiff,reduceAdd,reduceSub,reduceLeDiff,zz0,ynew,f0,f16,f17,f119,schV,ou1]);try simp only[yback])
 generalize hH16:AH.new H15 _=H16
 obtain⟨g16,p16,n16⟩:=new_facts hH16
 have g14:=pre_get (p15.trans p16) g14
 ((try simp (maxSteps:=3000000) (dsimp:=false) (disch:=first|omega|simp only[lnx];omega) only[↓ypre,ypost,↓reduceIte,reduceEqDiff,reduceAdd,reduceSub,reduceLeDiff,zz0,ynew,f0,f16,f17,f119,rdn_of g14]);try simp only[yback])
 refine s_WalkFlips (x:=z) (hv2.pre (p14.trans (p15.trans p16))) xz.l (hn2.pre (p14.trans (p15.trans p16))) (by omega) fun u2 H17 p17 ku2=>?_
 rw[hW] at ku2 ⊢
 have qu2:=ku2.now
 have ou2:isOne u2=true:=qu2.one
 have sW:SmallX W.1.ps:=by rw[←hW];exact wkR_small ⟨hv2.1.widL,hv2.2⟩
 refine WO_cut (fun f:Fr=>f 0=cv∧f 16=.pointer (some ⟨H13.length,0,none⟩)∧f 17=nw∧f 18=.pointer (some ⟨H15.length,0,none⟩)∧f 19=I64 W.2∧f 125=.tuple #[schV W.1 u2,I64 W.2]∧True) ⟨(by first|rfl|exact f0|simp[upd_apply,f0]),(by first|rfl|exact f16|simp[upd_apply,f16]),(by first|rfl|exact f17|simp[upd_apply,f17]),(by first|rfl|simp[upd_apply]),(by first|rfl|simp[upd_apply]),(by first|rfl|simp[upd_apply]),trivial⟩ ?_
 rintro f ⟨f0,f16,f17,f18,f19,f125,-⟩
 ((try simp (maxSteps:=3000000) (dsimp:=false) (disch:=first|omega|simp only[lnx];omega) only[↓ypre,ypost,↓reduceIte,reduceEqDiff,reduceAdd,reduceSub,reduceLeDiff,zz0,ynew,f0,f16,f17,f18,f19,f125,schV,ou2]);try simp only[yback])
 generalize hH18:AH.new H17 _=H18
 obtain⟨g18,p18,n18⟩:=new_facts hH18
 have g16:=pre_get (p17.trans p18) g16
 ((try simp (maxSteps:=3000000) (dsimp:=false) (disch:=first|omega|simp only[lnx];omega) only[↓ypre,ypost,↓reduceIte,reduceEqDiff,reduceAdd,reduceSub,reduceLeDiff,zz0,ynew,f0,f16,f17,f18,f19,f125,decide_eq_false (show ¬ (W.2)≠(W.2) from fun h=>h rfl),rdn_of g16,rdn_of g18]);try simp only[yback])
 refine l_schemes5 (x:=W.1) (qu1.pre (p16.trans (p17.trans p18))) (qu2.pre p18) sW fun H19 p19=>?_
 refine WO_cut (fun f:Fr=>f 0=cv∧f 16=.pointer (some ⟨H13.length,0,none⟩)∧f 17=nw∧f 18=.pointer (some ⟨H15.length,0,none⟩)∧f 19=I64 W.2∧f 131=.bool false∧f 134=.bool true∧True) ⟨(by first|rfl|exact f0|simp[upd_apply,f0]),(by first|rfl|exact f16|simp[upd_apply,f16]),(by first|rfl|exact f17|simp[upd_apply,f17]),(by first|rfl|exact f18|simp[upd_apply,f18]),(by first|rfl|exact f19|simp[upd_apply,f19]),(by first|rfl|simp[upd_apply]),(by first|rfl|simp[upd_apply]),trivial⟩ ?_
 rintro f ⟨f0,f16,f17,f18,f19,f131,f134,-⟩
 refine WO_join2 (fun f h'=>(f 0=cv)∧H19<+:h') ?_ ?_
 ·skip
  by_cases z2:W.2=0
  case neg=>
   ((try simp (maxSteps:=3000000) (dsimp:=false) (disch:=first|omega|simp only[lnx];omega) only[↓ypre,ypost,↓reduceIte,reduceEqDiff,reduceAdd,reduceSub,reduceLeDiff,zz0,ynew,f0,f16,f17,f18,f19,f131,f134,decide_eq_false z2]);try simp only[yback])
   rw[JnQ_n]
   exact⟨(by first|rfl|exact f0|(simp[upd_apply,f0];done)),List.prefix_refl _⟩
  obtain⟨gz,ok,eW,gw,ew⟩:=wkR_of (x:=z) (ns:=ns) ⟨hv2.1.widL,hv2.2⟩ (by rw[hW];exact z2)
  rw[hW] at eW
  have es2:=heR_true gz gw ew
  rw[←eW] at es2
  have g14:=pre_get (p17.trans (p18.trans p19)) g14
  have g16:=pre_get p19 g16
  ((try simp (maxSteps:=3000000) (dsimp:=false) (disch:=first|omega|simp only[lnx];omega) only[↓ypre,ypost,↓reduceIte,reduceEqDiff,reduceAdd,reduceSub,reduceLeDiff,zz0,ynew,f0,f16,f17,f18,f19,f131,f134,decide_eq_true z2,rdn_of g14,rdn_of g16]);try simp only[yback])
  refine i_HaveEqualSums (x:=z) (y:=W.1) (hv2.pre ((p14.trans (p15.trans p16)).trans (p17.trans (p18.trans p19)))) xz.l (qu1.pre ((p16.trans p17).trans (p18.trans p19))) sW fun H20 p20=>?_
  rw[es2]
  refine WO_cut (fun f:Fr=>f 0=cv∧f 16=.pointer (some ⟨H13.length,0,none⟩)∧f 17=nw∧f 18=.pointer (some ⟨H15.length,0,none⟩)∧f 142=.tuple #[.bool true,I64 0]∧True) ⟨(by first|rfl|exact f0|simp[upd_apply,f0]),(by first|rfl|exact f16|simp[upd_apply,f16]),(by first|rfl|exact f17|simp[upd_apply,f17]),(by first|rfl|exact f18|simp[upd_apply,f18]),(by first|rfl|simp[upd_apply]),trivial⟩ ?_
  rintro f ⟨f0,f16,f17,f18,f142,-⟩
  by_cases zn:(ns.length:Int)>0
  case neg=>
   ((try simp (maxSteps:=3000000) (dsimp:=false) (disch:=first|omega|simp only[lnx];omega) only[↓ypre,ypost,↓reduceIte,reduceEqDiff,reduceAdd,reduceSub,reduceLeDiff,zz0,ynew,f0,f16,f17,f18,f142,show decide ((0:Int)≠0)=false from rfl,nwl,decide_eq_false zn]);try simp only[yback])
   rw[JnQ_n]
   exact⟨(by first|rfl|exact f0|(simp[upd_apply,f0];done)),p20⟩
  obtain⟨na,sa,ia⟩:=hn2.first (by omega)
  obtain⟨nb,sb,ib⟩:=hn2.rest (by omega)
  obtain⟨oka,okb⟩:=wkOk_take ok 1
  have ea:=wkR_go gz oka
  obtain⟨ga,-⟩:=walk_ok gz (wkOk_nn oka).2
  have eb:=wkR_go ga okb
  have et:wps (wps z (walkL z.p z.ps (ns.take 1))) (walkL (wps z (walkL z.p z.ps (ns.take 1))).p (wps z (walkL z.p z.ps (ns.take 1))).ps (ns.drop 1))=W.1:=by rw[eW];show wps z (walkL z.p (walkL z.p z.ps (ns.take 1)) (ns.drop 1))=_;rw[walk_two]
  rw[et] at eb
  generalize hA:wps z (walkL z.p z.ps (ns.take 1))=A at *
  have la:(ns.take 1).length≤1000:=by rw[List.length_take];omega
  have lb:(ns.drop 1).length≤1000:=by rw[List.length_drop];omega
  have g14:=pre_get p20 g14
  ((try simp (maxSteps:=3000000) (dsimp:=false) (disch:=first|omega|simp only[lnx];omega) only[↓ypre,ypost,↓reduceIte,reduceEqDiff,reduceAdd,reduceSub,reduceLeDiff,zz0,ynew,f0,f16,f17,f18,f142,show decide ((0:Int)≠0)=false from rfl,nwl,decide_eq_true zn,rdn_of g14,omapF_none,omapF_some,sa]);try simp only[yback])
  refine i_WalkFlips (x:=z) (hv2.pre ((p14.trans (p15.trans p16)).trans ((p17.trans p18).trans (p19.trans p20)))) nk2 xz.l (ia.pre ((p14.trans (p15.trans p16)).trans ((p17.trans p18).trans (p19.trans p20)))) (by omega) fun u3 H21 p21 ku3 nku3=>?_
  rw[ea] at ku3 ⊢
  have qu3:=ku3.now
  have ou3:isOne u3=true:=nku3.one
  refine WO_cut (fun f:Fr=>f 0=cv∧f 17=nw∧f 18=.pointer (some ⟨H15.length,0,none⟩)∧f 158=.tuple #[schV A u3,I64 0]∧True) ⟨(by first|rfl|exact f0|simp[upd_apply,f0]),(by first|rfl|exact f17|simp[upd_apply,f17]),(by first|rfl|exact f18|simp[upd_apply,f18]),(by first|rfl|simp[upd_apply]),trivial⟩ ?_
  rintro f ⟨f0,f17,f18,f158,-⟩
  ((try simp (maxSteps:=3000000) (dsimp:=false) (disch:=first|omega|simp only[lnx];omega) only[↓ypre,ypost,↓reduceIte,reduceEqDiff,reduceAdd,reduceSub,reduceLeDiff,zz0,ynew,f0,f17,f18,f158,schV,ou3]);try simp only[yback])
  generalize hH22:AH.new H21 _=H22
  obtain⟨g22,p22,n22⟩:=new_facts hH22
  ((try simp (maxSteps:=3000000) (dsimp:=false) (disch:=first|omega|simp only[lnx];omega) only[↓ypre,ypost,↓reduceIte,reduceEqDiff,reduceAdd,reduceSub,reduceLeDiff,zz0,ynew,f0,f17,f18,f158,rdn_of g22,omapF_none,omapF_some,sb]);try simp only[yback])
  refine i_WalkFlips (x:=A) (qu3.pre p22) nku3 (wps_small ga) (ib.pre (((p14.trans p15).trans (p16.trans p17)).trans ((p18.trans p19).trans (p20.trans (p21.trans p22))))) (by omega) fun u4 H23 p23 ku4 nku4=>?_
  rw[eb] at ku4 ⊢
  have qu4:=ku4.now
  have ou4:isOne u4=true:=nku4.one
  refine WO_cut (fun f:Fr=>f 0=cv∧f 18=.pointer (some ⟨H15.length,0,none⟩)∧f 25=I64 0∧f 165=.tuple #[schV W.1 u4,I64 0]∧True) ⟨(by first|rfl|exact f0|simp[upd_apply,f0]),(by first|rfl|exact f18|simp[upd_apply,f18]),(by first|rfl|simp[upd_apply]),(by first|rfl|simp[upd_apply]),trivial⟩ ?_
  rintro f ⟨f0,f18,f25,f165,-⟩
  ((try simp (maxSteps:=3000000) (dsimp:=false) (disch:=first|omega|simp only[lnx];omega) only[↓ypre,ypost,↓reduceIte,reduceEqDiff,reduceAdd,reduceSub,reduceLeDiff,zz0,ynew,f0,f18,f25,f165,schV,ou4]);try simp only[yback])
  generalize hH24:AH.new H23 _=H24
  obtain⟨g24,p24,n24⟩:=new_facts hH24
  have g16:=pre_get ((p20.trans p21).trans (p22.trans (p23.trans p24))) g16
  ((try simp (maxSteps:=3000000) (dsimp:=false) (disch:=first|omega|simp only[lnx];omega) only[↓ypre,ypost,↓reduceIte,reduceEqDiff,reduceAdd,reduceSub,reduceLeDiff,zz0,ynew,f0,f18,f25,f165,show decide ((0:Int)≠0)=false from rfl,rdn_of g24,rdn_of g16]);try simp only[yback])
  refine l_schemes5 (x:=W.1) (qu4.pre p24) (qu1.pre (((p16.trans p17).trans (p18.trans p19)).trans ((p20.trans p21).trans (p22.trans (p23.trans p24))))) sW fun H25 p25=>?_
  refine WO_cut (fun f:Fr=>f 0=cv∧f 174=.bool false∧f 177=.bool true∧True) ⟨(by first|rfl|exact f0|simp[upd_apply,f0]),(by first|rfl|simp[upd_apply]),(by first|rfl|simp[upd_apply]),trivial⟩ ?_
  rintro f ⟨f0,f174,f177,-⟩
  ((try simp (maxSteps:=3000000) (dsimp:=false) (disch:=first|omega|simp only[lnx];omega) only[↓ypre,ypost,↓reduceIte,reduceEqDiff,reduceAdd,reduceSub,reduceLeDiff,zz0,ynew,f0,f174,f177]);try simp only[yback])
  rw[JnQ_n]
  exact⟨(by first|rfl|exact f0|(simp[upd_apply,f0];done)),((p20.trans (p21.trans p22)).trans (p23.trans (p24.trans p25)))⟩
 rintro f HX26 ⟨f0,pX26⟩
 ((try simp (maxSteps:=3000000) (dsimp:=false) (disch:=first|omega|simp only[lnx];omega) only[↓ypre,ypost,↓reduceIte,reduceEqDiff,reduceAdd,reduceSub,reduceLeDiff,zz0,ynew,f0]);try simp only[yback])
 refine s_DrawFlipsOf (c.pre ((((p1.trans p2).trans (p3.trans p4)).trans ((p5.trans p6).trans (p7.trans pX12))).trans (((p13.trans p14).trans (p15.trans p16)).trans ((p17.trans p18).trans (p19.trans pX26))))) fun u v3 H27 p27 hv3 xu nk3=>?_
 have o3:isOne v3=true:=nk3.one
 refine WO_cut (fun f:Fr=>f 181=schV u v3∧True) ⟨(by first|rfl|simp[upd_apply]),trivial⟩ ?_
 rintro f ⟨f181,-⟩
 ((try simp (maxSteps:=3000000) (dsimp:=false) (disch:=first|omega|simp only[lnx];omega) only[↓ypre,ypost,↓reduceIte,reduceEqDiff,reduceAdd,reduceSub,reduceLeDiff,zz0,ynew,f181,schV,o3]);try simp only[yback])
 generalize hH28:AH.new H27 _=H28
 obtain⟨g28,p28,n28⟩:=new_facts hH28
 ((try simp (maxSteps:=3000000) (dsimp:=false) (disch:=first|omega|simp only[lnx];omega) only[↓ypre,ypost,↓reduceIte,reduceEqDiff,reduceAdd,reduceSub,reduceLeDiff,zz0,ynew,f181,rdn_of g28]);try simp only[yback])
 refine i_FlipsOf (x:=u) (hv3.pre p28) xu.l fun t1 H29 p29 qt1=>?_
 have sG:=foR_small (x:=u)
 generalize hG:foR u=G at qt1 sG
 refine WO_cut (fun f:Fr=>f 28=.pointer (some ⟨H27.length,0,none⟩)∧f 184=.tuple #[t1,I64 G.2]∧True) ⟨(by first|rfl|simp[upd_apply]),(by first|rfl|simp[upd_apply]),trivial⟩ ?_
 rintro f ⟨f28,f184,-⟩
 have g28:=pre_get p29 g28
 ((try simp (maxSteps:=3000000) (dsimp:=false) (disch:=first|omega|simp only[lnx];omega) only[↓ypre,ypost,↓reduceIte,reduceEqDiff,reduceAdd,reduceSub,reduceLeDiff,zz0,ynew,f28,f184,rdn_of g28]);try simp only[yback])
 refine s_FlipsOf (x:=u) (hv3.pre (p28.trans p29)) xu.l fun t2 H30 p30 qt2=>?_
 rw[hG] at qt2 ⊢
 refine WO_cut (fun f:Fr=>f 29=t1∧f 30=I64 G.2∧f 189=.tuple #[t2,I64 G.2]∧True) ⟨(by first|rfl|simp[upd_apply]),(by first|rfl|simp[upd_apply]),(by first|rfl|simp[upd_apply]),trivial⟩ ?_
 rintro f ⟨f29,f30,f189,-⟩
 ((try simp (maxSteps:=3000000) (dsimp:=false) (disch:=first|omega|simp only[lnx];omega) only[↓ypre,ypost,↓reduceIte,reduceEqDiff,reduceAdd,reduceSub,reduceLeDiff,zz0,ynew,f29,f30,f189,decide_eq_true (show (G.2)=(G.2) from rfl)]);try simp only[yback])
 refine l_rows5 (Rows.pre p30 qt1) qt2 sG ?_
 refine WO_cut (fun f:Fr=>f 195=.bool true∧f 198=.bool true∧True) ⟨(by first|rfl|simp[upd_apply]),(by first|rfl|simp[upd_apply]),trivial⟩ ?_
 rintro f ⟨f195,f198,-⟩
 ((try simp (maxSteps:=3000000) (dsimp:=false) (disch:=first|omega|simp only[lnx];omega) only[↓ypre,ypost,↓reduceIte,reduceEqDiff,reduceAdd,reduceSub,reduceLeDiff,zz0,ynew,f195,f198]);try simp only[yback])
end Go.Proofs.Ytapafdpnmakekaa.X

set_option linter.unusedVariables false
set_option linter.unusedSimpArgs false
namespace Go.Proofs.Ytapafdpnmakekaa.X
open Go Go.RowKit Go.ChangeShapes Go.WideShapes Go.Deep
structure Adm (P:Program) (W:World) (γ:List G) (h:AH):Prop where
 rel:Rel P W.heap.size γ h W
 ro:∀ n b,h.get n=some b→b.ro=true
theorem Adm.nil (P:Program) (W:World):Adm P W [] [] where
 rel:={
  len:=rfl
  cell:=fun n b g h=>by simp[AH.get] at h
  rw:=fun n b g h=>by simp[AH.get] at h
  ro:=fun n b g h=>by simp[AH.get] at h
  inj:=fun n m bn bm g g' h=>by simp[AH.get] at h
  base:=Nat.le_refl _ }
 ro:=fun n b h=>by simp[AH.get] at h
theorem Adm.new {P:Program} {W:World} {γ:List G} {h:AH} (A:Adm P W γ h) {g:G} {cs:List Value} {e:TypeId} (hb:g.b<W.heap.size)
  (hc:∀ j v,cs[j]?=some v→isOne v=true∧∃ v',W.cell? ⟨g.b,g.o+j,none⟩=some v'∧VR γ v v'):Adm P W (γ++[g]) (h.new ⟨cs,e,true,false⟩):=by
 have hl:=A.rel.len
 have hp:γ<+:γ++[g]:=List.prefix_append _ _
 have old:∀ {n:Nat} {g':G},n<h.length→(γ++[g])[n]?=some g'→γ[n]?=some g':=fun hn hg=>by
  rw[List.getElem?_append_left (by omega)] at hg
  exact hg
 have new:∀ {g':G},(γ++[g])[h.length]?=some g'→g'=g:=fun hg=>by
  rw[←hl] at hg
  simpa using hg.symm
 refine⟨⟨by simp[len_new,hl],?_,?_,?_,?_,Nat.le_refl _⟩,?_⟩
 ·intro n b g' hb' hg' j v hv
  rcases get_new_cases hb' with hb'|⟨rfl,rfl⟩
  ·obtain⟨q1,v',q2,q3⟩:=A.rel.cell n b g' hb' (old (get_lt hb') hg') j v hv
   exact⟨q1,v',q2,q3.mono hp⟩
  ·obtain rfl:=new hg'
   obtain⟨q1,v',q2,q3⟩:=hc j v hv
   exact⟨q1,v',q2,q3.mono hp⟩
 ·intro n b g' hb' hg' hro
  rcases get_new_cases hb' with hb'|⟨rfl,rfl⟩
  ·rw[A.ro n b hb'] at hro
   cases hro
  ·cases hro
 ·intro n b g' hb' hg' hro
  rcases get_new_cases hb' with hb'|⟨rfl,rfl⟩
  ·exact A.rel.ro n b g' hb' (old (get_lt hb') hg') hro
  ·obtain rfl:=new hg'
   exact hb
 ·intro n m bn bm g1 g2 h1 h2 h3 h4 hro
  rcases get_new_cases h1 with hb'|⟨rfl,rfl⟩
  ·rw[A.ro n bn hb'] at hro
   cases hro
  ·cases hro
 ·intro n b hb'
  rcases get_new_cases hb' with hb'|⟨rfl,rfl⟩
  ·exact A.ro n b hb'
  ·rfl
section
variable {H:Type} {enc:TypeId×Value→H} {P:Program} {W:World}
theorem add_off (a:Addr) (ha:a.spot=none) (i:Nat):a.add i=⟨a.block,a.off+i,none⟩:=by
 unfold Addr.add
 split
 ·rename_i h0
  subst h0
  obtain⟨b,o,s⟩:=a
  simp at ha
  subst ha
  rfl
 ·rfl
theorem adm_ints {γ:List G} {h:AH} (A:Adm P W γ h) {t e:TypeId} {n:Nat} {cs:List Value} {x:DataW H×List MemPlace} (ht:P.underlying t=some (.slice e)) (he:P.underlying e=some (.int .i64))
  (hc:P.cellsOf e=1) (hx:DataW.trod enc P W 0 (fun _=>true) true n t cs=some x) :
  ∃ v' v ns γ' h',cs=[v']∧γ<+:γ'∧h<+:h'∧Adm P W γ' h'∧VR γ' v v'∧Ints h' v ns∧ns.length≤maxLen:=by
 rcases open_slice1 ht hc hx with⟨rfl,_⟩|⟨a,len,cap,m,n',V,D,Pl,rfl,hb,hl,hm,hmm,_,hcell⟩
 ·exact⟨_,.slice none 0 0,[],γ,h,rfl,List.prefix_refl _,List.prefix_refl _,A,.nils,.inl ⟨rfl,0,by omega,rfl⟩,Nat.zero_le _⟩
 ·by_cases h0:len=0
  ·subst h0
   exact⟨_,.slice none 0 1,[],γ,h,rfl,List.prefix_refl _,List.prefix_refl _,A,.emp _ _,.inl ⟨rfl,1,by omega,rfl⟩,Nat.zero_le _⟩
  ·have hcell:∀ i,i<cap→W.cell? (a.add i)=some (V i)∧DataW.trod enc P W 0 (fun _=>true) true n' e [V i]=some (D i,Pl i):=fun i hi=>hcell i (by rw[show m=cap from hmm];exact hi)
   have hz:=(hcell 0 (by omega)).1
   have hsp:a.spot=none:=by
    simp only[Addr.add,if_true] at hz
    unfold World.cell? at hz
    split at hz
    ·split at hz
     ·cases hz
     ·rename_i hs
      simpa using hs
    ·cases hz
   have hbl:a.block<W.heap.size:=by
    have:=World.block_lt_of_cell? W _ hz
    simpa [Addr.add] using this
   have hV:∀ i,i<len→∃ k,V i=.int .i64 k:=fun i hi=>by
    obtain⟨k,hk,_⟩:=DataW.trod_int he (hcell i (by omega)).2
    exact⟨k,by simpa using hk⟩
   let ns:List Int:=(List.range len).map fun i=>match V i with
    | .int _ k=>k
    | _=>0
   have hns:ns.length=len:=by simp[ns]
   have hget:∀ i,i<len→ns.getD i 0=(match V i with
    | .int _ k=>k
    | _=>0):=fun i hi=>by simp[ns,List.getD_eq_getElem?_getD,List.getElem?_map,List.getElem?_range hi]
   refine⟨_,.slice (some ⟨h.length,0,none⟩) ns.length 1,ns,γ++[⟨a.block,a.off,cap⟩],h.new ⟨ns.map (Value.int .i64),e,true,false⟩,rfl,List.prefix_append _ _,pre_new (List.prefix_refl _),?_,?_,
    Ints.own get_new_same rfl,by rw[hns];omega⟩
   ·refine A.new hbl fun j v hv=>?_
    rw[List.getElem?_map] at hv
    obtain⟨k,hk,rfl⟩:=Option.map_eq_some_iff.1 hv
    have hj:j<len:=by rw[←hns];exact (List.getElem?_eq_some_iff.1 hk).1
    obtain⟨k',hk'⟩:=hV j hj
    have hg:=hget j hj
    rw[List.getD_eq_getElem?_getD,hk,hk'] at hg
    simp only[Option.getD_some] at hg
    subst hg
    refine⟨rfl,_,?_,.int _ _⟩
    have:=(hcell j (by omega)).1
    rw[add_off a hsp,hk'] at this
    exact this
   ·have:=VR.slc (γ:=γ++[⟨a.block,a.off,cap⟩]) h.length 0 ns.length 1 ⟨a.block,a.off,cap⟩ (by rw[←A.rel.len];simp) (by omega) (by simp only;omega)
    have e1:(some a:Option Addr)=some ⟨a.block,a.off+0,none⟩:=by
     obtain⟨b,o,s⟩:=a
     simp at hsp
     subst hsp
     rfl
    rw[e1]
    have e2:(cap-0) / 1=cap:=by simp
    rw[←hns,show (Value.slice (some ⟨a.block,a.off+0,none⟩) ns.length cap)=Value.slice (some ⟨a.block,a.off+0,none⟩) ns.length ((cap-0) / 1) by rw[e2]]
    exact this
theorem trod_field {t:TypeId} {fs:Array Field} {n:Nat} {cs:List Value} {x:DataW H×List MemPlace} (hs:P.underlying t=some (.struct fs)) (hx:DataW.trod enc P W 0 (fun _=>true) true n t cs=some x)
  {i:Nat} {f:Field} (hf:fs[i]?=some f):∃ m y,DataW.trod enc P W 0 (fun _=>true) true m f.type ((cs.drop f.offset).take (P.cellsOf f.type))=some y:=by
 obtain⟨xs,m,_,_,_,hl,hall⟩:=DataW.trod_struct hs hx
 have hi:i<xs.length:=by
  rw[hl]
  exact (Array.getElem?_eq_some_iff.1 hf).1
 exact⟨m,xs[i],by rw[hall i f hf,List.getElem?_eq_getElem hi]⟩
theorem trod_cells {t:TypeId} {fs:Array Field} {n:Nat} {cs:List Value} {x:DataW H×List MemPlace} (hs:P.underlying t=some (.struct fs)) (hx:DataW.trod enc P W 0 (fun _=>true) true n t cs=some x):cs.length=P.cellsOf t:=by
 obtain⟨xs,m,_,_,hl,_,_⟩:=DataW.trod_struct hs hx
 exact hl
theorem trod_field_int {t:TypeId} {fs:Array Field} {n:Nat} {cs:List Value} {x:DataW H×List MemPlace} (hs:P.underlying t=some (.struct fs)) (hx:DataW.trod enc P W 0 (fun _=>true) true n t cs=some x)
  {i:Nat} {f:Field} (hf:fs[i]?=some f) (ht:P.underlying f.type=some (.int .i64)):∃ k,(cs.drop f.offset).take (P.cellsOf f.type)=[I64 k]∧(Lit.int .i64 k).wf=true:=by
 obtain⟨m,y,hy⟩:=trod_field hs hx hf
 obtain⟨k,h1,_,h2⟩:=DataW.trod_int ht hy
 exact⟨k,h1,h2⟩
theorem agg_of_cells {v:Value} {l:List Value} (h:v.cells.toList=l) (h2:2≤l.length):v=.agg l.toArray:=by
 cases v with
 | agg cs=>
  simp only[Value.cells] at h
  rw[←h]
 | _=>
  simp only[Value.cells] at h
  rw[←h] at h2
  simp at h2
theorem adm_ints4 {γ:List G} {h:AH} (A:Adm P W γ h) {t e:TypeId} {f0 f1 f2 f3 f4:Field} {v:Value} {d:DataW H} {ps:List MemPlace} (hs:P.underlying t=some (.struct #[f0,f1,f2,f3,f4]))
  (hct:P.cellsOf t=5) (ho:f0.offset=0∧f1.offset=1∧f2.offset=2∧f3.offset=3∧f4.offset=4)
  (hi:P.underlying f0.type=some (.int .i64)∧P.underlying f1.type=some (.int .i64)∧P.underlying f2.type=some (.int .i64)∧P.underlying f3.type=some (.int .i64))
  (hc:P.cellsOf f0.type=1∧P.cellsOf f1.type=1∧P.cellsOf f2.type=1∧P.cellsOf f3.type=1∧P.cellsOf f4.type=1)
  (ht:P.underlying f4.type=some (.slice e)) (he:P.underlying e=some (.int .i64)) (hce:P.cellsOf e=1) (hx:DataW.Trod enc P W 0 (fun _=>true) true t v d ps) :
  ∃ a b c d ns v' γ' h',γ<+:γ'∧h<+:h'∧Adm P W γ' h'∧VR γ' (.agg #[I64 a,I64 b,I64 c,I64 d,v']) v∧Ints h' v' ns∧ns.length≤maxLen:=by
 obtain⟨n,hx⟩:=hx
 have hl:=trod_cells hs hx
 rw[hct] at hl
 obtain⟨a,ha,_⟩:=trod_field_int hs hx (i:=0) (f:=f0) rfl hi.1
 obtain⟨b,hb,_⟩:=trod_field_int hs hx (i:=1) (f:=f1) rfl hi.2.1
 obtain⟨c,hcc,_⟩:=trod_field_int hs hx (i:=2) (f:=f2) rfl hi.2.2.1
 obtain⟨d,hd,_⟩:=trod_field_int hs hx (i:=3) (f:=f3) rfl hi.2.2.2
 obtain⟨m,y,hy⟩:=trod_field hs hx (i:=4) (f:=f4) rfl
 obtain⟨v',u,ns,γ',h',e1,q1,q2,q3,q4,q5,q6⟩:=adm_ints A ht he hce hy
 generalize hcs:v.cells.toList=cs at *
 rw[ho.1,hc.1] at ha
 rw[ho.2.1,hc.2.1] at hb
 rw[ho.2.2.1,hc.2.2.1] at hcc
 rw[ho.2.2.2.1,hc.2.2.2.1] at hd
 rw[ho.2.2.2.2,hc.2.2.2.2] at e1
 obtain⟨c0,c1,c2,c3,c4,rfl⟩:∃ c0 c1 c2 c3 c4,cs=[c0,c1,c2,c3,c4]:=by
  match cs,hl with
  | [c0,c1,c2,c3,c4],_=>exact⟨_,_,_,_,_,rfl⟩
 simp at ha hb hcc hd e1
 subst ha hb hcc hd e1
 refine⟨a,b,c,d,ns,u,γ',h',q1,q2,q3,?_,q5,q6⟩
 rw[agg_of_cells hcs (by simp)]
 exact VR.aggL (VRL.cons (.int _ _) (VRL.cons (.int _ _) (VRL.cons (.int _ _) (VRL.cons (.int _ _) (VRL.cons q4 (VRL.nil _))))))
def tyInt (P:Program) (t:TypeId):Bool:=match P.underlying t with
 | some (.int .i64)=>true
 | _=>false
def tySlice (P:Program) (t e:TypeId):Bool:=match P.underlying t with
 | some (.slice e')=>e'==e
 | _=>false
theorem tyInt_eq {t:TypeId} (h:tyInt P t=true):P.underlying t=some (.int .i64):=by
 unfold tyInt at h
 split at h
 ·assumption
 ·cases h
theorem tySlice_eq {t e:TypeId} (h:tySlice P t e=true):P.underlying t=some (.slice e):=by
 unfold tySlice at h
 split at h
 ·rename_i e' he
  have:e'=e:=by simpa using h
  rw[he,this]
 ·cases h
def isInts4 (P:Program) (t e:TypeId):Bool:=match P.underlying t with
 | some (.struct fs)=>match fs.toList with
  | [f0,f1,f2,f3,f4]=>P.cellsOf t==5&&f0.offset==0&&f1.offset==1&&f2.offset==2&&f3.offset==3&&f4.offset==4 &&
    [f0,f1,f2,f3].all (fun f=>tyInt P f.type&&P.cellsOf f.type==1)&&P.cellsOf f4.type==1&&tySlice P f4.type e &&
    tyInt P e&&P.cellsOf e==1
  | _=>false
 | _=>false
theorem adm_tensor {γ:List G} {h:AH} (A:Adm P W γ h) {t:TypeId} (e:TypeId) (hk:isInts4 P t e=true) {v:Value} {d:DataW H} {ps:List MemPlace} (hx:DataW.Trod enc P W 0 (fun _=>true) true t v d ps) :
  ∃ a b c d ns v' γ' h',γ<+:γ'∧h<+:h'∧Adm P W γ' h'∧VR γ' (.agg #[I64 a,I64 b,I64 c,I64 d,v']) v∧Ints h' v' ns∧ns.length≤maxLen:=by
 unfold isInts4 at hk
 split at hk
 ·rename_i fs hs
  split at hk
  ·rename_i f0 f1 f2 f3 f4 hf
   have hfs:fs=#[f0,f1,f2,f3,f4]:=by
    rw[←hf]
   subst hfs
   simp only[List.all_cons,List.all_nil,Bool.and_true,Bool.and_eq_true,beq_iff_eq] at hk
   obtain⟨⟨⟨⟨⟨⟨⟨⟨⟨⟨k0,k1⟩,k2⟩,k3⟩,k4⟩,k5⟩,⟨i0,c0⟩,⟨i1,c1⟩,⟨i2,c2⟩,⟨i3,c3⟩⟩,c4⟩,s4⟩,ie⟩,ce⟩:=hk
   exact adm_ints4 A hs k0 ⟨k1,k2,k3,k4,k5⟩ ⟨tyInt_eq i0,tyInt_eq i1,tyInt_eq i2,tyInt_eq i3⟩ ⟨c0,c1,c2,c3,c4⟩ (tySlice_eq s4) (tyInt_eq ie) ce hx
  ·cases hk
 ·cases hk
theorem stays_all (hl:laidOutB P=true) {W W':World} (bel:Below W.heap.size W W'):∀ {ts:List TypeId} {vs:List Value} {ds:List (DataW H)} {ps:List MemPlace},
  (∀ t∈ts,P.readableRec t=true∧t<P.types.size)→DataW.TrodAll enc P W 0 (fun _=>true) true ts vs ds ps→DataW.TrodAll enc P W' 0 (fun b=>decide (b<W.heap.size)) true ts vs ds ps
 | [],[],[],_,_,h=>h
 | _::_,_::_,_::_,_,ht,⟨p,q,h1,h2,e⟩=>by
  have hlt:∀ r∈p,r.block<W.heap.size:=by
   have hall:DataW.TrodAll enc P W 0 (fun _=>true) true [_] [_] [_] p:=trodAll_mk1 h1
   exact hall.lt
  refine⟨p,q,Go.WideElems.Trod_stays hl (ht _ (List.mem_cons.2 (.inl rfl))).1 (ht _ (List.mem_cons.2 (.inl rfl))).2 h1 (fun r hr=>bel.same (hlt r hr)) (fun r hr=>by simpa using hlt r hr),?_,e⟩
  exact stays_all hl bel (fun t ht'=>ht t (List.mem_cons.2 (.inr ht'))) h2
theorem calls_of_WF {S:XS} (hm:P.follows .mixedOrders=true) (hE:ESound P S.E) (hT:TSound P S.T) {g:FuncId} {args args':List Value} {γ:List G} {h:AH} {W:World} {Q:Value→AH→Prop}
  (A:Adm P W γ h) (hv:VRL γ args args') (hw:WF S g args h Q) :
  Calls P g args'.toArray W (fun e W'=>∃ v v' γ' h',e=.returned v'∧VR γ' v v'∧Q v h'∧Below W.heap.size W W'):=by
 obtain⟨k,v,h',h1,h2⟩:=hw
 have:=(xcall_sound hm hE hT k g args h v h' h1).2 W.heap.size γ W args' A.rel hv
 refine this.mono fun e W' ⟨γ',v',q1,q2,q3⟩=>⟨v,v',γ',h',q1,q2,h2,?_⟩
 refine⟨q3.os,q3.tape,q3.output,q3.size,fun b hb=>q3.frame b hb fun ⟨n,blk,g,o1,o2,o3,o4⟩=>?_⟩
 rw[A.ro n blk o1] at o3
 cases o3
end
section
variable {H:Type} {enc:TypeId×Value→H} {P:Program} {W:World}
theorem cells_of_slice {t e:TypeId} {v:Value} {r:Reach} {base:Nat} (ht:P.underlying t=some (.slice e)) (hval:Value.okWide P W r base t v):v.cells.toList=[v]:=by
 cases v with
 | agg cs=>simp[Value.okWide,ht,Cell.okWide,Cell.ok] at hval
 | _=>rfl
end
theorem u8_in {n:Int} (h:(Lit.int .u8 n).wf=true):0≤n∧n≤255:=by
 simp[Lit.wf,IntKind.min,IntKind.max,IntKind.signed,IntKind.bits] at h
 omega
def sideBy (P:Program):List Field→Nat→Nat→Bool
 | [],o,m=>o==m
 | f::fs,o,m=>f.offset==o&&sideBy P fs (o+P.cellsOf f.type) m
def flatK (P:Program) (k:IntKind):Nat→TypeId→Bool
 | 0,_=>false
 | f+1,t=>match P.underlying t with
  | some (.int k')=>decide (k'=k)&&P.cellsOf t==1
  | some (.array n e)=>flatK P k f e&&P.cellsOf t==n*P.cellsOf e
  | some (.struct fs)=>sideBy P fs.toList 0 (P.cellsOf t)&&fs.toList.all fun x=>flatK P k f x.type
  | _=>false
theorem sideBy_at {P:Program}:∀ {fs:List Field} {o m j:Nat},sideBy P fs o m=true→o≤j→j<m→∃ (i:Nat) (f:Field),fs[i]?=some f∧f.offset≤j∧j<f.offset+P.cellsOf f.type
 | [],o,m,j,h,h1,h2=>by
  simp only[sideBy,beq_iff_eq] at h
  omega
 | f::fs,o,m,j,h,h1,h2=>by
  simp only[sideBy,Bool.and_eq_true,beq_iff_eq] at h
  by_cases hj:j<o+P.cellsOf f.type
  ·exact⟨0,f,rfl,by omega,by omega⟩
  ·obtain⟨i,g,q1,q2,q3⟩:=sideBy_at h.2 (by omega) h2
   exact⟨i+1,g,by rw[List.getElem?_cons_succ];exact q1,q2,q3⟩
section
variable {H:Type} {enc:TypeId×Value→H} {P:Program} {W:World} {k:IntKind}
theorem flat_trod:∀ (f:Nat) (t:TypeId) (n:Nat) (cs:List Value) (x:DataW H×List MemPlace),flatK P k f t=true→DataW.trod enc P W 0 (fun _=>true) true n t cs=some x →
  cs.length=P.cellsOf t∧∀ (j:Nat) (v:Value),cs[j]?=some v→∃ m,v=.int k m∧(Lit.int k m).wf=true
 | 0,_,_,_,_,h,_=>by cases h
 | f+1,t,n,cs,x,h,hx=>by
  unfold flatK at h
  split at h
  ·rename_i k' ht
   simp only[Bool.and_eq_true,decide_eq_true_eq,beq_iff_eq] at h
   obtain⟨rfl,hc⟩:=h
   obtain⟨m,rfl,_,hw⟩:=DataW.trod_int ht hx
   refine⟨by simpa using hc.symm,fun j v hv=>?_⟩
   have:j=0:=by
    have:=(List.getElem?_eq_some_iff.1 hv).1
    simp at this
    exact this
   subst this
   simp at hv
   exact⟨m,hv.symm,hw⟩
  ·rename_i c e ht
   simp only[Bool.and_eq_true,beq_iff_eq] at h
   obtain⟨xs,m,_,_,hl,hxs,hall⟩:=DataW.trod_array ht hx
   refine⟨hl,fun j v hv=>?_⟩
   have hj:=(List.getElem?_eq_some_iff.1 hv).1
   rw[hl,h.2] at hj
   have hc:0<P.cellsOf e:=Nat.pos_of_ne_zero fun e0=>by rw[e0] at hj;simp at hj
   have hi:j / P.cellsOf e<c:=Nat.div_lt_of_lt_mul (by rw[Nat.mul_comm];exact hj)
   have hy:=hall _ hi
   rw[List.getElem?_eq_getElem (by omega)] at hy
   have hdm:=Nat.div_add_mod j (P.cellsOf e)
   rw[Nat.mul_comm] at hdm
   refine (flat_trod f e m _ _ h.1 hy).2 (j%P.cellsOf e) v ?_
   rw[List.getElem?_take,if_pos (Nat.mod_lt _ hc),List.getElem?_drop,hdm]
   exact hv
  ·rename_i fs ht
   simp only[Bool.and_eq_true] at h
   obtain⟨xs,m,_,_,hl,hxs,hall⟩:=DataW.trod_struct ht hx
   refine⟨hl,fun j v hv=>?_⟩
   have hj:=(List.getElem?_eq_some_iff.1 hv).1
   rw[hl] at hj
   obtain⟨i,g,q1,q2,q3⟩:=sideBy_at h.1 (Nat.zero_le _) hj
   have q1':fs[i]?=some g:=by simpa using q1
   have hy:=hall i g q1'
   have hi:i<xs.length:=by
    rw[hxs]
    exact (Array.getElem?_eq_some_iff.1 q1').1
   rw[List.getElem?_eq_getElem hi] at hy
   have hg:flatK P k f g.type=true:=List.all_eq_true.1 h.2 g (List.mem_of_getElem? q1)
   refine (flat_trod f g.type m _ _ hg hy).2 (j-g.offset) v ?_
   rw[List.getElem?_take,if_pos (by omega),List.getElem?_drop,show g.offset+(j-g.offset)=j by omega]
   exact hv
  ·cases h
theorem adm_elems2 {γ:List G} {h:AH} (A:Adm P W γ h) {t e:TypeId} {n w f:Nat} {cs:List Value} {x:DataW H×List MemPlace} (ht:P.underlying t=some (.slice e)) (hf:flatK P k f e=true)
  (hw:P.cellsOf e=w) (hw0:0<w) (hx:DataW.trod enc P W 0 (fun _=>true) true n t cs=some x) :
  ∃ v' v L γ' h',cs=[v']∧γ<+:γ'∧h<+:h'∧Adm P W γ' h'∧VR γ' v v'∧Els k w h' v L∧L.length≤maxLen∧(L=[]→∃ t,t≤2∧v=.slice none 0 t)∧∀ i,i<L.length→∀ j,j<w→(Lit.int k ((L.getD i []).getD j 0)).wf=true:=by
 rcases open_slice ht hx with⟨rfl,_⟩|⟨a,len,cap,m,n',D,Pl,rfl,hb,hl,hm,hmm,_,hcell⟩
 ·exact⟨_,.slice none 0 0,[],γ,h,rfl,List.prefix_refl _,List.prefix_refl _,A,.nils,.inl ⟨rfl,0,by omega,rfl⟩,Nat.zero_le _,fun _=>⟨0,by omega,rfl⟩,fun i hi=>by simp at hi⟩
 ·by_cases h0:len=0
  ·subst h0
   exact⟨_,.slice none 0 1,[],γ,h,rfl,List.prefix_refl _,List.prefix_refl _,A,.emp _ _,.inl ⟨rfl,1,by omega,rfl⟩,Nat.zero_le _,fun _=>⟨1,by omega,rfl⟩,fun i hi=>by simp at hi⟩
  ·have hmc:m=cap:=hmm
   have cell:∀ i,i<cap→∀ r,r<w→∃ z,W.cell? ((a.add (i*w)).add r)=some (.int k z)∧(Lit.int k z).wf=true:=fun i hi r hr=>by
    obtain⟨cs',h1,h2⟩:=hcell i (by omega)
    rw[hw] at h1
    obtain⟨_,hlen,hc⟩:=World.cells?_some h1
    obtain⟨_,hall⟩:=flat_trod f e n' cs' _ hf h2
    have hr':r<cs'.length:=by omega
    obtain⟨z,hz,hwf⟩:=hall r _ (List.getElem?_eq_getElem hr')
    refine⟨z,?_,hwf⟩
    rw[hc r hr,List.getElem?_eq_getElem hr',hz]
   obtain⟨z0,hz,_⟩:=cell 0 (by omega) 0 hw0
   rw[Nat.zero_mul] at hz
   have a0:a.add 0=a:=by simp[Addr.add]
   rw[a0,a0] at hz
   have hsp:a.spot=none:=by
    unfold World.cell? at hz
    split at hz
    ·split at hz
     ·cases hz
     ·rename_i hs
      simpa using hs
    ·cases hz
   have hbl:a.block<W.heap.size:=World.block_lt_of_cell? W _ hz
   have cell':∀ j,j<len*w→∃ z,W.cell? ⟨a.block,a.off+j,none⟩=some (.int k z)∧(Lit.int k z).wf=true:=fun j hj=>by
    have hi:j / w<len:=Nat.div_lt_of_lt_mul (by rw[Nat.mul_comm];exact hj)
    obtain⟨z,q1,q2⟩:=cell (j / w) (by omega) (j%w) (Nat.mod_lt _ hw0)
    refine⟨z,?_,q2⟩
    rw[add_off a hsp,add_off _ rfl] at q1
    have hdm:=Nat.div_add_mod j w
    rw[Nat.mul_comm] at hdm
    rw[show a.off+j=a.off+j / w*w+j%w by omega]
    exact q1
   obtain⟨N,hN⟩:∃ N:Nat→Int,∀ j,j<len*w→W.cell? ⟨a.block,a.off+j,none⟩=some (.int k (N j))∧(Lit.int k (N j)).wf=true:=by
    refine⟨fun j=>if hj:j<len*w then (cell' j hj).choose else 0,fun j hj=>?_⟩
    simp only[dif_pos hj]
    exact (cell' j hj).choose_spec
   let L:List (List Int):=(List.range len).map fun i=>(List.range w).map fun r=>N (i*w+r)
   have hLl:L.length=len:=by simp[L]
   have hLg:∀ i,i<len→L.getD i []=(List.range w).map fun r=>N (i*w+r):=fun i hi=>by simp[L,List.getD_eq_getElem?_getD,List.getElem?_map,List.getElem?_range hi]
   let C:List Value:=cel k ((List.range (len*w)).map N)
   have hCl:C.length=len*w:=by simp[C,cel_len]
   refine⟨_,.slice (some ⟨h.length,0,none⟩) L.length w,L,γ++[⟨a.block,a.off,cap*w⟩],h.new ⟨C,e,true,false⟩,rfl,List.prefix_append _ _,pre_new (List.prefix_refl _),?_,?_,
    .inr ⟨h.length,0,_,rfl,get_new_same,fun i hi=>?_⟩,by rw[hLl];omega,fun hL=>absurd hLl (by rw[hL];exact fun e=>h0 (by simpa using e.symm)),fun i hi j hj=>?_⟩
   ·refine A.new hbl fun j v hv=>?_
    have hj:j<len*w:=by rw[←hCl];exact (List.getElem?_eq_some_iff.1 hv).1
    have hv':C[j]?=some (.int k (N j)):=by simp[C,cel,hj]
    rw[hv'] at hv
    obtain rfl:=Option.some.inj hv
    exact⟨rfl,_,(hN j hj).1,.int _ _⟩
   ·have hcw:len*w≤cap*w:=Nat.mul_le_mul_right _ hl
    have:=VR.slc (γ:=γ++[⟨a.block,a.off,cap*w⟩]) h.length 0 L.length w ⟨a.block,a.off,cap*w⟩ (by rw[←A.rel.len];simp) hw0 (by rw[hLl];simp only;omega)
    have e1:(some a:Option Addr)=some ⟨a.block,a.off+0,none⟩:=by
     obtain⟨b,o,s⟩:=a
     simp at hsp
     subst hsp
     rfl
    rw[e1]
    have e2:(cap*w-0) / w=cap:=by rw[Nat.sub_zero];exact Nat.mul_div_cancel _ hw0
    simp only[e2,hLl] at this
    rw[hLl]
    exact this
   ·rw[hLl] at hi
    have hr:i*w+w≤len*w:=mul_row hi
    refine⟨by simp only[hCl];omega,?_⟩
    rw[hLg i hi]
    simp only[C,cel_drop,cel_take,Nat.zero_add]
    congr 1
    refine List.ext_getElem? fun r=>?_
    rw[List.getElem?_take,List.getElem?_drop,List.getElem?_map,List.getElem?_map]
    by_cases hr':r<w
    ·rw[if_pos hr',List.getElem?_range hr',List.getElem?_range (by omega)]
     rfl
    ·rw[if_neg hr',List.getElem?_eq_none (by simp;omega)]
     rfl
   ·rw[hLl] at hi
    have hr:i*w+w≤len*w:=mul_row hi
    rw[hLg i hi]
    have:((List.range w).map fun r=>N (i*w+r)).getD j 0=N (i*w+j):=by simp[List.getD_eq_getElem?_getD,List.getElem?_map,List.getElem?_range hj]
    rw[this]
    exact (hN _ (by omega)).2
theorem adm_elems {γ:List G} {h:AH} (A:Adm P W γ h) {t e:TypeId} {n w f:Nat} {cs:List Value} {x:DataW H×List MemPlace} (ht:P.underlying t=some (.slice e)) (hf:flatK P k f e=true)
  (hw:P.cellsOf e=w) (hw0:0<w) (hx:DataW.trod enc P W 0 (fun _=>true) true n t cs=some x) :
  ∃ v' v L γ' h',cs=[v']∧γ<+:γ'∧h<+:h'∧Adm P W γ' h'∧VR γ' v v'∧Els k w h' v L∧L.length≤maxLen∧∀ i,i<L.length→∀ j,j<w→(Lit.int k ((L.getD i []).getD j 0)).wf=true:=by
 obtain⟨v',v,L,γ',h',e1,q1,q2,q3,q4,q5,q6,_,q7⟩:=adm_elems2 A ht hf hw hw0 hx
 exact⟨v',v,L,γ',h',e1,q1,q2,q3,q4,q5,q6,q7⟩
end
section
variable {H:Type} {enc:TypeId×Value→H} {P:Program} {W:World}
def isByteS (P:Program) (t e:TypeId):Bool:=tySlice P t e&&flatK P .u8 1 e&&P.cellsOf e==1
theorem adm_code {γ:List G} {h:AH} (A:Adm P W γ h) {t:TypeId} (e:TypeId) (hk:isByteS P t e=true) {v:Value} {d:DataW H} {ps:List MemPlace} {r:Reach} {base:Nat} (hval:Value.okWide P W r base t v)
  (hx:DataW.Trod enc P W 0 (fun _=>true) true t v d ps) :
  ∃ L u γ' h',γ<+:γ'∧h<+:h'∧Adm P W γ' h'∧VR γ' u v∧Els .u8 1 h' u L∧Byt 1 L:=by
 simp only[isByteS,Bool.and_eq_true,beq_iff_eq] at hk
 obtain⟨⟨k1,k2⟩,k3⟩:=hk
 obtain⟨n,hx⟩:=hx
 obtain⟨v',u,L,γ',h',e1,q1,q2,q3,q4,q5,q6,q7⟩:=adm_elems A (tySlice_eq k1) k2 k3 (by decide) hx
 rw[cells_of_slice (tySlice_eq k1) hval] at e1
 have e1:v=v':=by simpa using e1
 subst e1
 exact⟨L,u,γ',h',q1,q2,q3,q4,q5,fun i hi j hj=>u8_in (q7 i hi j hj)⟩
end
end Go.Proofs.Ytapafdpnmakekaa.X

namespace Go.Proofs.Ytapafdpnmakekaa.fnFlips
open Go Go.ChangeShapes Go.WideShapes Go.ChangeAt Go.RowKit Go.Proofs.Ytapafdpnmakekaa.X
set_option linter.unusedVariables false
theorem own:ownKnob Try.prog.godebug=none:=by kernel_rfl
theorem laid:laidOutB Try.prog=true:=by kernel_rfl
theorem shapeY:isByteS Try.prog 22 5=true:=by kernel_rfl
theorem readable0:Try.prog.readableRec 22=true:=by kernel_rfl
theorem intable0:22<Try.prog.types.size:=of_decide_eq_true (by kernel_rfl)
theorem isbool:Try.prog.underlying 4=some .bool:=by kernel_rfl
theorem isint:Try.prog.underlying 2=some (.int .i64):=by kernel_rfl
set_option maxRecDepth 100000 in
theorem lifted (os:Os) (started:os.Started) (H:Type) (enc:TypeId×Value→H) :
  ReturnsInHanded {} Try.checked os 5 .any (Rows.fnFlipsSpec.pre6 enc Try.prog Try.f5 Rows.fnFlipsRow.domain false) (Rows.fnFlipsSpec.post enc Try.prog Try.f5 false true false false):=by
 refine returnsInHanded_of_change_sized (C:=Try.checked) own started (by kernel_rfl) Try.func5
  (ChangeSpec.witness6 (enc:=enc) (C:=Try.checked) false ⟨#[],#[.slice none 0 0],[]⟩ 8 (by kernel_rfl) (by kernel_rfl) (by kernel_rfl) (by kernel_rfl)) ?_
 intro W base args ds gs before hval0 hW hcnd hsz0 _
 have hval:∀ (j:Nat) t v,Try.f5.params[j]?=some t→args[j]?=some v→Value.okWide Try.prog W .any base t v:=hval0
 have hW':=hW
 obtain⟨p,q,hA0,hV,rfl,hfz,hnd⟩:=hW
 have hA:DataW.TrodAll enc Try.prog W 0 (fun _=>true) true Try.f5.params.toList args.toList ds p:=hA0
 rw[Try.params5] at hA hval
 obtain⟨v0,vs0,d0,ds0,p0,q0,hargs0,rfl,rfl,h0,r0⟩:=trodAll_cons hA
 obtain⟨rfl,rfl,rfl⟩:=trodAll_nil r0
 obtain rfl:args=#[v0]:=by cases args;simp_all
 obtain⟨rfl,rfl⟩:=trodVars_none hV
 obtain⟨ns0,u0,γ0,g0,pg0,ph0,A0,hv0,hi0,hl0⟩:=adm_code (Adm.nil Try.prog W) 5 shapeY (hval 0 _ v0 rfl rfl) h0
 have hi0':=hi0
 have key:=law_Flips hi0' hl0
 refine (calls_of_WF (S:=S) orders esound tsound A0 (VRL.cons hv0 (VRL.nil _)) key).mono fun e W' ⟨v,u,γ1,h1,he,hvr,hb,bel⟩=>?_
 subst hb
 obtain rfl:=hvr.bool_inv
 subst he
 have st:=stays_all laid bel (ts:=[22]) (fun t ht=>by
  simp only[List.mem_cons,List.not_mem_nil,or_false] at ht
  rw[ht]
  exact⟨readable0,intable0⟩) hA
 exact⟨_,rfl,_,_,_,[],_,[],hW',trodAll_mk1 (shut_bool isbool _),st,rfl,bel.frame _,fun h=>by cases h⟩
theorem j0:Program.unfollowed Try.pinned.checked.prog 5=true:=by kernel_rfl
theorem j1:(Rows.fnFlipsRow.inPlace==Program.inPlace Try.pinned.checked.prog 5)=true:=by kernel_rfl
theorem j2:(Rows.fnFlipsRow.unfollowed==Program.unfollowed Try.pinned.checked.prog 5)=true:=by
 rw[j0]
 rfl
theorem j3:(Rows.fnFlipsRow.recurses==Program.recurses Try.pinned.checked.prog 5)=true:=by
 unfold Program.recurses
 rw[j0]
 rfl
theorem j4:(Rows.fnFlipsRow.named==Program.varsNamed Try.pinned.checked.prog 5)=true:=by kernel_rfl
theorem closed:joinedFacts Try.pinned.checked.prog 5 Try.f5 Rows.fnFlipsSpec Rows.fnFlipsRow=true:=by
 unfold joinedFacts
 rw[j1,j2,j3,j4]
 kernel_rfl
theorem over:Rows.fnFlipsRow.holds Try.pinned (OpenSpec.ofChange Rows.fnFlipsSpec):=
 OpenClaim.holds_of_wide 5 Try.f5 rfl rfl rfl rfl rfl rfl rfl ⟨rfl,rfl,rfl,rfl,rfl⟩ rfl rfl rfl rfl rfl (by kernel_rfl) Try.func5 closed
  (of_decide_eq_true (by kernel_rfl)) (by unfold Func.isWrapper;first|(rw[if_pos (by decide +kernel)];kernel_rfl)|(rw[if_neg (by decide +kernel)];exact⟨rfl,rfl⟩))
  (fun os started H enc _=>lifted os started H enc)
end Go.Proofs.Ytapafdpnmakekaa.fnFlips
namespace Go.Proofs.Ytapafdpnmakekaa
theorem fnFlips_holds:Rows.FnFlipsSaid:=fnFlips.over
end Go.Proofs.Ytapafdpnmakekaa
