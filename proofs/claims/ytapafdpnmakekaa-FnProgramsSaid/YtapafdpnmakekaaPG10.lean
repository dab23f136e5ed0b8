/- Texts of one claim, put together by merge.py: XT8, XT9, XU1, XD3, XS6, XS7, XS16, XS17, XS19, XD4, XD5, XD6, XD7, XD8, XQ1, XR1, XQ2, XF34, XF35, XR2, XF11, XF12, XF13, XF14, XF15, XQ3, XD9, XDA, XDB, XDC, XDF, XDG, XDI, XDJ, XDK, XDL, XDM, XP7, XU2, XU3, XU4, XU5. -/
import Derived.Test.YtapafdpnmakekaaPG9
import Derived.Test.YtapafdpnmakekaaPG8
import Derived.Test.YtapafdpnmakekaaPG7
set_option linter.unusedVariables false
set_option linter.unusedSimpArgs false
set_option maxRecDepth 20000
set_option maxHeartbeats 4000000
namespace Go.Proofs.Ytapafdpnmakekaa.X
open Go Go.RowKit
open Nat (reduceEqDiff reduceAdd reduceSub reduceLeDiff)
theorem zeros5u:([.int .u32 0,.int .u32 0,.int .u32 0,.int .u32 0,.int .u32 0]:List Value)=cel .u32 (List.replicate 5 0):=rfl
theorem U_one {n:Nat}:isOne (U32 n)=true:=rfl
theorem U_cells {n:Nat}:cellsL (U32 n)=[U32 n]:=rfl
theorem set2_next {α:Type} {L:List α} {l j:Nat} {a b a' b':α} (h:l≠j):(((L.set l a).set j b).set l a').set j b'=(L.set l a').set j b':=by
 rw[List.set_comm b a' h.symm,List.set_set,List.set_set]
theorem get2_l {L:List (List Int)} {l j:Nat} {a b:List Int} (h:l≠j) (hl:l<L.length) (hj:j<L.length):((L.set l a).set j b).getD l []=a:=by
 rw[set_getD' (by rw[List.length_set];exact hj),if_neg h,set_getD' hl,if_pos rfl]
theorem get2_j {L:List (List Int)} {l j:Nat} {a b:List Int} (hj:j<L.length):((L.set l a).set j b).getD j []=b:=by
 rw[set_getD' (by rw[List.length_set];exact hj),if_pos rfl]
theorem get2_o {L:List (List Int)} {l j i:Nat} {a b:List Int} (h1:i≠l) (h2:i≠j) (hl:l<L.length) (hj:j<L.length):((L.set l a).set j b).getD i []=L.getD i []:=by
 rw[set_getD' (by rw[List.length_set];exact hj),if_neg h2,set_getD' hl,if_neg h1]
theorem i_sharedProgram {u:Value} {p n:Int} {rows:List (List Int)} {h:AH} {Q:Value→AH→Prop} (hu:Rows h u rows) (hok:lsOK p n rows=true)
  (hQ:∀ v' w' h',h<+:h'→Way2 h' h.length v' w' (shP p n rows)→OrdB v' w'→Q (prgV (shP p n rows) v' w') h'):WF S 203 [I64 p,I64 n,u] h Q:=by
 refine WF_fn (fn:=c203) rfl rfl ?_
 dsimp only[c203,oO,oM,oS,oG,oK,oE,oL,oF,oX,oN]
 obtain⟨hp,hn,hl,hm⟩:=lsOK_iff.1 hok
 have hp5:=isP_in hp
 obtain⟨N,hN⟩:∃ N:Nat,n=N:=⟨n.toNat,by omega⟩
 have hNt:n.toNat=N:=by omega
 ((try simp (maxSteps:=3000000) (dsimp:=false) (disch:=first|omega|simp only[lnx];omega) only[↓ypre,ypost,↓reduceIte,reduceEqDiff,reduceAdd,reduceSub,reduceLeDiff,zz0,ynew]);try simp only[yback])
 generalize hH1:AH.new h _=H1
 obtain⟨hb1,p1,n1⟩:=new_facts hH1
 refine⟨by omega,?_⟩
 rw[hNt,zeros5u,zrep_cel]
 generalize hH2:AH.new H1 _=H2
 obtain⟨hb2,p2,n2⟩:=new_facts hH2
 ((try simp (maxSteps:=3000000) (dsimp:=false) (disch:=first|omega|simp only[lnx];omega) only[↓ypre,ypost,↓reduceIte,reduceEqDiff,reduceAdd,reduceSub,reduceLeDiff,zz0,ynew]);try simp only[yback])
 generalize hH3:AH.new H2 _=H3
 obtain⟨hb3,p3,n3⟩:=new_facts hH3
 have p23:=p2.trans p3
 obtain⟨cs,hvS,hcsl,hrS⟩:=(hu.pre p1).stays
 have ct0:ColT H3 H1.length true (cols0 rows N 0 0):=by
  rw[cols0_zero]
  exact⟨pre_get p3 hb2,by rw[←cols0_zero (rows:=rows)];exact cols0_wid⟩
 have sy0:Stay H1.length H1 H3:=Stay.of p23
 ((try simp (maxSteps:=3000000) (dsimp:=false) (disch:=first|omega|simp only[lnx];omega) only[↓ypre,ypost,↓reduceIte,reduceEqDiff,reduceAdd,reduceSub,reduceLeDiff,zz0,ynew,(hvS _ sy0).len,hcsl]);try simp only[yback])
 refine WC_loop_inv (fun m f K1=>∃ (i:Nat),m=rows.length-i∧i≤rows.length∧f 0=I64 p∧f 2=u∧f 6=.pointer (some ⟨h.length,0,none⟩)∧f 7=.pointer (some ⟨H2.length,0,none⟩)∧f 8=tv H1.length N∧f 29=u∧f 30=I64 rows.length∧f 31=I64 i∧(Stay H1.length H1 K1)∧(ColT K1 H1.length true (cols0 rows N i 0))∧(K1.get H2.length=some ⟨[I64 p,I64 n,.slice none 0 0,.slice none 0 0],70,false,true⟩)) ?_ (rows.length-0) _ _ ⟨0,rfl,by omega,(by first|rfl|simp[upd_apply]),(by first|rfl|simp[upd_apply]),(by first|rfl|simp[upd_apply]),(by first|rfl|simp[upd_apply]),(by first|rfl|simp[upd_apply]),(by first|rfl|simp[upd_apply]),(by first|rfl|simp[upd_apply]),(by first|rfl|simp[upd_apply]),sy0,ct0,hb3⟩
 rintro m f K1 ⟨i,rfl,hi,f0,f2,f6,f7,f8,f29,f30,f31,sy,ct,g7⟩
 by_cases hlt:(i:Int)<rows.length
 ·have hi':i<rows.length:=by omega
  obtain⟨hw,ha⟩:=isMat_iff.1 hm i hi'
  have ix:=(hvS _ sy).ix (k:=.i64) (j:=i) (by omega) (by omega)
  have rd:=(hvS _ sy).rd (j:=i) (by omega) (by omega)
  have hri:=hrS i hi'
  rw[Int.toNat_natCast] at rd
  generalize cs.getD i undef=rv at *
  have lnr:=(hri _ sy).len
  have rlen:(rows.getD i []).length=N:=by omega
  rw[rlen] at lnr
  ((try simp (maxSteps:=3000000) (dsimp:=false) (disch:=first|omega|simp only[lnx];omega) only[↓ypre,ypost,↓reduceIte,reduceEqDiff,reduceAdd,reduceSub,reduceLeDiff,zz0,ynew,f0,f2,f6,f7,f8,f29,f30,f31,decide_eq_true hlt,ix,rd,lnr,wrap64_in]);try simp only[yback])
  refine WC_loop_inv (fun m f K2=>∃ (c:Nat),m=N-c∧c≤N∧f 0=I64 p∧f 2=u∧f 6=.pointer (some ⟨h.length,0,none⟩)∧f 7=.pointer (some ⟨H2.length,0,none⟩)∧f 8=tv H1.length N∧f 9=I64 i∧f 29=u∧f 30=I64 rows.length∧f 31=I64 i∧f 36=rv∧f 37=I64 N∧f 38=I64 c∧(Stay H1.length H1 K2)∧(ColT K2 H1.length true (cols0 rows N i c))∧(K2.get H2.length=some ⟨[I64 p,I64 n,.slice none 0 0,.slice none 0 0],70,false,true⟩)) ?_ (N-0) _ _ ⟨0,rfl,by omega,(by first|rfl|exact f0|(simp[upd_apply];done)),(by first|rfl|exact f2|(simp[upd_apply];done)),(by first|rfl|exact f6|(simp[upd_apply];done)),(by first|rfl|exact f7|(simp[upd_apply];done)),(by first|rfl|exact f8|(simp[upd_apply];done)),(by first|rfl|simp[upd_apply]),(by first|rfl|exact f29|(simp[upd_apply];done)),(by first|rfl|exact f30|(simp[upd_apply];done)),(by first|rfl|exact f31|(simp[upd_apply];done)),(by first|rfl|simp[upd_apply]),(by first|rfl|simp[upd_apply]),(by first|rfl|simp[upd_apply]),sy,ct,g7⟩
  rintro m f K2 ⟨c,rfl,hc,f0,f2,f6,f7,f8,f9,f29,f30,f31,f36,f37,f38,sy,ct,g7⟩
  by_cases hltc:(c:Int)<N
  ·have hc':c<N:=by omega
   have hx:=hri _ sy
   have ixx:=hx.ix (k:=.i64) (j:=c) (by omega) (by omega)
   have rdx:=hx.rd (j:=c) (by omega) (by omega)
   simp only[nth,Int.toNat_natCast] at rdx
   have tin:=allIn_iff.1 ha c (by omega)
   obtain⟨xv,hxv⟩:∃ xv:Nat,(rows.getD i []).getD c 0=xv:=⟨_,(Int.toNat_of_nonneg tin.1).symm⟩
   rw[hxv] at rdx tin
   have hxt:tb rows i c=(xv:Int):=hxv
   have cl:(cols0 rows N i c).length=N:=cols0_len
   have ixc:∀ kk:IntKind,ixsV 5 (tv H1.length N) (.int kk (c:Int))=_:=fun kk=>ColT.ix hc'
   have ixa1:=ixa_u (n:=H1.length) (off:=c*5) (len:=5) (kk:=.i64) (j:=xv) (by omega)
   have rd1:=ct.rd (c:=c) (x:=xv) (by omega) (by omega)
   have e1:((cols0 rows N i c).getD c []).getD xv 0=((bs rows.length (fl0 rows i c c xv):Nat):Int):=by
    rw[cols0_get hc']
    exact gen_get (by omega)
   rw[e1] at rd1
   have rd1:K2.rd1 H1.length (c*5+xv)=some (U32 (bs rows.length (fl0 rows i c c xv))):=rd1
   have sh:=bin_shl (R:=rows.length) (r:=i) hi' (by omega)
   have orr:=bin_or (R:=rows.length) (f:=fl0 rows i c c xv) (g:=fun k=>k==i) (by omega)
   obtain⟨H5,w5,e5,ct5⟩:=ct.wr (c:=c) (x:=xv) (v:=((bs rows.length (fun k=>fl0 rows i c c xv k||(k==i)):Nat):Int)) (by omega) (by omega)
   have w5:K2.wr H1.length (c*5+xv) [U32 (bs rows.length (fun k=>fl0 rows i c c xv k||(k==i)))]=some H5:=w5
   rw[cols0_get hc',cols0_set hc' hi' (by omega) hxt] at ct5
   ((try simp (maxSteps:=3000000) (dsimp:=false) (disch:=first|omega|simp only[lnx];omega) only[↓ypre,ypost,↓reduceIte,reduceEqDiff,reduceAdd,reduceSub,reduceLeDiff,zz0,ynew,f0,f2,f6,f7,f8,f9,f29,f30,f31,f36,f37,f38,decide_eq_true hltc,ixx,rdx,ixc,ixa1,rd1,sh,orr,U_one,U_cells,w5,wrap64_in]);try simp only[yback])
   refine InvQ_go (N-(c+1)) (by omega) ⟨(c+1),rfl,by omega,(by first|rfl|exact f0|(simp only[upd_apply];rfl)|(show I64 _=_;congr 1;omega)),(by first|rfl|exact f2|(simp only[upd_apply];rfl)|(show I64 _=_;congr 1;omega)),(by first|rfl|exact f6|(simp only[upd_apply];rfl)|(show I64 _=_;congr 1;omega)),(by first|rfl|exact f7|(simp only[upd_apply];rfl)|(show I64 _=_;congr 1;omega)),(by first|rfl|exact f8|(simp only[upd_apply];rfl)|(show I64 _=_;congr 1;omega)),(by first|rfl|exact f9|(simp only[upd_apply];rfl)|(show I64 _=_;congr 1;omega)),(by first|rfl|exact f29|(simp only[upd_apply];rfl)|(show I64 _=_;congr 1;omega)),(by first|rfl|exact f30|(simp only[upd_apply];rfl)|(show I64 _=_;congr 1;omega)),(by first|rfl|exact f31|(simp only[upd_apply];rfl)|(show I64 _=_;congr 1;omega)),(by first|rfl|exact f36|(simp only[upd_apply];rfl)|(show I64 _=_;congr 1;omega)),(by first|rfl|exact f37|(simp only[upd_apply];rfl)|(show I64 _=_;congr 1;omega)),(by first|rfl|exact f38|(simp only[upd_apply];rfl)|(show I64 _=_;congr 1;omega)),(by rw[e5];exact sy.put (Nat.le_refl _) (Nat.le_refl _)),ct5,(by rw[e5,get_put_ne (by omega)];exact g7)⟩
  have ec:c=N:=by omega
  subst ec
  rw[cols0_next] at ct
  ((try simp (maxSteps:=3000000) (dsimp:=false) (disch:=first|omega|simp only[lnx];omega) only[↓ypre,ypost,↓reduceIte,reduceEqDiff,reduceAdd,reduceSub,reduceLeDiff,zz0,ynew,f0,f2,f6,f7,f8,f9,f29,f30,f31,f36,f37,f38,decide_eq_false hltc,wrap64_in]);try simp only[yback])
  refine InvQ_go (rows.length-(i+1)) (by omega) ⟨(i+1),rfl,by omega,(by first|rfl|exact f0|(simp only[upd_apply];rfl)|(show I64 _=_;congr 1;omega)),(by first|rfl|exact f2|(simp only[upd_apply];rfl)|(show I64 _=_;congr 1;omega)),(by first|rfl|exact f6|(simp only[upd_apply];rfl)|(show I64 _=_;congr 1;omega)),(by first|rfl|exact f7|(simp only[upd_apply];rfl)|(show I64 _=_;congr 1;omega)),(by first|rfl|exact f8|(simp only[upd_apply];rfl)|(show I64 _=_;congr 1;omega)),(by first|rfl|exact f29|(simp only[upd_apply];rfl)|(show I64 _=_;congr 1;omega)),(by first|rfl|exact f30|(simp only[upd_apply];rfl)|(show I64 _=_;congr 1;omega)),(by first|rfl|exact f31|(simp only[upd_apply];rfl)|(show I64 _=_;congr 1;omega)),sy,ct,g7⟩
 have ei:i=rows.length:=by omega
 subst ei
 ((try simp (maxSteps:=3000000) (dsimp:=false) (disch:=first|omega|simp only[lnx];omega) only[↓ypre,ypost,↓reduceIte,reduceEqDiff,reduceAdd,reduceSub,reduceLeDiff,zz0,ynew,f0,f2,f6,f7,f8,f29,f30,f31,decide_eq_false hlt]);try simp only[yback])
 have si0:=ShI.start hok
 rw[hNt] at si0
 have hcl0:(cols0 rows N rows.length 0).length=N+([]:List (List Int)).length:=cols0_len
 have hc0:∀ i,i<N+([]:List (List Int)).length→Col rows i ((cols0 rows N rows.length 0).getD i []):=fun i hi=>cols0_col hi
 have pp1:H1<+:K1:=sy.pre _ (Nat.le_refl _) (List.prefix_refl _)
 have nz0:nzT rows=nzT rows-0:=rfl
 have wv0:WayX (181) .i64 3 K1 H1.length [] (.slice none 0 0) ([]:List (List Int)):=⟨fun r hr=>by simp at hr,.inl ⟨rfl,rfl⟩⟩
 refine WC_loop_inv (fun m f K3=>∃ (d:Nat) (s:SS) (sv:Value) (nb:Nat) (fl:Bool) (cols:List (List Int)),m=((nzT rows))-d∧d≤((nzT rows))∧f 0=I64 p∧f 2=u∧f 6=.pointer (some ⟨h.length,0,none⟩)∧f 7=.pointer (some ⟨H2.length,0,none⟩)∧f 8=tv nb (N+s.st.length)∧(nzT s.T=nzT rows-d)∧(ShI p N rows s)∧(H1<+:K3)∧(H1.length≤nb)∧(ColT K3 nb fl cols)∧(cols.length=N+s.st.length)∧(∀ i,i<N+s.st.length→Col s.T i (cols.getD i []))∧(WayX (181) .i64 3 K3 H1.length [] sv s.st)∧(K3.get H2.length=some ⟨[I64 p,I64 n,sv,.slice none 0 0],70,false,true⟩)) ?_ (((nzT rows))-0) _ _ ⟨0,⟨rows,[]⟩,.slice none 0 0,H1.length,true,cols0 rows N rows.length 0,rfl,by omega,(by first|rfl|exact f0|(simp[upd_apply];done)),(by first|rfl|exact f2|(simp[upd_apply];done)),(by first|rfl|exact f6|(simp[upd_apply];done)),(by first|rfl|exact f7|(simp[upd_apply];done)),(by first|rfl|exact f8|(simp[upd_apply];done)),nz0,si0,pp1,Nat.le_refl _,ct,hcl0,hc0,wv0,g7⟩
 rintro m f K3 ⟨d,s,sv,nb,fl,cols,rfl,hd,f0,f2,f6,f7,f8,hz,si,pp,lnb,ct,hcl,hcol,wv,g7⟩
 have nzb:=si.nz
 have hT1:1≤s.T.length:=by rw[si.len];omega
 have hT30:s.T.length≤30:=by rw[si.len];omega
 have elsK:=ct.els
 rw[hcl] at elsK
 ((try simp (maxSteps:=3000000) (dsimp:=false) (disch:=first|omega|simp only[lnx];omega) only[↓ypre,ypost,↓reduceIte,reduceEqDiff,reduceAdd,reduceSub,reduceLeDiff,zz0,ynew,f0,f2,f6,f7,f8]);try simp only[yback])
 refine i_mostRows elsK hcl hcol hp si.gt ⟨hT1,hT30⟩ (by omega) fun H6 p6=>?_
 ((try simp (maxSteps:=3000000) (dsimp:=false) (disch:=first|omega|simp only[lnx];omega) only[↓ypre,ypost,↓reduceIte,reduceEqDiff,reduceAdd,reduceSub,reduceLeDiff,zz0,ynew,f0,f2,f6,f7,f8,wrap64_in]);try simp only[yback])
 generalize hH7:AH.new H6 _=H7
 obtain⟨hb7,p7,n7⟩:=new_facts hH7
 have p67:=p6.trans p7
 have k6:=pre_len p6
 by_cases hbm:(1:Int)<((bst p s.T).m:Int)
 case neg=>
  have es:=si.stop (by omega)
  have pp7:=pp.trans p67
  have hu7:=hu.pre (p1.trans pp7)
  ((try simp (maxSteps:=3000000) (dsimp:=false) (disch:=first|omega|simp only[lnx];omega) only[↓ypre,ypost,↓reduceIte,reduceEqDiff,reduceAdd,reduceSub,reduceLeDiff,zz0,ynew,f0,f2,f6,f7,f8,decide_eq_false hbm,rd1_new_lt]);try simp only[yback])
  generalize hHA:AH.new H7 _=HA
  obtain⟨hbA,pA,nA⟩:=new_facts hHA
  have p6A:=p67.trans pA
  have huA:=hu7.pre pA
  ((try simp (maxSteps:=3000000) (dsimp:=false) (disch:=first|omega|simp only[lnx];omega) only[↓ypre,ypost,↓reduceIte,reduceEqDiff,reduceAdd,reduceSub,reduceLeDiff,zz0,ynew,f0,f2,f6,f7,f8,huA.len]);try simp only[yback])
  have ctA:=ct.pre p6A
  have g7A:=pre_get p6A g7
  have wvA:=wv.pre p6A
  have gT:=si.gt
  have sl':=si.len
  have hp1A:=pp7.trans pA
  have eSP:shP p n rows=finP ⟨p,n,s.st,[]⟩ s.T s.T.length:=by unfold shP;rw[←es]
  rw[eSP] at hQ
  generalize hTT:s.T=T at *
  generalize hst:s.st=st0 at *
  obtain⟨W,hW⟩:∃ W,W=N+st0.length:=⟨_,rfl⟩
  rw[←hW] at f8 hcl hcol gT
  have tl0:TabL HA H1.length H7.length true []:=⟨hbA,by have:=pre_len pp7;omega,fun i hi=>by simp at hi,fun a b ha=>by simp at ha⟩
  have k7:=pre_len pp7
  refine WC_loop_inv (fun m f K4=>∃ (i:Nat) (nr:Nat) (fr:Bool) (L:List (Nat×List Int)),m=rows.length-i∧i≤rows.length∧f 0=I64 p∧f 6=.pointer (some ⟨h.length,0,none⟩)∧f 7=.pointer (some ⟨H2.length,0,none⟩)∧f 8=tv nb W∧f 18=sl nr L.length∧f 134=u∧f 135=I64 rows.length∧f 136=I64 i∧(StayT H1.length HA K4)∧(TabL K4 H1.length nr fr L)∧(L.map Prod.snd=T.take i)) ?_ (rows.length-0) _ _ ⟨0,H7.length,true,[],rfl,by omega,(by first|rfl|exact f0|(simp[upd_apply];done)),(by first|rfl|exact f6|(simp[upd_apply];done)),(by first|rfl|exact f7|(simp[upd_apply];done)),(by first|rfl|exact f8|(simp[upd_apply];done)),(by first|rfl|simp[upd_apply]),(by first|rfl|simp[upd_apply]),(by first|rfl|simp[upd_apply]),(by first|rfl|simp[upd_apply]),StayT.refl,tl0,(by simp)⟩
  rintro m f K4 ⟨i,nr,fr,L,rfl,hi,f0,f6,f7,f8,f18,f134,f135,f136,sy,tl,hL⟩
  have hLl:L.length=i:=by
   have:=congrArg List.length hL
   rw[List.length_map,List.length_take] at this
   omega
  have sl4:=sy.len
  by_cases hlt:(i:Int)<rows.length
  ·have hi':i<rows.length:=by omega
   have hiT:i<T.length:=by omega
   obtain⟨gw,gi⟩:=gT i hiT
   ((try simp (maxSteps:=3000000) (dsimp:=false) (disch:=first|omega|simp only[lnx];omega) only[↓ypre,ypost,↓reduceIte,reduceEqDiff,reduceAdd,reduceSub,reduceLeDiff,zz0,ynew,f0,f6,f7,f8,f18,f134,f135,f136,decide_eq_true hlt,show lenV (tv nb W)=some (I64 W) from rfl,wrap64_in]);try simp only[yback])
   refine⟨by omega,?_⟩
   rw[Int.toNat_natCast,zrep_ints]
   generalize hHB:AH.new K4 _=HB
   obtain⟨hbB,pB,nB⟩:=new_facts hHB
   have ls0:Lst HB K4.length (gen W fun y=>if y<0 then tb T i y else 0) true:=by
    have e:gen W (fun y=>if y<0 then tb T i y else 0)=List.replicate W 0:=(gen_ext (by simp) fun y hy=>by simp[List.getD_eq_getElem?_getD,List.getElem?_replicate,hy]).symm
    rw[e]
    exact hbB
   rw[show Value.slice (some ⟨K4.length,0,none⟩) W 1=sl K4.length W from rfl]
   ((try simp (maxSteps:=3000000) (dsimp:=false) (disch:=first|omega|simp only[lnx];omega) only[↓ypre,ypost,↓reduceIte,reduceEqDiff,reduceAdd,reduceSub,reduceLeDiff,zz0,ynew,f0,f6,f7,f8,f18,f134,f135,f136,show lenV (tv nb W)=some (I64 W) from rfl]);try simp only[yback])
   refine WC_loop_inv (fun m f K5=>∃ (c:Nat),m=W-c∧c≤W∧f 0=I64 p∧f 6=.pointer (some ⟨h.length,0,none⟩)∧f 7=.pointer (some ⟨H2.length,0,none⟩)∧f 8=tv nb W∧f 18=sl nr L.length∧f 19=I64 i∧f 20=sl K4.length W∧f 134=u∧f 135=I64 rows.length∧f 136=I64 i∧f 142=tv nb W∧f 143=I64 W∧f 144=I64 c∧(K4<+:K5)∧(Lst K5 K4.length (gen W fun y=>if y<c then tb T i y else 0) true)) ?_ (W-0) _ _ ⟨0,rfl,by omega,(by first|rfl|exact f0|(simp[upd_apply];done)),(by first|rfl|exact f6|(simp[upd_apply];done)),(by first|rfl|exact f7|(simp[upd_apply];done)),(by first|rfl|exact f8|(simp[upd_apply];done)),(by first|rfl|exact f18|(simp[upd_apply];done)),(by first|rfl|simp[upd_apply]),(by first|rfl|simp[upd_apply]),(by first|rfl|exact f134|(simp[upd_apply];done)),(by first|rfl|exact f135|(simp[upd_apply];done)),(by first|rfl|exact f136|(simp[upd_apply];done)),(by first|rfl|simp[upd_apply]),(by first|rfl|simp[upd_apply]),(by first|rfl|simp[upd_apply]),pB,ls0⟩
   rintro m f K5 ⟨c,rfl,hc,f0,f6,f7,f8,f18,f19,f20,f134,f135,f136,f142,f143,f144,pp,ls⟩
   by_cases hltc:(c:Int)<W
   ·have hcW:c<W:=by omega
    have ct5:ColT K5 nb fl cols:=⟨pre_get pp (sy.get _ _ ctA.g (by simp) (by simp)),ctA.wid⟩
    have rnc:=ct5.rdn (c:=c) (by omega)
    have cq:=hcol c hcW
    have wq:=cq.1
    have tcb:=gi c hcW
    generalize cols.getD c []=q at *
    have ixc:∀ kk:IntKind,ixsV 5 (tv nb W) (.int kk (c:Int))=_:=fun kk=>ColT.ix hcW
    have w1:∀ (h1:AH) (e:TypeId),(h1.new ⟨cel .u32 (List.replicate 5 0),e,false,true⟩).wr h1.length 0 (cel .u32 q)=some (h1.new ⟨cel .u32 q,e,false,true⟩):=fun h1 e=>wr_all (by rw[cel_len,cel_len,wq];rfl)
    ((try simp (maxSteps:=3000000) (dsimp:=false) (disch:=first|omega|simp only[lnx];omega) only[↓ypre,ypost,↓reduceIte,reduceEqDiff,reduceAdd,reduceSub,reduceLeDiff,zz0,ynew,f0,f6,f7,f8,f18,f19,f20,f134,f135,f136,f142,f143,f144,decide_eq_true hltc,ixc,rnc,cel_all,cellsL_cel,cel_len,wq,↓w1,wrap64_in]);try simp only[yback])
    generalize hHC:AH.new K5 _=HC
    obtain⟨hbC,pC,nC⟩:=new_facts hHC
    have lsC:Lst HC K4.length (gen W fun z=>if z<c then tb T i z else if z=c∧1≤tb T i c∧tb T i c≤((0:Nat):Int) then tb T i c else 0) true:=by
     have e:gen W (fun z=>if z<c then tb T i z else if z=c∧1≤tb T i c∧tb T i c≤((0:Nat):Int) then tb T i c else 0)=gen W (fun y=>if y<c then tb T i y else 0):=gen_congr fun z hz=>by
      by_cases h1:z<c
      ·rw[if_pos h1,if_pos h1]
      ·rw[if_neg h1,if_neg h1,if_neg (by omega)]
     rw[e]
     exact ls.pre pC
    refine WC_loop_inv (fun m f K6=>∃ (y:Nat),m=((p.toNat-1))-y∧y≤((p.toNat-1))∧f 0=I64 p∧f 6=.pointer (some ⟨h.length,0,none⟩)∧f 7=.pointer (some ⟨H2.length,0,none⟩)∧f 8=tv nb W∧f 18=sl nr L.length∧f 19=I64 i∧f 20=sl K4.length W∧f 21=I64 c∧f 22=.pointer (some ⟨K5.length,0,none⟩)∧f 23=I64 ((y:Int)+1)∧f 134=u∧f 135=I64 rows.length∧f 136=I64 i∧f 142=tv nb W∧f 143=I64 W∧f 144=I64 c∧(K4<+:K6)∧(Lst K6 K4.length (gen W fun z=>if z<c then tb T i z else if z=c∧1≤tb T i c∧tb T i c≤(y:Int) then tb T i c else 0) true)∧(K6.get K5.length=some ⟨cel .u32 q,246,false,true⟩)) ?_ (((p.toNat-1))-0) _ _ ⟨0,rfl,by omega,(by first|rfl|exact f0|(simp[upd_apply];done)),(by first|rfl|exact f6|(simp[upd_apply];done)),(by first|rfl|exact f7|(simp[upd_apply];done)),(by first|rfl|exact f8|(simp[upd_apply];done)),(by first|rfl|exact f18|(simp[upd_apply];done)),(by first|rfl|exact f19|(simp[upd_apply];done)),(by first|rfl|exact f20|(simp[upd_apply];done)),(by first|rfl|simp[upd_apply]),(by first|rfl|simp[upd_apply]),(by first|rfl|simp[upd_apply]),(by first|rfl|exact f134|(simp[upd_apply];done)),(by first|rfl|exact f135|(simp[upd_apply];done)),(by first|rfl|exact f136|(simp[upd_apply];done)),(by first|rfl|exact f142|(simp[upd_apply];done)),(by first|rfl|exact f143|(simp[upd_apply];done)),(by first|rfl|exact f144|(simp[upd_apply];done)),pp.trans pC,lsC,hbC⟩
    rintro m f K6 ⟨y,rfl,hy,f0,f6,f7,f8,f18,f19,f20,f21,f22,f23,f134,f135,f136,f142,f143,f144,pp,ls,gC⟩
    by_cases hlty:(y:Int)+1<p
    ·have eI:(y:Int)+1=((y+1:Nat):Int):=by omega
     rw[eI] at f23
     have ra:=cq.at (x:=y+1) (by omega)
     have ixA:=ixa_u (n:=K5.length) (off:=0) (len:=5) (kk:=.i64) (j:=y+1) (by omega)
     rw[Nat.zero_add] at ixA
     obtain⟨pk1,pk2⟩:=bin_pick (R:=T.length) (f:=fun k=>decide (tb T k c=((y+1:Nat):Int))) (r:=i) (by omega) hiT
     by_cases e:tb T i c=((y+1:Nat):Int)
     ·rw[if_pos (decide_eq_true e)] at pk2
      have ixl:=Lst.ix (n:=K4.length) (j:=(c:Int)) (len:=W) (by omega)
      rw[Int.toNat_natCast] at ixl
      obtain⟨H9,w9,e9,l9⟩:=ls.wr (j:=c) (x:=((y+1:Nat):Int)) (by rw[gen_len];exact hcW)
      have eL:(gen W fun z=>if z<c then tb T i z else if z=c∧1≤tb T i c∧tb T i c≤(y:Int) then tb T i c else 0).set c ((y+1:Nat):Int)=gen W fun z=>if z<c then tb T i z else if z=c∧1≤tb T i c∧tb T i c≤((y+1:Nat):Int) then tb T i c else 0:=gen_ext (by rw[List.length_set,gen_len]) fun z hz=>by
       rw[set_getD (by rw[gen_len];exact hcW)]
       by_cases h1:z=c
       ·subst h1
        rw[if_pos rfl,if_neg (by omega),if_pos ⟨rfl,by omega,by omega⟩,e]
       ·rw[if_neg h1,gen_get hz]
        by_cases h2:z<c
        ·rw[if_pos h2,if_pos h2]
        ·rw[if_neg h2,if_neg h2,if_neg (by omega),if_neg (by omega)]
      rw[eL] at l9
      ((try simp (maxSteps:=3000000) (dsimp:=false) (disch:=first|omega|simp only[lnx];omega) only[↓ypre,ypost,↓reduceIte,reduceEqDiff,reduceAdd,reduceSub,reduceLeDiff,zz0,ynew,f0,f6,f7,f8,f18,f19,f20,f21,f22,f23,f134,f135,f136,f142,f143,f144,decide_eq_true (show ((y+1:Nat):Int)<p by omega),ixA,rd1_of gC,ra,pk1,pk2,decide_eq_true (show (1:Int)=1 from rfl),ixl,w9,wrap64_in]);try simp only[yback])
      refine InvQ_go (((p.toNat-1))-(y+1)) (by omega) ⟨(y+1),rfl,by omega,(by first|rfl|exact f0|(simp only[upd_apply];rfl)|(show I64 _=_;congr 1;omega)),(by first|rfl|exact f6|(simp only[upd_apply];rfl)|(show I64 _=_;congr 1;omega)),(by first|rfl|exact f7|(simp only[upd_apply];rfl)|(show I64 _=_;congr 1;omega)),(by first|rfl|exact f8|(simp only[upd_apply];rfl)|(show I64 _=_;congr 1;omega)),(by first|rfl|exact f18|(simp only[upd_apply];rfl)|(show I64 _=_;congr 1;omega)),(by first|rfl|exact f19|(simp only[upd_apply];rfl)|(show I64 _=_;congr 1;omega)),(by first|rfl|exact f20|(simp only[upd_apply];rfl)|(show I64 _=_;congr 1;omega)),(by first|rfl|exact f21|(simp only[upd_apply];rfl)|(show I64 _=_;congr 1;omega)),(by first|rfl|exact f22|(simp only[upd_apply];rfl)|(show I64 _=_;congr 1;omega)),(by show I64 _=I64 _;congr 1),(by first|rfl|exact f134|(simp only[upd_apply];rfl)|(show I64 _=_;congr 1;omega)),(by first|rfl|exact f135|(simp only[upd_apply];rfl)|(show I64 _=_;congr 1;omega)),(by first|rfl|exact f136|(simp only[upd_apply];rfl)|(show I64 _=_;congr 1;omega)),(by first|rfl|exact f142|(simp only[upd_apply];rfl)|(show I64 _=_;congr 1;omega)),(by first|rfl|exact f143|(simp only[upd_apply];rfl)|(show I64 _=_;congr 1;omega)),(by first|rfl|exact f144|(simp only[upd_apply];rfl)|(show I64 _=_;congr 1;omega)),(by rw[e9];exact pre_put pp (Nat.le_refl _)),l9,(by rw[e9,get_put_ne (by have:=pre_len (show K4<+:K5 from by assumption);have:=(show Lst K5 K4.length _ true from by assumption).lt;omega)];exact gC)⟩
     ·have ef:(if decide (tb T i c=((y+1:Nat):Int))=true then (1:Int) else 0)=0:=by rw[decide_eq_false e];rfl
      rw[ef] at pk2
      have eL:(gen W fun z=>if z<c then tb T i z else if z=c∧1≤tb T i c∧tb T i c≤(y:Int) then tb T i c else 0)=gen W fun z=>if z<c then tb T i z else if z=c∧1≤tb T i c∧tb T i c≤((y+1:Nat):Int) then tb T i c else 0:=gen_congr fun z hz=>by
       by_cases h2:z<c
       ·rw[if_pos h2,if_pos h2]
       ·rw[if_neg h2,if_neg h2]
        by_cases h3:z=c∧1≤tb T i c∧tb T i c≤(y:Int)
        ·rw[if_pos h3,if_pos (by omega)]
        ·rw[if_neg h3,if_neg (by omega)]
      rw[eL] at ls
      ((try simp (maxSteps:=3000000) (dsimp:=false) (disch:=first|omega|simp only[lnx];omega) only[↓ypre,ypost,↓reduceIte,reduceEqDiff,reduceAdd,reduceSub,reduceLeDiff,zz0,ynew,f0,f6,f7,f8,f18,f19,f20,f21,f22,f23,f134,f135,f136,f142,f143,f144,decide_eq_true (show ((y+1:Nat):Int)<p by omega),ixA,rd1_of gC,ra,pk1,pk2,decide_eq_false (show ¬ (0:Int)=1 by decide),wrap64_in]);try simp only[yback])
      refine InvQ_go (((p.toNat-1))-(y+1)) (by omega) ⟨(y+1),rfl,by omega,(by first|rfl|exact f0|(simp only[upd_apply];rfl)|(show I64 _=_;congr 1;omega)),(by first|rfl|exact f6|(simp only[upd_apply];rfl)|(show I64 _=_;congr 1;omega)),(by first|rfl|exact f7|(simp only[upd_apply];rfl)|(show I64 _=_;congr 1;omega)),(by first|rfl|exact f8|(simp only[upd_apply];rfl)|(show I64 _=_;congr 1;omega)),(by first|rfl|exact f18|(simp only[upd_apply];rfl)|(show I64 _=_;congr 1;omega)),(by first|rfl|exact f19|(simp only[upd_apply];rfl)|(show I64 _=_;congr 1;omega)),(by first|rfl|exact f20|(simp only[upd_apply];rfl)|(show I64 _=_;congr 1;omega)),(by first|rfl|exact f21|(simp only[upd_apply];rfl)|(show I64 _=_;congr 1;omega)),(by first|rfl|exact f22|(simp only[upd_apply];rfl)|(show I64 _=_;congr 1;omega)),(by show I64 _=I64 _;congr 1),(by first|rfl|exact f134|(simp only[upd_apply];rfl)|(show I64 _=_;congr 1;omega)),(by first|rfl|exact f135|(simp only[upd_apply];rfl)|(show I64 _=_;congr 1;omega)),(by first|rfl|exact f136|(simp only[upd_apply];rfl)|(show I64 _=_;congr 1;omega)),(by first|rfl|exact f142|(simp only[upd_apply];rfl)|(show I64 _=_;congr 1;omega)),(by first|rfl|exact f143|(simp only[upd_apply];rfl)|(show I64 _=_;congr 1;omega)),(by first|rfl|exact f144|(simp only[upd_apply];rfl)|(show I64 _=_;congr 1;omega)),pp,ls,gC⟩
    have ey:y=p.toNat-1:=by omega
    subst ey
    have eL:(gen W fun z=>if z<c then tb T i z else if z=c∧1≤tb T i c∧tb T i c≤((p.toNat-1:Nat):Int) then tb T i c else 0)=gen W fun z=>if z<c+1 then tb T i z else 0:=gen_congr fun z hz=>by
     by_cases h2:z<c
     ·rw[if_pos h2,if_pos (by omega)]
     ·rw[if_neg h2]
      by_cases h3:z=c
      ·subst h3
       rw[if_pos (show z<z+1 by omega)]
       by_cases h4:tb T i z=0
       ·rw[if_neg (by omega),h4]
       ·rw[if_pos ⟨rfl,by omega,by omega⟩]
      ·rw[if_neg (by omega),if_neg (by omega)]
    rw[eL] at ls
    ((try simp (maxSteps:=3000000) (dsimp:=false) (disch:=first|omega|simp only[lnx];omega) only[↓ypre,ypost,↓reduceIte,reduceEqDiff,reduceAdd,reduceSub,reduceLeDiff,zz0,ynew,f0,f6,f7,f8,f18,f19,f20,f21,f22,f23,f134,f135,f136,f142,f143,f144,decide_eq_false hlty,wrap64_in]);try simp only[yback])
    refine InvQ_go (W-(c+1)) (by omega) ⟨(c+1),rfl,by omega,(by first|rfl|exact f0|(simp only[upd_apply];rfl)|(show I64 _=_;congr 1;omega)),(by first|rfl|exact f6|(simp only[upd_apply];rfl)|(show I64 _=_;congr 1;omega)),(by first|rfl|exact f7|(simp only[upd_apply];rfl)|(show I64 _=_;congr 1;omega)),(by first|rfl|exact f8|(simp only[upd_apply];rfl)|(show I64 _=_;congr 1;omega)),(by first|rfl|exact f18|(simp only[upd_apply];rfl)|(show I64 _=_;congr 1;omega)),(by first|rfl|exact f19|(simp only[upd_apply];rfl)|(show I64 _=_;congr 1;omega)),(by first|rfl|exact f20|(simp only[upd_apply];rfl)|(show I64 _=_;congr 1;omega)),(by first|rfl|exact f134|(simp only[upd_apply];rfl)|(show I64 _=_;congr 1;omega)),(by first|rfl|exact f135|(simp only[upd_apply];rfl)|(show I64 _=_;congr 1;omega)),(by first|rfl|exact f136|(simp only[upd_apply];rfl)|(show I64 _=_;congr 1;omega)),(by first|rfl|exact f142|(simp only[upd_apply];rfl)|(show I64 _=_;congr 1;omega)),(by first|rfl|exact f143|(simp only[upd_apply];rfl)|(show I64 _=_;congr 1;omega)),(by first|rfl|exact f144|(simp only[upd_apply];rfl)|(show I64 _=_;congr 1;omega)),pp,ls⟩
   have ec:c=W:=by omega
   subst ec
   have eT':(gen c fun y=>if y<c then tb T i y else 0)=T.getD i []:=(gen_ext gw fun z hz=>by rw[if_pos hz];rfl).symm
   rw[eT'] at ls
   have pK5:=pre_len pp
   ((try simp (maxSteps:=3000000) (dsimp:=false) (disch:=first|omega|simp only[lnx];omega) only[↓ypre,ypost,↓reduceIte,reduceEqDiff,reduceAdd,reduceSub,reduceLeDiff,zz0,ynew,f0,f6,f7,f8,f18,f19,f20,f134,f135,f136,f142,f143,f144,decide_eq_false hltc,sl_cells,sl_one]);try simp only[yback])
   rw[←gw]
   have tl5:=tl.pre pp
   refine tl5.app (by omega) (fun j hj=>by
    obtain⟨fu,o⟩:=(tl.rows j hj).2
    have:=o.lt
    omega) ls (by omega) (by omega) fun H9 l9 tl9 keep9 pre9=>?_
   have st9:StayT H1.length K5 H9:=⟨by omega,fun h0 hh q=>pre9 h0 (Nat.le_trans hh tl.low) q,fun m' b' g q1 q2=>keep9 m' b' (fun e=>by
    have g3:=tl5.g
    rw[e,g3] at g
    cases g
    exact q2 rfl) g⟩
   ((try simp (maxSteps:=3000000) (dsimp:=false) (disch:=first|omega|simp only[lnx];omega) only[↓ypre,ypost,↓reduceIte,reduceEqDiff,reduceAdd,reduceSub,reduceLeDiff,zz0,ynew,f0,f6,f7,f8,f18,f19,f20,f134,f135,f136,f142,f143,f144,wrap64_in]);try simp only[yback])
   refine InvQ_go (rows.length-(i+1)) (by omega) ⟨(i+1),(K5.length+1),false,(L++[(K4.length,T.getD i [])]),rfl,by omega,(by first|rfl|exact f0|(simp only[upd_apply];rfl)|(show I64 _=_;congr 1;omega)),(by first|rfl|exact f6|(simp only[upd_apply];rfl)|(show I64 _=_;congr 1;omega)),(by first|rfl|exact f7|(simp only[upd_apply];rfl)|(show I64 _=_;congr 1;omega)),(by rw[gw];exact f8),(by first|rfl|exact f18|(simp only[upd_apply];rfl)|(show I64 _=_;congr 1;omega)),(by first|rfl|exact f134|(simp only[upd_apply];rfl)|(show I64 _=_;congr 1;omega)),(by first|rfl|exact f135|(simp only[upd_apply];rfl)|(show I64 _=_;congr 1;omega)),(by first|rfl|exact f136|(simp only[upd_apply];rfl)|(show I64 _=_;congr 1;omega)),(sy.trans ((StayT.of pp).trans st9)),tl9,(by rw[List.map_append,hL,take_next (d:=[]) hiT];rfl)⟩
  have ei:i=rows.length:=by omega
  subst ei
  rw[←sl',List.take_of_length_le (Nat.le_refl _)] at hL
  have g7K:=sy.get _ _ g7A (by simp) (by simp)
  ((try simp (maxSteps:=3000000) (dsimp:=false) (disch:=first|omega|simp only[lnx];omega) only[↓ypre,ypost,↓reduceIte,reduceEqDiff,reduceAdd,reduceSub,reduceLeDiff,zz0,ynew,f0,f6,f7,f8,f18,f134,f135,f136,decide_eq_false hlt,rdn_of g7K]);try simp only[yback])
  have hrs:=tl.rowsS
  rw[hL] at hrs
  have o0:Way2 K4 H1.length sv (.slice none 0 0) ⟨p,n,st0,[]⟩:=⟨wvA.keep fun m' c' f' _ _ g=>sy.get _ _ g (by simp) (by simp),⟨fun r hr=>by simp at hr,.inl ⟨rfl,rfl⟩⟩⟩
  rw[show Value.agg #[I64 p,I64 n,sv,.slice none 0 0]=prgV ⟨p,n,st0,[]⟩ sv (.slice none 0 0) from rfl]
  have kA:=pre_len hp1A
  refine i_finished hp hn o0 (by omega) hrs (fun i hi=>by
   obtain⟨q1,q2⟩:=gT i hi
   exact⟨allIn_iff.2 fun j hj=>q2 j (by omega),by omega⟩) (by omega) (by show st0.length≤100000;omega) (by simp) fun v' w' H' sy' o' ob'=>?_
  have pH:H1<+:H':=sy'.pre _ (Nat.le_refl _) (sy.pre _ (Nat.le_refl _) hp1A)
  have g6:=pre_get pH hb1
  have lt6:=get_lt g6
  obtain⟨ep,en,_,_⟩:=finP_facts (x:=⟨p,n,st0,[]⟩) (rows:=T) (N:=10000) hp (fun i hi=>by
   obtain⟨q1,q2⟩:=gT i hi
   exact⟨allIn_iff.2 fun j hj=>q2 j (by omega),by omega⟩) hn (i:=T.length) (Nat.le_refl _)
  ((try simp (maxSteps:=3000000) (dsimp:=false) (disch:=first|omega|simp only[lnx];omega) only[↓ypre,ypost,↓reduceIte,reduceEqDiff,reduceAdd,reduceSub,reduceLeDiff,zz0,ynew,f0,f6,f7,f8,f18,f134,f135,f136,prgV,o'.st.one,o'.st.cells,o'.out.one,o'.out.cells,wr_of g6]);try simp only[yback])
  have:=hQ v' w' _ (pre_put (b:=⟨[I64 (finP ⟨p,n,st0,[]⟩ T T.length).p,I64 (finP ⟨p,n,st0,[]⟩ T T.length).n,v',w'],70,false,true⟩) (p1.trans pH) (Nat.le_refl _)) ⟨(o'.st.put_ty g6 (by simp)).mlo (by omega),(o'.out.put_ty g6 (by simp)).mlo (by omega)⟩ (ob' (by omega))
  unfold prgV at this
  exact this
 obtain⟨b1,b2,b3,b4,_⟩:=bst_ok hp si.gt hT1 (by omega)
 have sg:=si.go hp (by omega) (by omega)
 have est:(stepS p s).st=s.st++[[((bst p s.T).l:Int),((bst p s.T).j:Int),((bst p s.T).r:Int)]]:=rfl
 have eT:(stepS p s).T=mvT p (bst p s.T) s.T:=rfl
 generalize hbb:bst p s.T=bb at *
 have ct7:=ct.pre p67
 have ixl:∀ kk:IntKind,ixsV 5 (tv nb (N+s.st.length)) (.int kk (bb.l:Int))=_:=fun kk=>ColT.ix (by omega)
 have ixj:∀ kk:IntKind,ixsV 5 (tv nb (N+s.st.length)) (.int kk (bb.j:Int))=_:=fun kk=>ColT.ix (by omega)
 have rnl:=ct7.rdn (c:=bb.l) (by omega)
 have rnj:=ct7.rdn (c:=bb.j) (by omega)
 have ca:=hcol bb.l (by omega)
 have cb:=hcol bb.j (by omega)
 generalize hqa:cols.getD bb.l []=qa at *
 generalize hqb:cols.getD bb.j []=qb at *
 ((try simp (maxSteps:=3000000) (dsimp:=false) (disch:=first|omega|simp only[lnx];omega) only[↓ypre,ypost,↓reduceIte,reduceEqDiff,reduceAdd,reduceSub,reduceLeDiff,zz0,ynew,f0,f2,f6,f7,f8,decide_eq_true hbm,rd1_of hb7,ixl,rnl,ixj,rnj]);try simp only[yback])
 refine i_rowsWith (qa:=qa) (qb:=qb) hp si.gt hT30 (i:=bb.l) (j:=bb.j) (by omega) (by omega) ca cb ⟨b3,b4⟩ fun H8 p8=>?_
 ((try simp (maxSteps:=3000000) (dsimp:=false) (disch:=first|omega|simp only[lnx];omega) only[↓ypre,ypost,↓reduceIte,reduceEqDiff,reduceAdd,reduceSub,reduceLeDiff,zz0,ynew,f0,f2,f6,f7,f8,cel_all,cel_len,List.length_replicate,cellsL_cel]);try simp only[yback])
 generalize hH9:AH.new H8 _=H9
 obtain⟨hb9,p9,n9⟩:=new_facts hH9
 have p89:=p8.trans p9
 have k8:=pre_len p8
 have ct9:=ct7.pre p89
 have g13:=pre_get p89 hb7
 have g79:=pre_get (p67.trans p89) g7
 have wv9:=wv.pre (p67.trans p89)
 have pp9:=pp.trans (p67.trans p89)
 have lnbK:=get_lt ct.g
 obtain⟨SS',hSS⟩:∃ SS':Nat→Bool,SS'=mvS p bb s.T:=⟨_,rfl⟩
 have eS:mkB p s.T bb.l bb.j bb.r=SS':=by rw[hSS];rfl
 have lne:bb.l≠bb.j:=by omega
 rw[eS]
 have ctS:ColT H9 nb fl ((cols.set bb.l (lcol s.T SS' bb.l 0 qa)).set bb.j (lcol s.T SS' bb.j 0 qb)):=by
  rw[lcol_zero ca.1,lcol_zero cb.1]
  have e1:cols.set bb.l qa=cols:=by
   rw[←hqa,List.getD_eq_getElem?_getD,List.getElem?_eq_getElem (by omega)]
   exact List.set_getElem_self (by omega)
  have e2:cols.set bb.j qb=cols:=by
   rw[←hqb,List.getD_eq_getElem?_getD,List.getElem?_eq_getElem (by omega)]
   exact List.set_getElem_self (by omega)
  rw[e1,e2]
  exact ct9
 have gN0:H9.get H8.length=some ⟨cel .u32 (ncol s.T SS' bb.l 0),246,false,true⟩:=by
  rw[ncol_zero]
  exact hb9
 refine WC_loop_inv (fun m f K7=>∃ (c:Nat),m=((p.toNat-1))-c∧c≤((p.toNat-1))∧f 0=I64 p∧f 2=u∧f 6=.pointer (some ⟨h.length,0,none⟩)∧f 7=.pointer (some ⟨H2.length,0,none⟩)∧f 8=tv nb (N+s.st.length)∧f 13=.pointer (some ⟨H6.length,0,none⟩)∧f 15=U32 (bs s.T.length SS')∧f 16=.pointer (some ⟨H8.length,0,none⟩)∧f 17=I64 ((c:Int)+1)∧(ColT K7 nb fl ((cols.set bb.l (lcol s.T SS' bb.l c qa)).set bb.j (lcol s.T SS' bb.j c qb)))∧(K7.get H8.length=some ⟨cel .u32 (ncol s.T SS' bb.l c),246,false,true⟩)∧(∀ m b,m≠nb→m≠H8.length→H9.get m=some b→K7.get m=some b)∧(K7.length=H9.length)∧(H1<+:K7)) ?_ (((p.toNat-1))-0) _ _ ⟨0,rfl,by omega,(by first|rfl|exact f0|(simp[upd_apply];done)),(by first|rfl|exact f2|(simp[upd_apply];done)),(by first|rfl|exact f6|(simp[upd_apply];done)),(by first|rfl|exact f7|(simp[upd_apply];done)),(by first|rfl|exact f8|(simp[upd_apply];done)),(by first|rfl|simp[upd_apply]),(by first|rfl|simp[upd_apply]),(by first|rfl|simp[upd_apply]),(by first|rfl|simp[upd_apply]),ctS,gN0,fun m b _ _ g=>g,rfl,pp9⟩
 rintro m f K7 ⟨c,rfl,hc,f0,f2,f6,f7,f8,f13,f15,f16,f17,ctS,gN,hk,lK,pp⟩
 have g13K:=hk _ _ (by omega) (by omega) g13
 by_cases hltc:(c:Int)+1<p
 ·have hc5:c+1<5:=by omega
  have eI:(c:Int)+1=((c+1:Nat):Int):=by omega
  rw[eI] at f17
  have cl2:((cols.set bb.l (lcol s.T SS' bb.l c qa)).set bb.j (lcol s.T SS' bb.j c qb)).length=cols.length:=by simp
  have ixa1:=ixa_u (n:=nb) (off:=bb.l*5) (len:=5) (kk:=.i64) (j:=c+1) hc5
  have ixa2:=ixa_u (n:=nb) (off:=bb.j*5) (len:=5) (kk:=.i64) (j:=c+1) hc5
  have ixaN:=ixa_u (n:=H8.length) (off:=0) (len:=5) (kk:=.i64) (j:=c+1) hc5
  rw[Nat.zero_add] at ixaN
  have rA:=ctS.rd (c:=bb.l) (x:=c+1) (by omega) hc5
  rw[get2_l lne (by omega) (by omega),lcol_at ca hc5] at rA
  have rA:K7.rd1 nb (bb.l*5+(c+1))=some (U32 (bs s.T.length fun k=>decide (tb s.T k bb.l=((c+1:Nat):Int)))):=rA
  have an1:=bin_and (R:=s.T.length) (f:=fun k=>decide (tb s.T k bb.l=((c+1:Nat):Int))) (g:=SS') (by omega)
  have ltN:=get_lt gN
  have nl:(ncol s.T SS' bb.l c).length=5:=gen_len
  have wN:K7.wr H8.length (c+1) [U32 (bs s.T.length fun k=>decide (tb s.T k bb.l=((c+1:Nat):Int))&&SS' k)]=some (K7.put H8.length ⟨cel .u32 (ncol s.T SS' bb.l (c+1)),246,false,true⟩):=by
   rw[wr_of gN,if_pos ⟨rfl,by simp only[cel_len,nl,List.length_singleton];omega⟩,←ncol_set hc5]
   unfold U32
   rw[cel_set (by rw[nl];exact hc5)]
  generalize hKN:K7.put H8.length ⟨cel .u32 (ncol s.T SS' bb.l (c+1)),246,false,true⟩=KN at *
  have gN':KN.get H8.length=some ⟨cel .u32 (ncol s.T SS' bb.l (c+1)),246,false,true⟩:=by rw[←hKN];exact get_put_same ltN
  have ctN:ColT KN nb fl ((cols.set bb.l (lcol s.T SS' bb.l c qa)).set bb.j (lcol s.T SS' bb.j c qb)):=by rw[←hKN];exact ctS.put_ne (by omega)
  have hkN:∀ m b,m≠nb→m≠H8.length→H9.get m=some b→KN.get m=some b:=fun m b h1 h2 g=>by rw[←hKN,get_put_ne (fun e=>h2 e.symm)];exact hk m b h1 h2 g
  have g13N:=hkN _ _ (by omega) (by omega) g13
  have lKN:KN.length=K7.length:=by rw[←hKN,len_put]
  have rA2:=ctN.rd (c:=bb.l) (x:=c+1) (by omega) hc5
  rw[get2_l lne (by omega) (by omega),lcol_at ca hc5] at rA2
  have rA2:KN.rd1 nb (bb.l*5+(c+1))=some (U32 (bs s.T.length fun k=>decide (tb s.T k bb.l=((c+1:Nat):Int)))):=rA2
  have an2:=bin_andNot (R:=s.T.length) (f:=fun k=>decide (tb s.T k bb.l=((c+1:Nat):Int))) (g:=SS') (by omega)
  obtain⟨KA,wA,eA,ctA'⟩:=ctN.wr (c:=bb.l) (x:=c+1) (v:=((bs s.T.length (fun k=>decide (tb s.T k bb.l=((c+1:Nat):Int))&&!SS' k):Nat):Int)) (by omega) hc5
  have wA:KN.wr nb (bb.l*5+(c+1)) [U32 (bs s.T.length (fun k=>decide (tb s.T k bb.l=((c+1:Nat):Int))&&!SS' k))]=some KA:=wA
  rw[get2_l lne (by omega) (by omega),lcol_set hc5] at ctA'
  have gN'':KA.get H8.length=some ⟨cel .u32 (ncol s.T SS' bb.l (c+1)),246,false,true⟩:=by rw[eA,get_put_ne (by omega)];exact gN'
  have hkA:∀ m b,m≠nb→m≠H8.length→H9.get m=some b→KA.get m=some b:=fun m b h1 h2 g=>by rw[eA,get_put_ne (fun e=>h1 e.symm)];exact hkN m b h1 h2 g
  have g13A:=hkA _ _ (by omega) (by omega) g13
  have lKA:KA.length=K7.length:=by rw[eA,len_put,lKN]
  have cl3:(((cols.set bb.l (lcol s.T SS' bb.l c qa)).set bb.j (lcol s.T SS' bb.j c qb)).set bb.l (lcol s.T SS' bb.l (c+1) qa)).length=cols.length:=by simp
  have eB:(((cols.set bb.l (lcol s.T SS' bb.l c qa)).set bb.j (lcol s.T SS' bb.j c qb)).set bb.l (lcol s.T SS' bb.l (c+1) qa)).getD bb.j []=lcol s.T SS' bb.j c qb:=by
   rw[set_getD' (by rw[cl2];omega),if_neg (fun e=>lne e.symm),get2_j (by omega)]
  have rB:=ctA'.rd (c:=bb.j) (x:=c+1) (by omega) hc5
  rw[eB,lcol_at cb hc5] at rB
  have rB:KA.rd1 nb (bb.j*5+(c+1))=some (U32 (bs s.T.length fun k=>decide (tb s.T k bb.j=((c+1:Nat):Int)))):=rB
  have an3:=bin_andNot (R:=s.T.length) (f:=fun k=>decide (tb s.T k bb.j=((c+1:Nat):Int))) (g:=SS') (by omega)
  obtain⟨KB,wB,eKB,ctB'⟩:=ctA'.wr (c:=bb.j) (x:=c+1) (v:=((bs s.T.length (fun k=>decide (tb s.T k bb.j=((c+1:Nat):Int))&&!SS' k):Nat):Int)) (by omega) hc5
  have wB:KA.wr nb (bb.j*5+(c+1)) [U32 (bs s.T.length (fun k=>decide (tb s.T k bb.j=((c+1:Nat):Int))&&!SS' k))]=some KB:=wB
  rw[eB,lcol_set hc5,set2_next lne] at ctB'
  have gNB:KB.get H8.length=some ⟨cel .u32 (ncol s.T SS' bb.l (c+1)),246,false,true⟩:=by rw[eKB,get_put_ne (by omega)];exact gN''
  have hkB:∀ m b,m≠nb→m≠H8.length→H9.get m=some b→KB.get m=some b:=fun m b h1 h2 g=>by rw[eKB,get_put_ne (fun e=>h1 e.symm)];exact hkA m b h1 h2 g
  have lKB:KB.length=K7.length:=by rw[eKB,len_put,lKA]
  have ppB:H1<+:KB:=by
   rw[eKB,eA,←hKN]
   exact pre_put (pre_put (pre_put pp (by have:=pre_len pp9;omega)) lnb) lnb
  ((try simp (maxSteps:=3000000) (dsimp:=false) (disch:=first|omega|simp only[lnx];omega) only[↓ypre,ypost,↓reduceIte,reduceEqDiff,reduceAdd,reduceSub,reduceLeDiff,zz0,ynew,f0,f2,f6,f7,f8,f13,f15,f16,f17,decide_eq_true (show ((c+1:Nat):Int)<p by omega),rd1_of g13K,ixl,ixa1,rA,an1,ixaN,U_one,U_cells,wN,rd1_of g13N,rA2,an2,wA,rd1_of g13A,ixj,ixa2,rB,an3,wB,wrap64_in]);try simp only[yback])
  refine InvQ_go (((p.toNat-1))-(c+1)) (by omega) ⟨(c+1),rfl,by omega,(by first|rfl|exact f0|(simp only[upd_apply];rfl)|(show I64 _=_;congr 1;omega)),(by first|rfl|exact f2|(simp only[upd_apply];rfl)|(show I64 _=_;congr 1;omega)),(by first|rfl|exact f6|(simp only[upd_apply];rfl)|(show I64 _=_;congr 1;omega)),(by first|rfl|exact f7|(simp only[upd_apply];rfl)|(show I64 _=_;congr 1;omega)),(by first|rfl|exact f8|(simp only[upd_apply];rfl)|(show I64 _=_;congr 1;omega)),(by first|rfl|exact f13|(simp only[upd_apply];rfl)|(show I64 _=_;congr 1;omega)),(by first|rfl|exact f15|(simp only[upd_apply];rfl)|(show I64 _=_;congr 1;omega)),(by first|rfl|exact f16|(simp only[upd_apply];rfl)|(show I64 _=_;congr 1;omega)),(by show I64 _=I64 _;congr 1),ctB',gNB,hkB,(by rw[lKB,lK]),ppB⟩
 have ec:c=p.toNat-1:=by omega
 subst ec
 have nl:(ncol s.T SS' bb.l (p.toNat-1)).length=5:=gen_len
 have tkN:(cel .u32 (ncol s.T SS' bb.l (p.toNat-1))).take 5=cel .u32 (ncol s.T SS' bb.l (p.toNat-1)):=List.take_of_length_le (by rw[cel_len];omega)
 have spl:splice (cel .u32 (List.replicate 5 0)) 0 (cel .u32 (ncol s.T SS' bb.l (p.toNat-1)))=cel .u32 (ncol s.T SS' bb.l (p.toNat-1)):=by
  rw[cel_splice,nl]
  simp
 have cl2:((cols.set bb.l (lcol s.T SS' bb.l (p.toNat-1) qa)).set bb.j (lcol s.T SS' bb.j (p.toNat-1) qb)).length=N+s.st.length:=by simp[hcl]
 have wc:WayX (246) .u32 5 K7 H1.length [] (tv nb (N+s.st.length)) ((cols.set bb.l (lcol s.T SS' bb.l (p.toNat-1) qa)).set bb.j (lcol s.T SS' bb.j (p.toNat-1) qb)):=by
  have:=ctS.way (ex:=[]) lnb (by simp)
  rw[cl2] at this
  exact this
 have k19:=pre_len pp9
 ((try simp (maxSteps:=3000000) (dsimp:=false) (disch:=first|omega|simp only[lnx];omega) only[↓ypre,ypost,↓reduceIte,reduceEqDiff,reduceAdd,reduceSub,reduceLeDiff,zz0,ynew,f0,f2,f6,f7,f8,f13,f15,f16,f17,decide_eq_false hltc,rdn_of gN,cel_len,nl,tkN,cel_all,cellsL_cel,List.length_replicate,spl]);try simp only[yback])
 refine wc.appK (q:=ncol s.T SS' bb.l (p.toNat-1)) nl (by rw[cl2];omega) (by rw[cl2];omega) (by omega) (by simp) fun cv H10 l10 pre10 keep10 wc10=>?_
 obtain⟨nb',fl',rfl,hnb',ct10⟩:=wc10.colT (by simp)
 have g13b:=keep10 _ _ (.inr (by simp)) (hk _ _ (by omega) (by omega) g13)
 have g7b:=keep10 _ _ (.inr (by simp)) (hk _ _ (by
  rintro rfl
  have:=ct9.g
  rw[g79] at this
  have:=congrArg (fun b:Option Blk=>b.map (·.e)) this
  simp at this) (by omega) g79)
 have wv10:WayX (181) .i64 3 H10 H1.length [] sv s.st:=wv9.keep fun m' c' f' _ _ g=>keep10 _ _ (.inr (by simp)) (hk _ _ (by
  rintro rfl
  have:=ct9.g
  rw[g] at this
  cases this) (by
  rintro rfl
  rw[hb9] at g
  cases g) g)
 have pp10:H1<+:H10:=pre10 _ (Nat.le_refl _) pp
 ((try simp (maxSteps:=3000000) (dsimp:=false) (disch:=first|omega|simp only[lnx];omega) only[↓ypre,ypost,↓reduceIte,reduceEqDiff,reduceAdd,reduceSub,reduceLeDiff,zz0,ynew,f0,f2,f6,f7,f8,f13,f15,f16,f17,rd1_of g7b,rd1_of g13b]);try simp only[yback])
 refine wv10.appK (q:=[(bb.l:Int),(bb.j:Int),(bb.r:Int)]) rfl (by omega) (by omega) (by omega) (by simp) fun sv' H11 l11 pre11 keep11 wv11=>?_
 have g7c:=keep11 _ _ (.inr (by simp)) g7b
 have lt7:=get_lt g7c
 have ct11:ColT H11 nb' fl' (((cols.set bb.l (lcol s.T SS' bb.l (p.toNat-1) qa)).set bb.j (lcol s.T SS' bb.j (p.toNat-1) qb))++[ncol s.T SS' bb.l (p.toNat-1)]):=⟨keep11 _ _ (.inr (by simp)) ct10.g,ct10.wid⟩
 ((try simp (maxSteps:=3000000) (dsimp:=false) (disch:=first|omega|simp only[lnx];omega) only[↓ypre,ypost,↓reduceIte,reduceEqDiff,reduceAdd,reduceSub,reduceLeDiff,zz0,ynew,f0,f2,f6,f7,f8,f13,f15,f16,f17,wv11.one,wv11.cells,wr_of g7c,wrap64_in]);try simp only[yback])
 have hlt:=sg.2
 have lst:(stepS p s).st.length=s.st.length+1:=by rw[est];simp
 have sg1:=sg.1
 have f8':tv nb' (((cols.set bb.l (lcol s.T SS' bb.l (p.toNat-1) qa)).set bb.j (lcol s.T SS' bb.j (p.toNat-1) qb))++[ncol s.T SS' bb.l (p.toNat-1)]).length=tv nb' (N+(stepS p s).st.length):=by rw[List.length_append,cl2,lst];rfl
 refine InvQ_go (nzT rows-(nzT rows-nzT (stepS p s).T)) (by omega) ⟨nzT rows-nzT (stepS p s).T,stepS p s,sv',nb',fl',_,rfl,by omega,f0,f2,f6,f7,f8',by omega,sg1,pre_put (pre11 _ (Nat.le_refl _) pp10) (by omega),by omega,ct11.put_ne ?_,by rw[List.length_append,cl2,lst];rfl,fun i hi=>?_,?_,get_put_same lt7⟩
 ·rintro rfl
  have:=ct11.g
  rw[g7c] at this
  have:=congrArg (fun b:Option Blk=>b.map (·.e)) this
  simp at this
 ·rw[eT]
  have g:=si.gt
  by_cases e1:i<N+s.st.length
  ·rw[getD_app_l (by rw[cl2];exact e1)]
   by_cases e2:i=bb.l
   ·subst e2
    rw[get2_l lne (by omega) (by omega),hSS]
    exact col_left g hp5 (by omega) (by omega) (.inl rfl) ca
   ·by_cases e3:i=bb.j
    ·subst e3
     rw[get2_j (by omega),hSS]
     exact col_left g hp5 (by omega) (by omega) (.inr rfl) cb
    ·rw[get2_o e2 e3 (by omega) (by omega)]
     exact col_other g (by omega) (by omega) e1 e2 e3 (hcol i e1)
  ·have e2:i=N+s.st.length:=by omega
   subst e2
   rw[getD_app_r (by rw[cl2];exact Nat.le_refl _),cl2,Nat.sub_self,hSS]
   exact col_new g hp5 (by omega) (by omega)
 ·rw[est]
  exact (wv11.put_ty g7c (by simp)).mlo (by omega)
theorem shP_facts {p n:Int} {rows:List (List Int)} (h:lsOK p n rows=true):(shP p n rows).st.length≤301000∧(shP p n rows).out.length≤30∧(shP p n rows).p=p∧(shP p n rows).n=n:=by
 obtain⟨h1,h2,h3,h4⟩:=lsOK_iff.1 h
 have si:=shS_facts h
 obtain⟨q1,q2,h5,h6⟩:=finP_facts (x:=⟨p,n,(shS p rows).st,[]⟩) (rows:=(shS p rows).T) (N:=10000) h1 (fun i hi=>by
  obtain⟨g1,g2⟩:=si.gt i hi
  have:=si.nz
  exact⟨allIn_iff.2 fun j hj=>g2 j (by omega),by omega⟩) h2 (i:=(shS p rows).T.length) (Nat.le_refl _)
 have:=si.nz
 have:=si.len
 simp only[List.length_nil,Nat.zero_add] at h5 h6
 unfold shP
 refine⟨?_,?_,q1,q2⟩
 ·have:(shS p rows).T.length*10000≤30*10000:=Nat.mul_le_mul_right _ (by omega)
  omega
 ·omega
theorem shR_small (p n:Int) (rows:List (List Int)):SmallP (shR p n rows).1:=by
 unfold shR SmallP SmallE
 split
 ·rename_i h
  have:=shP_facts h
  simp only
  omega
 ·simp
theorem s_SharedProgram {u:Value} {p n:Int} {rows:List (List Int)} {h:AH} {Q:Value→AH→Prop} (hu:Rows h u rows) (hm:SmallM rows)
  (hQ:∀ v' w' h',h<+:h'→InP h.length h'.length h' v' w' (shR p n rows).1→Q (.tuple #[prgV (shR p n rows).1 v' w',I64 (shR p n rows).2]) h'):WF S 51 [I64 p,I64 n,u] h Q:=by
 refine WF_fn (fn:=c51) rfl rfl ?_
 dsimp only[c51,oO,oM,oS,oG,oK,oE,oL,oF,oX,oN]
 ((try simp (maxSteps:=3000000) (dsimp:=false) (disch:=first|omega|simp only[lnx];omega) only[↓ypre,ypost,↓reduceIte,reduceEqDiff,reduceAdd,reduceSub,reduceLeDiff,zz0,ynew]);try simp only[yback])
 generalize hH1:AH.new h _=H1
 obtain⟨hb1,p1,n1⟩:=new_facts hH1
 have lt1:=get_lt hb1
 refine s_l07Lists (hu.pre p1) hm ?_
 unfold shR at hQ
 unfold lsC
 cases hok:lsOK p n rows with
 | false=>
  rw[hok,if_neg (by decide)] at hQ
  rw[if_neg (by decide)]
  ((try simp (maxSteps:=3000000) (dsimp:=false) (disch:=first|omega|simp only[lnx];omega) only[↓ypre,ypost,↓reduceIte,reduceEqDiff,reduceAdd,reduceSub,reduceLeDiff,zz0,ynew,decide_eq_true (show (2:Int)≠0 by decide),wr_of hb1]);try simp only[yback])
  exact hQ (.slice none 0 0) (.slice none 0 0) _ (pre_put p1 (Nat.le_refl _)) ⟨h.length,Nat.le_refl _,by rw[len_put];omega,.inl ⟨rfl,rfl⟩,.inl ⟨rfl,rfl⟩⟩
 | true=>
  rw[hok,if_pos rfl] at hQ
  rw[if_pos rfl]
  ((try simp (maxSteps:=3000000) (dsimp:=false) (disch:=first|omega|simp only[lnx];omega) only[↓ypre,ypost,↓reduceIte,reduceEqDiff,reduceAdd,reduceSub,reduceLeDiff,zz0,ynew,decide_eq_false (show ¬ (0:Int)≠0 from fun y=>y rfl)]);try simp only[yback])
  refine s_l07Shared (hu.pre p1) hok fun v' w' H' pH o ob=>?_
  have g1:=pre_get pH hb1
  have sl:=pre_len pH
  have ip:=(o.inP ob sl).putb (n:=h.length) (bl:=⟨[I64 (shP p n rows).p,I64 (shP p n rows).n,v',w'],70,false,true⟩) (by omega)
  ((try simp (maxSteps:=3000000) (dsimp:=false) (disch:=first|omega|simp only[lnx];omega) only[↓ypre,ypost,↓reduceIte,reduceEqDiff,reduceAdd,reduceSub,reduceLeDiff,zz0,ynew,prgV,o.st.one,o.st.cells,o.out.one,o.out.cells,wr_of g1]);try simp only[yback])
  have:=hQ v' w' _ (pre_put (p1.trans pH) (Nat.le_refl _)) (ip.mono (by omega) (by rw[len_put];exact Nat.le_refl _))
  unfold prgV at this
  exact this
theorem i_SharedProgram {u:Value} {p n:Int} {rows:List (List Int)} {h:AH} {Q:Value→AH→Prop} (hu:Rows h u rows) (hm:SmallM rows)
  (hQ:∀ v' w' h',h<+:h'→InP h.length h'.length h' v' w' (shR p n rows).1→Q (.tuple #[prgV (shR p n rows).1 v' w',I64 (shR p n rows).2]) h'):WF S 50 [I64 p,I64 n,u] h Q:=by
 refine WF_fn (fn:=c50) rfl rfl ?_
 dsimp only[c50,oO,oM,oS,oG,oK,oE,oL,oF,oX,oN]
 ((try simp (maxSteps:=3000000) (dsimp:=false) (disch:=first|omega|simp only[lnx];omega) only[↓ypre,ypost,↓reduceIte,reduceEqDiff,reduceAdd,reduceSub,reduceLeDiff,zz0,ynew]);try simp only[yback])
 generalize hH1:AH.new h _=H1
 obtain⟨hb1,p1,n1⟩:=new_facts hH1
 have lt1:=get_lt hb1
 refine i_formsCode (hu.pre p1) hm ?_
 unfold shR at hQ
 unfold lsC
 cases hok:lsOK p n rows with
 | false=>
  rw[hok,if_neg (by decide)] at hQ
  rw[if_neg (by decide)]
  ((try simp (maxSteps:=3000000) (dsimp:=false) (disch:=first|omega|simp only[lnx];omega) only[↓ypre,ypost,↓reduceIte,reduceEqDiff,reduceAdd,reduceSub,reduceLeDiff,zz0,ynew,decide_eq_true (show (2:Int)≠0 by decide),wr_of hb1]);try simp only[yback])
  exact hQ (.slice none 0 0) (.slice none 0 0) _ (pre_put p1 (Nat.le_refl _)) ⟨h.length,Nat.le_refl _,by rw[len_put];omega,.inl ⟨rfl,rfl⟩,.inl ⟨rfl,rfl⟩⟩
 | true=>
  rw[hok,if_pos rfl] at hQ
  rw[if_pos rfl]
  ((try simp (maxSteps:=3000000) (dsimp:=false) (disch:=first|omega|simp only[lnx];omega) only[↓ypre,ypost,↓reduceIte,reduceEqDiff,reduceAdd,reduceSub,reduceLeDiff,zz0,ynew,decide_eq_false (show ¬ (0:Int)≠0 from fun y=>y rfl)]);try simp only[yback])
  refine i_sharedProgram (hu.pre p1) hok fun v' w' H' pH o ob=>?_
  have g1:=pre_get pH hb1
  have sl:=pre_len pH
  have ip:=(o.inP ob sl).putb (n:=h.length) (bl:=⟨[I64 (shP p n rows).p,I64 (shP p n rows).n,v',w'],70,false,true⟩) (by omega)
  ((try simp (maxSteps:=3000000) (dsimp:=false) (disch:=first|omega|simp only[lnx];omega) only[↓ypre,ypost,↓reduceIte,reduceEqDiff,reduceAdd,reduceSub,reduceLeDiff,zz0,ynew,prgV,o.st.one,o.st.cells,o.out.one,o.out.cells,wr_of g1]);try simp only[yback])
  have:=hQ v' w' _ (pre_put (p1.trans pH) (Nat.le_refl _)) (ip.mono (by omega) (by rw[len_put];exact Nat.le_refl _))
  unfold prgV at this
  exact this
def lsF (x:Sch) (i n:Nat):List (List Int):=x.ps.map fun q=>(seg q i).take n
def fmX (x:Sch) (i:Nat):List (List Int):=if i=2 then trL (lsF x 2 (x.n*x.k).toNat) (x.n*x.k).toNat else lsF x i (pl x i).toNat
def nuX (x:Sch) (i:Nat):Int:=if i=2 then x.ps.length else pl x i
def pgO (p n:Int) (rows:List (List Int)) (b:Bool):Prg:=if b=true then shP p n rows else finP ⟨p,n,[],[]⟩ rows rows.length
def pgX (x:Sch) (b:Bool) (i:Nat):Prg:=pgO x.p (nuX x i) (fmX x i) b
theorem s_l07Of {u:Value} {p n:Int} {b:Bool} {rows:List (List Int)} {h:AH} {Q:Value→AH→Prop} (hu:Rows h u rows) (hok:lsOK p n rows=true)
  (hQ:∀ v' w' h',h<+:h'→Way2 h' h.length v' w' (pgO p n rows b)→OrdB v' w'→Q (prgV (pgO p n rows b) v' w') h'):WF S 298 [I64 p,I64 n,u,.bool b] h Q:=by
 refine WF_fn (fn:=c298) rfl rfl ?_
 dsimp only[c298,oO,oM,oS,oG,oK,oE,oL,oF,oX,oN]
 unfold pgO at hQ
 ((try simp (maxSteps:=3000000) (dsimp:=false) (disch:=first|omega|simp only[lnx];omega) only[↓ypre,ypost,↓reduceIte,reduceEqDiff,reduceAdd,reduceSub,reduceLeDiff,zz0,ynew]);try simp only[yback])
 generalize hH1:AH.new h _=H1
 obtain⟨hb1,p1,n1⟩:=new_facts hH1
 cases b with
 | true=>
  rw[if_pos rfl] at hQ
  ((try simp (maxSteps:=3000000) (dsimp:=false) (disch:=first|omega|simp only[lnx];omega) only[↓ypre,ypost,↓reduceIte,reduceEqDiff,reduceAdd,reduceSub,reduceLeDiff,zz0,ynew]);try simp only[yback])
  refine s_l07Shared (hu.pre p1) hok fun v' w' H' pH o ob=>?_
  have g1:=pre_get pH hb1
  have lt1:=get_lt g1
  ((try simp (maxSteps:=3000000) (dsimp:=false) (disch:=first|omega|simp only[lnx];omega) only[↓ypre,ypost,↓reduceIte,reduceEqDiff,reduceAdd,reduceSub,reduceLeDiff,zz0,ynew,prgV,o.st.one,o.st.cells,o.out.one,o.out.cells,wr_of g1]);try simp only[yback])
  have:=hQ v' w' _ (pre_put (b:=⟨[I64 (shP p n rows).p,I64 (shP p n rows).n,v',w'],70,false,true⟩) (p1.trans pH) (Nat.le_refl _)) ⟨(o.st.put_ty g1 (by simp)).mlo (by omega),(o.out.put_ty g1 (by simp)).mlo (by omega)⟩ ob
  unfold prgV at this
  exact this
 | false=>
  rw[if_neg (by decide)] at hQ
  ((try simp (maxSteps:=3000000) (dsimp:=false) (disch:=first|omega|simp only[lnx];omega) only[↓ypre,ypost,↓reduceIte,reduceEqDiff,reduceAdd,reduceSub,reduceLeDiff,zz0,ynew]);try simp only[yback])
  refine s_Plain (hu.pre p1) hok fun v' w' H' sy o ob=>?_
  have pH:H1<+:H':=sy.pre _ (Nat.le_refl _) (List.prefix_refl _)
  have g1:=pre_get pH hb1
  have lt1:=get_lt g1
  ((try simp (maxSteps:=3000000) (dsimp:=false) (disch:=first|omega|simp only[lnx];omega) only[↓ypre,ypost,↓reduceIte,reduceEqDiff,reduceAdd,reduceSub,reduceLeDiff,zz0,ynew,prgV,o.st.one,o.st.cells,o.out.one,o.out.cells,wr_of g1]);try simp only[yback])
  have:=hQ v' w' _ (pre_put (b:=⟨[I64 (finP ⟨p,n,[],[]⟩ rows rows.length).p,I64 (finP ⟨p,n,[],[]⟩ rows rows.length).n,v',w'],70,false,true⟩) (p1.trans pH) (Nat.le_refl _)) ⟨(o.st.put_ty g1 (by simp)).mlo (by omega),(o.out.put_ty g1 (by simp)).mlo (by omega)⟩ ob
  unfold prgV at this
  exact this
end Go.Proofs.Ytapafdpnmakekaa.X

set_option linter.unusedVariables false
set_option linter.unusedSimpArgs false
set_option maxRecDepth 20000
set_option maxHeartbeats 4000000
namespace Go.Proofs.Ytapafdpnmakekaa.X
open Go Go.RowKit
theorem By.set {w:Nat} {q:List Int} {j:Nat} {x:Int} (hq:By w q) (hx:0≤x∧x≤255) (hj:j<w):By w (q.set j x):=by
 refine⟨by rw[List.length_set];exact hq.1,fun i hi=>?_⟩
 rw[set_getD (by rw[hq.1];exact hj)]
 split
 ·exact hx
 ·exact hq.2 i hi
def FQ (p m:Int) (q:List Int):Prop:=By 9 q∧okForm p m q=true
theorem okForm_at {p m:Int} {q:List Int} (h:okForm p m q=true) {j:Nat} (hj:j<9):q.getD j 0<p∧(m≤(j:Int)→q.getD j 0=0):=by
 unfold okForm at h
 have:=List.all_eq_true.1 h j (List.mem_range.2 hj)
 exact of_decide_eq_true this
theorem FQ.set {p m:Int} {q:List Int} {j:Nat} {x:Int} (f:FQ p m q) (hp:p≤255) (hx:0≤x∧x<p) (hj:j<9) (hm:(j:Int)<m):FQ p m (q.set j x):=by
 refine⟨f.1.set ⟨hx.1,by omega⟩ hj,okForm_t fun i hi=>?_⟩
 have:=okForm_at f.2 hi
 refine decide_eq_true ?_
 rw[set_getD (by rw[f.1.1];exact hj)]
 split
 ·exact⟨hx.2,fun h=>by omega⟩
 ·exact this
theorem FQ.zero {p m:Int} (hp:1≤p):FQ p m z9:=by
 have hz:∀ j,z9.getD j 0=0:=fun j=>by
  show (List.replicate 9 (0:Int)).getD j 0=0
  rw[List.getD_eq_getElem?_getD,List.getElem?_replicate]
  split<;>rfl
 refine⟨⟨rfl,fun j _=>by rw[hz];omega⟩,okForm_t fun j hj=>decide_eq_true ?_⟩
 rw[hz]
 omega
theorem Kp.len {n:Nat} {h h':AH} (k:Kp n h h'):h.length≤h'.length:=k.1
def o9:List Int:=List.replicate 9 0
section
variable {a b c:List Int}
end
theorem app_zeroW {e:TypeId} {w bytes:Nat} {h:AH} {k n' off m:Nat} {news:List Value} {full:Bool} (hk:h.get k=some ⟨[],e,false,full⟩) (hn:h.rdn n' off (m*w)=some news) (hm:0<m)
  (hs:(m:Int)*bytes≤140737488355328∧(m:Int)≤9223372036854775807) :
  appV e w bytes (.slice (some ⟨k,0,none⟩) 0 w) (.slice (some ⟨n',off,none⟩) m w) h=some (.slice (some ⟨h.length,0,none⟩) m w,(h.kill k).new ⟨news,e,false,false⟩):=by
 simp only[appV,xop,ev,if_true,hn,hk]
 rw[if_pos (by simpa using hs),if_neg (by omega)]
 simp
section
variable {n m:Nat} {h0 h h' h'':AH}
theorem Kp.over (k:Kp n h h') (d:Kp m h' h'') (hm:h.length≤m):Kp n h h'':=⟨Nat.le_trans k.1 d.1,fun j hj hn=>(d.2 j (Nat.lt_of_lt_of_le hj k.1) (by omega)).trans (k.2 j hj hn)⟩
theorem Src.over (s:Src h0 h' n) (d:Kp m h' h'') (hm:m≠n) (hl:h0.length≤m):Src h0 h'' n:=s.keep (d.pre s.p hl) fun _ g=>d.get (Ne.symm hm) g
end
theorem app_kp {e:TypeId} {k:IntKind} {w bytes nb:Nat} {L:List (List Int)} {q:List Int} {full ro fu:Bool} {H:AH} {e':TypeId} (hk:H.get nb=some ⟨cel k L.flatten,e,false,full⟩) (hw:Wid w L) (hq:q.length=w)
  (hl:((L.length:Int)+1)*bytes≤140737488355328) (hn:(L.length:Int)<1048576) {Q:Value→AH→Prop}
  (hQ:∀ H':AH,H'.length=H.length+2→Kp nb H H'→H'.get (H.length+1)=some ⟨cel k (L++[q]).flatten,e,false,false⟩→Wid w (L++[q])→Q (.slice (some ⟨H.length+1,0,none⟩) (L.length+1) w) H') :
  OQ (appV e w bytes (.slice (some ⟨nb,0,none⟩) L.length w) (.slice (some ⟨H.length,0,none⟩) 1 w) (H.new ⟨cel k q,e',ro,fu⟩)) Q:=by
 have hr:(H.new ⟨cel k q,e',ro,fu⟩).rdn H.length 0 w=some (cel k q):=by
  rw[rdn_of get_new_same]
  simp only
  rw[if_pos (by rw[cel_len,hq];omega),List.drop_zero,List.take_of_length_le (by rw[cel_len,hq];omega)]
 have hk':(H.new ⟨cel k q,e',ro,fu⟩).get nb=some ⟨cel k L.flatten,e,false,full⟩:=get_new_any hk
 have hkb:=get_lt hk
 rw[app_ownW hk' (by rw[cel_len,flat_len hw]) hr ⟨hl,by omega⟩,OQ_some,len_new]
 refine hQ _ (by rw[len_new,len_kill,len_new]) ⟨by rw[len_new,len_kill,len_new];omega,fun j hj hne=>?_⟩ ?_ ?_
 ·have e1:(((H.new ⟨cel k q,e',ro,fu⟩).kill nb).new ⟨cel k L.flatten++cel k q,e,false,false⟩).get j=((H.new ⟨cel k q,e',ro,fu⟩).kill nb).get j:=prefix_get (pre_new (List.prefix_refl _)) (by rw[len_kill,len_new];omega)
  rw[e1,get_kill_ne (Ne.symm hne)]
  exact prefix_get (pre_new (List.prefix_refl _)) hj
 ·rw[get_new_eq (by rw[len_kill,len_new])]
  simp[cel_app]
 ·intro r hr
  rcases List.mem_append.1 hr with hr|hr
  ·exact hw r hr
  ·rw[List.mem_singleton.1 hr,hq]
theorem InE.kN {k:IntKind} {w a b lo:Nat} {h:AH} {v:Value} {L:List (List Int)} (o:InE k w a b h v L) (hn:lo≤a):KN lo h fun h'=>Els k w h' v L:=by
 intro h' l g
 rcases o with⟨rfl,rfl⟩|⟨m,e,full,h1,rfl,h2,h3⟩
 ·exact .inl ⟨rfl,0,by omega,rfl⟩
 ·exact InE.rd (.inr ⟨m,e,full,h1,rfl,by rw[g m (by omega) (get_lt h2)];exact h2,h3⟩)
theorem By.nn {w:Nat} {q:List Int} (h:By w q):∀ j,j<w→0≤q.getD j 0:=fun j hj=>(h.2 j hj).1
structure DL (x:Sch) (L:List (List Int)):Prop where
 w:Wid 27 L
 by':∀ q∈L,By 27 q
 ok:∀ q∈L,okProd x q=true
theorem DL.nil {x:Sch}:DL x []:=⟨fun q h=>by simp at h,fun q h=>by simp at h,fun q h=>by simp at h⟩
theorem DL.byt {x:Sch} {L:List (List Int)} (d:DL x L):Byt 27 L:=fun i hi j hj=>by
 have hm:L.getD i []∈L:=by
  rw[List.getD_eq_getElem?_getD,List.getElem?_eq_getElem hi]
  exact List.getElem_mem _
 exact (d.by' _ hm).2 j hj
end Go.Proofs.Ytapafdpnmakekaa.X

set_option linter.unusedVariables false
set_option linter.unusedSimpArgs false
set_option maxRecDepth 20000
set_option maxHeartbeats 4000000
namespace Go.Proofs.Ytapafdpnmakekaa.X
def sm:Nat→(Nat→Int)→Int
 | 0,_=>0
 | n+1,f=>sm n f+f n
theorem sm_ext {f g:Nat→Int}:∀ {n:Nat},(∀ i,i<n→f i=g i)→sm n f=sm n g
 | 0,_=>rfl
 | n+1,h=>by rw[sm,sm,sm_ext (fun i hi=>h i (by omega)),h n (by omega)]
theorem sm_zero {n:Nat}:sm n (fun _=>0)=0:=by
 induction n with
 | zero=>rfl
 | succ n ih=>rw[sm,ih];rfl
theorem sm_zero' {f:Nat→Int} {n:Nat} (h:∀ i,i<n→f i=0):sm n f=0:=by rw[sm_ext h,sm_zero]
theorem sm_add {f g:Nat→Int} {n:Nat}:sm n (fun i=>f i+g i)=sm n f+sm n g:=by
 induction n with
 | zero=>rfl
 | succ n ih=>simp only[sm,ih];omega
theorem sm_mul {f:Nat→Int} {c:Int} {n:Nat}:sm n (fun i=>c*f i)=c*sm n f:=by
 induction n with
 | zero=>simp[sm]
 | succ n ih=>simp only[sm,ih,Int.mul_add]
theorem sm_mulr {f:Nat→Int} {c:Int} {n:Nat}:sm n (fun i=>f i*c)=sm n f*c:=by
 induction n with
 | zero=>simp[sm]
 | succ n ih=>simp only[sm,ih,Int.add_mul]
theorem sm_comm {f:Nat→Nat→Int} {n m:Nat}:sm n (fun i=>sm m (fun j=>f i j))=sm m (fun j=>sm n (fun i=>f i j)):=by
 induction n with
 | zero=>simp only[sm];exact sm_zero.symm
 | succ n ih=>simp only[sm,ih];rw[←sm_add]
theorem sm_left {f:Nat→Int} {n:Nat}:sm (n+1) f=f 0+sm n (fun i=>f (i+1)):=by
 induction n with
 | zero=>simp[sm]
 | succ n ih=>rw[sm,ih,sm];omega
theorem sm_split {f:Nat→Int} {n m:Nat}:sm (n+m) f=sm n f+sm m (fun i=>f (n+i)):=by
 induction m with
 | zero=>simp[sm]
 | succ m ih=>rw[←Nat.add_assoc,sm,ih,sm];omega
theorem sm_rows {f:Nat→Int} {n m:Nat}:sm (n*m) f=sm n (fun a=>sm m (fun b=>f (a*m+b))):=by
 induction n with
 | zero=>simp[sm]
 | succ n ih=>rw[Nat.succ_mul,sm_split,ih,sm]
theorem sm_delta {f:Nat→Int} {n a:Nat} (h:a<n):sm n (fun i=>if i=a then f i else 0)=f a:=by
 induction n with
 | zero=>omega
 | succ n ih=>
  rw[sm]
  by_cases e:a=n
  ·subst e
   rw[if_pos rfl,sm_zero' (fun i hi=>if_neg (by omega))]
   omega
  ·rw[ih (by omega),if_neg (by omega)]
   omega
def Cg (p a b:Int):Prop:=p∣a-b
theorem Cg.rfl' {p a:Int}:Cg p a a:=⟨0,by omega⟩
theorem Cg.of {p a b:Int} (h:a=b):Cg p a b:=by subst h;exact .rfl'
theorem Cg.symm {p a b:Int} (h:Cg p a b):Cg p b a:=by
 obtain⟨k,h⟩:=h
 exact⟨-k,by rw[Int.mul_neg];omega⟩
theorem Cg.trans {p a b c:Int} (h:Cg p a b) (g:Cg p b c):Cg p a c:=by
 obtain⟨k,h⟩:=h
 obtain⟨l,g⟩:=g
 exact⟨k+l,by rw[Int.mul_add];omega⟩
theorem Cg.add {p a b c d:Int} (h:Cg p a b) (g:Cg p c d):Cg p (a+c) (b+d):=by
 obtain⟨k,h⟩:=h
 obtain⟨l,g⟩:=g
 exact⟨k+l,by rw[Int.mul_add];omega⟩
theorem Cg.mul {p a b c d:Int} (h:Cg p a b) (g:Cg p c d):Cg p (a*c) (b*d):=by
 obtain⟨k,h⟩:=h
 obtain⟨l,g⟩:=g
 exact⟨k*c+b*l,by grind⟩
theorem Cg.sm {p:Int} {f g:Nat→Int}:∀ {n:Nat},(∀ i,i<n→Cg p (f i) (g i))→Cg p (sm n f) (sm n g)
 | 0,_=>.rfl'
 | n+1,h=>(Cg.sm fun i hi=>h i (by omega)).add (h n (by omega))
def Fld (p:Int):Prop:=2≤p∧∀ x,¬ p∣x→∃ w,Cg p (w*x) 1
def dl (a b:Nat):Int:=if a=b then 1 else 0
theorem dim_le {p:Int} (hp:Fld p):∀ (r s:Nat) (U V:Nat→Nat→Int),(∀ i j,i<s→j<s→Cg p (sm r fun k=>U i k*V k j) (dl i j))→s≤r
 | 0,0,U,V,h=>Nat.le_refl _
 | 0,s+1,U,V,h=>by
  have:=h 0 0 (by omega) (by omega)
  obtain⟨k,hk⟩:=this
  simp only[sm,dl,if_true] at hk
  have:p∣1:=⟨-k,by rw[Int.mul_neg];omega⟩
  have:=Int.le_of_dvd (by omega) this
  have:=hp.1
  omega
 | r+1,0,U,V,h=>by omega
 | r+1,s+1,U,V,h=>by
  -- a place where the last row is not 0
  have h1:∃ k,k<r+1∧¬ p∣U s k:=by
   refine Classical.byContradiction fun hn=>?_
   have hz:∀ k,k<r+1→p∣U s k:=fun k hk=>Classical.byContradiction fun hd=>hn ⟨k,hk,hd⟩
   have h2:=h s s (by omega) (by omega)
   have h3:Cg p (sm (r+1) fun k=>U s k*V k s) (sm (r+1) fun _=>0):=Cg.sm fun k hk=>by
    obtain⟨q,hq⟩:=hz k hk
    exact⟨q*V k s,by rw[hq,←Int.mul_assoc];omega⟩
   rw[sm_zero] at h3
   have h4:=h3.symm.trans h2
   obtain⟨k,hk⟩:=h4
   simp only[dl,if_true] at hk
   have h5:p∣1:=⟨-k,by rw[Int.mul_neg];omega⟩
   have:=Int.le_of_dvd (by omega) h5
   have:=hp.1
   omega
  obtain⟨k0,hk0,hd⟩:=h1
  obtain⟨w,hw⟩:=hp.2 _ hd
  -- the places without k0
  let nx:Nat→Nat:=fun k=>if k=k0 then r else k
  have hsum:∀ (f:Nat→Int),sm (r+1) f=sm r (fun k=>f (nx k))+f k0:=fun f=>by
   by_cases e:k0=r
   ·subst e
    rw[sm,sm_ext (f:=fun k=>f (nx k)) (g:=f) fun i hi=>by show f (if i=k0 then k0 else i)=f i;rw[if_neg (by omega)]]
   ·have e1:sm r (fun k=>f (nx k))=sm r f+sm r (fun k=>if k=k0 then f r-f k else 0):=by
     rw[←sm_add]
     refine sm_ext fun i hi=>?_
     show f (if i=k0 then r else i)=_
     by_cases e2:i=k0
     ·rw[if_pos e2,if_pos e2];omega
     ·rw[if_neg e2,if_neg e2];omega
    rw[e1,sm_delta (f:=fun k=>f r-f k) (by omega),sm]
    show _+f r=_+(f r-f k0)+f k0
    omega
  refine Nat.succ_le_succ (dim_le hp r s (fun i k=>U i (nx k)-U i k0*w*U s (nx k)) (fun k j=>V (nx k) j) fun i j hi hj=>?_)
  have a1:=h i j (by omega) (by omega)
  have a2:=h s j (by omega) (by omega)
  rw[hsum] at a1 a2
  have a3:sm r (fun k=>(U i (nx k)-U i k0*w*U s (nx k))*V (nx k) j)=sm r (fun k=>U i (nx k)*V (nx k) j)+(- (U i k0*w))*sm r (fun k=>U s (nx k)*V (nx k) j):=by
   rw[←sm_mul,←sm_add]
   exact sm_ext fun k hk=>by grind
  rw[a3]
  have e0:dl s j=0:=if_neg (by omega)
  rw[e0] at a2
  generalize sm r (fun k=>U i (nx k)*V (nx k) j)=x1 at *
  generalize sm r (fun k=>U s (nx k)*V (nx k) j)=x2 at *
  obtain⟨q1,a1⟩:=a1
  obtain⟨q2,a2⟩:=a2
  obtain⟨q3,hw⟩:=hw
  exact⟨q1-U i k0*w*q2+U i k0*V k0 j*q3,by grind⟩
structure Rk (p:Int) (A:Nat→Nat→Int) (n w R:Nat):Prop where
 up:∃ X Y:Nat→Nat→Int,∀ i j,i<n→j<w→Cg p (A i j) (sm R fun r=>X i r*Y r j)
 lo:∃ P Q:Nat→Nat→Int,∀ a b,a<R→b<R→Cg p (sm n fun i=>sm w fun j=>P a i*A i j*Q j b) (dl a b)
theorem Rk.nil {p:Int} {A:Nat→Nat→Int} {n:Nat}:Rk p A n 0 0:=
 ⟨⟨fun _ _=>0,fun _ _=>0,fun _ _ _ h=>by omega⟩,⟨fun _ _=>0,fun _ _=>0,fun _ _ h=>by omega⟩⟩
theorem Rk.none {p:Int} {A:Nat→Nat→Int} {w:Nat}:Rk p A 0 w 0:=
 ⟨⟨fun _ _=>0,fun _ _=>0,fun _ _ h=>by omega⟩,⟨fun _ _=>0,fun _ _=>0,fun _ _ h=>by omega⟩⟩
theorem Rk.pivot {p:Int} {A B:Nat→Nat→Int} {n w R:Nat} (hp:Fld p) (h:Rk p B n w R) (hs:¬ p∣A 0 0) (hz:∀ i,i<n→Cg p (A (i+1) 0) 0) (hB:∀ i j,i<n→j<w→B i j=A (i+1) (j+1)):Rk p A (n+1) (w+1) (R+1):=by
 obtain⟨⟨X,Y,hu⟩,⟨P,Q,hl⟩⟩:=h
 obtain⟨s',hw⟩:=hp.2 _ hs
 refine⟨⟨fun i r=>if r=0 then (if i=0 then 1 else 0) else (if i=0 then 0 else X (i-1) (r-1)),fun r j=>if r=0 then A 0 j else if j=0 then 0 else Y (r-1) (j-1),fun i j hi hj=>?_⟩,
  ⟨fun a i=>if a=0 then (if i=0 then s' else 0) else (if i=0 then 0 else P (a-1) (i-1)),
   fun j b=>if b=0 then (if j=0 then 1 else 0) else (if j=0 then-(s'*sm w fun l=>A 0 (l+1)*Q l (b-1)) else Q (j-1) (b-1)),fun a b ha hb=>?_⟩⟩
 ·rw[sm_left]
  simp only[if_true,Nat.add_sub_cancel,Nat.succ_ne_zero,if_false,Nat.add_one_ne_zero]
  cases i with
  | zero=>
   simp only[if_true]
   rw[sm_zero' fun r _=>by simp]
   exact .of (by omega)
  | succ i=>
   simp only[Nat.succ_ne_zero,if_false,Nat.add_sub_cancel,Nat.add_one_ne_zero]
   cases j with
   | zero=>
    refine (hz i (by omega)).trans (.of ?_)
    rw[sm_zero' fun r _=>by simp]
    omega
   | succ j=>
    have:=hu i j (by omega) (by omega)
    rw[hB i j (by omega) (by omega)] at this
    refine this.trans (.of ?_)
    simp only[Nat.succ_ne_zero,if_false,Nat.add_sub_cancel,Nat.add_one_ne_zero,Int.zero_mul,Int.zero_add]
 ·rw[sm_left]
  simp only[if_true,Nat.add_sub_cancel,Nat.succ_ne_zero,if_false,Nat.add_one_ne_zero]
  cases a with
  | zero=>
   simp only[if_true,Int.zero_mul,sm_zero,Int.add_zero]
   rw[sm_left]
   simp only[if_true,Nat.add_sub_cancel,Nat.succ_ne_zero,if_false,Nat.add_one_ne_zero]
   cases b with
   | zero=>
    simp only[if_true,Int.mul_zero,sm_zero,Int.add_zero,Int.mul_one]
    exact hw
   | succ b=>
    simp only[Nat.succ_ne_zero,if_false,Nat.add_sub_cancel,Nat.add_one_ne_zero]
    have e:(sm w fun i=>s'*A 0 (i+1)*Q i b)=s'*sm w fun l=>A 0 (l+1)*Q l b:=by
     rw[←sm_mul]
     exact sm_ext fun l _=>Int.mul_assoc _ _ _
    rw[e]
    have e0:dl 0 (b+1)=0:=if_neg (by omega)
    rw[e0]
    generalize (sm w fun l=>A 0 (l+1)*Q l b)=z
    obtain⟨q,hq⟩:=hw
    exact⟨- (s'*z)*q,by grind⟩
  | succ a=>
   simp only[Nat.succ_ne_zero,if_false,Nat.add_sub_cancel,Nat.add_one_ne_zero,Int.zero_mul,sm_zero,Int.zero_add]
   cases b with
   | zero=>
    have e0:dl (a+1) 0=0:=if_neg (by omega)
    rw[e0]
    have:Cg p (sm n fun i=>sm (w+1) fun j=>P a i*A (i+1) j*if j=0 then 1 else 0) (sm n fun i=>0):=Cg.sm fun i hi=>by
     rw[sm_left]
     simp only[if_true,Nat.succ_ne_zero,if_false,Nat.add_one_ne_zero,Int.mul_zero,sm_zero,Int.add_zero,Int.mul_one]
     have:=(Cg.rfl' (a:=P a i)).mul (hz i hi)
     rwa [Int.mul_zero] at this
    rw[sm_zero] at this
    simpa using this
   | succ b=>
    have e0:dl (a+1) (b+1)=dl a b:=by simp[dl]
    rw[e0]
    simp only[Nat.succ_ne_zero,if_false,Nat.add_sub_cancel,Nat.add_one_ne_zero]
    refine Cg.trans ?_ (hl a b (by omega) (by omega))
    refine Cg.sm fun i hi=>?_
    rw[sm_left]
    simp only[if_true,Nat.succ_ne_zero,if_false,Nat.add_sub_cancel,Nat.add_one_ne_zero]
    have e1:(sm w fun j=>P a i*B i j*Q j b)=sm w fun j=>P a i*A (i+1) (j+1)*Q j b:=sm_ext fun j hj=>by rw[hB i j hi hj]
    rw[e1]
    have z:=hz i hi
    generalize (sm w fun j=>P a i*A (i+1) (j+1)*Q j b)=y
    generalize (sm w fun l=>A 0 (l+1)*Q l b)=x
    obtain⟨q,hq⟩:=z
    exact⟨- (P a i*s'*x)*q,by grind⟩
theorem Rk.rows {p:Int} {A B:Nat→Nat→Int} {n w R:Nat} (h:Rk p B n w R) (G H:Nat→Nat→Int) (hG:∀ l j,l<n→j<w→Cg p (B l j) (sm n fun i=>G l i*A i j)) (hH:∀ i j,i<n→j<w→Cg p (A i j) (sm n fun l=>H i l*B l j)):Rk p A n w R:=by
 obtain⟨⟨X,Y,hu⟩,⟨P,Q,hl⟩⟩:=h
 refine⟨⟨fun i r=>sm n fun l=>H i l*X l r,Y,fun i j hi hj=>?_⟩,⟨fun a i=>sm n fun l=>P a l*G l i,Q,fun a b ha hb=>?_⟩⟩
 ·refine (hH i j hi hj).trans ?_
  have h1:Cg p (sm n fun l=>H i l*B l j) (sm n fun l=>H i l*sm R fun r=>X l r*Y r j):=Cg.sm fun l hl'=>Cg.rfl'.mul (hu l j hl' hj)
  refine h1.trans (.of ?_)
  have h2:(sm n fun l=>H i l*sm R fun r=>X l r*Y r j)=sm n fun l=>sm R fun r=>H i l*X l r*Y r j:=sm_ext fun l _=>by
   rw[←sm_mul]
   exact sm_ext fun r _=>(Int.mul_assoc _ _ _).symm
  rw[h2,sm_comm]
  exact sm_ext fun r _=>sm_mulr
 ·refine Cg.trans ?_ (hl a b ha hb)
  have h1:Cg p (sm n fun l=>sm w fun j=>P a l*B l j*Q j b) (sm n fun l=>sm w fun j=>P a l*(sm n fun i=>G l i*A i j)*Q j b):=
   Cg.sm fun l hl'=>Cg.sm fun j hj=>(Cg.rfl'.mul (hG l j hl' hj)).mul .rfl'
  refine Cg.trans (.of ?_) h1.symm
  have h2:(sm n fun i=>sm w fun j=>(sm n fun l=>P a l*G l i)*A i j*Q j b)=sm n fun i=>sm w fun j=>sm n fun l=>P a l*G l i*A i j*Q j b:=sm_ext fun i _=>sm_ext fun j _=>by
   rw[←sm_mulr,←sm_mulr]
  have h3:(sm n fun l=>sm w fun j=>P a l*(sm n fun i=>G l i*A i j)*Q j b)=sm n fun l=>sm w fun j=>sm n fun i=>P a l*G l i*A i j*Q j b:=sm_ext fun l _=>sm_ext fun j _=>by
   rw[←sm_mul,←sm_mulr]
   exact sm_ext fun i _=>by grind
  rw[h2,h3]
  have h4:(sm n fun i=>sm w fun j=>sm n fun l=>P a l*G l i*A i j*Q j b)=sm n fun i=>sm n fun l=>sm w fun j=>P a l*G l i*A i j*Q j b:=sm_ext fun i _=>sm_comm
  have h5:(sm n fun l=>sm w fun j=>sm n fun i=>P a l*G l i*A i j*Q j b)=sm n fun l=>sm n fun i=>sm w fun j=>P a l*G l i*A i j*Q j b:=sm_ext fun l _=>sm_comm
  rw[h4,h5]
  exact sm_comm
structure Rk3 (p:Int) (T:Nat→Nat→Nat→Int) (I J K R:Nat):Prop where
 up:∃ (X:Nat→Nat→Int) (Y:Nat→Nat→Nat→Int),∀ i j k,i<I→j<J→k<K→Cg p (T i j k) (sm R fun r=>X i r*Y r j k)
 lo:∃ (P:Nat→Nat→Int) (Q:Nat→Nat→Nat→Int),∀ a b,a<R→b<R→Cg p (sm I fun i=>sm J fun j=>sm K fun k=>P a i*T i j k*Q j k b) (dl a b)
theorem lin_lt {j k J K:Nat} (hj:j<J) (hk:k<K):j*K+k<J*K:=by
 have:=Nat.mul_le_mul_right K (show j+1≤J from hj)
 rw[Nat.succ_mul] at this
 omega
theorem Rk.three {p:Int} {A:Nat→Nat→Int} {T:Nat→Nat→Nat→Int} {I J K R:Nat} (h:Rk p A I (J*K) R) (hT:∀ i j k,i<I→j<J→k<K→T i j k=A i (j*K+k)):Rk3 p T I J K R:=by
 obtain⟨⟨X,Y,hu⟩,⟨P,Q,hl⟩⟩:=h
 refine⟨⟨X,fun r j k=>Y r (j*K+k),fun i j k hi hj hk=>?_⟩,⟨P,fun j k b=>Q (j*K+k) b,fun a b ha hb=>?_⟩⟩
 ·rw[hT i j k hi hj hk]
  exact hu i _ hi (lin_lt hj hk)
 ·refine Cg.trans (.of ?_) (hl a b ha hb)
  refine sm_ext fun i hi=>?_
  rw[sm_rows]
  exact sm_ext fun j hj=>sm_ext fun k hk=>by rw[hT i j k hi hj hk]
theorem Rk3.le {p:Int} {T:Nat→Nat→Nat→Int} {I J K R S:Nat} (hp:Fld p) (h:Rk3 p T I J K R) {X:Nat→Nat→Int} {Y:Nat→Nat→Nat→Int} (hu:∀ i j k,i<I→j<J→k<K→Cg p (T i j k) (sm S fun r=>X i r*Y r j k)):R≤S:=by
 obtain⟨_,⟨P,Q,hl⟩⟩:=h
 refine dim_le hp S R (fun a r=>sm I fun i=>P a i*X i r) (fun r b=>sm J fun j=>sm K fun k=>Y r j k*Q j k b) fun a b ha hb=>?_
 refine Cg.trans ?_ (hl a b ha hb)
 have h1:Cg p (sm I fun i=>sm J fun j=>sm K fun k=>P a i*T i j k*Q j k b) (sm I fun i=>sm J fun j=>sm K fun k=>P a i*(sm S fun r=>X i r*Y r j k)*Q j k b):=
  Cg.sm fun i hi=>Cg.sm fun j hj=>Cg.sm fun k hk=>(Cg.rfl'.mul (hu i j k hi hj hk)).mul .rfl'
 refine Cg.trans (.of ?_) h1.symm
 have h2:(sm I fun i=>sm J fun j=>sm K fun k=>P a i*(sm S fun r=>X i r*Y r j k)*Q j k b)=sm I fun i=>sm S fun r=>sm J fun j=>sm K fun k=>P a i*X i r*(Y r j k*Q j k b):=sm_ext fun i _=>by
  rw[sm_comm (n:=S)]
  refine sm_ext fun j _=>?_
  rw[sm_comm (n:=S)]
  refine sm_ext fun k _=>?_
  rw[←sm_mul,←sm_mulr]
  exact sm_ext fun r _=>by grind
 rw[h2,sm_comm (n:=I)]
 refine sm_ext fun r _=>?_
 rw[←sm_mulr]
 refine sm_ext fun i _=>?_
 rw[←sm_mul]
 refine sm_ext fun j _=>?_
 rw[←sm_mul]
theorem Rk3.eq {p:Int} {T:Nat→Nat→Nat→Int} {I J K R S:Nat} (hp:Fld p) (h:Rk3 p T I J K R) (g:Rk3 p T I J K S):R=S:=by
 obtain⟨X,Y,hu⟩:=h.up
 obtain⟨X',Y',hu'⟩:=g.up
 exact Nat.le_antisymm (h.le hp hu') (g.le hp hu)
theorem Rk3.add {p:Int} {T A B:Nat→Nat→Nat→Int} {c:Int} {I J K R a b:Nat} (hp:Fld p) (h:Rk3 p T I J K R) (hA:Rk3 p A I J K a) (hB:Rk3 p B I J K b) (e:∀ i j k,i<I→j<J→k<K→Cg p (T i j k) (A i j k+c*B i j k)):R≤a+b:=by
 obtain⟨X,Y,hu⟩:=hA.up
 obtain⟨X',Y',hu'⟩:=hB.up
 refine h.le hp (X:=fun i r=>if r<a then X i r else X' i (r-a)) (Y:=fun r j k=>if r<a then Y r j k else c*Y' (r-a) j k) fun i j k hi hj hk=>?_
 refine (e i j k hi hj hk).trans (((hu i j k hi hj hk).add (Cg.rfl'.mul (hu' i j k hi hj hk))).trans (.of ?_))
 rw[sm_split,←sm_mul]
 congr 1
 ·exact sm_ext fun r hr=>by rw[if_pos hr,if_pos hr]
 ·exact sm_ext fun r hr=>by rw[if_neg (by omega),if_neg (by omega),Nat.add_sub_cancel_left];grind
end Go.Proofs.Ytapafdpnmakekaa.X

set_option linter.unusedVariables false
set_option linter.unusedSimpArgs false
set_option maxRecDepth 20000
set_option maxHeartbeats 4000000
namespace Go.Proofs.Ytapafdpnmakekaa.X
open Go Go.RowKit
theorem tmod_dvd (x p:Int):p∣x-x.tmod p:=⟨x.tdiv p,by have:=Int.mul_tdiv_add_tmod x p;omega⟩
theorem dvd_small {p x:Int} (h:p∣x) (h0:0≤x∧x<p):x=0:=by
 have:=Int.emod_eq_zero_of_dvd h
 rw[Int.emod_eq_of_lt h0.1 h0.2] at this
 exact this
theorem dvd_eq {p x y:Int} (h:p∣x-y) (hx:0≤x∧x<p) (hy:0≤y∧y<p):x=y:=by
 by_cases hxy:y≤x
 ·have:=dvd_small h ⟨by omega,by omega⟩
  omega
 ·have h2:p∣y-x:=by
   obtain⟨c,hc⟩:=h
   exact⟨-c,by rw[Int.mul_neg];omega⟩
  have:=dvd_small h2 ⟨by omega,by omega⟩
  omega
theorem inv_dvd {p n w:Int} (h:IsInv p n w):∃ q,w*n=1+p*q:=by
 obtain⟨q,hq⟩:=tmod_dvd (w*n) p
 rw[h.2.2.1] at hq
 exact⟨q,by omega⟩
end Go.Proofs.Ytapafdpnmakekaa.X

set_option linter.unusedVariables false
set_option linter.unusedSimpArgs false
set_option maxRecDepth 20000
set_option maxHeartbeats 4000000
namespace Go.Proofs.Ytapafdpnmakekaa.X
end Go.Proofs.Ytapafdpnmakekaa.X

set_option linter.unusedVariables false
set_option linter.unusedSimpArgs false
set_option maxRecDepth 20000
set_option maxHeartbeats 4000000
namespace Go.Proofs.Ytapafdpnmakekaa.X
open Go Go.RowKit
section
variable (t:Ten) (f e:Int)
end
def DoneS (N:Nat) (g:Nat→Int) (l:List Int) (m:Int):Prop:=l.length=N∧∀ n:Nat,(n:Int)<m→l.getD n 0=g n
theorem DoneS.step {N:Nat} {g:Nat→Int} {l:List Int} {m:Int} (d:DoneS N g l m) (hm:0≤m∧m<N) {x:Int} (hx:x=g m.toNat):DoneS N g (l.set m.toNat x) (m+1):=by
 refine⟨by rw[List.length_set];exact d.1,fun n hn=>?_⟩
 rw[set_getD (by rw[d.1];omega)]
 split
 ·rename_i e
  rw[e,hx]
 ·exact d.2 n (by omega)
theorem DoneS.all {N:Nat} {g:Nat→Int} {l:List Int} {m:Int} (d:DoneS N g l m) (hm:m=N):l=gen N g:=gen_ext d.1 fun n hn=>d.2 n (by omega)
structure KrS (t u s:Ten) (v w:Value) (h0 h:AH) (b5 nb:Nat) (l:List Int):Prop where
 hp:h0<+:h
 lo:h0.length+3≤nb∧nb<b5
 g1:OwnB h h0.length [I64 t.p,I64 t.i,I64 t.j,I64 t.k,v] true
 g2:OwnB h (h0.length+1) [I64 u.p,I64 u.i,I64 u.j,I64 u.k,w] true
 g3:∃ c,c.length=5∧OwnB h (h0.length+2) c true
 g5:OwnB h b5 [I64 s.p,I64 s.i,I64 s.j,I64 s.k,.slice (some ⟨nb,0,none⟩) (s.i*s.j*s.k).toNat 1] true
 gn:OwnB h nb (l.map (Value.int .i64)) true
theorem KrS.pre {t u s:Ten} {v w:Value} {h0 h h':AH} {b5 nb:Nat} {l:List Int} (a:KrS t u s v w h0 h b5 nb l) (p:h<+:h'):KrS t u s v w h0 h' b5 nb l:=by
 obtain⟨c,c1,c2⟩:=a.g3
 exact⟨a.hp.trans p,a.lo,a.g1.pre p,a.g2.pre p,⟨c,c1,c2.pre p⟩,a.g5.pre p,a.gn.pre p⟩
def DoneZ (N:Nat) (g:Nat→Int) (l:List Int) (m:Int):Prop:=DoneS N g l m∧∀ n:Nat,m≤(n:Int)→l.getD n 0=0
theorem DoneZ.step {N:Nat} {g:Nat→Int} {l:List Int} {m:Int} (d:DoneZ N g l m) (hm:0≤m∧m<N) {x:Int} (hx:x=g m.toNat):DoneZ N g (l.set m.toNat x) (m+1):=by
 refine⟨d.1.step hm hx,fun n hn=>?_⟩
 rw[set_getD (by rw[d.1.1];omega),if_neg (by omega)]
 exact d.2 n (by omega)
theorem DoneZ.skip {N:Nat} {g:Nat→Int} {l:List Int} {m:Int} (d:DoneZ N g l m) (hm:0≤m∧m<N) (hx:g m.toNat=0):DoneZ N g l (m+1):=by
 refine⟨⟨d.1.1,fun n hn=>?_⟩,fun n hn=>d.2 n (by omega)⟩
 by_cases h:(n:Int)<m
 ·exact d.1.2 n h
 ·have:n=m.toNat:=by omega
  rw[d.2 n (by omega),this,hx]
def pK (s i j k:Nat):Nat:=match s with
 | 0=>k
 | 1=>i
 | _=>j
section
variable {t u:Ten}
end
theorem lst_app {n:Nat} {l:List Int} {full:Bool} {H:AH} {x:Int} {e':TypeId} {ro fu:Bool} (o:Lst H n l full) (hl:(l.length:Int)≤1048576) {Q:Value→AH→Prop}
  (hQ:∀ H':AH,H'.length=H.length+2→Kp n H H'→Lst H' (H.length+1) (l++[x]) false→Q (sl (H.length+1) (l++[x]).length) H') :
  OQ (appV 2 1 8 (sl n l.length) (.slice (some ⟨H.length,0,none⟩) 1 1) (H.new ⟨[I64 x],e',ro,fu⟩)) Q:=by
 have hn:(H.new ⟨[I64 x],e',ro,fu⟩).rdn H.length 0 1=some [I64 x]:=by rw[rdn_new_same];rfl
 have hk:(H.new ⟨[I64 x],e',ro,fu⟩).get n=some ⟨l.map (Value.int .i64),2,false,full⟩:=get_new_any o
 have hkb:=o.lt
 unfold sl
 rw[app_own hk (by simp) hn (by omega),OQ_some,len_new]
 have:=hQ (((H.new ⟨[I64 x],e',ro,fu⟩).kill n).new ⟨l.map (Value.int .i64)++[I64 x],2,false,false⟩) (by rw[len_new,len_kill,len_new]) ⟨by rw[len_new,len_kill,len_new];omega,fun j hj hne=>by
   rw[show (((H.new ⟨[I64 x],e',ro,fu⟩).kill n).new ⟨l.map (Value.int .i64)++[I64 x],2,false,false⟩).get j=((H.new ⟨[I64 x],e',ro,fu⟩).kill n).get j from prefix_get (pre_new (List.prefix_refl _)) (by rw[len_kill,len_new];omega),get_kill_ne (Ne.symm hne)]
   exact prefix_get (pre_new (List.prefix_refl _)) hj⟩ (by unfold Lst;rw[get_new_eq (by rw[len_kill,len_new])];simp)
 unfold sl at this
 rw[List.length_append,List.length_singleton] at this
 exact this
structure TenB (t:Ten):Prop where
 p:-1000≤t.p∧t.p≤1000
 i:-1000≤t.i∧t.i≤1000
 j:-1000≤t.j∧t.j≤1000
 k:-1000≤t.k∧t.k≤1000
 ns:t.ns.length≤1000
theorem OwnI.blk {h h':AH} {v:Value} {ns:List Int} (o:OwnI h h' v ns):∃ m e,h.length≤m∧v=sl m ns.length∧h'.get m=some ⟨ns.map (Value.int .i64),e,false,true⟩:=by
 obtain⟨m,e,h1,rfl,h3⟩:=o
 exact⟨m,e,h1,rfl,h3⟩
theorem pick_in {l:List Int} {a b:Int} (hl:∀ x∈l,a≤x∧x≤b) {j:Nat} (hj:j<l.length):a≤l.getD j 0∧l.getD j 0≤b:=by
 rw[List.getD_eq_getElem?_getD,List.getElem?_eq_getElem hj]
 exact hl _ (List.getElem_mem _)
structure Cod (h:AH) (cv:Value) (code:List (List Int)):Prop where
 els:Els .u8 1 h cv code
 byt:Byt 1 code
 len:code.length≤1000000
theorem Cod.pre {h h':AH} {cv:Value} {code:List (List Int)} (c:Cod h cv code) (p:h<+:h'):Cod h' cv code:=⟨c.els.pre p,c.byt,c.len⟩
theorem xres_3 {f:Fr} {h:AH} {r r' r'':XRes} {a b c:Value} (ha:xres1 f h r=some a) (hb:xres1 f h r'=some b) (hc:xres1 f h r''=some c):xres f h [r,r',r'']=some (.tuple #[a,b,c]):=by
 unfold xres xresl xresl xresl xresl
 rw[ha,hb,hc]
theorem getq {l:List Value} {i:Nat} (hi:i<l.length):l[i]?=some (l.getD i undef):=by
 rw[List.getD_eq_getElem?_getD,List.getElem?_eq_getElem hi]
 rfl
theorem cellsL_sl {b n:Nat}:cellsL (sl b n)=[sl b n]:=rfl
theorem isOne_sl {b n:Nat}:isOne (sl b n)=true:=rfl
structure RowD (lo:Nat) (H:AH) (kb:Nat) (fu:Bool) (rows:List (List Int)) (B:Nat→Nat) (cs:List Value):Prop where
 get:H.get kb=some ⟨cs,27,false,fu⟩
 len:cs.length=rows.length
 low:lo≤kb
 row:∀ i,i<rows.length→lo≤B i∧cs.getD i undef=sl (B i) (rows.getD i []).length∧(∃ f,Lst H (B i) (rows.getD i []) f)∧B i≠kb
 inc:∀ i j,i<j→j<rows.length→B i<B j
theorem RowD.kp {lo kb n:Nat} {H H':AH} {fu:Bool} {rows:List (List Int)} {B:Nat→Nat} {cs:List Value} (r:RowD lo H kb fu rows B cs) (k:Kp n H H') (hn:n<lo):RowD lo H' kb fu rows B cs:=
 ⟨k.get (by have:=r.low;omega) r.get,r.len,r.low,fun i hi=>by
  obtain⟨h1,h2,⟨f,h3⟩,h4⟩:=r.row i hi
  exact⟨h1,h2,⟨f,k.get (by omega) h3⟩,h4⟩,r.inc⟩
theorem RowD.rows {lo kb:Nat} {H:AH} {fu:Bool} {rows:List (List Int)} {B:Nat→Nat} {cs:List Value} (r:RowD lo H kb fu rows B cs):Rows H (sl kb rows.length) rows:=by
 refine⟨cs,.inr ⟨kb,0,_,by rw[r.len];rfl,r.get,by simp,fun i hi=>?_⟩,r.len,fun i hi=>?_⟩
 ·show cs[0+i]?=_
  rw[Nat.zero_add]
  exact getq hi
 ·obtain⟨h1,h2,⟨f,h3⟩,h4⟩:=r.row i hi
  rw[h2]
  exact h3.ints
theorem getD_snocD {α:Type} {l:List α} {x d:α} {j:Nat}:(l++[x]).getD j d=if j<l.length then l.getD j d else if j=l.length then x else d:=by
 rw[List.getD_eq_getElem?_getD,List.getD_eq_getElem?_getD]
 by_cases h:j<l.length
 ·rw[List.getElem?_append_left h,if_pos h]
 ·rw[List.getElem?_append_right (by omega),if_neg h]
  split
  ·rename_i e
   simp[e]
  ·rw[List.getElem?_eq_none (by simp;omega)]
   rfl
theorem rowd_app {lo kb b:Nat} {H:AH} {fu f ro fz:Bool} {e':TypeId} {rows:List (List Int)} {l:List Int} {B:Nat→Nat} {cs:List Value} (r:RowD lo H kb fu rows B cs) (hl:rows.length≤1000) (hb:lo≤b) (hkb:b≠kb)
  (hB:∀ i,i<rows.length→B i<b) (hx:Lst H b l f) {Q:Value→AH→Prop}
  (hQ:∀ H':AH,H'.length=H.length+2→Kp kb H H'→RowD lo H' (H.length+1) false (rows++[l]) (fun i=>if i<rows.length then B i else b) (cs++[sl b l.length])→Q (sl (H.length+1) (rows++[l]).length) H') :
  OQ (appV 27 1 24 (sl kb rows.length) (.slice (some ⟨H.length,0,none⟩) 1 1) (H.new ⟨[sl b l.length],e',ro,fz⟩)) Q:=by
 have hn:(H.new ⟨[sl b l.length],e',ro,fz⟩).rdn H.length 0 1=some [sl b l.length]:=by rw[rdn_new_same];rfl
 have hk:(H.new ⟨[sl b l.length],e',ro,fz⟩).get kb=some ⟨cs,27,false,fu⟩:=get_new_any r.get
 have hkl:=get_lt r.get
 have hbl:=get_lt hx
 unfold sl
 unfold sl at hn hk
 rw[app_ownW (n:=rows.length) hk (by rw[r.len,Nat.mul_one]) hn (by omega),OQ_some,len_new]
 have kk:Kp kb H (((H.new ⟨[sl b l.length],e',ro,fz⟩).kill kb).new ⟨cs++[sl b l.length],27,false,false⟩):=⟨by rw[len_new,len_kill,len_new];omega,fun j hj hne=>by
   rw[show (((H.new ⟨[sl b l.length],e',ro,fz⟩).kill kb).new ⟨cs++[sl b l.length],27,false,false⟩).get j=((H.new ⟨[sl b l.length],e',ro,fz⟩).kill kb).get j from prefix_get (pre_new (List.prefix_refl _)) (by rw[len_kill,len_new];omega),get_kill_ne (Ne.symm hne)]
   exact prefix_get (pre_new (List.prefix_refl _)) hj⟩
 have:=hQ _ (by rw[len_new,len_kill,len_new]) kk ⟨get_new_eq (by rw[len_kill,len_new]),by simp[r.len],by have:=r.low;omega,fun i hi=>?_,fun i j hij hj=>?_⟩
 ·unfold sl at this
  rw[List.length_append,List.length_singleton] at this
  exact this
 ·by_cases h:i<rows.length
  ·obtain⟨h1,h2,⟨g,h3⟩,h4⟩:=r.row i h
   have lb:=get_lt h3
   simp only[if_pos h]
   refine⟨h1,?_,⟨g,?_⟩,by omega⟩
   ·rw[getD_snocD,if_pos (by rw[r.len];exact h),h2,getD_snocD,if_pos h]
   ·rw[getD_snocD,if_pos h]
    exact kk.get h4 h3
  ·have e:i=rows.length:=by simp at hi;omega
   subst e
   simp only[if_neg h]
   refine⟨hb,?_,⟨f,?_⟩,by omega⟩
   ·rw[getD_snocD,if_neg (by rw[r.len];omega),if_pos r.len.symm,getD_snocD,if_neg (by omega),if_pos rfl]
   ·rw[getD_snocD,if_neg (by omega),if_pos rfl]
    exact kk.get hkb hx
 ·simp only[List.length_append,List.length_singleton] at hj
  by_cases h:j<rows.length
  ·simp only[if_pos h,if_pos (show i<rows.length by omega)]
   exact r.inc i j hij h
  ·simp only[if_neg h,if_pos (show i<rows.length by omega)]
   exact hB i (by omega)
theorem RowD.moved {lo kb:Nat} {H H':AH} {fu:Bool} {rows:List (List Int)} {B:Nat→Nat} {cs:List Value} (r:RowD lo H kb fu rows B cs) (k:∀ m,lo≤m→m<H.length→H'.get m=H.get m):RowD lo H' kb fu rows B cs:=
 ⟨by rw[k kb r.low (get_lt r.get)];exact r.get,r.len,r.low,fun i hi=>by
  obtain⟨h1,h2,⟨f,h3⟩,h4⟩:=r.row i hi
  exact⟨h1,h2,⟨f,by unfold Lst;rw[k (B i) h1 (get_lt h3)];exact h3⟩,h4⟩,r.inc⟩
theorem RowD.kN {lo kb:Nat} {H:AH} {fu:Bool} {rows:List (List Int)} {B:Nat→Nat} {cs:List Value} (r:RowD lo H kb fu rows B cs):KN lo H fun h'=>Rows h' (sl kb rows.length) rows:=
 fun h' l g=>(r.moved g).rows
theorem RowD.vals {lo kb:Nat} {H:AH} {fu:Bool} {rows:List (List Int)} {B:Nat→Nat} {cs:List Value} (r:RowD lo H kb fu rows B cs):Vals H (sl kb rows.length) cs:=
 .inr ⟨kb,0,_,by rw[r.len];rfl,r.get,by simp,fun i hi=>by show cs[0+i]?=_;rw[Nat.zero_add];exact getq hi⟩
theorem RowD.slc {lo kb:Nat} {H:AH} {fu:Bool} {rows:List (List Int)} {B:Nat→Nat} {cs:List Value} (r:RowD lo H kb fu rows B cs) (h0:0<rows.length) :
  ∃ v',X.slcV 1 (sl kb rows.length) (some (I64 1)) none=some v'∧KN lo H fun h'=>Rows h' v' (rows.drop 1):=by
 have hl:=r.len
 obtain⟨v',e,-⟩:=r.vals.slcV_lo (k1:=.i64) (l:=1) (by omega)
 refine⟨v',e,fun h' l g=>?_⟩
 have r':=r.moved g
 obtain⟨v'',e',hv⟩:=r'.vals.slcV_lo (k1:=.i64) (l:=1) (by omega)
 have:v'=v'':=Option.some.inj (e.symm.trans e')
 subst this
 refine⟨cs.drop 1,hv,by simp[hl],fun i hi=>?_⟩
 simp only[List.length_drop] at hi
 obtain⟨h1,h2,⟨f,h3⟩,h4⟩:=r'.row (1+i) (by omega)
 have e1:(cs.drop 1).getD i undef=cs.getD (1+i) undef:=by rw[List.getD_eq_getElem?_getD,List.getElem?_drop,←List.getD_eq_getElem?_getD]
 have e2:(rows.drop 1).getD i []=rows.getD (1+i) []:=by rw[List.getD_eq_getElem?_getD,List.getElem?_drop,←List.getD_eq_getElem?_getD]
 rw[e1,e2,h2]
 exact h3.ints
theorem RowD.set0 {lo kb:Nat} {H:AH} {fu f:Bool} {rows:List (List Int)} {B:Nat→Nat} {cs:List Value} {l:List Int} (r:RowD lo H kb fu rows B cs) (h0:0<rows.length) (hl:l.length=(rows.getD 0 []).length) :
  RowD lo (H.put (B 0) ⟨l.map (Value.int .i64),2,false,f⟩) kb fu (rows.set 0 l) B cs:=by
 obtain⟨a1,a2,⟨g,a3⟩,a4⟩:=r.row 0 h0
 refine⟨by rw[get_put_ne a4];exact r.get,by rw[List.length_set];exact r.len,r.low,fun i hi=>?_,fun i j hij hj=>r.inc i j hij (by rw[List.length_set] at hj;exact hj)⟩
 rw[List.length_set] at hi
 obtain⟨h1,h2,⟨f',h3⟩,h4⟩:=r.row i hi
 by_cases h:i=0
 ·subst h
  have e2:(rows.set 0 l).getD 0 []=l:=by
   rw[List.getD_eq_getElem?_getD,List.getElem?_set_self (by omega)]
   rfl
  rw[e2,hl]
  exact⟨h1,h2,⟨f,get_put_same (get_lt a3)⟩,h4⟩
 ·have e2:(rows.set 0 l).getD i []=rows.getD i []:=by
   rw[List.getD_eq_getElem?_getD,List.getElem?_set_ne (by omega),←List.getD_eq_getElem?_getD]
  have:=r.inc 0 i (by omega) hi
  rw[e2]
  exact⟨h1,h2,⟨f',by unfold Lst;rw[get_put_ne (by omega)];exact h3⟩,h4⟩
theorem lenV_sl {n I:Nat}:lenV (sl n I)=some (.int .i64 I):=rfl
structure MatD (lo:Nat) (h:AH) (v:Value) (rows:List (List Int)):Prop where
 kn:KN lo h fun h'=>Rows h' v rows
 len:rows.length≤10
 row:∀ i,i<rows.length→(rows.getD i []).length≤100
theorem MatD.kp {lo n:Nat} {h h':AH} {v:Value} {rows:List (List Int)} (d:MatD lo h v rows) (k:Kp n h h') (hn:n<lo):MatD lo h' v rows:=⟨KN.kp d.kn k hn,d.len,d.row⟩
end Go.Proofs.Ytapafdpnmakekaa.X

set_option linter.unusedVariables false
set_option linter.unusedSimpArgs false
set_option maxRecDepth 20000
set_option maxHeartbeats 4000000
namespace Go.Proofs.Ytapafdpnmakekaa.X
open Go Go.RowKit
open Nat (reduceEqDiff reduceAdd reduceSub reduceLeDiff)
theorem xres_t3 {f:Fr} {h:AH} {a b c:Nat}:xres f h [.tmp a,.tmp b,.tmp c]=some (.tuple #[f a,f b,f c]):=xres_3 rfl rfl rfl
theorem s_l07Draw {h0 h:AH} {n:Nat} {Q:Value→AH→Prop} (s:Src h0 h n)
  (hQ:∀ (p m:Int) (rows:List (List Int)) (v:Value) (h':AH),0≤p∧p≤5→0≤m∧m≤31→Kp n h h'→Src h0 h' n→MatD h.length h' v rows→Q (.tuple #[I64 p,I64 m,v]) h'):WF S 201 [srcP n] h Q:=by
 refine WF_fn (fn:=c201) rfl rfl ?_
 dsimp only[c201,oO,oM,oS,oG,oK,oE,oL,oF,oX,oN]
 have lt:=s.lt
 have l0:=pre_len s.p
 ((try simp (maxSteps:=3000000) (dsimp:=false) (disch:=first|omega|simp only[lnx];omega) only[↓ypre,ypost,↓reduceIte,reduceEqDiff,reduceAdd,reduceSub,reduceLeDiff,zz0,ynew,fillL,zrep]);try simp only[yback])
 generalize hH1:AH.new h _=H1
 obtain⟨hb1,p1,n1⟩:=new_facts hH1
 have kv:=kp_new (n:=n) (ns:=[2,2,3,5]) hH1 (by omega)
 refine s_l01Pick (s.kp p1) kv (by simp) (by simp) fun j H2 k2 l2 s2 hj=>?_
 have bp:=pick_in (l:=[2,2,3,5]) (a:=2) (b:=5) (by simp) hj
 generalize ([2,2,3,5]:List Int).getD j 0=p at bp
 have n2:=s2.lt
 refine WO_cut (fun f:Fr=>f 0=srcP n∧f 14=I64 p∧True) ⟨(by first|rfl|simp[upd_apply]),(by first|rfl|simp[upd_apply]),trivial⟩ ?_
 rintro f ⟨f0,f14,-⟩
 ((try simp (maxSteps:=3000000) (dsimp:=false) (disch:=first|omega|simp only[lnx];omega) only[↓ypre,ypost,↓reduceIte,reduceEqDiff,reduceAdd,reduceSub,reduceLeDiff,zz0,ynew,f0,f14,fillL,zrep]);try simp only[yback])
 generalize hH3:AH.new H2 _=H3
 obtain⟨hb3,p3,n3⟩:=new_facts hH3
 have kv:=kp_new (n:=n) (ns:=[2,3,4,4,6,9]) hH3 (by omega)
 refine s_l01Pick (s2.kp p3) kv (by simp) (by simp) fun j H4 k4 l4 s4 hj=>?_
 have bn:=pick_in (l:=[2,3,4,4,6,9]) (a:=2) (b:=9) (by simp) hj
 generalize ([2,3,4,4,6,9]:List Int).getD j 0=m at bn
 obtain⟨N,rfl⟩:∃ N:Nat,m=N:=⟨m.toNat,by omega⟩
 have n4:=s4.lt
 have kk4:Kp n h H4:=((Kp.of p1).trans k2).trans ((Kp.of p3).trans k4)
 have k4l:=kk4.len
 refine WO_cut (fun f:Fr=>f 0=srcP n∧f 14=I64 p∧f 17=I64 N∧True) ⟨(by first|rfl|exact f0|simp[upd_apply,f0]),(by first|rfl|exact f14|simp[upd_apply,f14]),(by first|rfl|simp[upd_apply]),trivial⟩ ?_
 rintro f ⟨f0,f14,f17,-⟩
 ((try simp (maxSteps:=3000000) (dsimp:=false) (disch:=first|omega|simp only[lnx];omega) only[↓ypre,ypost,↓reduceIte,reduceEqDiff,reduceAdd,reduceSub,reduceLeDiff,zz0,ynew,f0,f14,f17,fillL,zrep]);try simp only[yback])
 generalize hH5:AH.new H4 _=H5
 obtain⟨hb5,p5,n5⟩:=new_facts hH5
 generalize hH6:AH.new H5 _=H6
 obtain⟨hb6,p6,n6⟩:=new_facts hH6
 have kv:=kp_new (n:=n) (ns:=[1,2,3,4,7]) hH6 (by omega)
 refine s_l01Pick ((s4.kp p5).kp p6) kv (by simp) (by simp) fun j H7 k7 l7 s7 hj=>?_
 have bK:=pick_in (l:=[1,2,3,4,7]) (a:=1) (b:=7) (by simp) hj
 generalize ([1,2,3,4,7]:List Int).getD j 0=K0 at bK
 obtain⟨K,rfl⟩:∃ K:Nat,K0=K:=⟨K0.toNat,by omega⟩
 have hb5:=k7.get (by omega) (pre_get p6 hb5)
 have k7l:=k7.len
 have kk7:Kp n h H7:=(kk4.trans (Kp.of (p5.trans p6))).trans k7
 refine WO_cut (fun f:Fr=>f 0=srcP n∧f 5=I64 p∧f 6=I64 N∧f 7=sl H4.length 0∧f 21=I64 K∧True) ⟨(by first|rfl|exact f0|simp[upd_apply,f0]),(by first|rfl|simp[upd_apply]),(by first|rfl|simp[upd_apply]),(by first|rfl|simp[upd_apply]),(by first|rfl|simp[upd_apply]),trivial⟩ ?_
 rintro f ⟨f0,f5,f6,f7,f21,-⟩
 ((try simp (maxSteps:=3000000) (dsimp:=false) (disch:=first|omega|simp only[lnx];omega) only[↓ypre,ypost,↓reduceIte,reduceEqDiff,reduceAdd,reduceSub,reduceLeDiff,zz0,ynew,f0,f5,f6,f7,f21]);try simp only[yback])
 refine WC_loop_inv (fun m f K1=>∃ (i:Nat) (rows:List (List Int)) (kb:Nat) (fu:Bool) (B:(Nat→Nat)) (cs:List Value),m=K-i∧i≤K∧f 0=srcP n∧f 5=I64 p∧f 6=I64 N∧f 7=sl kb rows.length∧f 8=I64 ((K-i:Nat):Int)∧(Kp n h K1)∧(Src h0 K1 n)∧(rows.length=i)∧(h.length≤kb)∧(RowD h.length K1 kb fu rows B cs)∧(∀ j,j<rows.length→B j<K1.length)∧(∀ j,j<rows.length→(rows.getD j []).length=N)) ?_ (K-0) _ _ ⟨0,[],H4.length,true,(fun _=>0),[],rfl,by omega,(by first|rfl|exact f0|(simp[upd_apply];done)),(by first|rfl|exact f5|(simp[upd_apply];done)),(by first|rfl|exact f6|(simp[upd_apply];done)),(by first|rfl|exact f7|(simp[upd_apply];done)),(by first|rfl|simp[upd_apply]),kk7,s7,rfl,(by omega),⟨hb5,rfl,by omega,fun i hi=>by simp at hi,fun i j _ hj=>by simp at hj⟩,fun j hj=>by simp at hj,fun j hj=>by simp at hj⟩
 rintro m f K1 ⟨i,rows,kb,fu,B,cs,rfl,hi,f0,f5,f6,f7,f8,kk,ss,li,hq,r,hB,hw⟩
 have lkb:=get_lt r.get
 have kkl:=kk.len
 by_cases hlt:((K-i:Nat):Int)>0
 ·((try simp (maxSteps:=3000000) (dsimp:=false) (disch:=first|omega|simp only[lnx];omega) only[↓ypre,ypost,↓reduceIte,reduceEqDiff,reduceAdd,reduceSub,reduceLeDiff,zz0,ynew,f0,f5,f6,f7,f8,decide_eq_true hlt,fillL,zrep]);try simp only[yback])
  generalize hH2:AH.new K1 _=G2
  obtain⟨hg2,q2,m2⟩:=new_facts hH2
  refine WC_loop_inv (fun m f K2=>∃ (k:Nat) (l:List Int) (k2:Nat) (fl:Bool),m=N-k∧k≤N∧f 0=srcP n∧f 5=I64 p∧f 6=I64 N∧f 7=sl kb rows.length∧f 8=I64 ((K-i:Nat):Int)∧f 9=sl k2 l.length∧f 10=I64 k∧(Kp n K1 K2)∧(Src h0 K2 n)∧(l.length=k)∧(K1.length≤k2)∧(Lst K2 k2 l fl)) ?_ (N-0) _ _ ⟨0,[],K1.length,true,rfl,by omega,(by first|rfl|exact f0|(simp[upd_apply];done)),(by first|rfl|exact f5|(simp[upd_apply];done)),(by first|rfl|exact f6|(simp[upd_apply];done)),(by first|rfl|exact f7|(simp[upd_apply];done)),(by first|rfl|exact f8|(simp[upd_apply];done)),(by first|rfl|simp[upd_apply]),(by first|rfl|simp[upd_apply]),Kp.of q2,ss.kp q2,rfl,Nat.le_refl _,hg2⟩
  rintro m f K2 ⟨k,l,k2,fl,rfl,hk,f0,f5,f6,f7,f8,f9,f10,kk2,s2,lk,hk2,q⟩
  have kk2l:=kk2.len
  have lq:=get_lt q
  by_cases hk:(k:Int)<N
  ·((try simp (maxSteps:=3000000) (dsimp:=false) (disch:=first|omega|simp only[lnx];omega) only[↓ypre,ypost,↓reduceIte,reduceEqDiff,reduceAdd,reduceSub,reduceLeDiff,zz0,ynew,f0,f5,f6,f7,f8,f9,f10,decide_eq_true hk]);try simp only[yback])
   refine s_l01Next s2 fun x H8 k8 l8 s8 hx _=>?_
   have hx:=hx (by omega)
   ((try simp (maxSteps:=3000000) (dsimp:=false) (disch:=first|omega|simp only[lnx];omega) only[↓ypre,ypost,↓reduceIte,reduceEqDiff,reduceAdd,reduceSub,reduceLeDiff,zz0,ynew,f0,f5,f6,f7,f8,f9,f10]);try simp only[yback])
   refine s_l01Next s8 fun y H9 k9 l9 s9 hy _=>?_
   have hy:=hy (by omega)
   have hxy:=mul_in (a:=x) (b:=y) (A:=5) (B:=1) ⟨hx.1,by omega⟩ ⟨hy.1,by omega⟩
   have q:=k9.get (by omega) (k8.get (by omega) q)
   have lq:=get_lt q
   have n9:=s9.lt
   ((try simp (maxSteps:=3000000) (dsimp:=false) (disch:=first|omega|simp only[lnx];omega) only[↓ypre,ypost,↓reduceIte,reduceEqDiff,reduceAdd,reduceSub,reduceLeDiff,zz0,ynew,f0,f5,f6,f7,f8,f9,f10,wrap64_in,fillL,zrep]);try simp only[yback])
   refine lst_app q (by omega) fun HA lA kA qA=>?_
   ((try simp (maxSteps:=3000000) (dsimp:=false) (disch:=first|omega|simp only[lnx];omega) only[↓ypre,ypost,↓reduceIte,reduceEqDiff,reduceAdd,reduceSub,reduceLeDiff,zz0,ynew,f0,f5,f6,f7,f8,f9,f10,wrap64_in]);try simp only[yback])
   refine InvQ_go (N-(k+1)) (by omega) ⟨(k+1),(l++[x*y]),(H9.length+1),false,rfl,by omega,(by first|rfl|exact f0|(simp only[upd_apply];rfl)|(show I64 _=_;congr 1;omega)),(by first|rfl|exact f5|(simp only[upd_apply];rfl)|(show I64 _=_;congr 1;omega)),(by first|rfl|exact f6|(simp only[upd_apply];rfl)|(show I64 _=_;congr 1;omega)),(by first|rfl|exact f7|(simp only[upd_apply];rfl)|(show I64 _=_;congr 1;omega)),(by first|rfl|exact f8|(simp only[upd_apply];rfl)|(show I64 _=_;congr 1;omega)),(by first|rfl|exact f9|(simp only[upd_apply];rfl)|(show I64 _=_;congr 1;omega)),(by first|rfl|exact f10|(simp only[upd_apply];rfl)|(show I64 _=_;congr 1;omega)),((kk2.trans (k8.trans k9)).over kA (by omega)),(s9.over kA (by omega) (by have:=pre_len s.p;omega)),(by rw[List.length_append,lk];rfl),(by omega),qA⟩
  ·have ek:k=N:=by omega
   have r2:=r.kp kk2 (by omega)
   by_cases hi0:¬ (rows.length:Int)>0
   ·((try simp (maxSteps:=3000000) (dsimp:=false) (disch:=first|omega|simp only[lnx];omega) only[↓ypre,ypost,↓reduceIte,reduceEqDiff,reduceAdd,reduceSub,reduceLeDiff,zz0,ynew,f0,f5,f6,f7,f8,f9,f10,decide_eq_false hk,lenV_sl,decide_eq_false hi0,fillL,zrep,cellsL_sl,isOne_sl]);try simp only[yback])
    refine rowd_app r2 (by omega) (by omega) (by omega) (fun j hj=>by have:=hB j hj;omega) q fun HZ lZ kZ rZ=>?_
    ((try simp (maxSteps:=3000000) (dsimp:=false) (disch:=first|omega|simp only[lnx];omega) only[↓ypre,ypost,↓reduceIte,reduceEqDiff,reduceAdd,reduceSub,reduceLeDiff,zz0,ynew,f0,f5,f6,f7,f8,f9,f10,wrap64_in]);try simp only[yback])
    have hB2:∀ j,j<(rows++[l]).length→(if j<rows.length then B j else k2)<HZ.length:=fun j hj=>by
     split
     ·rename_i hjr
      have:=hB j hjr
      omega
     ·omega
    have hw2:∀ j,j<(rows++[l]).length→((rows++[l]).getD j []).length=N:=fun j hj=>by
     rw[getD_snocD]
     split
     ·rename_i hjr
      exact hw j hjr
     ·rw[if_pos (by simp at hj;omega)]
      omega
    refine InvQ_go (K-(i+1)) (by omega) ⟨(i+1),(rows++[l]),(K2.length+1),false,_,_,rfl,by omega,(by first|rfl|exact f0|(simp only[upd_apply];rfl)|(show I64 _=_;congr 1;omega)),(by first|rfl|exact f5|(simp only[upd_apply];rfl)|(show I64 _=_;congr 1;omega)),(by first|rfl|exact f6|(simp only[upd_apply];rfl)|(show I64 _=_;congr 1;omega)),(by first|rfl|exact f7|(simp only[upd_apply];rfl)|(show I64 _=_;congr 1;omega)),(by first|rfl|exact f8|(simp only[upd_apply];rfl)|(show I64 _=_;congr 1;omega)),((kk.trans kk2).over kZ (by omega)),(s2.over kZ (by omega) (by omega)),(by rw[List.length_append,li];rfl),(by omega),rZ,hB2,hw2⟩
   have hi0:=Decidable.not_not.1 hi0
   ((try simp (maxSteps:=3000000) (dsimp:=false) (disch:=first|omega|simp only[lnx];omega) only[↓ypre,ypost,↓reduceIte,reduceEqDiff,reduceAdd,reduceSub,reduceLeDiff,zz0,ynew,f0,f5,f6,f7,f8,f9,f10,decide_eq_false hk,lenV_sl,decide_eq_true hi0]);try simp only[yback])
   refine s_l01Next s2 fun x H8 k8 l8 s8 _ _=>?_
   have r8:=r2.kp k8 (by omega)
   have q8:=k8.get (by omega) q
   have k8l:=k8.len
   by_cases x0:¬ x=0
   ·((try simp (maxSteps:=3000000) (dsimp:=false) (disch:=first|omega|simp only[lnx];omega) only[↓ypre,ypost,↓reduceIte,reduceEqDiff,reduceAdd,reduceSub,reduceLeDiff,zz0,ynew,f0,f5,f6,f7,f8,f9,f10,decide_eq_false x0,fillL,zrep,cellsL_sl,isOne_sl]);try simp only[yback])
    refine rowd_app r8 (by omega) (by omega) (by omega) (fun j hj=>by have:=hB j hj;omega) q8 fun HZ lZ kZ rZ=>?_
    ((try simp (maxSteps:=3000000) (dsimp:=false) (disch:=first|omega|simp only[lnx];omega) only[↓ypre,ypost,↓reduceIte,reduceEqDiff,reduceAdd,reduceSub,reduceLeDiff,zz0,ynew,f0,f5,f6,f7,f8,f9,f10,wrap64_in]);try simp only[yback])
    have hB2:∀ j,j<(rows++[l]).length→(if j<rows.length then B j else k2)<HZ.length:=fun j hj=>by
     split
     ·rename_i hjr
      have:=hB j hjr
      omega
     ·omega
    have hw2:∀ j,j<(rows++[l]).length→((rows++[l]).getD j []).length=N:=fun j hj=>by
     rw[getD_snocD]
     split
     ·rename_i hjr
      exact hw j hjr
     ·rw[if_pos (by simp at hj;omega)]
      omega
    refine InvQ_go (K-(i+1)) (by omega) ⟨(i+1),(rows++[l]),(H8.length+1),false,_,_,rfl,by omega,(by first|rfl|exact f0|(simp only[upd_apply];rfl)|(show I64 _=_;congr 1;omega)),(by first|rfl|exact f5|(simp only[upd_apply];rfl)|(show I64 _=_;congr 1;omega)),(by first|rfl|exact f6|(simp only[upd_apply];rfl)|(show I64 _=_;congr 1;omega)),(by first|rfl|exact f7|(simp only[upd_apply];rfl)|(show I64 _=_;congr 1;omega)),(by first|rfl|exact f8|(simp only[upd_apply];rfl)|(show I64 _=_;congr 1;omega)),(((kk.trans kk2).trans k8).over kZ (by omega)),(s8.over kZ (by omega) (by omega)),(by rw[List.length_append,li];rfl),(by omega),rZ,hB2,hw2⟩
   have x0:=Decidable.not_not.1 x0
   obtain⟨e1,e2,⟨g,e3⟩,e4⟩:=r8.row (rows.length-1) (by omega)
   have eN:=hw (rows.length-1) (by omega)
   have ixl:ixsV 1 (sl kb rows.length) (I64 ((rows.length:Int)-1))=some (.pointer (some ⟨kb,rows.length-1,none⟩)):=by
    have:=Lst.ix (n:=kb) (j:=(rows.length:Int)-1) (len:=rows.length) ⟨by omega,by omega⟩
    rw[this]
    congr 4
    omega
   have rdl:H8.rd1 kb (rows.length-1)=some (sl (B (rows.length-1)) (rows.getD (rows.length-1) []).length):=by
    rw[←e2,rd1_of r8.get]
    exact getq (by rw[r8.len];omega)
   ((try simp (maxSteps:=3000000) (dsimp:=false) (disch:=first|omega|simp only[lnx];omega) only[↓ypre,ypost,↓reduceIte,reduceEqDiff,reduceAdd,reduceSub,reduceLeDiff,zz0,ynew,f0,f5,f6,f7,f8,f9,f10,decide_eq_true x0,lenV_sl,wrap64_in,ixl,rdl]);try simp only[yback])
   refine s_OwnT e3.ints (by omega) (by omega) fun kc H9 hkc p9 q9=>?_
   have s9:=s8.kp p9
   have p9l:=p9.length_le
   have lq9:=get_lt q9
   rw[eN]
   generalize hll:rows.getD (rows.length-1) []=lst at eN q9
   ((try simp (maxSteps:=3000000) (dsimp:=false) (disch:=first|omega|simp only[lnx];omega) only[↓ypre,ypost,↓reduceIte,reduceEqDiff,reduceAdd,reduceSub,reduceLeDiff,zz0,ynew,f0,f5,f6,f7,f8,f9,f10]);try simp only[yback])
   refine s_l01Next s9 fun a HA kA lA sA ha _=>?_
   have ha:=ha (by omega)
   obtain⟨a,rfl⟩:∃ a':Nat,a=a':=⟨a.toNat,by omega⟩
   ((try simp (maxSteps:=3000000) (dsimp:=false) (disch:=first|omega|simp only[lnx];omega) only[↓ypre,ypost,↓reduceIte,reduceEqDiff,reduceAdd,reduceSub,reduceLeDiff,zz0,ynew,f0,f5,f6,f7,f8,f9,f10]);try simp only[yback])
   refine s_l01Next sA fun b HB kB lB sB hb _=>?_
   have n8:=s8.lt
   have qB:Lst HB kc lst false:=kB.get (by omega) (kA.get (by omega) q9)
   have ixa:ixsV 1 (sl kc N) (I64 a)=some (.pointer (some ⟨kc,a,none⟩)):=Lst.ix (j:=(a:Int)) ⟨by omega,by omega⟩
   obtain⟨HC,wC,eC,qC⟩:=qB.wr (j:=a) (x:=b) (by omega)
   have kC:Kp n H8 HC:=eC▸(((Kp.of p9).trans kA).trans kB).putb (by omega)
   have sC:Src h0 HC n:=eC▸sB.putb (by omega) (by omega)
   have rC:=r8.kp kC (by omega)
   have lC:(lst.set a b).length=N:=by rw[List.length_set];exact eN
   have hCl:HC.length=HB.length:=by rw[eC,len_put]
   ((try simp (maxSteps:=3000000) (dsimp:=false) (disch:=first|omega|simp only[lnx];omega) only[↓ypre,ypost,↓reduceIte,reduceEqDiff,reduceAdd,reduceSub,reduceLeDiff,zz0,ynew,f0,f5,f6,f7,f8,f9,f10,ixa,wC]);try simp only[yback])
   rw[show sl kc N=sl kc (lst.set a b).length by rw[lC]]
   ((try simp (maxSteps:=3000000) (dsimp:=false) (disch:=first|omega|simp only[lnx];omega) only[↓ypre,ypost,↓reduceIte,reduceEqDiff,reduceAdd,reduceSub,reduceLeDiff,zz0,ynew,f0,f5,f6,f7,f8,f9,f10,fillL,zrep,cellsL_sl,isOne_sl]);try simp only[yback])
   have kCl:=kC.len
   refine rowd_app rC (by omega) (by omega) (by omega) (fun j hj=>by have:=hB j hj;omega) qC fun HZ lZ kZ rZ=>?_
   ((try simp (maxSteps:=3000000) (dsimp:=false) (disch:=first|omega|simp only[lnx];omega) only[↓ypre,ypost,↓reduceIte,reduceEqDiff,reduceAdd,reduceSub,reduceLeDiff,zz0,ynew,f0,f5,f6,f7,f8,f9,f10,wrap64_in]);try simp only[yback])
   have hB2:∀ j,j<(rows++[lst.set a b]).length→(if j<rows.length then B j else kc)<HZ.length:=fun j hj=>by
    split
    ·rename_i hjr
     have:=hB j hjr
     omega
    ·omega
   have hw2:∀ j,j<(rows++[lst.set a b]).length→((rows++[lst.set a b]).getD j []).length=N:=fun j hj=>by
    rw[getD_snocD]
    split
    ·rename_i hjr
     exact hw j hjr
    ·rw[if_pos (by simp at hj;omega)]
     omega
   refine InvQ_go (K-(i+1)) (by omega) ⟨(i+1),(rows++[lst.set a b]),(HC.length+1),false,_,_,rfl,by omega,(by first|rfl|exact f0|(simp only[upd_apply];rfl)|(show I64 _=_;congr 1;omega)),(by first|rfl|exact f5|(simp only[upd_apply];rfl)|(show I64 _=_;congr 1;omega)),(by first|rfl|exact f6|(simp only[upd_apply];rfl)|(show I64 _=_;congr 1;omega)),(by first|rfl|exact f7|(simp only[upd_apply];rfl)|(show I64 _=_;congr 1;omega)),(by first|rfl|exact f8|(simp only[upd_apply];rfl)|(show I64 _=_;congr 1;omega)),((((kk.trans kk2).trans k8).trans kC).over kZ (by omega)),(sC.over kZ (by omega) (by omega)),(by rw[List.length_append,li];rfl),(by omega),rZ,hB2,hw2⟩
 ·have ei:i=K:=by omega
  ((try simp (maxSteps:=3000000) (dsimp:=false) (disch:=first|omega|simp only[lnx];omega) only[↓ypre,ypost,↓reduceIte,reduceEqDiff,reduceAdd,reduceSub,reduceLeDiff,zz0,ynew,f0,f5,f6,f7,f8,decide_eq_false hlt]);try simp only[yback])
  refine s_l01Next ss fun x H8 k8 l8 s8 _ _=>?_
  have r8:=r.kp k8 (by omega)
  have kk8:=kk.trans k8
  have md:MatD h.length H8 (sl kb rows.length) rows:=⟨r8.kN,by omega,fun i hi=>by have:=hw i hi;omega⟩
  have n8:=s8.lt
  by_cases x0:x=0
  ·((try simp (maxSteps:=3000000) (dsimp:=false) (disch:=first|omega|simp only[lnx];omega) only[↓ypre,ypost,↓reduceIte,reduceEqDiff,reduceAdd,reduceSub,reduceLeDiff,zz0,ynew,f0,f5,f6,f7,f8,decide_eq_true x0,fillL,zrep]);try simp only[yback])
   generalize hH9:AH.new H8 _=H9
   obtain⟨hb9,p9,n9⟩:=new_facts hH9
   have kv:=kp_new (n:=n) (ns:=[4,0]) hH9 (by omega)
   refine s_l01Pick (s8.kp p9) kv (by simp) (by simp) fun j HA kA lA sA hj=>?_
   have by2:=pick_in (l:=[4,0]) (a:=0) (b:=4) (by simp) hj
   generalize ([4,0]:List Int).getD j 0=y at by2
   ((try simp (maxSteps:=3000000) (dsimp:=false) (disch:=first|omega|simp only[lnx];omega) only[↓ypre,ypost,↓reduceIte,reduceEqDiff,reduceAdd,reduceSub,reduceLeDiff,zz0,ynew,f0,f5,f6,f7,f8,xres_t3]);try simp only[yback])
   exact hQ y N rows _ HA (by omega) (by omega) ((kk8.trans (Kp.of p9)).trans kA) sA ((md.kp (Kp.of p9) lt).kp kA lt)
  by_cases x1:x=1
  ·((try simp (maxSteps:=3000000) (dsimp:=false) (disch:=first|omega|simp only[lnx];omega) only[↓ypre,ypost,↓reduceIte,reduceEqDiff,reduceAdd,reduceSub,reduceLeDiff,zz0,ynew,f0,f5,f6,f7,f8,decide_eq_false x0,decide_eq_true x1,wrap64_in,fillL,zrep]);try simp only[yback])
   generalize hH9:AH.new H8 _=H9
   obtain⟨hb9,p9,n9⟩:=new_facts hH9
   have kv:=kp_new (n:=n) (ns:=[0,(N:Int)+1,31]) hH9 (by omega)
   refine s_l01Pick (s8.kp p9) kv (by simp) (by simp) fun j HA kA lA sA hj=>?_
   have by2:=pick_in (l:=[0,(N:Int)+1,31]) (a:=0) (b:=31) (by simp;omega) hj
   generalize ([0,(N:Int)+1,31]:List Int).getD j 0=y at by2
   ((try simp (maxSteps:=3000000) (dsimp:=false) (disch:=first|omega|simp only[lnx];omega) only[↓ypre,ypost,↓reduceIte,reduceEqDiff,reduceAdd,reduceSub,reduceLeDiff,zz0,ynew,f0,f5,f6,f7,f8,xres_t3]);try simp only[yback])
   exact hQ p y rows _ HA (by omega) (by omega) ((kk8.trans (Kp.of p9)).trans kA) sA ((md.kp (Kp.of p9) lt).kp kA lt)
  by_cases x2:¬ x=2
  ·((try simp (maxSteps:=3000000) (dsimp:=false) (disch:=first|omega|simp only[lnx];omega) only[↓ypre,ypost,↓reduceIte,reduceEqDiff,reduceAdd,reduceSub,reduceLeDiff,zz0,ynew,f0,f5,f6,f7,f8,decide_eq_false x0,decide_eq_false x1,decide_eq_false x2,xres_t3]);try simp only[yback])
   exact hQ p N rows _ H8 (by omega) (by omega) kk8 s8 md
  have x2:=Decidable.not_not.1 x2
  have ix0:ixsV 1 (sl kb rows.length) (I64 0)=some (.pointer (some ⟨kb,0,none⟩)):=Lst.ix (n:=kb) (j:=0) (len:=rows.length) ⟨by omega,by omega⟩
  obtain⟨h1,h2,⟨g,h3⟩,h4'⟩:=r8.row 0 (by omega)
  have rd0:H8.rd1 kb 0=some (sl (B 0) (rows.getD 0 []).length):=by
   rw[←h2,rd1_of r8.get]
   have:0<cs.length:=by rw[r8.len];omega
   simp[List.getD_eq_getElem?_getD,List.getElem?_eq_getElem this]
  have w0:=hw 0 (by omega)
  ((try simp (maxSteps:=3000000) (dsimp:=false) (disch:=first|omega|simp only[lnx];omega) only[↓ypre,ypost,↓reduceIte,reduceEqDiff,reduceAdd,reduceSub,reduceLeDiff,zz0,ynew,f0,f5,f6,f7,f8,decide_eq_false x0,decide_eq_false x1,decide_eq_true x2,ix0,rd0,fillL,zrep]);try simp only[yback])
  generalize hH9:AH.new H8 _=H9
  obtain⟨hb9,p9,n9⟩:=new_facts hH9
  have kv:=kp_new (n:=n) (ns:=[p,-1]) hH9 (by omega)
  refine s_l01Pick (s8.kp p9) kv (by simp) (by simp) fun j HA kA lA sA hj=>?_
  generalize ([p,-1]:List Int).getD j 0=y
  have rA:=(r8.kp (Kp.of p9) lt).kp kA lt
  obtain⟨h1,h2,⟨g,h3⟩,h4'⟩:=rA.row 0 (by omega)
  have ixb:ixsV 1 (sl (B 0) (rows.getD 0 []).length) (I64 0)=some (.pointer (some ⟨B 0,0,none⟩)):=Lst.ix (n:=B 0) (j:=0) ⟨by omega,by omega⟩
  obtain⟨HB,wB,eB,qB⟩:=h3.wr (j:=0) (x:=y) (by omega)
  ((try simp (maxSteps:=3000000) (dsimp:=false) (disch:=first|omega|simp only[lnx];omega) only[↓ypre,ypost,↓reduceIte,reduceEqDiff,reduceAdd,reduceSub,reduceLeDiff,zz0,ynew,f0,f5,f6,f7,f8,ixb,wB,xres_t3]);try simp only[yback])
  have rZ:=rA.set0 (f:=g) (l:=(rows.getD 0 []).set 0 y) (by omega) (by rw[List.length_set])
  rw[←eB] at rZ
  have kZ:Kp n h HB:=eB▸((kk8.trans (Kp.of p9)).trans kA).putb (by omega)
  have sZ:Src h0 HB n:=eB▸sA.putb (by omega) (by omega)
  have eL:(rows.set 0 ((rows.getD 0 []).set 0 y)).length=rows.length:=List.length_set
  rw[←eL]
  refine hQ p N _ _ HB (by omega) (by omega) kZ sZ ⟨rZ.kN,by omega,fun i hi=>?_⟩
  rw[eL] at hi
  by_cases hi0:i=0
  ·subst hi0
   rw[List.getD_eq_getElem?_getD (l:=rows.set 0 _),List.getElem?_set_self (by omega)]
   simp only[Option.getD_some,List.length_set]
   omega
  ·rw[List.getD_eq_getElem?_getD (l:=rows.set 0 _),List.getElem?_set_ne (by omega),←List.getD_eq_getElem?_getD]
   have:=hw i hi
   omega
end Go.Proofs.Ytapafdpnmakekaa.X

set_option linter.unusedVariables false
set_option linter.unusedSimpArgs false
set_option maxRecDepth 20000
set_option maxHeartbeats 4000000
namespace Go.Proofs.Ytapafdpnmakekaa.X
open Go Go.RowKit
def ProgD (lo:Nat) (h:AH) (v w:Value) (x:Prg):Prop:=KN lo h fun h'=>PrgR h' v w x
theorem WayX.kN {e:TypeId} {k:IntKind} {w lo:Nat} {h:AH} {v:Value} {L:List (List Int)} {ex:List Nat} (o:WayX e k w h lo ex v L):KN lo h fun h'=>Els k w h' v L:=o.inE.kN (Nat.le_refl _)
theorem Way2.kN {lo:Nat} {h:AH} {v w:Value} {x:Prg} (o:Way2 h lo v w x):ProgD lo h v w x:=fun h' l g=>⟨o.st.kN h' l g,o.out.kN h' l g⟩
theorem ProgD.kp {lo n:Nat} {h h':AH} {v w:Value} {x:Prg} (o:ProgD lo h v w x) (k:Kp n h h') (hn:n<lo):ProgD lo h' v w x:=KN.kp o k hn
theorem ProgD.mono {lo lo':Nat} {h:AH} {v w:Value} {x:Prg} (o:ProgD lo h v w x) (hl:lo'≤lo):ProgD lo' h v w x:=KN.mono o hl
theorem ProgD.none {lo:Nat} {h:AH} {p n:Int}:ProgD lo h (.slice none 0 0) (.slice none 0 0) ⟨p,n,[],[]⟩:=fun h' _ _=>⟨.inl ⟨rfl,0,by omega,rfl⟩,.inl ⟨rfl,0,by omega,rfl⟩⟩
theorem WayX.app_kp {e:TypeId} {k:IntKind} {w lo:Nat} {sv:Value} {L:List (List Int)} {H:AH} {q:List Int} {e':TypeId} {ro full:Bool} {bytes:Nat} (o:WayX e k w H lo [] sv L) (hq:q.length=w) (hl:((L.length:Int)+1)*bytes≤140737488355328) (hn:(L.length:Int)<1048576) (hlo:lo≤H.length)
  {Q:Value→AH→Prop} (hQ:∀ (sv':Value) (H':AH) (kb:Nat),H'.length=H.length+2→lo≤kb→(kb=H.length∨blkOf sv=some kb)→Kp kb H H'→WayX e k w H' H.length [] sv' (L++[q])→Q sv' H') :
  OQ (appV e w bytes sv (.slice (some ⟨H.length,0,none⟩) 1 w) (H.new ⟨cel k q,e',ro,full⟩)) Q:=by
 have hr:(H.new ⟨cel k q,e',ro,full⟩).rdn H.length 0 w=some (cel k q):=by
  rw[rdn_of get_new_same]
  simp only
  rw[if_pos (by rw[cel_len,hq];omega),List.drop_zero,List.take_of_length_le (by rw[cel_len,hq];omega)]
 obtain⟨hw,⟨rfl,rfl⟩|⟨kb,fu,rfl,h2,h3,h4⟩⟩:=o
 ·rw[app_nilW (.inl rfl) hr (by simp only[List.length_nil] at hl;omega),OQ_some]
  refine hQ _ _ H.length (by rw[len_new,len_new]) hlo (.inl rfl) (Kp.of (pre_new (pre_new (List.prefix_refl _)))) ⟨?_,.inr ⟨_,false,rfl,by rw[len_new];omega,by simp,?_⟩⟩
  ·intro r hr
   rw[List.nil_append,List.mem_singleton] at hr
   rw[hr,hq]
  ·rw[get_new_same]
   simp
 ·have hk:(H.new ⟨cel k q,e',ro,full⟩).get kb=some ⟨cel k L.flatten,e,false,fu⟩:=get_new_any h4
  have hkb:=get_lt h4
  rw[app_ownW hk (by rw[cel_len,flat_len hw]) hr ⟨hl,by omega⟩,OQ_some]
  refine hQ _ _ kb (by rw[len_new,len_kill,len_new]) h2 (.inr rfl) ⟨by rw[len_new,len_kill,len_new];omega,fun j hj hne=>?_⟩ ⟨?_,.inr ⟨(H.new ⟨cel k q,e',ro,full⟩).length,false,by simp,by rw[len_new];omega,by simp,?_⟩⟩
  ·rw[show ∀ b,(((H.new ⟨cel k q,e',ro,full⟩).kill kb).new b).get j=((H.new ⟨cel k q,e',ro,full⟩).kill kb).get j from fun b=>prefix_get (pre_new (List.prefix_refl _)) (by rw[len_kill,len_new];omega),get_kill_ne (Ne.symm hne)]
   exact prefix_get (pre_new (List.prefix_refl _)) hj
  ·intro r hr
   rcases List.mem_append.1 hr with hr|hr
   ·exact hw r hr
   ·rw[List.mem_singleton.1 hr,hq]
  ·rw[get_new_eq (by rw[len_kill])]
   simp[cel_app]
end Go.Proofs.Ytapafdpnmakekaa.X

set_option linter.unusedVariables false
set_option linter.unusedSimpArgs false
set_option maxRecDepth 20000
set_option maxHeartbeats 4000000
namespace Go.Proofs.Ytapafdpnmakekaa.X
open Go Go.RowKit
open Nat (reduceEqDiff reduceAdd reduceSub reduceLeDiff)
def unN (N k:Nat):List Int:=(List.replicate N 0).set k 1
theorem unN_len {N k:Nat}:(unN N k).length=N:=by simp[unN]
theorem unN_in {N k:Nat} {p:Int} (hp:2≤p):allIn p (unN N k)=true:=by
 rw[allIn_iff]
 intro j hj
 unfold unN at hj ⊢
 rw[List.length_set,List.length_replicate] at hj
 rw[List.getD_eq_getElem?_getD,List.getElem?_set]
 split
 ·simp
  split<;>simp<;>omega
 ·rw[List.getElem?_replicate]
  split<;>simp<;>omega
def fmF (x:Prg) (N i k:Nat):Int:=(runP x (unN N k)).getD i 0
def fmL (x:Prg):List (List Int):=(List.range x.out.length).map fun i=>gen x.n.toNat fun k=>fmF x x.n.toNat i k
def fmR (x:Prg):List (List Int)×Int:=if isPrg x=true then (fmL x,0) else ([],1)
theorem fmL_len {x:Prg}:(fmL x).length=x.out.length:=by simp[fmL]
theorem fmL_get {x:Prg} {i:Nat} (hi:i<x.out.length):(fmL x).getD i []=gen x.n.toNat fun k=>fmF x x.n.toNat i k:=by
 simp[fmL,List.getD_eq_getElem?_getD,List.getElem?_map,List.getElem?_range hi]
theorem smallM_of2 {rows:List (List Int)} {A B:Nat} (h1:rows.length≤A) (h2:∀ i,i<rows.length→(rows.getD i []).length≤B) (hAB:A≤1000∧B≤1000):SmallM rows:=by
 have ht:∀ i,i≤rows.length→tot rows i≤i*1000:=fun i=>by
  induction i with
  | zero=>intro _;simp
  | succ i ih=>
   intro hi
   have e:=tot_succ (rows:=rows) (i:=i) (by omega)
   have:=ih (by omega)
   have:=h2 i (by omega)
   omega
 have:=ht rows.length (Nat.le_refl _)
 exact⟨by omega,fun i hi=>by have:=h2 i hi;omega,by omega⟩
theorem fmR_small (x:Prg):SmallM (fmR x).1:=by
 unfold fmR
 split
 ·rename_i h
  have pf:=isPrg_facts h
  have:=pf.out
  have:=pf.n
  refine smallM_of2 (A:=30) (B:=30) (by rw[fmL_len];omega) (fun i hi=>?_) (by omega)
  rw[fmL_len] at hi
  rw[fmL_get hi,gen_len]
  omega
 ·exact⟨by simp,by simp,by simp[tot]⟩
theorem TabS.get {h0 h:AH} {nb i:Nat} {full:Bool} {L:List (Nat×List Int)} (s:TabS h0 h nb full L) (hi:i<L.length):h.rd1 nb i=some (sl (L[i]).1 (L[i]).2.length):=by
 rw[rd1_of s.g]
 simp[hi,rowV,sl]
def colL (x:Prg) (N:Nat):List (List Int):=(List.range N).map fun k=>runP x (unN N k)
theorem colL_len {x:Prg} {N:Nat}:(colL x N).length=N:=by simp[colL]
theorem colL_get {x:Prg} {N k:Nat} (hk:k<N):(colL x N).getD k []=runP x (unN N k):=by
 simp[colL,List.getD_eq_getElem?_getD,List.getElem?_map,List.getElem?_range hk]
theorem trL_colL {x:Prg}:trL (colL x x.n.toNat) x.out.length=fmL x:=by
 unfold trL fmL
 rw[colL_len]
 refine List.map_congr_left fun j hj=>gen_congr fun k hk=>?_
 rw[colL_get hk]
 rfl
theorem i_FormsOf {v w:Value} {x:Prg} {h:AH} {Q:Value→AH→Prop} (hv:PrgR h v w x) (hl:SmallP x)
  (hQ:∀ v' h',h<+:h'→OwnRows h h' v' (fmR x).1→Q (.tuple #[v',I64 (fmR x).2]) h'):WF S 55 [prgV x v w] h Q:=by
 refine WF_fn (fn:=c55) rfl rfl ?_
 dsimp only[c55,oO,oM,oS,oG,oK,oE,oL,oF,oX,oN]
 ((try simp (maxSteps:=3000000) (dsimp:=false) (disch:=first|omega|simp only[lnx];omega) only[↓ypre,ypost,↓reduceIte,reduceEqDiff,reduceAdd,reduceSub,reduceLeDiff,zz0,ynew,prgV,hv.1.one,hv.2.one]);try simp only[yback])
 generalize hH1:AH.new h _=H1
 obtain⟨hb1,p1,n1⟩:=new_facts hH1
 ((try simp (maxSteps:=3000000) (dsimp:=false) (disch:=first|omega|simp only[lnx];omega) only[↓ypre,ypost,↓reduceIte,reduceEqDiff,reduceAdd,reduceSub,reduceLeDiff,zz0,ynew,rdn_of hb1]);try simp only[yback])
 refine i_IsPrg (hv.pre p1) hl fun H2 p2=>?_
 have hb2:=pre_get p2 hb1
 unfold fmR at hQ
 cases h1:isPrg x with
 | false=>
  rw[h1,if_neg (by decide)] at hQ
  ((try simp (maxSteps:=3000000) (dsimp:=false) (disch:=first|omega|simp only[lnx];omega) only[↓ypre,ypost,↓reduceIte,reduceEqDiff,reduceAdd,reduceSub,reduceLeDiff,zz0,ynew]);try simp only[yback])
  exact hQ _ _ (p1.trans p2) (.inl ⟨rfl,rfl⟩)
 | true=>
  rw[h1,if_pos rfl,←trL_colL] at hQ
  have pf:=isPrg_facts h1
  have fp:=pf.p
  have fn:=pf.n
  have fout:=pf.out
  have p12:=p1.trans p2
  obtain⟨N,hN⟩:∃ N:Nat,x.n=N:=⟨x.n.toNat,by omega⟩
  have hNt:x.n.toNat=N:=by omega
  rw[hNt] at hQ
  ((try simp (maxSteps:=3000000) (dsimp:=false) (disch:=first|omega|simp only[lnx];omega) only[↓ypre,ypost,↓reduceIte,reduceEqDiff,reduceAdd,reduceSub,reduceLeDiff,zz0,ynew]);try simp only[yback])
  generalize hH3:AH.new H2 _=H3
  obtain⟨hb3,p3,n3⟩:=new_facts hH3
  ((try simp (maxSteps:=3000000) (dsimp:=false) (disch:=first|omega|simp only[lnx];omega) only[↓ypre,ypost,↓reduceIte,reduceEqDiff,reduceAdd,reduceSub,reduceLeDiff,zz0,ynew,rd1_of (pre_get p3 hb2)]);try simp only[yback])
  have lh:=pre_len p12
  refine WC_loop_inv (fun m f K1=>∃ (k:Nat) (nb:Nat) (full:Bool) (L:List (Nat×List Int)),m=N-k∧k≤N∧f 1=.pointer (some ⟨h.length,0,none⟩)∧f 4=sl nb L.length∧f 12=I64 x.n∧f 13=I64 k∧(TabS H2 K1 nb full L)∧(L.map Prod.snd=(colL x N).take k)) ?_ (N-0) _ _ ⟨0,H2.length,true,[],rfl,by omega,(by first|rfl|simp[upd_apply]),(by first|rfl|simp[upd_apply]),(by first|rfl|simp[upd_apply]),(by first|rfl|simp[upd_apply]),⟨p3,Nat.le_refl _,hb3,by simp,by simp⟩,(by simp)⟩
  rintro m f K1 ⟨k,nb,full,L,rfl,hk,f1,f4,f12,f13,st,hL⟩
  have hLl:L.length=k:=by
   have:=congrArg List.length hL
   rw[List.length_map,List.length_take,colL_len] at this
   omega
  have lt:=st.lt
  have lh2:=pre_len st.hp
  have hbK:=pre_get st.hp hb2
  have ltK:=get_lt hbK
  by_cases hlt:(k:Int)<x.n
  ·have hk':k<N:=by omega
   ((try simp (maxSteps:=3000000) (dsimp:=false) (disch:=first|omega|simp only[lnx];omega) only[↓ypre,ypost,↓reduceIte,reduceEqDiff,reduceAdd,reduceSub,reduceLeDiff,zz0,ynew,f1,f4,f12,f13,decide_eq_true hlt,rd1_of hbK]);try simp only[yback])
   refine⟨by omega,?_⟩
   rw[hNt,zrep_ints]
   generalize hH4:AH.new K1 _=H4
   obtain⟨hb4,p4,n4⟩:=new_facts hH4
   have l4:Lst H4 K1.length (List.replicate N 0) true:=hb4
   have ixk:=Lst.ix (n:=K1.length) (j:=(k:Int)) (len:=N) (by omega)
   rw[Int.toNat_natCast] at ixk
   obtain⟨H5,w5,e5,l5⟩:=l4.wr (j:=k) (x:=1) (by rw[List.length_replicate];exact hk')
   have q5:K1<+:H5:=by rw[e5];exact pre_put p4 (Nat.le_refl _)
   have hb5:=pre_get q5 hbK
   rw[show Value.slice (some ⟨K1.length,0,none⟩) N 1=sl K1.length N from rfl]
   ((try simp (maxSteps:=3000000) (dsimp:=false) (disch:=first|omega|simp only[lnx];omega) only[↓ypre,ypost,↓reduceIte,reduceEqDiff,reduceAdd,reduceSub,reduceLeDiff,zz0,ynew,f1,f4,f12,f13,ixk,w5,rdn_of hb5]);try simp only[yback])
   have un:=l5.ints
   rw[show (List.replicate N (0:Int)).set k 1=unN N k from rfl,unN_len] at un
   refine i_run (hv.pre (p12.trans (st.hp.trans q5))) pf un (unN_in fp.1) (by rw[unN_len];omega) fun n fu H6 hn p6 o6=>?_
   have q6:=q5.trans p6
   have l6:=pre_len q5
   ((try simp (maxSteps:=3000000) (dsimp:=false) (disch:=first|omega|simp only[lnx];omega) only[↓ypre,ypost,↓reduceIte,reduceEqDiff,reduceAdd,reduceSub,reduceLeDiff,zz0,ynew,f1,f4,f12,f13,sl_cells,sl_one]);try simp only[yback])
   refine (st.pre q6).app2 ⟨by omega,by omega,fun q hq=>by have:=lt.2 q hq;omega⟩ o6.own (by omega) fun nb' H' st' l' e' own' pre'=>?_
   ((try simp (maxSteps:=3000000) (dsimp:=false) (disch:=first|omega|simp only[lnx];omega) only[↓ypre,ypost,↓reduceIte,reduceEqDiff,reduceAdd,reduceSub,reduceLeDiff,zz0,ynew,f1,f4,f12,f13,wrap64_in]);try simp only[yback])
   refine InvQ_go (N-(k+1)) (by omega) ⟨(k+1),nb',false,(L++[(n,runP x (unN N k))]),rfl,by omega,(by first|rfl|exact f1|(simp only[upd_apply];rfl)|(show I64 _=_;congr 1;omega)),(by first|rfl|exact f4|(simp only[upd_apply];rfl)|(show I64 _=_;congr 1;omega)),(by first|rfl|exact f12|(simp only[upd_apply];rfl)|(show I64 _=_;congr 1;omega)),(by first|rfl|exact f13|(simp only[upd_apply];rfl)|(show I64 _=_;congr 1;omega)),st',?_⟩
   rw[List.map_append,hL,take_next (d:=[]) (by rw[colL_len];exact hk'),colL_get hk']
   rfl
  ·have ek:k=N:=by omega
   subst ek
   rw[List.take_of_length_le (by rw[colL_len];exact Nat.le_refl _)] at hL
   ((try simp (maxSteps:=3000000) (dsimp:=false) (disch:=first|omega|simp only[lnx];omega) only[↓ypre,ypost,↓reduceIte,reduceEqDiff,reduceAdd,reduceSub,reduceLeDiff,zz0,ynew,f1,f4,f12,f13,decide_eq_false hlt]);try simp only[yback])
   have o:=st.own
   rw[hL] at o
   refine i_transposed (w:=x.out.length) o.rows (by rw[colL_len];omega) (by rw[colL_len];omega) (fun i hi=>by rw[colL_len] at hi;rw[colL_get hi,runP_len]) (by omega) fun v' H' p' o'=>?_
   ((try simp (maxSteps:=3000000) (dsimp:=false) (disch:=first|omega|simp only[lnx];omega) only[↓ypre,ypost,↓reduceIte,reduceEqDiff,reduceAdd,reduceSub,reduceLeDiff,zz0,ynew]);try simp only[yback])
   exact hQ _ _ (p12.trans (st.hp.trans p')) (o'.lo (pre_len (p12.trans st.hp)))
def tabF (x:Prg) (N k i:Nat):List (List Int):=(List.range x.out.length).map fun i'=>gen N fun c=>if c<k∨(c=k∧i'<i) then fmF x N i' c else 0
theorem tabF_len {x:Prg} {N k i:Nat}:(tabF x N k i).length=x.out.length:=by simp[tabF]
theorem tabF_get {x:Prg} {N k i j:Nat} (hj:j<x.out.length):(tabF x N k i).getD j []=gen N fun c=>if c<k∨(c=k∧j<i) then fmF x N j c else 0:=by
 simp[tabF,List.getD_eq_getElem?_getD,List.getElem?_map,List.getElem?_range hj]
theorem tabF_zero {x:Prg} {N j:Nat} (hj:j<x.out.length):(tabF x N 0 0).getD j []=List.replicate N 0:=by
 rw[tabF_get hj]
 exact (gen_ext (by simp) fun i hi=>by simp[List.getD_eq_getElem?_getD,List.getElem?_replicate,hi]).symm
theorem tabF_next {x:Prg} {N k:Nat}:tabF x N k x.out.length=tabF x N (k+1) 0:=by
 unfold tabF
 refine List.map_congr_left fun j hj=>gen_congr fun c hc=>?_
 have:=List.mem_range.1 hj
 by_cases h:c<k∨(c=k∧j<x.out.length)
 ·rw[if_pos h,if_pos (by omega)]
 ·rw[if_neg h,if_neg (by omega)]
theorem tabF_all {x:Prg}:tabF x x.n.toNat x.n.toNat 0=fmL x:=by
 unfold tabF fmL
 refine List.map_congr_left fun j hj=>gen_congr fun c hc=>?_
 rw[if_pos (.inl hc)]
theorem tabF_set {x:Prg} {N k i:Nat} (hi:i<x.out.length) (hk:k<N):(tabF x N k i).set i (((tabF x N k i).getD i []).set k (fmF x N i k))=tabF x N k (i+1):=by
 refine getD_ext (by rw[List.length_set,tabF_len,tabF_len]) fun j hj=>?_
 rw[List.length_set,tabF_len] at hj
 rw[set_getD' (by rw[tabF_len];exact hi)]
 by_cases h:j=i
 ·subst h
  rw[if_pos rfl,tabF_get hi,tabF_get hi]
  refine gen_ext (by rw[List.length_set,gen_len]) fun c hc=>?_
  rw[set_getD (by rw[gen_len];exact hk)]
  by_cases hck:c=k
  ·subst hck
   rw[if_pos rfl,if_pos (by omega)]
  ·rw[if_neg hck,gen_get hc]
   by_cases h2:c<k
   ·rw[if_pos (.inl h2),if_pos (.inl h2)]
   ·rw[if_neg (by omega),if_neg (by omega)]
 ·rw[if_neg h,tabF_get hj,tabF_get hj]
  refine gen_congr fun c hc=>?_
  by_cases h2:c<k∨(c=k∧j<i)
  ·rw[if_pos h2,if_pos (by omega)]
  ·rw[if_neg h2,if_neg (by omega)]
theorem map_snd_get {L:List (Nat×List Int)} {T:List (List Int)} {i:Nat} (hL:L.map Prod.snd=T) (hi:i<L.length):(L[i]).2=T.getD i []:=by
 rw[←hL,List.getD_eq_getElem?_getD,List.getElem?_map,List.getElem?_eq_getElem hi]
 rfl
theorem s_Forms {v w:Value} {x:Prg} {h:AH} {Q:Value→AH→Prop} (hv:PrgR h v w x) (pf:PrgF x)
  (hQ:∀ v' h',h<+:h'→OwnRows h h' v' (fmL x)→Q v' h'):WF S 211 [prgV x v w] h Q:=by
 refine WF_fn (fn:=c211) rfl rfl ?_
 dsimp only[c211,oO,oM,oS,oG,oK,oE,oL,oF,oX,oN]
 have fp:=pf.p
 have fn:=pf.n
 have fout:=pf.out
 obtain⟨N,hN⟩:∃ N:Nat,x.n=N:=⟨x.n.toNat,by omega⟩
 have hNt:x.n.toNat=N:=by omega
 have ta:=tabF_all (x:=x)
 rw[hNt] at ta
 rw[←ta] at hQ
 ((try simp (maxSteps:=3000000) (dsimp:=false) (disch:=first|omega|simp only[lnx];omega) only[↓ypre,ypost,↓reduceIte,reduceEqDiff,reduceAdd,reduceSub,reduceLeDiff,zz0,ynew,prgV,hv.1.one,hv.2.one]);try simp only[yback])
 generalize hH1:AH.new h _=H1
 obtain⟨hb1,p1,n1⟩:=new_facts hH1
 generalize hH2:AH.new H1 _=H2
 obtain⟨hb2,p2,n2⟩:=new_facts hH2
 refine WC_loop_inv (fun m f K1=>∃ (i:Nat) (nb:Nat) (full:Bool) (L:List (Nat×List Int)),m=x.out.length-i∧i≤x.out.length∧f 1=.pointer (some ⟨h.length,0,none⟩)∧f 3=sl nb L.length∧f 4=I64 i∧(TabS H1 K1 nb full L)∧(L.map Prod.snd=(tabF x N 0 0).take i)) ?_ (x.out.length-0) _ _ ⟨0,H1.length,true,[],rfl,by omega,(by first|rfl|simp[upd_apply]),(by first|rfl|simp[upd_apply]),(by first|rfl|simp[upd_apply]),⟨p2,Nat.le_refl _,hb2,by simp,by simp⟩,(by simp)⟩
 rintro m f K1 ⟨i,nb,full,L,rfl,hi,f1,f3,f4,st,hL⟩
 have hLl:L.length=i:=by
  have:=congrArg List.length hL
  rw[List.length_map,List.length_take,tabF_len] at this
  omega
 have lt:=st.lt
 have lh:=pre_len st.hp
 have hbK:=pre_get st.hp hb1
 have ltK:=get_lt hbK
 by_cases hlt:(i:Int)<x.out.length
 ·have hi':i<x.out.length:=by omega
  ((try simp (maxSteps:=3000000) (dsimp:=false) (disch:=first|omega|simp only[lnx];omega) only[↓ypre,ypost,↓reduceIte,reduceEqDiff,reduceAdd,reduceSub,reduceLeDiff,zz0,ynew,f1,f3,f4,rd1_of hbK,hv.2.len,decide_eq_true hlt]);try simp only[yback])
  refine⟨by omega,?_⟩
  rw[hNt,zrep_ints]
  generalize hH4:AH.new K1 _=H4
  obtain⟨hb4,p4,n4⟩:=new_facts hH4
  have l4:Lst H4 K1.length (List.replicate N 0) true:=hb4
  rw[show Value.slice (some ⟨K1.length,0,none⟩) N 1=sl K1.length (List.replicate N (0:Int)).length by rw[List.length_replicate];rfl]
  ((try simp (maxSteps:=3000000) (dsimp:=false) (disch:=first|omega|simp only[lnx];omega) only[↓ypre,ypost,↓reduceIte,reduceEqDiff,reduceAdd,reduceSub,reduceLeDiff,zz0,ynew,f1,f3,f4,sl_cells,sl_one]);try simp only[yback])
  refine (st.pre p4).app2 ⟨by omega,by omega,fun q hq=>by have:=lt.2 q hq;omega⟩ l4.own (by omega) fun nb' H' st' l' e' own' pre'=>?_
  ((try simp (maxSteps:=3000000) (dsimp:=false) (disch:=first|omega|simp only[lnx];omega) only[↓ypre,ypost,↓reduceIte,reduceEqDiff,reduceAdd,reduceSub,reduceLeDiff,zz0,ynew,f1,f3,f4,wrap64_in]);try simp only[yback])
  refine InvQ_go (x.out.length-(i+1)) (by omega) ⟨(i+1),nb',false,(L++[(K1.length,List.replicate N 0)]),rfl,by omega,(by first|rfl|exact f1|(simp only[upd_apply];rfl)|(show I64 _=_;congr 1;omega)),(by first|rfl|exact f3|(simp only[upd_apply];rfl)|(show I64 _=_;congr 1;omega)),(by first|rfl|exact f4|(simp only[upd_apply];rfl)|(show I64 _=_;congr 1;omega)),st',?_⟩
  rw[List.map_append,hL,take_next (d:=[]) (by rw[tabF_len];exact hi'),tabF_zero hi']
  rfl
 have ei:i=x.out.length:=by omega
 subst ei
 rw[List.take_of_length_le (by rw[tabF_len];exact Nat.le_refl _)] at hL
 ((try simp (maxSteps:=3000000) (dsimp:=false) (disch:=first|omega|simp only[lnx];omega) only[↓ypre,ypost,↓reduceIte,reduceEqDiff,reduceAdd,reduceSub,reduceLeDiff,zz0,ynew,f1,f3,f4,rd1_of hbK,hv.2.len,decide_eq_false hlt]);try simp only[yback])
 refine WC_loop_inv (fun m f K2=>∃ (k:Nat) (L:List (Nat×List Int)),m=N-k∧k≤N∧f 1=.pointer (some ⟨h.length,0,none⟩)∧f 3=sl nb L.length∧f 5=I64 k∧(TabS H1 K2 nb full L)∧(L.map Prod.snd=tabF x N k 0)) ?_ (N-0) _ _ ⟨0,L,rfl,by omega,(by first|rfl|exact f1|(simp[upd_apply];done)),(by first|rfl|exact f3|(simp[upd_apply];done)),(by first|rfl|simp[upd_apply]),st,hL⟩
 rintro m f K2 ⟨k,L,rfl,hk,f1,f3,f5,st,hL⟩
 have hLl:L.length=x.out.length:=by
  have:=congrArg List.length hL
  rw[List.length_map,tabF_len] at this
  omega
 have lt:=st.lt
 have lh:=pre_len st.hp
 have hbK:=pre_get st.hp hb1
 have ltK:=get_lt hbK
 by_cases hltk:(k:Int)<x.n
 ·have hk':k<N:=by omega
  ((try simp (maxSteps:=3000000) (dsimp:=false) (disch:=first|omega|simp only[lnx];omega) only[↓ypre,ypost,↓reduceIte,reduceEqDiff,reduceAdd,reduceSub,reduceLeDiff,zz0,ynew,f1,f3,f5,rd1_of hbK,decide_eq_true hltk]);try simp only[yback])
  refine⟨by omega,?_⟩
  rw[hNt,zrep_ints]
  generalize hH4:AH.new K2 _=H4
  obtain⟨hb4,p4,n4⟩:=new_facts hH4
  have l4:Lst H4 K2.length (List.replicate N 0) true:=hb4
  have ixk:=Lst.ix (n:=K2.length) (j:=(k:Int)) (len:=N) (by omega)
  rw[Int.toNat_natCast] at ixk
  obtain⟨H5,w5,e5,l5⟩:=l4.wr (j:=k) (x:=1) (by rw[List.length_replicate];exact hk')
  have q5:K2<+:H5:=by rw[e5];exact pre_put p4 (Nat.le_refl _)
  have hb5:=pre_get q5 hbK
  rw[show Value.slice (some ⟨K2.length,0,none⟩) N 1=sl K2.length N from rfl]
  ((try simp (maxSteps:=3000000) (dsimp:=false) (disch:=first|omega|simp only[lnx];omega) only[↓ypre,ypost,↓reduceIte,reduceEqDiff,reduceAdd,reduceSub,reduceLeDiff,zz0,ynew,f1,f3,f5,ixk,w5,rdn_of hb5]);try simp only[yback])
  have un:=l5.ints
  rw[show (List.replicate N (0:Int)).set k 1=unN N k from rfl,unN_len] at un
  refine s_run (hv.pre (p1.trans (st.hp.trans q5))) pf un (unN_in fp.1) (by rw[unN_len];omega) fun n fu H6 hn p6 o6=>?_
  have q6:=q5.trans p6
  have l6:=pre_len q5
  have l66:=pre_len q6
  ((try simp (maxSteps:=3000000) (dsimp:=false) (disch:=first|omega|simp only[lnx];omega) only[↓ypre,ypost,↓reduceIte,reduceEqDiff,reduceAdd,reduceSub,reduceLeDiff,zz0,ynew,f1,f3,f5]);try simp only[yback])
  refine WC_loop_inv (fun m f K3=>∃ (i:Nat) (L:List (Nat×List Int)),m=x.out.length-i∧i≤x.out.length∧f 1=.pointer (some ⟨h.length,0,none⟩)∧f 3=sl nb L.length∧f 5=I64 k∧f 7=sl n (runP x (unN N k)).length∧f 8=I64 i∧(TabS H1 K3 nb full L)∧(L.map Prod.snd=tabF x N k i)∧(Lst K3 n (runP x (unN N k)) fu)∧(∀ q,q∈L→q.1<K2.length)) ?_ (x.out.length-0) _ _ ⟨0,L,rfl,by omega,(by first|rfl|exact f1|(simp[upd_apply];done)),(by first|rfl|exact f3|(simp[upd_apply];done)),(by first|rfl|exact f5|(simp[upd_apply];done)),(by first|rfl|simp[upd_apply]),(by first|rfl|simp[upd_apply]),st.pre q6,hL,o6,fun q hq=>lt.2 q hq⟩
  rintro m f K3 ⟨i,L,rfl,hi,f1,f3,f5,f7,f8,st,hL,ov,lq⟩
  have hLl:L.length=x.out.length:=by
   have:=congrArg List.length hL
   rw[List.length_map,tabF_len] at this
   omega
  have lenV7:lenV (sl n (runP x (unN N k)).length)=some (I64 x.out.length):=by rw[runP_len];rfl
  by_cases hlti:(i:Int)<x.out.length
  ·have hi':i<x.out.length:=by omega
   have hiL:i<L.length:=by omega
   have e2:=map_snd_get hL hiL
   have ix1:=Lst.ix (n:=nb) (j:=(i:Int)) (len:=L.length) (by omega)
   have ix2:=Lst.ix (n:=n) (j:=(i:Int)) (len:=(runP x (unN N k)).length) (by rw[runP_len];omega)
   rw[Int.toNat_natCast] at ix1 ix2
   have rv:=ov.rd (j:=i) (by rw[runP_len];exact hi')
   have rl:=st.get hiL
   obtain⟨m,r,hLi⟩:∃ m r,L[i]=(m,r):=⟨_,_,rfl⟩
   have mlt:=lq _ (List.getElem_mem hiL)
   rw[hLi] at e2 rl mlt
   have e2':r=(tabF x N k i).getD i []:=e2
   have rlen:r.length=N:=by rw[e2',tabF_get hi',gen_len]
   obtain⟨e,fr,hg,st'⟩:=st.cell (x:=(runP x (unN N k)).getD i 0) hiL hLi (show k<r.length by omega)
   have ix3:=Lst.ix (n:=m) (j:=(k:Int)) (len:=r.length) (by omega)
   rw[Int.toNat_natCast] at ix3
   have sp:=map_set (l:=r) (j:=k) (x:=(runP x (unN N k)).getD i 0) (by omega)
   have rml:(r.map (Value.int .i64)).length=N:=by rw[List.length_map,rlen]
   ((try simp (maxSteps:=3000000) (dsimp:=false) (disch:=first|omega|simp only[lnx];omega) only[↓ypre,ypost,↓reduceIte,reduceEqDiff,reduceAdd,reduceSub,reduceLeDiff,zz0,ynew,f1,f3,f5,f7,f8,lenV7,decide_eq_true hlti,ix1,rl,ix2,rv,ix3,wr_of hg,sp,rml,wrap64_in]);try simp only[yback])
   refine⟨by omega,?_⟩
   refine InvQ_go (x.out.length-(i+1)) (by omega) ⟨(i+1),(L.set i (m,r.set k ((runP x (unN N k)).getD i 0))),rfl,by omega,(by first|rfl|exact f1|(simp only[upd_apply];rfl)|(show I64 _=_;congr 1;omega)),(by rw[List.length_set];exact f3),(by first|rfl|exact f5|(simp only[upd_apply];rfl)|(show I64 _=_;congr 1;omega)),(by first|rfl|exact f7|(simp only[upd_apply];rfl)|(show I64 _=_;congr 1;omega)),(by first|rfl|exact f8|(simp only[upd_apply];rfl)|(show I64 _=_;congr 1;omega)),st',?_,(ov.put_ne (by show m≠n;have:=mlt;simp only at this;omega)),?_⟩
   ·rw[List.map_set,hL]
    show (tabF x N k i).set i (r.set k _)=_
    rw[e2',←tabF_set hi' hk']
    rfl
   ·intro q hq
    rcases List.mem_or_eq_of_mem_set hq with hq|rfl
    ·exact lq q hq
    ·exact mlt
  ·have ei:i=x.out.length:=by omega
   subst ei
   rw[tabF_next] at hL
   ((try simp (maxSteps:=3000000) (dsimp:=false) (disch:=first|omega|simp only[lnx];omega) only[↓ypre,ypost,↓reduceIte,reduceEqDiff,reduceAdd,reduceSub,reduceLeDiff,zz0,ynew,f1,f3,f5,f7,f8,lenV7,decide_eq_false hlti,wrap64_in]);try simp only[yback])
   refine InvQ_go (N-(k+1)) (by omega) ⟨(k+1),L,rfl,by omega,(by first|rfl|exact f1|(simp only[upd_apply];rfl)|(show I64 _=_;congr 1;omega)),(by first|rfl|exact f3|(simp only[upd_apply];rfl)|(show I64 _=_;congr 1;omega)),(by first|rfl|exact f5|(simp only[upd_apply];rfl)|(show I64 _=_;congr 1;omega)),st,hL⟩
 have ek:k=N:=by omega
 subst ek
 ((try simp (maxSteps:=3000000) (dsimp:=false) (disch:=first|omega|simp only[lnx];omega) only[↓ypre,ypost,↓reduceIte,reduceEqDiff,reduceAdd,reduceSub,reduceLeDiff,zz0,ynew,f1,f3,f5,rd1_of hbK,decide_eq_false hltk]);try simp only[yback])
 have o:=st.own
 rw[hL] at o
 exact hQ _ _ (p1.trans st.hp) (o.lo (by omega))
theorem s_FormsOf {v w:Value} {x:Prg} {h:AH} {Q:Value→AH→Prop} (hv:PrgR h v w x) (hl:SmallP x)
  (hQ:∀ v' h',h<+:h'→OwnRows h h' v' (fmR x).1→Q (.tuple #[v',I64 (fmR x).2]) h'):WF S 63 [prgV x v w] h Q:=by
 refine WF_fn (fn:=c63) rfl rfl ?_
 dsimp only[c63,oO,oM,oS,oG,oK,oE,oL,oF,oX,oN]
 ((try simp (maxSteps:=3000000) (dsimp:=false) (disch:=first|omega|simp only[lnx];omega) only[↓ypre,ypost,↓reduceIte,reduceEqDiff,reduceAdd,reduceSub,reduceLeDiff,zz0,ynew,prgV,hv.1.one,hv.2.one]);try simp only[yback])
 generalize hH1:AH.new h _=H1
 obtain⟨hb1,p1,n1⟩:=new_facts hH1
 ((try simp (maxSteps:=3000000) (dsimp:=false) (disch:=first|omega|simp only[lnx];omega) only[↓ypre,ypost,↓reduceIte,reduceEqDiff,reduceAdd,reduceSub,reduceLeDiff,zz0,ynew,rdn_of hb1]);try simp only[yback])
 refine s_IsPrg (hv.pre p1) hl fun H2 p2=>?_
 have hb2:=pre_get p2 hb1
 unfold fmR at hQ
 cases h1:isPrg x with
 | false=>
  rw[h1,if_neg (by decide)] at hQ
  ((try simp (maxSteps:=3000000) (dsimp:=false) (disch:=first|omega|simp only[lnx];omega) only[↓ypre,ypost,↓reduceIte,reduceEqDiff,reduceAdd,reduceSub,reduceLeDiff,zz0,ynew]);try simp only[yback])
  exact hQ _ _ (p1.trans p2) (.inl ⟨rfl,rfl⟩)
 | true=>
  rw[h1,if_pos rfl] at hQ
  ((try simp (maxSteps:=3000000) (dsimp:=false) (disch:=first|omega|simp only[lnx];omega) only[↓ypre,ypost,↓reduceIte,reduceEqDiff,reduceAdd,reduceSub,reduceLeDiff,zz0,ynew,rdn_of hb2]);try simp only[yback])
  refine s_Forms (hv.pre (p1.trans p2)) (isPrg_facts h1) fun v' H3 p3 o=>?_
  ((try simp (maxSteps:=3000000) (dsimp:=false) (disch:=first|omega|simp only[lnx];omega) only[↓ypre,ypost,↓reduceIte,reduceEqDiff,reduceAdd,reduceSub,reduceLeDiff,zz0,ynew]);try simp only[yback])
  exact hQ _ _ ((p1.trans p2).trans p3) (o.lo (pre_len (p1.trans p2)))
end Go.Proofs.Ytapafdpnmakekaa.X

set_option linter.unusedVariables false
set_option linter.unusedSimpArgs false
set_option maxRecDepth 20000
set_option maxHeartbeats 4000000
namespace Go.Proofs.Ytapafdpnmakekaa.X
open Go Go.RowKit
def prgC (x:Prg) (v w:Value):List Value:=[I64 x.p,I64 x.n,v,w]
structure Pr3 (h:AH) (nb:Nat) (x:Sch) (b:Bool) (v1 w1 v2 w2 v3 w3:Value):Prop where
 g:∃ fl,h.get nb=some ⟨prgC (pgX x b 0) v1 w1++prgC (pgX x b 1) v2 w2++prgC (pgX x b 2) v3 w3,70,false,fl⟩
 r1:PrgR h v1 w1 (pgX x b 0)
 r2:PrgR h v2 w2 (pgX x b 1)
 r3:PrgR h v3 w3 (pgX x b 2)
section
variable {h h':AH} {nb:Nat} {x:Sch} {b:Bool} {v1 w1 v2 w2 v3 w3:Value}
theorem Pr3.pre (o:Pr3 h nb x b v1 w1 v2 w2 v3 w3) (p:h<+:h'):Pr3 h' nb x b v1 w1 v2 w2 v3 w3:=
 ⟨by obtain⟨fl,g⟩:=o.g;exact⟨fl,pre_get p g⟩,o.r1.pre p,o.r2.pre p,o.r3.pre p⟩
theorem Pr3.at (o:Pr3 h nb x b v1 w1 v2 w2 v3 w3) {i:Nat} (hi:i<3):∃ y z,h.rd1 nb (i*4+2)=some y∧h.rdn nb (i*4) 4=some (prgC (pgX x b i) y z)∧PrgR h y z (pgX x b i):=by
 obtain⟨fl,g⟩:=o.g
 have hc:i=0∨i=1∨i=2:=by omega
 rcases hc with rfl|rfl|rfl
 ·exact⟨v1,w1,by rw[rd1_of g];rfl,by rw[rdn_of g];rfl,o.r1⟩
 ·exact⟨v2,w2,by rw[rd1_of g];rfl,by rw[rdn_of g];rfl,o.r2⟩
 ·exact⟨v3,w3,by rw[rd1_of g];rfl,by rw[rdn_of g];rfl,o.r3⟩
end
theorem InE.move {k:IntKind} {w a b:Nat} {h h':AH} {v:Value} {L:List (List Int)} (o:InE k w a b h v L) (hk:∀ m bl,a≤m→m<b→h.get m=some bl→h'.get m=some bl):InE k w a b h' v L:=by
 rcases o with o|⟨m,e,full,h1,rfl,h2,h3⟩
 ·exact .inl o
 ·exact .inr ⟨m,e,full,h1,rfl,hk _ _ h1.1 h1.2 h2,h3⟩
theorem InP.move {a b:Nat} {h h':AH} {v w:Value} {x:Prg} (o:InP a b h v w x) (hk:∀ m bl,a≤m→m<b→h.get m=some bl→h'.get m=some bl):InP a b h' v w x:=by
 obtain⟨c,h1,h2,h3,h4⟩:=o
 exact⟨c,h1,h2,h3.move fun m bl q1 q2 g=>hk m bl q1 (by omega) g,h4.move fun m bl q1 q2 g=>hk m bl (by omega) q2 g⟩
end Go.Proofs.Ytapafdpnmakekaa.X
