/- Texts of one claim, put together by merge.py: XDO, XDE, XR3, XF36, XM1, XR4, XDH, XP5, XU6, XU7, XV2, XV3, XV4, XV5, XW2, XW3, XW4, XM4, XDP, XArgs, XA2. -/
import Derived.Test.YtapafdpnmakekaaPR13
import Derived.Test.YtapafdpnmakekaaPR12
import Derived.Test.YtapafdpnmakekaaPR8
import Derived.Test.YtapafdpnmakekaaPR9
import Derived.Test.YtapafdpnmakekaaPR10
import Derived.Test.YtapafdpnmakekaaPR11
import Derived.Test.YtapafdpnmakekaaPR3
import Derived.Deep.Slices
import Derived.WideKeyArgs
import Derived.ChangeOld
import Derived.ChangeArms
import Derived.OpenShut
set_option linter.unusedVariables false
set_option linter.unusedSimpArgs false
set_option maxRecDepth 20000
set_option maxHeartbeats 4000000
namespace Go.Proofs.Ytapafdpnmakekaa.X
open Go Go.RowKit
open Nat (reduceEqDiff reduceAdd reduceSub reduceLeDiff)
theorem PrgB.small {x:Prg} (b:PrgB x):SmallP x:=⟨by have:=b.st;show (x.st.length:Int)≤1048576;omega,by have:=b.out;show (x.out.length:Int)≤1048576;omega⟩
theorem ProgD.one {lo:Nat} {h:AH} {v w:Value} {x:Prg} (o:ProgD lo h v w x):isOne v=true∧isOne w=true:=⟨o.now.1.one,o.now.2.one⟩
theorem mm_n {n:Int} {M:Nat}:∃ N:Nat,min (max n 0) (M:Int)=N∧N≤M:=⟨(min (max n 0) (M:Int)).toNat,by omega,by omega⟩
theorem s_DrawRunProgram {h:AH} {cv:Value} {code:List (List Int)} {Q:Value→AH→Prop} (c:Cod h cv code)
  (hQ:∀ (x:Prg) (v w:Value) (ns:List Int) (u:Value) (h':AH),h<+:h'→PrgR h' v w x→PrgB x→Ints h' u ns→(ns.length:Int)≤1048576→Q (.tuple #[prgV x v w,u]) h'):WF S 135 [cv] h Q:=by
 refine WF_fn (fn:=c135) rfl rfl ?_
 dsimp only[c135,oO,oM,oS,oG,oK,oE,oL,oF,oX,oN]
 ((try simp (maxSteps:=3000000) (dsimp:=false) (disch:=first|omega|simp only[lnx];omega) only[↓ypre,ypost,↓reduceIte,reduceEqDiff,reduceAdd,reduceSub,reduceLeDiff,zz0,ynew]);try simp only[yback])
 generalize hH1:AH.new h _=H1
 obtain⟨hb1,p1,n1⟩:=new_facts hH1
 refine s_l01From (c.els.pre p1) c.byt c.len fun H2 p2 l2 s2=>?_
 have n2:=s2.lt
 ((try simp (maxSteps:=3000000) (dsimp:=false) (disch:=first|omega|simp only[lnx];omega) only[↓ypre,ypost,↓reduceIte,reduceEqDiff,reduceAdd,reduceSub,reduceLeDiff,zz0,ynew]);try simp only[yback])
 refine s_l07Program s2 fun x v w H3 k3 s3 pd pb=>?_
 have k3l:=k3.len
 have o1:=pd.one.1
 have o2:=pd.one.2
 have g1:=k3.get (by omega) (pre_get p2 hb1)
 refine WO_cut (fun f:Fr=>f 2=.pointer (some ⟨h.length,0,none⟩)∧f 4=srcP H1.length∧f 10=prgV x v w∧True) ⟨(by first|rfl|simp[upd_apply]),(by first|rfl|simp[upd_apply]),(by first|rfl|simp[upd_apply]),trivial⟩ ?_
 rintro f ⟨f2,f4,f10,-⟩
 ((try simp (maxSteps:=3000000) (dsimp:=false) (disch:=first|omega|simp only[lnx];omega) only[↓ypre,ypost,↓reduceIte,reduceEqDiff,reduceAdd,reduceSub,reduceLeDiff,zz0,ynew,f2,f4,f10,prgV,o1,o2]);try simp only[yback])
 generalize hH4:AH.new H3 _=H4
 obtain⟨hb4,p4,n4⟩:=new_facts hH4
 have g1:=pre_get p4 g1
 have pd:ProgD H2.length H4 v w x:=KN.pre pd p4
 have s4:=s3.kp p4
 obtain⟨N,eN,lN⟩:=mm_n (n:=x.n) (M:=31)
 rw[show ((31:Nat):Int)=31 from rfl] at eN
 ((try simp (maxSteps:=3000000) (dsimp:=false) (disch:=first|omega|simp only[lnx];omega) only[↓ypre,ypost,↓reduceIte,reduceEqDiff,reduceAdd,reduceSub,reduceLeDiff,zz0,ynew,f2,f4,f10,rd1_of hb4,WX_mm,mmT,mmF,eN]);try simp only[yback])
 have pd4:=pd
 refine s_l05List s4 (by omega) fun kb l fu H5 k5 s5 hkb q5 hl _=>?_
 have g1:=k5.get (by omega) g1
 have g4:=k5.get (by omega) hb4
 have pd:ProgD H2.length H5 v w x:=KN.kp pd k5 (by omega)
 have k5l:=k5.len
 refine WO_cut (fun f:Fr=>f 2=.pointer (some ⟨h.length,0,none⟩)∧f 4=srcP H1.length∧f 5=.pointer (some ⟨H3.length,0,none⟩)∧f 20=sl kb l.length∧True) ⟨(by first|rfl|exact f2|simp[upd_apply,f2]),(by first|rfl|exact f4|simp[upd_apply,f4]),(by first|rfl|simp[upd_apply]),(by first|rfl|simp[upd_apply]),trivial⟩ ?_
 rintro f ⟨f2,f4,f5,f20,-⟩
 ((try simp (maxSteps:=3000000) (dsimp:=false) (disch:=first|omega|simp only[lnx];omega) only[↓ypre,ypost,↓reduceIte,reduceEqDiff,reduceAdd,reduceSub,reduceLeDiff,zz0,ynew,f2,f4,f5,f20]);try simp only[yback])
 refine s_l01Next s5 fun r H6 k6 l6 s6 _ _=>?_
 have g1:=k6.get (by omega) g1
 have g4:=k6.get (by omega) g4
 have pd:ProgD H2.length H6 v w x:=KN.kp pd k6 (by omega)
 have q6:Lst H6 kb l fu:=k6.get (by omega) q5
 have k6l:=k6.len
 refine WO_cut (fun f:Fr=>f 2=.pointer (some ⟨h.length,0,none⟩)∧f 5=.pointer (some ⟨H3.length,0,none⟩)∧f 6=sl kb l.length∧f 22=I64 r∧True) ⟨(by first|rfl|exact f2|simp[upd_apply,f2]),(by first|rfl|exact f5|simp[upd_apply,f5]),(by first|rfl|simp[upd_apply]),(by first|rfl|simp[upd_apply]),trivial⟩ ?_
 rintro f ⟨f2,f5,f6,f22,-⟩
 have fin:∀ (L:List Int) (u:Value) (H' HZ:AH),H'.put h.length ⟨[I64 x.p,I64 x.n,v,w],70,false,true⟩=HZ→h<+:H'→ProgD H2.length H' v w x→(KN H2.length H' fun h'=>Ints h' u L)→L.length≤32→Q (.tuple #[prgV x v w,u]) HZ:=by
  intro L u H' HZ hZ p' pd' iu hL
  subst hZ
  exact hQ x v w L u _ (pre_put p' (Nat.le_refl _)) (KN.put pd' (by omega)).now pb (KN.put iu (by omega)).now (by omega)
 by_cases hr:¬ r=0
 ·((try simp (maxSteps:=3000000) (dsimp:=false) (disch:=first|omega|simp only[lnx];omega) only[↓ypre,ypost,↓reduceIte,reduceEqDiff,reduceAdd,reduceSub,reduceLeDiff,zz0,ynew,f2,f5,f6,f22,decide_eq_false hr,rdn_of g4,o1,o2,wr_of g1,splice_eq,rdn_put_same]);try simp only[yback])
  generalize hHZ:AH.put _ _ _=HZ
  exact fin l (sl kb l.length) H6 HZ hHZ (p1.trans s6.p) pd (nums_kN q6 (by omega)) (by omega)
 have hr:=Decidable.not_not.1 hr
 ((try simp (maxSteps:=3000000) (dsimp:=false) (disch:=first|omega|simp only[lnx];omega) only[↓ypre,ypost,↓reduceIte,reduceEqDiff,reduceAdd,reduceSub,reduceLeDiff,zz0,ynew,f2,f5,f6,f22,decide_eq_true hr,fillL,zrep]);try simp only[yback])
 refine lst_app q6 (by omega) fun H7 l7 k7 q7=>?_
 have g1:=k7.get (by omega) g1
 have g4:=k7.get (by omega) g4
 have k7l:=k7.len
 have l34:=p4.length_le
 have pd7:ProgD H2.length H7 v w x:=fun h' l' g=>pd4 h' (by omega) fun m h1 h3=>(g m h1 (by omega)).trans ((k7.2 m (by omega) (by omega)).trans ((k6.2 m (by omega) (by omega)).trans (k5.2 m (by omega) (by omega))))
 have s7:=s6.over k7 (by omega) (by omega)
 ((try simp (maxSteps:=3000000) (dsimp:=false) (disch:=first|omega|simp only[lnx];omega) only[↓ypre,ypost,↓reduceIte,reduceEqDiff,reduceAdd,reduceSub,reduceLeDiff,zz0,ynew,f2,f5,f6,f22,rdn_of g4,o1,o2,wr_of g1,splice_eq,rdn_put_same]);try simp only[yback])
 generalize hHZ:AH.put _ _ _=HZ
 exact fin (l++[0]) _ H7 HZ hHZ (p1.trans s7.p) pd7 (nums_kN q7 (by omega)) (by rw[List.length_append];simp;omega)
theorem eqa_self {k:IntKind} {n:Nat} {q:List Int} (hq:q.length=n) (h0:0<n):eqaV true n (.agg (cel k q).toArray) (.agg (cel k q).toArray)=some (.bool false):=by
 have e1:=intsOf_cel (k:=k) (q:=q) (by intro e;rw[e] at hq;simp at hq;omega)
 simp only[eqaV,e1]
 rw[if_pos ⟨trivial,hq,hq⟩]
 simp
theorem l_programs5 {v w v' w':Value} {x:Prg} {h:AH} {Q:Value→AH→Prop} (hv:PrgR h v w x) (hv':PrgR h v' w' x) (hl:SmallP x)
  (hQ:∀ h',h<+:h'→Q (.bool true) h'):WF S 54 [prgV x v w,prgV x v' w'] h Q:=by
 refine WF_fn (fn:=c54) rfl rfl ?_
 dsimp only[c54,oO,oM,oS,oG,oK,oE,oL,oF,oX,oN]
 obtain⟨l1,l2⟩:=hl
 unfold SmallE at l1 l2
 ((try simp (maxSteps:=3000000) (dsimp:=false) (disch:=first|omega|simp only[lnx];omega) only[↓ypre,ypost,↓reduceIte,reduceEqDiff,reduceAdd,reduceSub,reduceLeDiff,zz0,ynew,prgV,hv.1.one,hv.2.one,hv'.1.one,hv'.2.one]);try simp only[yback])
 generalize hH1:AH.new h _=H1
 obtain⟨hb1,p1,n1⟩:=new_facts hH1
 generalize hH2:AH.new H1 _=H2
 obtain⟨hb2,p2,n2⟩:=new_facts hH2
 have hb1:=pre_get p2 hb1
 have e1:=hv.pre (p1.trans p2)
 have e2:=hv'.pre (p1.trans p2)
 rw[n1] at hb2
 ((try simp (maxSteps:=3000000) (dsimp:=false) (disch:=first|omega|simp only[lnx];omega) only[↓ypre,ypost,↓reduceIte,reduceEqDiff,reduceAdd,reduceSub,reduceLeDiff,zz0,ynew,n1,rd1_of hb1,rd1_of hb2,e1.1.len,e1.2.len,e2.1.len,e2.2.len,decide_eq_false (show ¬ x.p≠x.p from fun h=>h rfl),decide_eq_false (show ¬ x.n≠x.n from fun h=>h rfl),decide_eq_false (show ¬ (x.st.length:Int)≠x.st.length from fun h=>h rfl),decide_eq_false (show ¬ (x.out.length:Int)≠x.out.length from fun h=>h rfl)]);try simp only[yback])
 refine WC_loop_inv (fun m f K1=>∃ (i:Nat),m=x.st.length-i∧i≤x.st.length∧f 2=.pointer (some ⟨h.length,0,none⟩)∧f 3=.pointer (some ⟨h.length+1,0,none⟩)∧f 5=I64 i∧(K1=H2)) ?_ (x.st.length-0) _ _ ⟨0,rfl,by omega,(by first|rfl|simp[upd_apply]),(by first|rfl|simp[upd_apply]),(by first|rfl|simp[upd_apply]),rfl⟩
 rintro m f K1 ⟨i,rfl,hi,f2,f3,f5,hK⟩
 subst hK
 by_cases hlt:(i:Int)<x.st.length
 ·obtain⟨m1,f1,ix1,rn1⟩:=e1.1.rdw (i:=i) (by omega)
  obtain⟨m2,f2',ix2,rn2⟩:=e2.1.rdw (i:=i) (by omega)
  have wl:=e1.1.wid (i:=i) (by omega)
  have eq:=eqa_self (k:=.i64) (n:=3) wl (by omega)
  ((try simp (maxSteps:=3000000) (dsimp:=false) (disch:=first|omega|simp only[lnx];omega) only[↓ypre,ypost,↓reduceIte,reduceEqDiff,reduceAdd,reduceSub,reduceLeDiff,zz0,ynew,f2,f3,f5,rd1_of hb1,rd1_of hb2,e1.1.len,decide_eq_true hlt,ix1,ix2,rn1,rn2,eq,wrap64_in]);try simp only[yback])
  refine InvQ_go (x.st.length-(i+1)) (by omega) ⟨(i+1),rfl,by omega,(by first|rfl|exact f2|(simp only[upd_apply];rfl)|(show I64 _=_;congr 1;omega)),(by first|rfl|exact f3|(simp only[upd_apply];rfl)|(show I64 _=_;congr 1;omega)),(by first|rfl|exact f5|(simp only[upd_apply];rfl)|(show I64 _=_;congr 1;omega)),rfl⟩
 ((try simp (maxSteps:=3000000) (dsimp:=false) (disch:=first|omega|simp only[lnx];omega) only[↓ypre,ypost,↓reduceIte,reduceEqDiff,reduceAdd,reduceSub,reduceLeDiff,zz0,ynew,f2,f3,f5,rd1_of hb1,rd1_of hb2,e1.1.len,decide_eq_false hlt]);try simp only[yback])
 refine WC_loop_inv (fun m f K2=>∃ (i:Nat),m=x.out.length-i∧i≤x.out.length∧f 2=.pointer (some ⟨h.length,0,none⟩)∧f 3=.pointer (some ⟨h.length+1,0,none⟩)∧f 6=I64 i∧(K2=K1)) ?_ (x.out.length-0) _ _ ⟨0,rfl,by omega,(by first|rfl|exact f2|(simp[upd_apply];done)),(by first|rfl|exact f3|(simp[upd_apply];done)),(by first|rfl|simp[upd_apply]),rfl⟩
 rintro m f K2 ⟨i,rfl,hi,f2,f3,f6,hK⟩
 subst hK
 by_cases hlt:(i:Int)<x.out.length
 ·obtain⟨m1,f1,ix1,rn1⟩:=e1.2.rdw (i:=i) (by omega)
  obtain⟨m2,f2',ix2,rn2⟩:=e2.2.rdw (i:=i) (by omega)
  have wl:=e1.2.wid (i:=i) (by omega)
  have eq:=eqa_self (k:=.i64) (n:=2) wl (by omega)
  ((try simp (maxSteps:=3000000) (dsimp:=false) (disch:=first|omega|simp only[lnx];omega) only[↓ypre,ypost,↓reduceIte,reduceEqDiff,reduceAdd,reduceSub,reduceLeDiff,zz0,ynew,f2,f3,f6,rd1_of hb1,rd1_of hb2,e1.2.len,decide_eq_true hlt,ix1,ix2,rn1,rn2,eq,wrap64_in]);try simp only[yback])
  refine InvQ_go (x.out.length-(i+1)) (by omega) ⟨(i+1),rfl,by omega,(by first|rfl|exact f2|(simp only[upd_apply];rfl)|(show I64 _=_;congr 1;omega)),(by first|rfl|exact f3|(simp only[upd_apply];rfl)|(show I64 _=_;congr 1;omega)),(by first|rfl|exact f6|(simp only[upd_apply];rfl)|(show I64 _=_;congr 1;omega)),rfl⟩
 ((try simp (maxSteps:=3000000) (dsimp:=false) (disch:=first|omega|simp only[lnx];omega) only[↓ypre,ypost,↓reduceIte,reduceEqDiff,reduceAdd,reduceSub,reduceLeDiff,zz0,ynew,f2,f3,f6,rd1_of hb1,rd1_of hb2,e1.2.len,decide_eq_false hlt]);try simp only[yback])
 exact hQ _ (p1.trans p2)
end Go.Proofs.Ytapafdpnmakekaa.X

set_option linter.unusedVariables false
set_option linter.unusedSimpArgs false
set_option maxRecDepth 20000
set_option maxHeartbeats 4000000
namespace Go.Proofs.Ytapafdpnmakekaa.X
open Go Go.RowKit
theorem TenB.l {t:Ten} (b:TenB t):(t.ns.length:Int)≤1048576:=by
 have:=b.ns
 omega
theorem WO_mono' {S:XS} {A REST:IR} {f:Fr} {h:AH} {R:XE→Fr→AH→Prop} (I:Fr→AH→Prop) (w:WC S A f h (JnQ I)) (hr:∀ f h,I f h→WC S REST f h R):WC S A f h (SeqQ S REST R):=
 WC.mono w fun e f2 h2 q2=>by
  cases e with
  | normal=>exact hr f2 h2 q2
  | exit id=>exact q2.elim
  | ret=>exact q2.elim
def Kcv (h:AH) (cv:Value) (f:Fr) (h':AH):Prop:=f 0=cv∧h<+:h'
def coOK (t:Ten) (s:Int) (ns:List Int):Prop:=(0≤s∧s≤2)∧allIn t.p ns=true∧(ns.length:Int)=sideN t s.toNat
instance {t:Ten} {s:Int} {ns:List Int}:Decidable (coOK t s ns):=by unfold coOK;infer_instance
end Go.Proofs.Ytapafdpnmakekaa.X

set_option linter.unusedVariables false
set_option linter.unusedSimpArgs false
set_option maxRecDepth 20000
set_option maxHeartbeats 4000000
namespace Go.Proofs.Ytapafdpnmakekaa.X
open Go Go.RowKit
open Nat (reduceEqDiff reduceAdd reduceSub reduceLeDiff)
theorem l_rows5 {v w:Value} {rows:List (List Int)} {h:AH} {Q:Value→AH→Prop} (hv:Rows h v rows) (hw:Rows h w rows) (hl:SmallM rows)
  (hQ:Q (.bool true) h):WF S 48 [v,w] h Q:=by
 refine WF_fn (fn:=c48) rfl rfl ?_
 dsimp only[c48,oO,oM,oS,oG,oK,oE,oL,oF,oX,oN]
 obtain⟨cs,hc,hcl,-⟩:=id hv
 obtain⟨ds,hd,hdl,-⟩:=id hw
 have c1:=hc.len
 have c2:=hd.len
 rw[hcl] at c1
 rw[hdl] at c2
 have h1:=hl.1
 ((try simp (maxSteps:=3000000) (dsimp:=false) (disch:=first|omega|simp only[lnx];omega) only[↓ypre,ypost,↓reduceIte,reduceEqDiff,reduceAdd,reduceSub,reduceLeDiff,zz0,ynew,c1,c2,decide_eq_false (show ¬ (rows.length:Int)≠rows.length from fun h=>h rfl)]);try simp only[yback])
 refine WC_loop_inv (fun m f K1=>∃ (i:Nat),m=rows.length-i∧i≤rows.length∧f 0=v∧f 1=w∧f 5=I64 i∧(K1=h)) ?_ (rows.length-0) _ _ ⟨0,rfl,by omega,(by first|rfl|simp[upd_apply]),(by first|rfl|simp[upd_apply]),(by first|rfl|simp[upd_apply]),rfl⟩
 rintro m f K1 ⟨i,rfl,hi,f0,f1,f5,hK⟩
 subst hK
 by_cases hlt:(i:Int)<rows.length
 ·obtain⟨n1,o1,x1,hix1,hrd1,i1⟩:=hv.row (i:=i) (by omega)
  obtain⟨n2,o2,x2,hix2,hrd2,i2⟩:=hw.row (i:=i) (by omega)
  ((try simp (maxSteps:=3000000) (dsimp:=false) (disch:=first|omega|simp only[lnx];omega) only[↓ypre,ypost,↓reduceIte,reduceEqDiff,reduceAdd,reduceSub,reduceLeDiff,zz0,ynew,f0,f1,f5,c1,decide_eq_true hlt,hix1,hrd1,hix2,hrd2]);try simp only[yback])
  refine l_likeInts i1 i2 (hl.2.1 i (by omega)) ?_
  ((try simp (maxSteps:=3000000) (dsimp:=false) (disch:=first|omega|simp only[lnx];omega) only[↓ypre,ypost,↓reduceIte,reduceEqDiff,reduceAdd,reduceSub,reduceLeDiff,zz0,ynew,f0,f1,f5,decide_true,wrap64_in]);try simp only[yback])
  refine InvQ_go (rows.length-(i+1)) (by omega) ⟨(i+1),rfl,by omega,(by first|rfl|exact f0|(simp only[upd_apply];rfl)|(show I64 _=_;congr 1;omega)),(by first|rfl|exact f1|(simp only[upd_apply];rfl)|(show I64 _=_;congr 1;omega)),(by first|rfl|exact f5|(simp only[upd_apply];rfl)|(show I64 _=_;congr 1;omega)),rfl⟩
 ·((try simp (maxSteps:=3000000) (dsimp:=false) (disch:=first|omega|simp only[lnx];omega) only[↓ypre,ypost,↓reduceIte,reduceEqDiff,reduceAdd,reduceSub,reduceLeDiff,zz0,ynew,f0,f1,f5,c1,decide_eq_false hlt]);try simp only[yback])
  exact hQ
theorem WO_join2 {S:XS} {ops:List XI} {a b REST:IR} {f:Fr} {h:AH} {R:XE→Fr→AH→Prop} (I:Fr→AH→Prop) (w:WO S ops f h (RegQ (SeqQ S a (SeqQ S b (JnQ I))))) (hr:∀ f h,I f h→WC S REST f h R) :
  WO S ops f h (RegQ (SeqQ S a (SeqQ S (.seq b REST) R))):=by
 refine w.mono fun f1 h1 q=>?_
 refine WC.mono q fun e f2 h2 q2=>?_
 cases e with
 | normal=>
  show WC S (.seq b REST) f2 h2 R
  rw[WC_seq]
  exact WO_mono' I q2 hr
 | exit id=>exact q2.elim
 | ret=>exact q2.elim
end Go.Proofs.Ytapafdpnmakekaa.X

set_option linter.unusedVariables false
set_option linter.unusedSimpArgs false
set_option maxRecDepth 20000
set_option maxHeartbeats 4000000
namespace Go.Proofs.Ytapafdpnmakekaa.X
open Go Go.RowKit
structure Pgs where
 N:Nat
 xs:Nat→Prg
def cellG (ps ns:Nat→Int) (vs ws:Nat→Value) (i f:Nat):Value:=if f=0 then I64 (ps i) else if f=1 then I64 (ns i) else if f=2 then vs i else ws i
structure PG (c:List Value) (N:Nat) (ps ns:Nat→Int) (vs ws:Nat→Value):Prop where
 len:c.length=N*4
 at4:∀ i,i<N→∀ f,f<4→c[i*4+f]?=some (cellG ps ns vs ws i f)
section
variable {c:List Value} {N:Nat} {ps ns ps' ns':Nat→Int} {vs ws:Nat→Value}
theorem PG.congr (o:PG c N ps ns vs ws) (h1:∀ i,i<N→ps i=ps' i) (h2:∀ i,i<N→ns i=ns' i):PG c N ps' ns' vs ws:=⟨o.len,fun i hi f hf=>by
 rw[o.at4 i hi f hf]
 unfold cellG
 rw[h1 i hi,h2 i hi]⟩
theorem PG.row (o:PG c N ps ns vs ws) {i:Nat} (hi:i<N):(c.drop (i*4)).take 4=[I64 (ps i),I64 (ns i),vs i,ws i]:=by
 have hl:=o.len
 have hm:=mul_row (w:=4) hi
 refine List.ext_getElem? fun j=>?_
 by_cases hj:j<4
 ·rw[List.getElem?_take,if_pos hj,List.getElem?_drop,o.at4 i hi j hj]
  have:j=0∨j=1∨j=2∨j=3:=by omega
  rcases this with rfl|rfl|rfl|rfl<;>rfl
 ·rw[List.getElem?_eq_none (by rw[List.length_take,List.length_drop];omega),List.getElem?_eq_none (by simp;omega)]
theorem PG.set (o:PG c N ps ns vs ws) {i:Nat} (hi:i<N) (a b:Int):PG ((c.set (i*4) (I64 a)).set (i*4+1) (I64 b)) N (fun j=>if j=i then a else ps j) (fun j=>if j=i then b else ns j) vs ws:=by
 have hl:=o.len
 have hm:=mul_row (w:=4) hi
 refine⟨by simp only[List.length_set];exact hl,fun j hj f hf=>?_⟩
 have hmj:=mul_row (w:=4) hj
 by_cases e:j=i
 ·subst e
  have:f=0∨f=1∨f=2∨f=3:=by omega
  rcases this with rfl|rfl|rfl|rfl
  ·rw[List.getElem?_set_ne (by omega),Nat.add_zero,List.getElem?_set_self (by omega)]
   simp[cellG]
  ·rw[List.getElem?_set_self (by rw[List.length_set];omega)]
   simp[cellG]
  ·rw[List.getElem?_set_ne (by omega),List.getElem?_set_ne (by omega),o.at4 j hj 2 (by omega)]
   rfl
  ·rw[List.getElem?_set_ne (by omega),List.getElem?_set_ne (by omega),o.at4 j hj 3 (by omega)]
   rfl
 ·rw[List.getElem?_set_ne (by omega),List.getElem?_set_ne (by omega),o.at4 j hj f hf]
  unfold cellG
  simp only[if_neg e]
end
def GR (h:AH) (v:Value) (y:Pgs):Prop:=(v=.slice none 0 0∧y.N=0)∨∃ nb vs ws,v=.slice (some ⟨nb,0,none⟩) y.N 4∧(∃ c e fl,h.get nb=some ⟨c,e,false,fl⟩∧PG c y.N (fun i=>(y.xs i).p) (fun i=>(y.xs i).n) vs ws)∧∀ i,i<y.N→PrgR h (vs i) (ws i) (y.xs i)
def InG (a b:Nat) (h:AH) (v:Value) (y:Pgs):Prop:=(v=.slice none 0 0∧y.N=0)∨∃ (nb:Nat) (cs:Nat→Nat) (vs ws:Nat→Value),v=.slice (some ⟨nb,0,none⟩) y.N 4∧a≤cs 0∧cs y.N≤nb∧nb<b∧(∃ c e fl,h.get nb=some ⟨c,e,false,fl⟩∧PG c y.N (fun i=>(y.xs i).p) (fun i=>(y.xs i).n) vs ws)∧∀ i,i<y.N→InP (cs i) (cs (i+1)) h (vs i) (ws i) (y.xs i)
def SmallG (y:Pgs):Prop:=y.N≤3∧∀ i,i<y.N→SmallP (y.xs i)
def kkG (xs:Nat→Prg):Nat→Int
 | 0=>0
 | i+1=>kkG xs i+(2+cntP (xs i))
@[simp] theorem kkG_0 {xs:Nat→Prg}:kkG xs 0=0:=rfl
section
variable {a b c d:Nat} {h h':AH} {v:Value} {y:Pgs}
theorem InP.le {a b:Nat} {h:AH} {v w:Value} {x:Prg} (o:InP a b h v w x):a≤b:=by
 obtain⟨c,e1,e2,_⟩:=o
 omega
theorem mono_cs {cs:Nat→Nat} {N:Nat} (h:∀ i,i<N→cs i≤cs (i+1)):∀ {j i:Nat},i≤j→j≤N→cs i≤cs j
 | 0,i,h1,_=>by
  have:i=0:=by omega
  rw[this]
  exact Nat.le_refl _
 | j+1,i,h1,h2=>by
  by_cases e:i=j+1
  ·rw[e]
   exact Nat.le_refl _
  ·exact Nat.le_trans (mono_cs h (by omega) (by omega)) (h j (by omega))
theorem GR.len (o:GR h v y):lenV v=some (I64 y.N):=by
 rcases o with⟨rfl,e⟩|⟨nb,vs,ws,rfl,_⟩
 ·rw[e]
  rfl
 ·rfl
theorem GR.pre (o:GR h v y) (p:h<+:h'):GR h' v y:=by
 rcases o with o|⟨nb,vs,ws,h1,⟨c,e,fl,g,h2⟩,h3⟩
 ·exact .inl o
 ·exact .inr ⟨nb,vs,ws,h1,⟨c,e,fl,pre_get p g,h2⟩,fun i hi=>(h3 i hi).pre p⟩
theorem InG.rd (o:InG a b h v y):GR h v y:=by
 rcases o with o|⟨nb,cs,vs,ws,h1,_,_,_,h2,h3⟩
 ·exact .inl o
 ·exact .inr ⟨nb,vs,ws,h1,h2,fun i hi=>(h3 i hi).rd⟩
theorem InG.pre (o:InG a b h v y) (p:h<+:h'):InG a b h' v y:=by
 rcases o with o|⟨nb,cs,vs,ws,h1,e1,e2,e3,⟨c,e,fl,g,h2⟩,h3⟩
 ·exact .inl o
 ·exact .inr ⟨nb,cs,vs,ws,h1,e1,e2,e3,⟨c,e,fl,pre_get p g,h2⟩,fun i hi=>(h3 i hi).pre p⟩
theorem InG.only (o:InG a b h v y) (u:OnlyR c d h h') (hd:b≤c∨d≤a):InG a b h' v y:=by
 rcases o with o|⟨nb,cs,vs,ws,h1,e1,e2,e3,⟨c',e,fl,g,h2⟩,h3⟩
 ·exact .inl o
 ·have hm:=fun i (hi:i<y.N)=>(h3 i hi).le
  have l0:∀ i,i≤y.N→a≤cs i∧cs i≤nb:=fun i hi=>⟨Nat.le_trans e1 (mono_cs hm (Nat.zero_le _) hi),Nat.le_trans (mono_cs hm hi (Nat.le_refl _)) e2⟩
  have l1:=l0 0 (Nat.zero_le _)
  refine .inr ⟨nb,cs,vs,ws,h1,e1,e2,e3,⟨c',e,fl,u.get' g (by omega),h2⟩,fun i hi=>(h3 i hi).only u ?_⟩
  have q1:=l0 i (by omega)
  have q2:=l0 (i+1) (by omega)
  omega
end
theorem OnlyR.put {a b n:Nat} {h:AH} {bl:Blk} (hn:a≤n∧n<b):OnlyR a b h (h.put n bl):=⟨len_put,fun m hm=>by
 unfold AH.put
 rw[List.getElem?_set_ne (fun e=>hm (by omega))]⟩
end Go.Proofs.Ytapafdpnmakekaa.X

set_option linter.unusedVariables false
set_option linter.unusedSimpArgs false
set_option maxRecDepth 20000
set_option maxHeartbeats 4000000
namespace Go.Proofs.Ytapafdpnmakekaa.X
open Go Go.RowKit
open Nat (reduceEqDiff reduceAdd reduceSub reduceLeDiff)
def pgR (x:Sch) (b:Bool):Pgs×Int:=if cdX x=0 then (⟨3,pgX x b⟩,0) else (⟨0,fun _=>⟨0,0,[],[]⟩⟩,cdX x)
theorem pgX_small {h:AH} {v:Value} {x:Sch} {b:Bool} (hv:Prods h v x.ps) (hx:isX x=true) (h0:1≤x.ps.length) {i:Nat} (hi:i<3):SmallP (pgX x b i):=by
 have ok:=fmX_ok hv hx h0 hi
 have s1:=shR_small x.p (nuX x i) (fmX x i)
 have s2:=plR_small x.p (nuX x i) (fmX x i)
 unfold shR at s1
 unfold plR at s2
 rw[if_pos ok] at s1 s2
 unfold pgX pgO
 cases b with
 | true=>exact s1
 | false=>exact s2
theorem pgR_small {h:AH} {v:Value} {x:Sch} {b:Bool} (hv:Prods h v x.ps):SmallG (pgR x b).1:=by
 unfold pgR
 by_cases hc:cdX x=0
 ·rw[if_pos hc]
  obtain⟨hx,h0⟩:=cdX_0 hc
  exact⟨Nat.le_refl _,fun i hi=>pgX_small hv hx h0 hi⟩
 ·rw[if_neg hc]
  exact⟨Nat.zero_le _,fun i hi=>absurd hi (Nat.not_lt_zero _)⟩
theorem inG_3 {x:Sch} {bb:Bool} {a b nb q1 q2:Nat} {h:AH} {v1 w1 v2 w2 v3 w3:Value} {e:TypeId}
  (g:∃ fl,h.get nb=some ⟨prgC (pgX x bb 0) v1 w1++prgC (pgX x bb 1) v2 w2++prgC (pgX x bb 2) v3 w3,e,false,fl⟩) (lt:nb<b)
  (i1:InP a q1 h v1 w1 (pgX x bb 0)) (i2:InP q1 q2 h v2 w2 (pgX x bb 1)) (i3:InP q2 nb h v3 w3 (pgX x bb 2)):InG a b h (.slice (some ⟨nb,0,none⟩) 3 4) ⟨3,pgX x bb⟩:=by
 obtain⟨fl,g⟩:=g
 refine .inr ⟨nb,fun i=>if i=0 then a else if i=1 then q1 else if i=2 then q2 else nb,fun i=>if i=0 then v1 else if i=1 then v2 else v3,fun i=>if i=0 then w1 else if i=1 then w2 else w3,rfl,Nat.le_refl _,Nat.le_refl _,lt,⟨_,_,_,g,rfl,fun i hi f hf=>?_⟩,fun i hi=>?_⟩
 ·simp only at hi
  have c1:i=0∨i=1∨i=2:=by omega
  have c2:f=0∨f=1∨f=2∨f=3:=by omega
  rcases c1 with rfl|rfl|rfl<;>rcases c2 with rfl|rfl|rfl|rfl<;>rfl
 ·simp only at hi
  have c1:i=0∨i=1∨i=2:=by omega
  rcases c1 with rfl|rfl|rfl
  ·exact i1
  ·exact i2
  ·exact i3
theorem s_ProgramsOf {v:Value} {x:Sch} {b:Bool} {h:AH} {Q:Value→AH→Prop} (hv:Prods h v x.ps) (hl:SmallX x.ps)
  (hQ:∀ v' h',h<+:h'→InG h.length h'.length h' v' (pgR x b).1→Q (.tuple #[v',I64 (pgR x b).2]) h'):WF S 142 [schV x v,.bool b] h Q:=by
 refine WF_fn (fn:=c142) rfl rfl ?_
 dsimp only[c142,oO,oM,oS,oG,oK,oE,oL,oF,oX,oN]
 ((try simp (maxSteps:=3000000) (dsimp:=false) (disch:=first|omega|simp only[lnx];omega) only[↓ypre,ypost,↓reduceIte,reduceEqDiff,reduceAdd,reduceSub,reduceLeDiff,zz0,ynew,schV,hv.one]);try simp only[yback])
 generalize hH1:AH.new h _=H1
 obtain⟨hb1,p1,n1⟩:=new_facts hH1
 ((try simp (maxSteps:=3000000) (dsimp:=false) (disch:=first|omega|simp only[lnx];omega) only[↓ypre,ypost,↓reduceIte,reduceEqDiff,reduceAdd,reduceSub,reduceLeDiff,zz0,ynew,rdn_of hb1]);try simp only[yback])
 refine s_l07Code (x:=x) (hv.pre p1) hl fun H2 p2=>?_
 have hb2:=pre_get p2 hb1
 have p12:=p1.trans p2
 unfold pgR at hQ
 by_cases hc:cdX x=0
 case neg=>
  rw[if_neg hc] at hQ
  ((try simp (maxSteps:=3000000) (dsimp:=false) (disch:=first|omega|simp only[lnx];omega) only[↓ypre,ypost,↓reduceIte,reduceEqDiff,reduceAdd,reduceSub,reduceLeDiff,zz0,ynew,decide_eq_true (show cdX x≠0 from hc)]);try simp only[yback])
  exact hQ _ _ p12 (.inl ⟨rfl,rfl⟩)
 rw[if_pos hc] at hQ
 obtain⟨hx,h0⟩:=cdX_0 hc
 ((try simp (maxSteps:=3000000) (dsimp:=false) (disch:=first|omega|simp only[lnx];omega) only[↓ypre,ypost,↓reduceIte,reduceEqDiff,reduceAdd,reduceSub,reduceLeDiff,zz0,ynew,decide_eq_false (show ¬ cdX x≠0 from fun y=>y hc),rdn_of hb2]);try simp only[yback])
 refine s_l07Programs (x:=x) (b:=b) (hv.pre p12) hx h0 fun nb q1 q2 H3 v1 w1 v2 w2 v3 w3 p3 g i0 i1 i2 i3=>?_
 ((try simp (maxSteps:=3000000) (dsimp:=false) (disch:=first|omega|simp only[lnx];omega) only[↓ypre,ypost,↓reduceIte,reduceEqDiff,reduceAdd,reduceSub,reduceLeDiff,zz0,ynew]);try simp only[yback])
 have lp:=pre_len p12
 have ltn:=get_lt g
 exact hQ _ _ (p12.trans p3) (inG_3 ⟨_,g⟩ ltn (i1.mono lp (Nat.le_refl _)) i2 i3)
theorem i_ProgramsOf {v:Value} {x:Sch} {b:Bool} {h:AH} {Q:Value→AH→Prop} (hv:Prods h v x.ps) (hl:SmallX x.ps)
  (hQ:∀ v' h',h<+:h'→InG h.length h'.length h' v' (pgR x b).1→Q (.tuple #[v',I64 (pgR x b).2]) h'):WF S 141 [schV x v,.bool b] h Q:=by
 refine WF_fn (fn:=c141) rfl rfl ?_
 dsimp only[c141,oO,oM,oS,oG,oK,oE,oL,oF,oX,oN]
 ((try simp (maxSteps:=3000000) (dsimp:=false) (disch:=first|omega|simp only[lnx];omega) only[↓ypre,ypost,↓reduceIte,reduceEqDiff,reduceAdd,reduceSub,reduceLeDiff,zz0,ynew,schV,hv.one]);try simp only[yback])
 generalize hH1:AH.new h _=H1
 obtain⟨hb1,p1,n1⟩:=new_facts hH1
 ((try simp (maxSteps:=3000000) (dsimp:=false) (disch:=first|omega|simp only[lnx];omega) only[↓ypre,ypost,↓reduceIte,reduceEqDiff,reduceAdd,reduceSub,reduceLeDiff,zz0,ynew,rdn_of hb1]);try simp only[yback])
 refine i_productsCode (x:=x) (hv.pre p1) hl fun H2 p2=>?_
 have hb2:=pre_get p2 hb1
 have p12:=p1.trans p2
 unfold pgR at hQ
 by_cases hc:cdX x=0
 case neg=>
  rw[if_neg hc] at hQ
  ((try simp (maxSteps:=3000000) (dsimp:=false) (disch:=first|omega|simp only[lnx];omega) only[↓ypre,ypost,↓reduceIte,reduceEqDiff,reduceAdd,reduceSub,reduceLeDiff,zz0,ynew,decide_eq_true (show cdX x≠0 from hc)]);try simp only[yback])
  exact hQ _ _ p12 (.inl ⟨rfl,rfl⟩)
 rw[if_pos hc] at hQ
 obtain⟨hx,h0⟩:=cdX_0 hc
 ((try simp (maxSteps:=3000000) (dsimp:=false) (disch:=first|omega|simp only[lnx];omega) only[↓ypre,ypost,↓reduceIte,reduceEqDiff,reduceAdd,reduceSub,reduceLeDiff,zz0,ynew,decide_eq_false (show ¬ cdX x≠0 from fun y=>y hc),rdn_of hb2]);try simp only[yback])
 refine i_programsOf (x:=x) (b:=b) (hv.pre p12) hx h0 fun nb q1 q2 H3 v1 w1 v2 w2 v3 w3 p3 g i0 i1 i2 i3=>?_
 ((try simp (maxSteps:=3000000) (dsimp:=false) (disch:=first|omega|simp only[lnx];omega) only[↓ypre,ypost,↓reduceIte,reduceEqDiff,reduceAdd,reduceSub,reduceLeDiff,zz0,ynew]);try simp only[yback])
 have lp:=pre_len p12
 have ltn:nb<H3.length:=by
  obtain⟨fl,g⟩:=g
  exact get_lt g
 exact hQ _ _ (p12.trans p3) (inG_3 g ltn (i1.mono lp (Nat.le_refl _)) i2 i3)
theorem i_Grow {n:Int} {h:AH} {Q:Value→AH→Prop} (hn:1≤n∧n≤1048576) (hQ:Q (sl h.length 0) (h.new ⟨[],2,false,false⟩)):WF S 287 [.slice none 0 0,I64 n] h Q:=by
 refine WF_fn (fn:=c287) rfl rfl ?_
 dsimp only[c287,oO,oM,oS,oG,oK,oE,oL,oF,oX,oN]
 ((try simp (maxSteps:=3000000) (dsimp:=false) (disch:=first|omega|simp only[lnx];omega) only[↓ypre,ypost,↓reduceIte,reduceEqDiff,reduceAdd,reduceSub,reduceLeDiff,zz0,ynew,decide_eq_false (show ¬ n<0 by omega),capV_nil,show lenV (.slice none 0 0)=some (I64 0) from rfl,wrap64_in,Int.sub_zero,decide_eq_true (show (0:Int)<n by omega),decide_eq_true (show n>0 by omega)]);try simp only[yback])
 have s1:slcV 1 (.slice none 0 0) none (some (I64 0))=some (.slice none 0 0):=rfl
 ((try simp (maxSteps:=3000000) (dsimp:=false) (disch:=first|omega|simp only[lnx];omega) only[↓ypre,ypost,↓reduceIte,reduceEqDiff,reduceAdd,reduceSub,reduceLeDiff,zz0,ynew,omapF_none,omapF_some,s1]);try simp only[yback])
 have e1:appzV 2 1 8 (.slice none 0 0) (I64 n) h=some (.slice (some ⟨h.length,0,none⟩) n.toNat 1,h.new ⟨[],2,false,false⟩):=by
  rw[appzV_nil,if_pos (by omega)]
 ((try simp (maxSteps:=3000000) (dsimp:=false) (disch:=first|omega|simp only[lnx];omega) only[↓ypre,ypost,↓reduceIte,reduceEqDiff,reduceAdd,reduceSub,reduceLeDiff,zz0,ynew,e1]);try simp only[yback])
 have s2:slcV 1 (.slice (some ⟨h.length,0,none⟩) n.toNat 1) none (some (.int .i64 ((0:Nat):Int)))=some (sl h.length 0):=by
  simp[slcV,boundV,sl]
 ((try simp (maxSteps:=3000000) (dsimp:=false) (disch:=first|omega|simp only[lnx];omega) only[↓ypre,ypost,↓reduceIte,reduceEqDiff,reduceAdd,reduceSub,reduceLeDiff,zz0,ynew,omapF_none,omapF_some,s2]);try simp only[yback])
 exact hQ
theorem Lst.appL {H:AH} {n:Nat} {l ns:List Int} {full:Bool} {v:Value} (o:Lst H n l full) (hv:Ints H v ns) (h0:0<ns.length) (hl:(l.length:Int)+ns.length≤1048576) {Q:Value→AH→Prop}
  (hQ:∀ H',H'.length=H.length+1→(∀ h0:AH,h0.length≤n→h0<+:H→h0<+:H')→Lst H' H.length (l++ns) false→Q (sl H.length (l++ns).length) H') :
  OQ (appV 2 1 8 (sl n l.length) v H) Q:=by
 obtain⟨n',off,rfl,hr⟩:=hv.vals.rdn (by simpa using h0)
 rw[List.length_map] at hr
 have e:appV 2 1 8 (sl n l.length) (.slice (some ⟨n',off,none⟩) (ns.map (Value.int .i64)).length 1) H=some (sl H.length (l++ns).length,(H.kill n).new ⟨(l++ns).map (Value.int .i64),2,false,false⟩):=by
  simp only[appV,xop,ev,sl,if_true,Nat.mul_one,List.length_map,hr]
  rw[if_pos (by omega),if_neg (by omega)]
  unfold Lst at o
  simp[o]
 rw[e,OQ_some]
 exact hQ _ (by rw[len_new,len_kill]) (fun h0 q p=>pre_new (pre_kill p q)) (get_new_eq (by rw[len_kill]))
theorem i_Concat {v:Value} {L:List (List Int)} {w:Nat} {h:AH} {Q:Value→AH→Prop} (hv:Rows h v L) (hw:Wid w L) (h1:1≤w∧w≤1000) (h2:1≤L.length∧L.length≤1000)
  (hQ:∀ n full h',h.length≤n→h<+:h'→Lst h' n L.flatten full→Q (sl n L.flatten.length) h'):WF S 165 [v] h Q:=by
 refine WF_fn (fn:=c165) rfl rfl ?_
 dsimp only[c165,oO,oM,oS,oG,oK,oE,oL,oF,oX,oN]
 have hwl:∀ i,i<L.length→(L.getD i []).length=w:=fun i hi=>hw _ (by rw[List.getD_eq_getElem?_getD,List.getElem?_eq_getElem hi];exact List.getElem_mem hi)
 have hLw:L.length*w≤1000*1000:=Nat.mul_le_mul h2.2 h1.2
 have hLw1:1*1≤L.length*w:=Nat.mul_le_mul h2.1 h1.1
 ((try simp (maxSteps:=3000000) (dsimp:=false) (disch:=first|omega|simp only[lnx];omega) only[↓ypre,ypost,↓reduceIte,reduceEqDiff,reduceAdd,reduceSub,reduceLeDiff,zz0,ynew,hv.len]);try simp only[yback])
 refine WC_loop_inv (fun m f K1=>∃ (i:Nat),m=L.length-i∧i≤L.length∧f 0=v∧f 3=I64 ((i*w:Nat):Int)∧f 9=v∧f 10=I64 L.length∧f 11=I64 i∧(K1=h)) ?_ (L.length-0) _ _ ⟨0,rfl,by omega,(by first|rfl|simp[upd_apply]),(by first|rfl|simp[upd_apply]),(by first|rfl|simp[upd_apply]),(by first|rfl|simp[upd_apply]),(by first|rfl|simp[upd_apply]),rfl⟩
 rintro m f K1 ⟨i,rfl,hi,f0,f3,f9,f10,f11,hK⟩
 subst hK
 by_cases hlt:(i:Int)<L.length
 ·have hi':i<L.length:=by omega
  obtain⟨n0,off0,x0,hix0,hrd0,i0⟩:=hv.row hi'
  have hm:=mul_row (w:=w) hi'
  have hc:(((i*w:Nat):Int)+((L.getD i []).length:Int))=(((i+1)*w:Nat):Int):=by rw[hwl i hi',Nat.succ_mul];omega
  have hb:((i+1)*w:Nat)≤1000000:=by rw[Nat.succ_mul];omega
  ((try simp (maxSteps:=3000000) (dsimp:=false) (disch:=first|omega|simp only[lnx];omega) only[↓ypre,ypost,↓reduceIte,reduceEqDiff,reduceAdd,reduceSub,reduceLeDiff,zz0,ynew,f0,f3,f9,f10,f11,decide_eq_true hlt,hix0,hrd0,i0.len,hc,wrap64_in,decide_eq_false (show ¬ (((i+1)*w:Nat):Int)<0 by omega)]);try simp only[yback])
  refine InvQ_go (L.length-(i+1)) (by omega) ⟨(i+1),rfl,by omega,(by first|rfl|exact f0|(simp only[upd_apply];rfl)|(show I64 _=_;congr 1;omega)),(by first|rfl|exact f3|(simp only[upd_apply];rfl)|(show I64 _=_;congr 1;omega)),(by first|rfl|exact f9|(simp only[upd_apply];rfl)|(show I64 _=_;congr 1;omega)),(by first|rfl|exact f10|(simp only[upd_apply];rfl)|(show I64 _=_;congr 1;omega)),(by first|rfl|exact f11|(simp only[upd_apply];rfl)|(show I64 _=_;congr 1;omega)),rfl⟩
 have ei:i=L.length:=by omega
 subst ei
 ((try simp (maxSteps:=3000000) (dsimp:=false) (disch:=first|omega|simp only[lnx];omega) only[↓ypre,ypost,↓reduceIte,reduceEqDiff,reduceAdd,reduceSub,reduceLeDiff,zz0,ynew,f0,f3,f9,f10,f11,decide_eq_false hlt]);try simp only[yback])
 refine i_Grow (by omega) ?_
 generalize hH1:AH.new K1 _=H1
 obtain⟨hb1,p1,n1⟩:=new_facts hH1
 have l0:Lst H1 K1.length (L.take 0).flatten false:=hb1
 ((try simp (maxSteps:=3000000) (dsimp:=false) (disch:=first|omega|simp only[lnx];omega) only[↓ypre,ypost,↓reduceIte,reduceEqDiff,reduceAdd,reduceSub,reduceLeDiff,zz0,ynew,f0,f3,f9,f10,f11,hv.len]);try simp only[yback])
 refine WC_loop_inv (fun m f K2=>∃ (i:Nat) (kn:Nat) (fu:Bool),m=L.length-i∧i≤L.length∧f 6=sl kn (L.take i).flatten.length∧f 25=v∧f 26=I64 L.length∧f 27=I64 i∧(K1<+:K2)∧(Lst K2 kn (L.take i).flatten fu)∧(K1.length≤kn)) ?_ (L.length-0) _ _ ⟨0,K1.length,false,rfl,by omega,(by first|rfl|simp[upd_apply]),(by first|rfl|simp[upd_apply]),(by first|rfl|simp[upd_apply]),(by first|rfl|simp[upd_apply]),p1,l0,Nat.le_refl _⟩
 rintro m f K2 ⟨i,kn,fu,rfl,hi,f6,f25,f26,f27,pp,lo,hk⟩
 by_cases hlt:(i:Int)<L.length
 ·have hi':i<L.length:=by omega
  obtain⟨n0,off0,x0,hix0,hrd0,i0⟩:=(hv.pre pp).row hi'
  have et:(L.take i).flatten++L.getD i []=(L.take (i+1)).flatten:=by
   rw[take_next (d:=[]) hi',List.flatten_append]
   simp
  have lt:(L.take i).flatten.length=i*w:=by
   rw[flat_len (fun q hq=>hw q (List.mem_of_mem_take hq)),List.length_take,Nat.min_eq_left (by omega)]
  have hm:=mul_row (w:=w) hi'
  have hwi:=hwl i hi'
  ((try simp (maxSteps:=3000000) (dsimp:=false) (disch:=first|omega|simp only[lnx];omega) only[↓ypre,ypost,↓reduceIte,reduceEqDiff,reduceAdd,reduceSub,reduceLeDiff,zz0,ynew,f6,f25,f26,f27,decide_eq_true hlt,hix0,hrd0]);try simp only[yback])
  refine lo.appL i0 (by omega) (by omega) fun H5 l5 pre5 lo5=>?_
  rw[et] at lo5 ⊢
  ((try simp (maxSteps:=3000000) (dsimp:=false) (disch:=first|omega|simp only[lnx];omega) only[↓ypre,ypost,↓reduceIte,reduceEqDiff,reduceAdd,reduceSub,reduceLeDiff,zz0,ynew,f6,f25,f26,f27,wrap64_in]);try simp only[yback])
  refine InvQ_go (L.length-(i+1)) (by omega) ⟨(i+1),K2.length,false,rfl,by omega,(by first|rfl|exact f6|(simp only[upd_apply];rfl)|(show I64 _=_;congr 1;omega)),(by first|rfl|exact f25|(simp only[upd_apply];rfl)|(show I64 _=_;congr 1;omega)),(by first|rfl|exact f26|(simp only[upd_apply];rfl)|(show I64 _=_;congr 1;omega)),(by first|rfl|exact f27|(simp only[upd_apply];rfl)|(show I64 _=_;congr 1;omega)),(pre5 _ hk pp),lo5,(by have:=pre_len pp;omega)⟩
 have ei:i=L.length:=by omega
 subst ei
 rw[List.take_of_length_le (Nat.le_refl _)] at lo f6
 ((try simp (maxSteps:=3000000) (dsimp:=false) (disch:=first|omega|simp only[lnx];omega) only[↓ypre,ypost,↓reduceIte,reduceEqDiff,reduceAdd,reduceSub,reduceLeDiff,zz0,ynew,f6,f25,f26,f27,decide_eq_false hlt]);try simp only[yback])
 exact hQ _ _ _ hk pp lo
def mOK (x:Sch) (L R:List (List Int)):Bool:=(isMat x.p x.m L&&decide ((L.length:Int)=x.n))&&(isMat x.p x.k R&&decide ((R.length:Int)=x.m))
def mcX (x:Sch) (L R:List (List Int)):Int:=if isX x=true then (if mOK x L R=true then 0 else 2) else 1
theorem i_matricesCode {v u z:Value} {x:Sch} {L R:List (List Int)} {h:AH} {Q:Value→AH→Prop} (hv:Prods h v x.ps) (hl:SmallX x.ps) (hu:Rows h u L) (hL:SmallM L) (hz:Rows h z R) (hR:SmallM R)
  (hQ:∀ h',h<+:h'→Q (I64 (mcX x L R)) h'):WF S 162 [schV x v,u,z] h Q:=by
 refine WF_fn (fn:=c162) rfl rfl ?_
 dsimp only[c162,oO,oM,oS,oG,oK,oE,oL,oF,oX,oN]
 ((try simp (maxSteps:=3000000) (dsimp:=false) (disch:=first|omega|simp only[lnx];omega) only[↓ypre,ypost,↓reduceIte,reduceEqDiff,reduceAdd,reduceSub,reduceLeDiff,zz0,ynew,schV,hv.one]);try simp only[yback])
 generalize hH1:AH.new h _=H1
 obtain⟨hb1,p1,n1⟩:=new_facts hH1
 ((try simp (maxSteps:=3000000) (dsimp:=false) (disch:=first|omega|simp only[lnx];omega) only[↓ypre,ypost,↓reduceIte,reduceEqDiff,reduceAdd,reduceSub,reduceLeDiff,zz0,ynew,rdn_of hb1]);try simp only[yback])
 refine i_IsScheme (x:=x) (hv.pre p1) hl fun H2 p2=>?_
 have p12:=p1.trans p2
 have hb2:=pre_get p2 hb1
 have hQ2:=hQ _ p12
 unfold mcX at hQ2
 cases h1:isX x with
 | false=>
  rw[h1,if_neg (by decide)] at hQ2
  ((try simp (maxSteps:=3000000) (dsimp:=false) (disch:=first|omega|simp only[lnx];omega) only[↓ypre,ypost,↓reduceIte,reduceEqDiff,reduceAdd,reduceSub,reduceLeDiff,zz0,ynew]);try simp only[yback])
  exact hQ2
 | true=>
  rw[h1,if_pos rfl] at hQ2
  unfold mOK at hQ2
  ((try simp (maxSteps:=3000000) (dsimp:=false) (disch:=first|omega|simp only[lnx];omega) only[↓ypre,ypost,↓reduceIte,reduceEqDiff,reduceAdd,reduceSub,reduceLeDiff,zz0,ynew,rd1_of hb2]);try simp only[yback])
  refine i_isMatrix (hu.pre p12) hL.1 hL.2.1 ?_
  cases h2:(isMat x.p x.m L&&decide ((L.length:Int)=x.n)) with
  | false=>
   rw[h2,Bool.false_and,if_neg (by decide)] at hQ2
   ((try simp (maxSteps:=3000000) (dsimp:=false) (disch:=first|omega|simp only[lnx];omega) only[↓ypre,ypost,↓reduceIte,reduceEqDiff,reduceAdd,reduceSub,reduceLeDiff,zz0,ynew]);try simp only[yback])
   exact hQ2
  | true=>
   rw[h2,Bool.true_and] at hQ2
   ((try simp (maxSteps:=3000000) (dsimp:=false) (disch:=first|omega|simp only[lnx];omega) only[↓ypre,ypost,↓reduceIte,reduceEqDiff,reduceAdd,reduceSub,reduceLeDiff,zz0,ynew,rd1_of hb2]);try simp only[yback])
   refine i_isMatrix (hz.pre p12) hR.1 hR.2.1 ?_
   cases h3:(isMat x.p x.k R&&decide ((R.length:Int)=x.m)) with
   | false=>
    rw[h3,if_neg (by decide)] at hQ2
    ((try simp (maxSteps:=3000000) (dsimp:=false) (disch:=first|omega|simp only[lnx];omega) only[↓ypre,ypost,↓reduceIte,reduceEqDiff,reduceAdd,reduceSub,reduceLeDiff,zz0,ynew]);try simp only[yback])
    exact hQ2
   | true=>
    rw[h3,if_pos rfl] at hQ2
    ((try simp (maxSteps:=3000000) (dsimp:=false) (disch:=first|omega|simp only[lnx];omega) only[↓ypre,ypost,↓reduceIte,reduceEqDiff,reduceAdd,reduceSub,reduceLeDiff,zz0,ynew]);try simp only[yback])
    exact hQ2
def valI (p:Int) (l r q:List Int):Int:=(dot (seg q 0) l l.length).tmod p*(dot (seg q 1) r r.length).tmod p
def stM (p:Int) (l r:List Int) (ps:List (List Int)):Nat→Nat→Int
 | 0,_=>0
 | t+1,j=>(stM p l r ps t j+(ps.getD t []).getD (18+j) 0*valI p l r (ps.getD t [])).tmod p
theorem valI_in {p:Int} {l r q:List Int} (hp:2≤p∧p≤5) (hq:By 27 q) (hl:l.length≤9) (hr:r.length≤9) (al:allIn p l=true) (ar:allIn p r=true):0≤valI p l r q∧valI p l r q≤16:=by
 have d1:=dot_in (hq.seg (i:=0) (by omega)) al hp (Nat.le_refl _) hl
 have d2:=dot_in (hq.seg (i:=1) (by omega)) ar hp (Nat.le_refl _) hr
 have t1:=tmod_nn (J:=p) d1.1 (by omega)
 have t2:=tmod_nn (J:=p) d2.1 (by omega)
 refine⟨Int.mul_nonneg t1.1 t2.1,?_⟩
 have:valI p l r q≤4*4:=Int.le_trans (Int.mul_le_mul_of_nonneg_right (show _≤(4:Int) by omega) t2.1) (Int.mul_le_mul_of_nonneg_left (by omega) (by decide))
 omega
theorem stM_in {p:Int} {l r:List Int} {ps:List (List Int)} (hp:2≤p∧p≤5) (hps:Byt 27 ps) (hw:Wid 27 ps) (hl:l.length≤9) (hr:r.length≤9) (al:allIn p l=true) (ar:allIn p r=true):∀ {t:Nat},t≤ps.length→∀ j,j<9→0≤stM p l r ps t j∧stM p l r ps t j<p
 | 0,_,j,_=>by simp only[stM];omega
 | t+1,ht,j,hj=>by
  have ih:=stM_in hp hps hw hl hr al ar (t:=t) (by omega) j hj
  have hq:By 27 (ps.getD t []):=⟨hw _ (by rw[List.getD_eq_getElem?_getD,List.getElem?_eq_getElem (by omega)];exact List.getElem_mem _),fun i hi=>hps t (by omega) i hi⟩
  have v:=valI_in hp hq hl hr al ar
  have c:=hq.2 (18+j) (by omega)
  have m:=Int.mul_nonneg c.1 v.1
  simp only[stM]
  exact tmod_nn (by omega) (by omega)
theorem gen_set {N c:Nat} {f g:Nat→Int} (hc:c<N) (x:Int) (hx:x=f c):(gen N fun j=>if j<c then f j else g j).set c x=gen N fun j=>if j<c+1 then f j else g j:=by
 refine gen_ext (by rw[List.length_set,gen_len]) fun j hj=>?_
 rw[List.getD_eq_getElem?_getD,List.getElem?_set]
 by_cases e:c=j
 ·subst e
  rw[if_pos rfl,if_pos (by rw[gen_len];exact hc),if_pos (by omega),hx]
  rfl
 ·rw[if_neg e,←List.getD_eq_getElem?_getD,gen_get hj]
  by_cases h1:j<c
  ·rw[if_pos h1,if_pos (by omega)]
  ·rw[if_neg h1,if_neg (by omega)]
theorem zrep_gen:∀ {N:Nat},zrep N [I64 0]=(gen N fun _=>0).map (Value.int .i64)
 | 0=>rfl
 | N+1=>by
  have e:(gen (N+1) fun _=>(0:Int))=0::gen N fun _=>0:=by
   refine (gen_ext (by simp[gen_len]) fun i hi=>?_).symm
   cases i with
   | zero=>rfl
   | succ i=>
    rw[List.getD_cons_succ,gen_get (by omega)]
  rw[e,zrep,zrep_gen (N:=N)]
  rfl
theorem mks_gen {N:Nat} {h:AH} (hN:N≤1000000):mksV 2 1 8 [I64 0] (I64 N) h=some (sl h.length N,h.new ⟨(gen N fun _=>0).map (Value.int .i64),2,false,true⟩):=by
 rw[mksV_int,if_pos (by omega),Int.toNat_natCast,zrep_gen]
 rfl
theorem i_makes {p:Int} {N:Nat} {v u z:Value} {l r:List Int} {ps:List (List Int)} {h:AH} {Q:Value→AH→Prop} (hv:Prods h v ps) (hl:ps.length≤30) (hp:2≤p∧p≤5) (ll:l.length≤9) (lr:r.length≤9) (al:allIn p l=true) (ar:allIn p r=true)
  (hN:1≤N∧N≤9) (hu:Ints h u l) (hz:Ints h z r) (hQ:∀ n full h',h.length≤n→h<+:h'→Lst h' n (gen N (stM p l r ps ps.length)) full→Q (sl n N) h'):WF S 164 [I64 p,v,I64 N,u,z] h Q:=by
 refine WF_fn (fn:=c164) rfl rfl ?_
 dsimp only[c164,oO,oM,oS,oG,oK,oE,oL,oF,oX,oN]
 ((try simp (maxSteps:=3000000) (dsimp:=false) (disch:=first|omega|simp only[lnx];omega) only[↓ypre,ypost,↓reduceIte,reduceEqDiff,reduceAdd,reduceSub,reduceLeDiff,zz0,ynew,mks_gen (N:=N) (h:=h) (by omega)]);try simp only[yback])
 generalize hH1:AH.new h _=H1
 obtain⟨hb1,p1,n1⟩:=new_facts hH1
 have lo0:Lst H1 h.length (gen N (stM p l r ps 0)) true:=hb1
 have z27:=zeros27
 ((try simp (maxSteps:=3000000) (dsimp:=false) (disch:=first|omega|simp only[lnx];omega) only[↓ypre,ypost,↓reduceIte,reduceEqDiff,reduceAdd,reduceSub,reduceLeDiff,zz0,ynew,hv.1.len]);try simp only[yback])
 refine WC_loop_inv (fun m f K1=>∃ (t:Nat),m=ps.length-t∧t≤ps.length∧f 0=I64 p∧f 3=u∧f 4=z∧f 11=sl h.length N∧f 18=v∧f 19=I64 ps.length∧f 20=I64 t∧(h<+:K1)∧(Lst K1 h.length (gen N (stM p l r ps t)) true)) ?_ (ps.length-0) _ _ ⟨0,rfl,by omega,(by first|rfl|simp[upd_apply]),(by first|rfl|simp[upd_apply]),(by first|rfl|simp[upd_apply]),(by first|rfl|simp[upd_apply]),(by first|rfl|simp[upd_apply]),(by first|rfl|simp[upd_apply]),(by first|rfl|simp[upd_apply]),p1,lo0⟩
 rintro m f K1 ⟨t,rfl,ht,f0,f3,f4,f11,f18,f19,f20,pp,lo⟩
 have kh:=pre_len pp
 have klt:=lo.lt
 by_cases hlt:(t:Int)<ps.length
 ·have hj':t<ps.length:=by omega
  have hvK:=hv.pre pp
  obtain⟨n5',off5,hix,hrn,hr1⟩:=hvK.1.at hj'
  have r27:=hrn 0 27 (by omega)
  have wi:=hvK.1.wid hj'
  have hby:=hvK.by hj'
  have tk:(ps.getD t []).take 27=ps.getD t []:=List.take_of_length_le (by omega)
  rw[List.drop_zero,tk,Nat.add_zero] at r27
  have sin:=stM_in hp hv.2 hvK.1.widL ll lr al ar (t:=t) ht
  have stn:∀ j,stM p l r ps (t+1) j=(stM p l r ps t j+(ps.getD t []).getD (18+j) 0*valI p l r (ps.getD t [])).tmod p:=fun _=>rfl
  generalize hq:ps.getD t []=q at *
  have w1:∀ (h1:AH) (e:TypeId),(h1.new ⟨[.int .u8 0,.int .u8 0,.int .u8 0,.int .u8 0,.int .u8 0,.int .u8 0,.int .u8 0,.int .u8 0,.int .u8 0,.int .u8 0,.int .u8 0,.int .u8 0,.int .u8 0,.int .u8 0,.int .u8 0,.int .u8 0,.int .u8 0,.int .u8 0,.int .u8 0,.int .u8 0,.int .u8 0,.int .u8 0,.int .u8 0,.int .u8 0,.int .u8 0,.int .u8 0,.int .u8 0],e,false,true⟩).wr h1.length 0 (cel .u8 q)=some (h1.new ⟨cel .u8 q,e,false,true⟩):=fun h1 e=>wr_all (by rw[cel_len,wi];rfl)
  ((try simp (maxSteps:=3000000) (dsimp:=false) (disch:=first|omega|simp only[lnx];omega) only[↓ypre,ypost,↓reduceIte,reduceEqDiff,reduceAdd,reduceSub,reduceLeDiff,zz0,ynew,f0,f3,f4,f11,f18,f19,f20,decide_eq_true hlt,hix,r27,cel_all,cellsL_cel,cel_len,wi,↓w1,cel_take,tk,wrap64_in]);try simp only[yback])
  have s0:Value.agg (cel .u8 (q.take 9)).toArray=aggV .u8 (seg q 0):=by simp[aggV,seg]
  have s1:Value.agg (cel .u8 ((q.drop 9).take 9)).toArray=aggV .u8 (seg q 1):=by simp[aggV,seg]
  rw[s0]
  generalize hH3:AH.new K1 _=H3
  obtain⟨hb3,p3,n3⟩:=new_facts hH3
  refine i_atF (hby.seg (by omega)) (hu.pre (pp.trans p3)) ll al hp fun H4 p4=>?_
  have hb4:=pre_get p4 hb3
  refine⟨p4,?_⟩
  ((try simp (maxSteps:=3000000) (dsimp:=false) (disch:=first|omega|simp only[lnx];omega) only[↓ypre,ypost,↓reduceIte,reduceEqDiff,reduceAdd,reduceSub,reduceLeDiff,zz0,ynew,f0,f3,f4,f11,f18,f19,f20,rdn_of hb4,cel_len,wi,cel_drop,cel_take]);try simp only[yback])
  rw[s1]
  refine i_atF (hby.seg (by omega)) (hz.pre (pp.trans (p3.trans p4))) lr ar hp fun H5 p5=>?_
  have p35:=p3.trans (p4.trans p5)
  have hb5:=pre_get p5 hb4
  have vin:=valI_in hp hby ll lr al ar
  have evq:(dot (seg q 0) l l.length).tmod p*(dot (seg q 1) r r.length).tmod p=valI p l r q:=rfl
  have l5:=lo.pre p35
  have k5:=pre_len p35
  ((try simp (maxSteps:=3000000) (dsimp:=false) (disch:=first|omega|simp only[lnx];omega) only[↓ypre,ypost,↓reduceIte,reduceEqDiff,reduceAdd,reduceSub,reduceLeDiff,zz0,ynew,f0,f3,f4,f11,f18,f19,f20,wrap64_in,evq,show lenV (sl h.length N)=some (I64 N) from rfl]);try simp only[yback])
  have mx0:gen N (stM p l r ps t)=gen N fun j=>if j<0 then stM p l r ps (t+1) j else stM p l r ps t j:=gen_congr fun j _=>by rw[if_neg (by omega)]
  rw[mx0] at l5
  refine WC_loop_inv (fun m f K2=>∃ (c:Nat),m=N-c∧c≤N∧f 0=I64 p∧f 3=u∧f 4=z∧f 11=sl h.length N∧f 18=v∧f 19=I64 ps.length∧f 20=I64 t∧f 13=.pointer (some ⟨K1.length,0,none⟩)∧f 14=I64 (valI p l r q)∧f 36=I64 N∧f 37=I64 c∧(h<+:K2)∧(Lst K2 h.length (gen N fun j=>if j<c then stM p l r ps (t+1) j else stM p l r ps t j) true)∧(∃ e,K2.get K1.length=some ⟨cel .u8 q,e,false,true⟩)) ?_ (N-0) _ _ ⟨0,rfl,by omega,(by first|rfl|exact f0|(simp[upd_apply];done)),(by first|rfl|exact f3|(simp[upd_apply];done)),(by first|rfl|exact f4|(simp[upd_apply];done)),(by first|rfl|exact f11|(simp[upd_apply];done)),(by first|rfl|exact f18|(simp[upd_apply];done)),(by first|rfl|exact f19|(simp[upd_apply];done)),(by first|rfl|exact f20|(simp[upd_apply];done)),(by first|rfl|simp[upd_apply]),(by first|rfl|simp[upd_apply]),(by first|rfl|simp[upd_apply]),(by first|rfl|simp[upd_apply]),pp.trans p35,l5,⟨_,hb5⟩⟩
  rintro m f K2 ⟨c,rfl,hc,f0,f3,f4,f11,f18,f19,f20,f13,f14,f36,f37,p2,l2,b2⟩
  obtain⟨e2,b2⟩:=b2
  by_cases hlc:(c:Int)<N
  ·have hc':c<N:=by omega
   have ixd:ixsV 1 (sl h.length N) (I64 c)=some (.pointer (some ⟨h.length,c,none⟩)):=by
    rw[Lst.ix (by omega),Int.toNat_natCast]
   have rd:=l2.rd (j:=c) (by rw[gen_len];exact hc')
   rw[gen_get hc',if_neg (Nat.lt_irrefl _)] at rd
   have g1:=cel_get (k:=.u8) (q:=q) (j:=18+c) (by omega)
   have ixa:=ixa_u (n:=K1.length) (off:=18) (len:=9) (kk:=.i64) (j:=c) (by omega)
   have c1:=hby.2 (18+c) (by omega)
   have c2:=sin c (by omega)
   have c3:=Int.mul_nonneg c1.1 vin.1
   have c4:q.getD (18+c) 0*valI p l r q≤255*16:=Int.le_trans (Int.mul_le_mul_of_nonneg_right c1.2 vin.1) (Int.mul_le_mul_of_nonneg_left vin.2 (by decide))
   obtain⟨H6,w6,e6,l6⟩:=l2.wr (j:=c) (x:=(stM p l r ps t c+q.getD (18+c) 0*valI p l r q).tmod p) (by rw[gen_len];exact hc')
   rw[gen_set hc' _ (by rw[stn])] at l6
   ((try simp (maxSteps:=3000000) (dsimp:=false) (disch:=first|omega|simp only[lnx];omega) only[↓ypre,ypost,↓reduceIte,reduceEqDiff,reduceAdd,reduceSub,reduceLeDiff,zz0,ynew,f0,f3,f4,f11,f18,f19,f20,f13,f14,f36,f37,decide_eq_true hlc,ixd,rd,ixa,rd1_of b2,g1,wrap64_in,bin_rem (show p≠0 by omega),w6]);try simp only[yback])
   have b6:∃ e,H6.get K1.length=some ⟨cel .u8 q,e,false,true⟩:=⟨e2,by rw[e6,get_put_ne (by omega)];exact b2⟩
   refine InvQ_go (N-(c+1)) (by omega) ⟨(c+1),rfl,by omega,(by first|rfl|exact f0|(simp only[upd_apply];rfl)|(show I64 _=_;congr 1;omega)),(by first|rfl|exact f3|(simp only[upd_apply];rfl)|(show I64 _=_;congr 1;omega)),(by first|rfl|exact f4|(simp only[upd_apply];rfl)|(show I64 _=_;congr 1;omega)),(by first|rfl|exact f11|(simp only[upd_apply];rfl)|(show I64 _=_;congr 1;omega)),(by first|rfl|exact f18|(simp only[upd_apply];rfl)|(show I64 _=_;congr 1;omega)),(by first|rfl|exact f19|(simp only[upd_apply];rfl)|(show I64 _=_;congr 1;omega)),(by first|rfl|exact f20|(simp only[upd_apply];rfl)|(show I64 _=_;congr 1;omega)),(by first|rfl|exact f13|(simp only[upd_apply];rfl)|(show I64 _=_;congr 1;omega)),(by first|rfl|exact f14|(simp only[upd_apply];rfl)|(show I64 _=_;congr 1;omega)),(by first|rfl|exact f36|(simp only[upd_apply];rfl)|(show I64 _=_;congr 1;omega)),(by first|rfl|exact f37|(simp only[upd_apply];rfl)|(show I64 _=_;congr 1;omega)),(by rw[e6];exact pre_put p2 (Nat.le_refl _)),l6,b6⟩
  have ec:c=N:=by omega
  subst ec
  ((try simp (maxSteps:=3000000) (dsimp:=false) (disch:=first|omega|simp only[lnx];omega) only[↓ypre,ypost,↓reduceIte,reduceEqDiff,reduceAdd,reduceSub,reduceLeDiff,zz0,ynew,f0,f3,f4,f11,f18,f19,f20,f13,f14,f36,f37,decide_eq_false hlc,wrap64_in]);try simp only[yback])
  rw[gen_congr (g':=stM p l r ps (t+1)) (fun j hj=>by rw[if_pos hj])] at l2
  refine InvQ_go (ps.length-(t+1)) (by omega) ⟨(t+1),rfl,by omega,(by first|rfl|exact f0|(simp only[upd_apply];rfl)|(show I64 _=_;congr 1;omega)),(by first|rfl|exact f3|(simp only[upd_apply];rfl)|(show I64 _=_;congr 1;omega)),(by first|rfl|exact f4|(simp only[upd_apply];rfl)|(show I64 _=_;congr 1;omega)),(by first|rfl|exact f11|(simp only[upd_apply];rfl)|(show I64 _=_;congr 1;omega)),(by first|rfl|exact f18|(simp only[upd_apply];rfl)|(show I64 _=_;congr 1;omega)),(by first|rfl|exact f19|(simp only[upd_apply];rfl)|(show I64 _=_;congr 1;omega)),(by first|rfl|exact f20|(simp only[upd_apply];rfl)|(show I64 _=_;congr 1;omega)),p2,l2⟩
 have et:t=ps.length:=by omega
 subst et
 ((try simp (maxSteps:=3000000) (dsimp:=false) (disch:=first|omega|simp only[lnx];omega) only[↓ypre,ypost,↓reduceIte,reduceEqDiff,reduceAdd,reduceSub,reduceLeDiff,zz0,ynew,f0,f3,f4,f11,f18,f19,f20,decide_eq_false hlt]);try simp only[yback])
 exact hQ _ _ _ (Nat.le_refl _) pp lo
theorem mcX_0 {x:Sch} {L R:List (List Int)} (h:mcX x L R=0):isX x=true∧isMat x.p x.m L=true∧(L.length:Int)=x.n∧isMat x.p x.k R=true∧(R.length:Int)=x.m:=by
 unfold mcX at h
 split at h
 ·rename_i h1
  split at h
  ·rename_i h2
   simp only[mOK,Bool.and_eq_true,decide_eq_true_eq] at h2
   exact⟨h1,h2.1.1,h2.1.2,h2.2.1,h2.2.2⟩
  ·omega
 ·omega
structure MF (x:Sch) (L R:List (List Int)) (n m k:Nat):Prop where
 en:x.n=n
 em:x.m=m
 ek:x.k=k
 b:1≤n∧n≤3∧1≤m∧m≤3∧1≤k∧k≤3
 nk:1≤n*k∧n*k≤9
 wL:Wid m L
 wR:Wid k R
 lL:L.length=n
 lR:R.length=m
 fL:L.flatten.length≤9
 fR:R.flatten.length≤9
 aL:allIn x.p L.flatten=true
 aR:allIn x.p R.flatten=true
 hm:isMat x.p m L=true
 hr:isMat x.p k R=true
theorem mf_of {x:Sch} {L R:List (List Int)} (h:mcX x L R=0):∃ n m k,MF x L R n m k:=by
 obtain⟨hx,m1,l1,m2,l2⟩:=mcX_0 h
 obtain⟨zz,hp,hl30,ho⟩:=isX_facts hx
 obtain⟨p,⟨n1,n2⟩,⟨k1,k2⟩,⟨j1,j2⟩,_,_,_⟩:=zz
 obtain⟨n,hn⟩:∃ n:Nat,x.n=n:=⟨x.n.toNat,by omega⟩
 obtain⟨m,hm⟩:∃ m:Nat,x.m=m:=⟨x.m.toNat,by omega⟩
 obtain⟨k,hk⟩:∃ k:Nat,x.k=k:=⟨x.k.toNat,by omega⟩
 rw[hm] at m1
 rw[hk] at m2
 have wL:=isMat_wid m1
 have wR:=isMat_wid m2
 have b1:n*m≤3*3:=Nat.mul_le_mul (by omega) (by omega)
 have b2:m*k≤3*3:=Nat.mul_le_mul (by omega) (by omega)
 have b3:n*k≤3*3:=Nat.mul_le_mul (by omega) (by omega)
 have b4:1*1≤n*k:=Nat.mul_le_mul (by omega) (by omega)
 have lL:L.length=n:=by omega
 have lR:R.length=m:=by omega
 exact⟨n,m,k,hn,hm,hk,by omega,by omega,wL,wR,lL,lR,by rw[flat_len wL,lL];omega,by rw[flat_len wR,lR];omega,allIn_flat m1,allIn_flat m2,m1,m2⟩
def mpF (x:Sch) (L R:List (List Int)):List (List Int):=parts (gen (x.n*x.k).toNat (stM x.p L.flatten R.flatten x.ps x.ps.length)) x.k.toNat x.n.toNat
def mpR (x:Sch) (L R:List (List Int)):List (List Int)×Int:=if mcX x L R=0 then (mpF x L R,0) else ([],mcX x L R)
theorem i_MakeProduct {v u z:Value} {x:Sch} {L R:List (List Int)} {h:AH} {Q:Value→AH→Prop} (hv:Prods h v x.ps) (hl:SmallX x.ps) (hu:Rows h u L) (hL:SmallM L) (hz:Rows h z R) (hR:SmallM R)
  (hQ:∀ v' h',h<+:h'→OwnRows h h' v' (mpR x L R).1→Q (.tuple #[v',I64 (mpR x L R).2]) h'):WF S 21 [schV x v,u,z] h Q:=by
 refine WF_fn (fn:=c21) rfl rfl ?_
 dsimp only[c21,oO,oM,oS,oG,oK,oE,oL,oF,oX,oN]
 ((try simp (maxSteps:=3000000) (dsimp:=false) (disch:=first|omega|simp only[lnx];omega) only[↓ypre,ypost,↓reduceIte,reduceEqDiff,reduceAdd,reduceSub,reduceLeDiff,zz0,ynew,schV,hv.one]);try simp only[yback])
 generalize hH1:AH.new h _=H1
 obtain⟨hb1,p1,n1⟩:=new_facts hH1
 ((try simp (maxSteps:=3000000) (dsimp:=false) (disch:=first|omega|simp only[lnx];omega) only[↓ypre,ypost,↓reduceIte,reduceEqDiff,reduceAdd,reduceSub,reduceLeDiff,zz0,ynew,rdn_of hb1]);try simp only[yback])
 refine i_matricesCode (x:=x) (hv.pre p1) hl (hu.pre p1) hL (hz.pre p1) hR fun H2 p2=>?_
 have p12:=p1.trans p2
 have hb2:=pre_get p2 hb1
 unfold mpR at hQ
 by_cases hc:mcX x L R=0
 case neg=>
  rw[if_neg hc] at hQ
  ((try simp (maxSteps:=3000000) (dsimp:=false) (disch:=first|omega|simp only[lnx];omega) only[↓ypre,ypost,↓reduceIte,reduceEqDiff,reduceAdd,reduceSub,reduceLeDiff,zz0,ynew,decide_eq_true (show mcX x L R≠0 from hc)]);try simp only[yback])
  exact hQ _ _ p12 (.inl ⟨rfl,rfl⟩)
 rw[if_pos hc] at hQ
 obtain⟨hx,_⟩:=mcX_0 hc
 obtain⟨zz,hp,hl30,ho⟩:=isX_facts hx
 have hp5:=isP_in hp
 obtain⟨n,m,k,mf⟩:=mf_of hc
 have b:=mf.b
 have nk:=mf.nk
 have lL:=mf.lL
 have lR:=mf.lR
 ((try simp (maxSteps:=3000000) (dsimp:=false) (disch:=first|omega|simp only[lnx];omega) only[↓ypre,ypost,↓reduceIte,reduceEqDiff,reduceAdd,reduceSub,reduceLeDiff,zz0,ynew,decide_eq_false (show ¬ mcX x L R≠0 from fun y=>y hc),rd1_of hb2]);try simp only[yback])
 refine i_Concat (hu.pre p12) mf.wL (by omega) (by omega) fun nl fl H3 e3 p3 o3=>?_
 refine⟨p3,?_⟩
 ((try simp (maxSteps:=3000000) (dsimp:=false) (disch:=first|omega|simp only[lnx];omega) only[↓ypre,ypost,↓reduceIte,reduceEqDiff,reduceAdd,reduceSub,reduceLeDiff,zz0,ynew]);try simp only[yback])
 refine i_Concat (hz.pre (p12.trans p3)) mf.wR (by omega) (by omega) fun nr fr H4 e4 p4 o4=>?_
 refine⟨p4,?_⟩
 have enk:IntKind.i64.wrap (x.n*x.k)=((n*k:Nat):Int):=by
  rw[mf.en,mf.ek,←Int.natCast_mul,wrap64_in (by omega) (by omega)]
 ((try simp (maxSteps:=3000000) (dsimp:=false) (disch:=first|omega|simp only[lnx];omega) only[↓ypre,ypost,↓reduceIte,reduceEqDiff,reduceAdd,reduceSub,reduceLeDiff,zz0,ynew,enk]);try simp only[yback])
 have p14:=p12.trans (p3.trans p4)
 refine i_makes (N:=n*k) (hv.pre p14) hl30 hp5 mf.fL mf.fR mf.aL mf.aR nk (o3.pre p4).ints o4.ints fun no fo H5 e5 p5 o5=>?_
 refine⟨p5,?_⟩
 have hb5:=pre_get (p3.trans (p4.trans p5)) hb2
 ((try simp (maxSteps:=3000000) (dsimp:=false) (disch:=first|omega|simp only[lnx];omega) only[↓ypre,ypost,↓reduceIte,reduceEqDiff,reduceAdd,reduceSub,reduceLeDiff,zz0,ynew,rd1_of hb5]);try simp only[yback])
 rw[mf.ek]
 have gl:=gen_len (N:=n*k) (g:=stM x.p L.flatten R.flatten x.ps x.ps.length)
 have oi:=o5.ints
 rw[gl] at oi
 refine i_parted (w:=k) (n:=n) oi (by omega) (by omega) (by omega) fun v6 H6 p6 o6=>?_
 ((try simp (maxSteps:=3000000) (dsimp:=false) (disch:=first|omega|simp only[lnx];omega) only[↓ypre,ypost,↓reduceIte,reduceEqDiff,reduceAdd,reduceSub,reduceLeDiff,zz0,ynew]);try simp only[yback])
 have eF:parts (gen (n*k) (stM x.p L.flatten R.flatten x.ps x.ps.length)) k n=mpF x L R:=by
  unfold mpF
  rw[mf.en,mf.ek,←Int.natCast_mul,Int.toNat_natCast,Int.toNat_natCast,Int.toNat_natCast]
 rw[eF] at o6
 have pp:=p14.trans p5
 exact hQ _ _ (pp.trans p6) (o6.lo (pre_len pp))
end Go.Proofs.Ytapafdpnmakekaa.X

set_option linter.unusedVariables false
set_option linter.unusedSimpArgs false
set_option maxRecDepth 20000
set_option maxHeartbeats 4000000
namespace Go.Proofs.Ytapafdpnmakekaa.X
open Go Go.RowKit
section
variable {bs:List Nat} {n k:Nat} {g g':Nat→Nat→Int}
end
end Go.Proofs.Ytapafdpnmakekaa.X

set_option linter.unusedVariables false
set_option linter.unusedSimpArgs false
set_option maxRecDepth 20000
set_option maxHeartbeats 4000000
namespace Go.Proofs.Ytapafdpnmakekaa.X
open Go Go.RowKit
open Nat (reduceEqDiff reduceAdd reduceSub reduceLeDiff)
theorem runP_in {x:Prg} {h:AH} {v w:Value} (f:PrgF x) (hv:PrgR h v w x) {ns:List Int} (hn:allIn x.p ns=true) (hl:(ns.length:Int)=x.n):allIn x.p (runP x ns)=true:=by
 have vin:=valS_in f hv hn hl (i:=x.st.length) (Nat.le_refl _)
 have key:∀ {i:Nat},i≤x.out.length→allIn x.p (outS x.p x.out (valS x.p x.st ns x.st.length) i)=true:=by
  intro i
  induction i with
  | zero=>intro _;rfl
  | succ i ih=>
   intro hi
   refine allIn_app (ih (by omega)) ?_
   obtain⟨a,b,hq⟩:=all2 (hv.2.wid (show i<x.out.length by omega))
   have o2:=f.out2 (by omega) hq
   have fp:=f.p
   rw[hq]
   have hA:=allIn_iff.1 vin a.toNat (by rw[valS_len];omega)
   have m:=Int.mul_nonneg o2.2.2.1 hA.1
   exact tmod_nn m (by omega)
 exact key (Nat.le_refl _)
theorem pgX_facts {h:AH} {v:Value} {x:Sch} {b:Bool} (hv:Prods h v x.ps) (hx:isX x=true) (h0:1≤x.ps.length) {i:Nat} (hi:i<3) :
  (pgX x b i).p=x.p∧(pgX x b i).n=nuX x i∧(pgX x b i).out.length=(fmX x i).length:=by
 have ok:=fmX_ok hv hx h0 hi
 obtain⟨hp,hn,hl,hm⟩:=lsOK_iff.1 ok
 unfold pgX pgO
 cases b with
 | true=>
  rw[if_pos rfl]
  have si:=shS_facts ok
  have nz:=si.nz
  have f:=finP_facts (x:=⟨x.p,nuX x i,(shS x.p (fmX x i)).st,[]⟩) (rows:=(shS x.p (fmX x i)).T) (N:=10000) hp (fun j hj=>by
   obtain⟨g1,g2⟩:=si.gt j hj
   exact⟨allIn_iff.2 fun k hk=>g2 k (by omega),by omega⟩) hn (i:=(shS x.p (fmX x i)).T.length) (Nat.le_refl _)
  have len:=si.len
  simp only[List.length_nil,Nat.zero_add] at f
  exact⟨f.1,f.2.1,f.2.2.2.trans len⟩
 | false=>
  rw[if_neg (by decide)]
  have f:=finP_facts (x:=⟨x.p,nuX x i,[],[]⟩) (rows:=fmX x i) (N:=30) hp (fun j hj=>⟨(isMat_iff.1 hm j hj).2,by have:=(isMat_iff.1 hm j hj).1;omega⟩) hn (i:=(fmX x i).length) (Nat.le_refl _)
  simp only[List.length_nil,Nat.zero_add] at f
  exact⟨f.1,f.2.1,f.2.2.2⟩
theorem fmX_len {x:Sch} {n k:Nat} (en:x.n=n) (ek:x.k=k):(fmX x 0).length=x.ps.length∧(fmX x 1).length=x.ps.length∧(fmX x 2).length=n*k:=by
 refine⟨?_,?_,?_⟩
 ·show (lsF x 0 _).length=_
  exact lsF_len
 ·show (lsF x 1 _).length=_
  exact lsF_len
 ·show (trL (lsF x 2 (x.n*x.k).toNat) (x.n*x.k).toNat).length=_
  rw[trL_len,en,ek,←Int.natCast_mul,Int.toNat_natCast]
def rsC (x:Sch) (L R:List (List Int)):Int:=if isX x=true then (if mOK x L R=true then (if x.ps.length=0 then 5 else 0) else 2) else 1
def prX (x:Sch) (b:Bool) (L R:List (List Int)) (j:Nat):Int:=((runP (pgX x b 0) L.flatten).getD j 0*(runP (pgX x b 1) R.flatten).getD j 0).tmod x.p
def rsF (x:Sch) (b:Bool) (L R:List (List Int)):List (List Int):=parts (runP (pgX x b 2) (gen x.ps.length (prX x b L R))) x.k.toNat x.n.toNat
def rsR (x:Sch) (b:Bool) (L R:List (List Int)):List (List Int)×Int:=if rsC x L R=0 then (rsF x b L R,0) else ([],rsC x L R)
structure RF (x:Sch) (b:Bool) (L R:List (List Int)) (n m k:Nat):Prop where
 mf:MF x L R n m k
 h0:1≤x.ps.length∧x.ps.length≤30
 p:2≤x.p∧x.p≤5
 f:∀ i,i<3→PrgF (pgX x b i)
 ep:∀ i,i<3→(pgX x b i).p=x.p
 n0:((L.flatten.length:Nat):Int)=(pgX x b 0).n
 n1:((R.flatten.length:Nat):Int)=(pgX x b 1).n
 n2:(x.ps.length:Int)=(pgX x b 2).n
 o0:(runP (pgX x b 0) L.flatten).length=x.ps.length
 o1:(runP (pgX x b 1) R.flatten).length=x.ps.length
 o2:∀ ns,(runP (pgX x b 2) ns).length=n*k
theorem rf_of {h:AH} {v:Value} {x:Sch} {b:Bool} {L R:List (List Int)} (hv:Prods h v x.ps) (hc:rsC x L R=0):isX x=true∧mcX x L R=0∧∃ n m k,RF x b L R n m k:=by
 have hx:isX x=true:=by
  unfold rsC at hc
  split at hc
  ·assumption
  ·omega
 have hm:mOK x L R=true:=by
  unfold rsC at hc
  rw[if_pos hx] at hc
  split at hc
  ·assumption
  ·omega
 have h0:¬ x.ps.length=0:=fun e=>by
  unfold rsC at hc
  rw[if_pos hx,if_pos hm,if_pos e] at hc
  omega
 have hmc:mcX x L R=0:=by
  unfold mcX
  rw[if_pos hx,if_pos hm]
 obtain⟨n,m,k,mf⟩:=mf_of hmc
 obtain⟨zz,hp,hl30,ho⟩:=isX_facts hx
 have h0':1≤x.ps.length:=by omega
 have pf:=fun i (hi:i<3)=>pgX_facts (b:=b) hv hx h0' hi
 obtain⟨l0,l1,l2⟩:=fmX_len mf.en mf.ek
 refine⟨hx,hmc,n,m,k,mf,⟨h0',hl30⟩,isP_in hp,fun i hi=>isPrg_facts (pgX_isPrg hv hx h0' hi),fun i hi=>(pf i hi).1,?_,?_,?_,?_,?_,fun ns=>?_⟩
 ·rw[(pf 0 (by omega)).2.1,flat_len mf.wL,mf.lL]
  show _=pl x 0
  unfold pl
  simp[mf.en,mf.em]
 ·rw[(pf 1 (by omega)).2.1,flat_len mf.wR,mf.lR]
  show _=pl x 1
  unfold pl
  simp[mf.em,mf.ek]
 ·rw[(pf 2 (by omega)).2.1]
  rfl
 ·rw[runP_len,(pf 0 (by omega)).2.2,l0]
 ·rw[runP_len,(pf 1 (by omega)).2.2,l1]
 ·rw[runP_len,(pf 2 (by omega)).2.2,l2]
theorem RF.in0 {x:Sch} {b:Bool} {L R:List (List Int)} {n m k:Nat} (o:RF x b L R n m k) {h:AH} {v w:Value} (hv:PrgR h v w (pgX x b 0)):allIn x.p (runP (pgX x b 0) L.flatten)=true:=by
 have e:=o.ep 0 (by omega)
 have:=runP_in (o.f 0 (by omega)) hv (by rw[e];exact o.mf.aL) o.n0
 rw[e] at this
 exact this
theorem RF.in1 {x:Sch} {b:Bool} {L R:List (List Int)} {n m k:Nat} (o:RF x b L R n m k) {h:AH} {v w:Value} (hv:PrgR h v w (pgX x b 1)):allIn x.p (runP (pgX x b 1) R.flatten)=true:=by
 have e:=o.ep 1 (by omega)
 have:=runP_in (o.f 1 (by omega)) hv (by rw[e];exact o.mf.aR) o.n1
 rw[e] at this
 exact this
theorem prX_in {x:Sch} {b:Bool} {L R:List (List Int)} (hp:2≤x.p∧x.p≤5) (h0:allIn x.p (runP (pgX x b 0) L.flatten)=true) (h1:allIn x.p (runP (pgX x b 1) R.flatten)=true) (l0:(runP (pgX x b 0) L.flatten).length=x.ps.length) (l1:(runP (pgX x b 1) R.flatten).length=x.ps.length) :
  (∀ j,j<x.ps.length→(0≤(runP (pgX x b 0) L.flatten).getD j 0*(runP (pgX x b 1) R.flatten).getD j 0∧(runP (pgX x b 0) L.flatten).getD j 0*(runP (pgX x b 1) R.flatten).getD j 0≤16)∧0≤prX x b L R j∧prX x b L R j<x.p)∧allIn x.p (gen x.ps.length (prX x b L R))=true:=by
 have key:∀ j,j<x.ps.length→(0≤(runP (pgX x b 0) L.flatten).getD j 0*(runP (pgX x b 1) R.flatten).getD j 0∧(runP (pgX x b 0) L.flatten).getD j 0*(runP (pgX x b 1) R.flatten).getD j 0≤16)∧0≤prX x b L R j∧prX x b L R j<x.p:=fun j hj=>by
  have a:=allIn_iff.1 h0 j (by omega)
  have c:=allIn_iff.1 h1 j (by omega)
  have m:=Int.mul_nonneg a.1 c.1
  have m2:(runP (pgX x b 0) L.flatten).getD j 0*(runP (pgX x b 1) R.flatten).getD j 0≤4*4:=Int.le_trans (Int.mul_le_mul_of_nonneg_right (show _≤(4:Int) by omega) c.1) (Int.mul_le_mul_of_nonneg_left (by omega) (by decide))
  exact⟨⟨m,by omega⟩,tmod_nn m (by omega)⟩
 exact⟨key,allIn_iff.2 fun j hj=>by
  rw[gen_len] at hj
  rw[gen_get hj]
  exact (key j hj).2⟩
theorem s_l07Joined {v:Value} {L:List (List Int)} {w:Nat} {h:AH} {Q:Value→AH→Prop} (hv:Rows h v L) (hw:Wid w L) (h1:1≤w∧w≤1000) (h2:L.length≤1000)
  (hQ:∀ n full h',h.length≤n→h<+:h'→Lst h' n L.flatten full→Q (sl n L.flatten.length) h'):WF S 263 [v] h Q:=by
 refine WF_fn (fn:=c263) rfl rfl ?_
 dsimp only[c263,oO,oM,oS,oG,oK,oE,oL,oF,oX,oN]
 have hwl:∀ i,i<L.length→(L.getD i []).length=w:=fun i hi=>hw _ (by rw[List.getD_eq_getElem?_getD,List.getElem?_eq_getElem hi];exact List.getElem_mem hi)
 have hLw:L.length*w≤1000*1000:=Nat.mul_le_mul h2 h1.2
 ((try simp (maxSteps:=3000000) (dsimp:=false) (disch:=first|omega|simp only[lnx];omega) only[↓ypre,ypost,↓reduceIte,reduceEqDiff,reduceAdd,reduceSub,reduceLeDiff,zz0,ynew]);try simp only[yback])
 generalize hH1:AH.new h _=H1
 obtain⟨hb1,p1,n1⟩:=new_facts hH1
 have l0:Lst H1 h.length (L.take 0).flatten true:=hb1
 refine WC_loop_inv (fun m f K1=>∃ (i:Nat) (kn:Nat) (fu:Bool),m=L.length-i∧i≤L.length∧f 0=v∧f 3=sl kn (L.take i).flatten.length∧f 4=I64 i∧(h<+:K1)∧(Lst K1 kn (L.take i).flatten fu)∧(h.length≤kn)) ?_ (L.length-0) _ _ ⟨0,h.length,true,rfl,by omega,(by first|rfl|simp[upd_apply]),(by first|rfl|simp[upd_apply]),(by first|rfl|simp[upd_apply]),p1,l0,Nat.le_refl _⟩
 rintro m f K1 ⟨i,kn,fu,rfl,hi,f0,f3,f4,pp,lo,hk⟩
 by_cases hlt:(i:Int)<L.length
 ·have hi':i<L.length:=by omega
  obtain⟨n0,off0,x0,hix0,hrd0,i0⟩:=(hv.pre pp).row hi'
  have et:(L.take i).flatten++L.getD i []=(L.take (i+1)).flatten:=by
   rw[take_next (d:=[]) hi',List.flatten_append]
   simp
  have lt:(L.take i).flatten.length=i*w:=by
   rw[flat_len (fun q hq=>hw q (List.mem_of_mem_take hq)),List.length_take,Nat.min_eq_left (by omega)]
  have hm:=mul_row (w:=w) hi'
  have hwi:=hwl i hi'
  ((try simp (maxSteps:=3000000) (dsimp:=false) (disch:=first|omega|simp only[lnx];omega) only[↓ypre,ypost,↓reduceIte,reduceEqDiff,reduceAdd,reduceSub,reduceLeDiff,zz0,ynew,f0,f3,f4,hv.len,decide_eq_true hlt,hix0,hrd0]);try simp only[yback])
  refine lo.appL i0 (by omega) (by omega) fun H5 l5 pre5 lo5=>?_
  rw[et] at lo5 ⊢
  ((try simp (maxSteps:=3000000) (dsimp:=false) (disch:=first|omega|simp only[lnx];omega) only[↓ypre,ypost,↓reduceIte,reduceEqDiff,reduceAdd,reduceSub,reduceLeDiff,zz0,ynew,f0,f3,f4,wrap64_in]);try simp only[yback])
  refine InvQ_go (L.length-(i+1)) (by omega) ⟨(i+1),K1.length,false,rfl,by omega,(by first|rfl|exact f0|(simp only[upd_apply];rfl)|(show I64 _=_;congr 1;omega)),(by first|rfl|exact f3|(simp only[upd_apply];rfl)|(show I64 _=_;congr 1;omega)),(by first|rfl|exact f4|(simp only[upd_apply];rfl)|(show I64 _=_;congr 1;omega)),(pre5 _ hk pp),lo5,(by have:=pre_len pp;omega)⟩
 have ei:i=L.length:=by omega
 subst ei
 rw[List.take_of_length_le (Nat.le_refl _)] at lo f3
 ((try simp (maxSteps:=3000000) (dsimp:=false) (disch:=first|omega|simp only[lnx];omega) only[↓ypre,ypost,↓reduceIte,reduceEqDiff,reduceAdd,reduceSub,reduceLeDiff,zz0,ynew,f0,f3,f4,hv.len,decide_eq_false hlt]);try simp only[yback])
 exact hQ _ _ _ hk pp lo
theorem rsC_mc {x:Sch} {L R:List (List Int)} (h:mcX x L R≠0):rsC x L R=mcX x L R:=by
 unfold rsC mcX at *
 by_cases h1:isX x=true
 ·rw[if_pos h1] at h ⊢
  rw[if_pos h1]
  by_cases h2:mOK x L R=true
  ·rw[if_pos h2] at h
   exact absurd rfl h
  ·rw[if_neg h2,if_neg h2]
 ·rw[if_neg h1,if_neg h1]
theorem rsC_5 {x:Sch} {L R:List (List Int)} (h:mcX x L R=0):rsC x L R=if x.ps.length=0 then 5 else 0:=by
 obtain⟨h1,_⟩:=mcX_0 h
 unfold rsC
 unfold mcX at h
 rw[if_pos h1] at h ⊢
 by_cases h2:mOK x L R=true
 ·rw[if_pos h2]
 ·rw[if_neg h2] at h
  omega
theorem i_RunScheme {v u z:Value} {x:Sch} {b:Bool} {L R:List (List Int)} {h:AH} {Q:Value→AH→Prop} (hv:Prods h v x.ps) (hl:SmallX x.ps) (hu:Rows h u L) (hL:SmallM L) (hz:Rows h z R) (hR:SmallM R)
  (hQ:∀ v' h',h<+:h'→OwnRows h h' v' (rsR x b L R).1→Q (.tuple #[v',I64 (rsR x b L R).2]) h'):WF S 23 [schV x v,.bool b,u,z] h Q:=by
 refine WF_fn (fn:=c23) rfl rfl ?_
 dsimp only[c23,oO,oM,oS,oG,oK,oE,oL,oF,oX,oN]
 ((try simp (maxSteps:=3000000) (dsimp:=false) (disch:=first|omega|simp only[lnx];omega) only[↓ypre,ypost,↓reduceIte,reduceEqDiff,reduceAdd,reduceSub,reduceLeDiff,zz0,ynew,schV,hv.one]);try simp only[yback])
 generalize hH1:AH.new h _=H1
 obtain⟨hb1,p1,n1⟩:=new_facts hH1
 ((try simp (maxSteps:=3000000) (dsimp:=false) (disch:=first|omega|simp only[lnx];omega) only[↓ypre,ypost,↓reduceIte,reduceEqDiff,reduceAdd,reduceSub,reduceLeDiff,zz0,ynew,rdn_of hb1]);try simp only[yback])
 refine i_matricesCode (x:=x) (hv.pre p1) hl (hu.pre p1) hL (hz.pre p1) hR fun H2 p2=>?_
 have p12:=p1.trans p2
 have hb2:=pre_get p2 hb1
 have no:∀ c,rsC x L R=c→c≠0→Q (.tuple #[.slice none 0 0,I64 c]) H2:=fun c e hc=>by
  unfold rsR at hQ
  rw[if_neg (by omega),e] at hQ
  exact hQ _ _ p12 (.inl ⟨rfl,rfl⟩)
 by_cases hc:mcX x L R=0
 case neg=>
  ((try simp (maxSteps:=3000000) (dsimp:=false) (disch:=first|omega|simp only[lnx];omega) only[↓ypre,ypost,↓reduceIte,reduceEqDiff,reduceAdd,reduceSub,reduceLeDiff,zz0,ynew,decide_eq_true (show mcX x L R≠0 from hc)]);try simp only[yback])
  exact no _ (rsC_mc hc) hc
 have e5:=rsC_5 hc
 have hv2:=hv.pre p12
 ((try simp (maxSteps:=3000000) (dsimp:=false) (disch:=first|omega|simp only[lnx];omega) only[↓ypre,ypost,↓reduceIte,reduceEqDiff,reduceAdd,reduceSub,reduceLeDiff,zz0,ynew,decide_eq_false (show ¬ mcX x L R≠0 from fun y=>y hc),rd1_of hb2,hv2.1.len]);try simp only[yback])
 by_cases h0:x.ps.length=0
 ·rw[if_pos h0] at e5
  ((try simp (maxSteps:=3000000) (dsimp:=false) (disch:=first|omega|simp only[lnx];omega) only[↓ypre,ypost,↓reduceIte,reduceEqDiff,reduceAdd,reduceSub,reduceLeDiff,zz0,ynew,decide_eq_true (show (x.ps.length:Int)=0 by omega)]);try simp only[yback])
  exact no 5 e5 (by decide)
 rw[if_neg h0] at e5
 obtain⟨hx,_,n,m,k,rf⟩:=rf_of (b:=b) hv e5
 unfold rsR at hQ
 rw[if_pos e5] at hQ
 have mf:=rf.mf
 have bb:=mf.b
 have nk:=mf.nk
 have lL:=mf.lL
 have lR:=mf.lR
 have hp:=rf.p
 have hh0:=rf.h0
 ((try simp (maxSteps:=3000000) (dsimp:=false) (disch:=first|omega|simp only[lnx];omega) only[↓ypre,ypost,↓reduceIte,reduceEqDiff,reduceAdd,reduceSub,reduceLeDiff,zz0,ynew,decide_eq_false (show ¬ (x.ps.length:Int)=0 by omega),rdn_of hb2]);try simp only[yback])
 refine i_programsOf (x:=x) (b:=b) hv2 hx (by omega) fun nb q1 q2 H3 v1 w1 v2 w2 v3 w3 p3 g i0 i1 i2 i3=>?_
 have o3:Pr3 H3 nb x b v1 w1 v2 w2 v3 w3:=⟨g,i1.rd,i2.rd,i3.rd⟩
 have p13:=p12.trans p3
 obtain⟨y0,z0,_,r0,pr0⟩:=o3.at (i:=0) (by omega)
 have x0:ixsV 4 (.slice (some ⟨nb,0,none⟩) 3 4) (.int .i64 0)=some (.pointer (some ⟨nb,0,none⟩)):=ix4 (nb:=nb) (len:=3) (i:=0) (kk:=.i64) (by omega)
 have x1:ixsV 4 (.slice (some ⟨nb,0,none⟩) 3 4) (.int .i64 1)=some (.pointer (some ⟨nb,4,none⟩)):=ix4 (nb:=nb) (len:=3) (i:=1) (kk:=.i64) (by omega)
 have x2:ixsV 4 (.slice (some ⟨nb,0,none⟩) 3 4) (.int .i64 2)=some (.pointer (some ⟨nb,8,none⟩)):=ix4 (nb:=nb) (len:=3) (i:=2) (kk:=.i64) (by omega)
 have r0:H3.rdn nb 0 4=some (prgC (pgX x b 0) y0 z0):=r0
 ((try simp (maxSteps:=3000000) (dsimp:=false) (disch:=first|omega|simp only[lnx];omega) only[↓ypre,ypost,↓reduceIte,reduceEqDiff,reduceAdd,reduceSub,reduceLeDiff,zz0,ynew,x0,r0]);try simp only[yback])
 refine i_Concat (hu.pre p13) mf.wL (by omega) (by omega) fun nl fl H4 e4 p4 o4=>?_
 refine⟨p4,?_⟩
 ((try simp (maxSteps:=3000000) (dsimp:=false) (disch:=first|omega|simp only[lnx];omega) only[↓ypre,ypost,↓reduceIte,reduceEqDiff,reduceAdd,reduceSub,reduceLeDiff,zz0,ynew]);try simp only[yback])
 have ea0:Value.agg (prgC (pgX x b 0) y0 z0).toArray=prgV (pgX x b 0) y0 z0:=rfl
 rw[ea0]
 refine i_run (pr0.pre p4) (rf.f 0 (by omega)) o4.ints (by rw[rf.ep 0 (by omega)];exact mf.aL) rf.n0 fun na fa H5 e5' p5 o5=>?_
 refine⟨p5,?_⟩
 have p35:=p4.trans p5
 obtain⟨y1,z1,_,r1,pr1⟩:=(o3.pre p35).at (i:=1) (by omega)
 have r1:AH.rdn H5 nb 4 4=some (prgC (pgX x b 1) y1 z1):=r1
 ((try simp (maxSteps:=3000000) (dsimp:=false) (disch:=first|omega|simp only[lnx];omega) only[↓ypre,ypost,↓reduceIte,reduceEqDiff,reduceAdd,reduceSub,reduceLeDiff,zz0,ynew,x1,r1]);try simp only[yback])
 refine i_Concat (hz.pre (p13.trans p35)) mf.wR (by omega) (by omega) fun nr fr H6 e6 p6 o6=>?_
 refine⟨p6,?_⟩
 ((try simp (maxSteps:=3000000) (dsimp:=false) (disch:=first|omega|simp only[lnx];omega) only[↓ypre,ypost,↓reduceIte,reduceEqDiff,reduceAdd,reduceSub,reduceLeDiff,zz0,ynew]);try simp only[yback])
 have ea1:Value.agg (prgC (pgX x b 1) y1 z1).toArray=prgV (pgX x b 1) y1 z1:=rfl
 rw[ea1]
 refine i_run (pr1.pre p6) (rf.f 1 (by omega)) o6.ints (by rw[rf.ep 1 (by omega)];exact mf.aR) rf.n1 fun nb2 fb H7 e7 p7 o7=>?_
 have p57:=p6.trans p7
 have in0:=rf.in0 pr0
 have in1:=rf.in1 pr1
 have l0:=rf.o0
 have l1:=rf.o1
 obtain⟨pin,pal⟩:=prX_in hp in0 in1 l0 l1
 have oa:=o5.pre p57
 have lta:=o5.lt
 have k56:=pre_len p6
 rw[l0,l1]
 ((try simp (maxSteps:=3000000) (dsimp:=false) (disch:=first|omega|simp only[lnx];omega) only[↓ypre,ypost,↓reduceIte,reduceEqDiff,reduceAdd,reduceSub,reduceLeDiff,zz0,ynew,show lenV (sl na x.ps.length)=some (I64 x.ps.length) from rfl]);try simp only[yback])
 have ga:runP (pgX x b 0) L.flatten=gen x.ps.length fun j=>if j<0 then prX x b L R j else (runP (pgX x b 0) L.flatten).getD j 0:=gen_ext l0 fun j _=>by rw[if_neg (by omega)]
 rw[ga] at oa
 have p37:=p35.trans p57
 have k34:=pre_len p4
 have hne:na≠nb2:=by omega
 refine WC_loop_inv (fun m f K1=>∃ (j:Nat),m=x.ps.length-j∧j≤x.ps.length∧f 4=.pointer (some ⟨h.length,0,none⟩)∧f 11=.slice (some ⟨nb,0,none⟩) 3 4∧f 12=sl na x.ps.length∧f 13=sl nb2 x.ps.length∧f 42=I64 x.ps.length∧f 43=I64 j∧(H3<+:K1)∧(Lst K1 na (gen x.ps.length fun j'=>if j'<j then prX x b L R j' else (runP (pgX x b 0) L.flatten).getD j' 0) fa)∧(Lst K1 nb2 (runP (pgX x b 1) R.flatten) fb)) ?_ (x.ps.length-0) _ _ ⟨0,rfl,by omega,(by first|rfl|simp[upd_apply]),(by first|rfl|simp[upd_apply]),(by first|rfl|simp[upd_apply]),(by first|rfl|simp[upd_apply]),(by first|rfl|simp[upd_apply]),(by first|rfl|simp[upd_apply]),p37,oa,o7⟩
 rintro m f K1 ⟨j,rfl,hj,f4,f11,f12,f13,f42,f43,pp,la,lb⟩
 have bK:=pre_get (p3.trans pp) hb2
 by_cases hlt:(j:Int)<x.ps.length
 ·have hj':j<x.ps.length:=by omega
  have ixa:ixsV 1 (sl na x.ps.length) (I64 j)=some (.pointer (some ⟨na,j,none⟩)):=by rw[Lst.ix (by omega),Int.toNat_natCast]
  have ixb:ixsV 1 (sl nb2 x.ps.length) (I64 j)=some (.pointer (some ⟨nb2,j,none⟩)):=by rw[Lst.ix (by omega),Int.toNat_natCast]
  have rda:=la.rd (j:=j) (by rw[gen_len];exact hj')
  rw[gen_get hj',if_neg (Nat.lt_irrefl _)] at rda
  have rdb:=lb.rd (j:=j) (by omega)
  obtain⟨⟨m1,m2⟩,m3⟩:=pin j hj'
  obtain⟨H8,w8,e8,l8⟩:=la.wr (j:=j) (x:=prX x b L R j) (by rw[gen_len];exact hj')
  rw[gen_set hj' _ rfl] at l8
  have epr:((runP (pgX x b 0) L.flatten).getD j 0*(runP (pgX x b 1) R.flatten).getD j 0).tmod x.p=prX x b L R j:=rfl
  ((try simp (maxSteps:=3000000) (dsimp:=false) (disch:=first|omega|simp only[lnx];omega) only[↓ypre,ypost,↓reduceIte,reduceEqDiff,reduceAdd,reduceSub,reduceLeDiff,zz0,ynew,f4,f11,f12,f13,f42,f43,decide_eq_true hlt,ixa,ixb,rda,rdb,rd1_of bK,wrap64_in,bin_rem (show x.p≠0 by omega),epr,w8]);try simp only[yback])
  refine InvQ_go (x.ps.length-(j+1)) (by omega) ⟨(j+1),rfl,by omega,(by first|rfl|exact f4|(simp only[upd_apply];rfl)|(show I64 _=_;congr 1;omega)),(by first|rfl|exact f11|(simp only[upd_apply];rfl)|(show I64 _=_;congr 1;omega)),(by first|rfl|exact f12|(simp only[upd_apply];rfl)|(show I64 _=_;congr 1;omega)),(by first|rfl|exact f13|(simp only[upd_apply];rfl)|(show I64 _=_;congr 1;omega)),(by first|rfl|exact f42|(simp only[upd_apply];rfl)|(show I64 _=_;congr 1;omega)),(by first|rfl|exact f43|(simp only[upd_apply];rfl)|(show I64 _=_;congr 1;omega)),(by rw[e8];exact pre_put pp (by omega)),l8,(by rw[e8];exact lb.put_ne hne)⟩
 have ej:j=x.ps.length:=by omega
 rw[ej] at la
 rw[gen_congr (g':=prX x b L R) (fun j' hj=>by rw[if_pos hj])] at la
 obtain⟨y2,z2,_,r2,pr2⟩:=(o3.pre pp).at (i:=2) (by omega)
 have r2:AH.rdn K1 nb 8 4=some (prgC (pgX x b 2) y2 z2):=r2
 ((try simp (maxSteps:=3000000) (dsimp:=false) (disch:=first|omega|simp only[lnx];omega) only[↓ypre,ypost,↓reduceIte,reduceEqDiff,reduceAdd,reduceSub,reduceLeDiff,zz0,ynew,f4,f11,f12,f13,f42,f43,decide_eq_false hlt,x2,r2]);try simp only[yback])
 have ea2:Value.agg (prgC (pgX x b 2) y2 z2).toArray=prgV (pgX x b 2) y2 z2:=rfl
 have la':=la.ints
 rw[gen_len] at la'
 rw[ea2]
 refine i_run pr2 (rf.f 2 (by omega)) la' (by rw[rf.ep 2 (by omega)];exact pal) (by rw[gen_len];exact rf.n2) fun nc fc H9 e9 p9 o9=>?_
 refine⟨p9,?_⟩
 have b9:=pre_get p9 bK
 ((try simp (maxSteps:=3000000) (dsimp:=false) (disch:=first|omega|simp only[lnx];omega) only[↓ypre,ypost,↓reduceIte,reduceEqDiff,reduceAdd,reduceSub,reduceLeDiff,zz0,ynew,f4,f11,f12,f13,f42,f43,rd1_of b9]);try simp only[yback])
 rw[mf.ek]
 have lc:=rf.o2 (gen x.ps.length (prX x b L R))
 refine i_parted (w:=k) (n:=n) o9.ints (by omega) (by omega) lc fun v6 H10 p10 o10=>?_
 ((try simp (maxSteps:=3000000) (dsimp:=false) (disch:=first|omega|simp only[lnx];omega) only[↓ypre,ypost,↓reduceIte,reduceEqDiff,reduceAdd,reduceSub,reduceLeDiff,zz0,ynew,f4,f11,f12,f13,f42,f43]);try simp only[yback])
 have eF:parts (runP (pgX x b 2) (gen x.ps.length (prX x b L R))) k n=rsF x b L R:=by
  unfold rsF
  rw[mf.en,mf.ek,Int.toNat_natCast,Int.toNat_natCast]
 rw[eF] at o10
 have pq:=(p13.trans pp).trans p9
 exact hQ _ _ (pq.trans p10) (o10.lo (pre_len pq))
def LstZ (h0 h:AH) (v:Value) (l:List Int):Prop:=(l=[]∧v=.slice none 0 2)∨∃ n full,v=sl n l.length∧h0.length≤n∧Lst h n l full
theorem LstZ.ints {h0 h:AH} {v:Value} {l:List Int} (o:LstZ h0 h v l):Ints h v l:=by
 rcases o with⟨rfl,rfl⟩|⟨n,full,rfl,_,o⟩
 ·exact .inl ⟨rfl,2,by omega,rfl⟩
 ·exact o.ints
theorem LstZ.app {h0 H:AH} {v:Value} {l:List Int} {x:Int} {e':TypeId} {ro fu:Bool} (o:LstZ h0 H v l) (hp:h0<+:H) (hl:(l.length:Int)≤1048576) {Q:Value→AH→Prop}
  (hQ:∀ v' H',h0<+:H'→LstZ h0 H' v' (l++[x])→Q v' H') :
  OQ (appV 2 1 8 v (.slice (some ⟨H.length,0,none⟩) 1 1) (H.new ⟨[I64 x],e',ro,fu⟩)) Q:=by
 have lp:=pre_len hp
 rcases o with⟨rfl,rfl⟩|⟨n,full,rfl,hn,o⟩
 ·have hr:(H.new ⟨[I64 x],e',ro,fu⟩).rdn H.length 0 1=some [I64 x]:=by rw[rdn_new_same];rfl
  rw[app_nil (.inr rfl) hr (by decide),OQ_some]
  refine hQ _ _ (pre_new (pre_new hp)) (.inr ⟨(H.new ⟨[I64 x],e',ro,fu⟩).length,false,rfl,by rw[len_new];omega,?_⟩)
  exact get_new_same
 ·exact o.app3 hl fun H' l' pre' keep' o'=>hQ _ _ (pre' _ hn hp) (.inr ⟨_,false,rfl,by omega,o'⟩)
theorem s_RunScheme {v u z:Value} {x:Sch} {b:Bool} {L R:List (List Int)} {h:AH} {Q:Value→AH→Prop} (hv:Prods h v x.ps) (hl:SmallX x.ps) (hu:Rows h u L) (hL:SmallM L) (hz:Rows h z R) (hR:SmallM R)
  (hQ:∀ v' h',h<+:h'→OwnRows h h' v' (rsR x b L R).1→Q (.tuple #[v',I64 (rsR x b L R).2]) h'):WF S 139 [schV x v,.bool b,u,z] h Q:=by
 refine WF_fn (fn:=c139) rfl rfl ?_
 dsimp only[c139,oO,oM,oS,oG,oK,oE,oL,oF,oX,oN]
 ((try simp (maxSteps:=3000000) (dsimp:=false) (disch:=first|omega|simp only[lnx];omega) only[↓ypre,ypost,↓reduceIte,reduceEqDiff,reduceAdd,reduceSub,reduceLeDiff,zz0,ynew,schV,hv.one]);try simp only[yback])
 generalize hH1:AH.new h _=H1
 obtain⟨hb1,p1,n1⟩:=new_facts hH1
 ((try simp (maxSteps:=3000000) (dsimp:=false) (disch:=first|omega|simp only[lnx];omega) only[↓ypre,ypost,↓reduceIte,reduceEqDiff,reduceAdd,reduceSub,reduceLeDiff,zz0,ynew,rdn_of hb1]);try simp only[yback])
 refine s_l07Code (x:=x) (hv.pre p1) hl fun H2 p2=>?_
 have p12:=p1.trans p2
 have hb2:=pre_get p2 hb1
 have no:∀ c,rsC x L R=c→c≠0→Q (.tuple #[.slice none 0 0,I64 c]) H2:=fun c e hc=>by
  unfold rsR at hQ
  rw[if_neg (by omega),e] at hQ
  exact hQ _ _ p12 (.inl ⟨rfl,rfl⟩)
 cases hx:isX x with
 | false=>
  have e1:cdX x=1:=by unfold cdX;rw[hx];rfl
  have e2:rsC x L R=1:=by unfold rsC;rw[hx];rfl
  rw[e1]
  ((try simp (maxSteps:=3000000) (dsimp:=false) (disch:=first|omega|simp only[lnx];omega) only[↓ypre,ypost,↓reduceIte,reduceEqDiff,reduceAdd,reduceSub,reduceLeDiff,zz0,ynew,decide_eq_false (show ¬ (1:Int)≠1 by decide),decide_eq_true (show (1:Int)≠0 by decide)]);try simp only[yback])
  exact no 1 e2 (by decide)
 | true=>
  have e1:cdX x=if x.ps.length=0 then 5 else 0:=by unfold cdX;rw[hx,if_pos rfl]
  have ne1:cdX x≠1:=by rw[e1];split<;>decide
  obtain⟨zz,hp',hl30,ho⟩:=isX_facts hx
  have hp5:=isP_in hp'
  ((try simp (maxSteps:=3000000) (dsimp:=false) (disch:=first|omega|simp only[lnx];omega) only[↓ypre,ypost,↓reduceIte,reduceEqDiff,reduceAdd,reduceSub,reduceLeDiff,zz0,ynew,decide_eq_true ne1,rd1_of hb2]);try simp only[yback])
  refine s_l01Matrix (hu.pre p12) hL hp5 ?_
  cases h2:(isMat x.p x.m L&&decide ((L.length:Int)=x.n)) with
  | false=>
   have e2:rsC x L R=2:=by unfold rsC mOK;rw[hx,h2];rfl
   ((try simp (maxSteps:=3000000) (dsimp:=false) (disch:=first|omega|simp only[lnx];omega) only[↓ypre,ypost,↓reduceIte,reduceEqDiff,reduceAdd,reduceSub,reduceLeDiff,zz0,ynew,decide_eq_true (show (2:Int)≠0 by decide)]);try simp only[yback])
   exact no 2 e2 (by decide)
  | true=>
   ((try simp (maxSteps:=3000000) (dsimp:=false) (disch:=first|omega|simp only[lnx];omega) only[↓ypre,ypost,↓reduceIte,reduceEqDiff,reduceAdd,reduceSub,reduceLeDiff,zz0,ynew,rd1_of hb2]);try simp only[yback])
   refine s_l01Matrix (hz.pre p12) hR hp5 ?_
   cases h3:(isMat x.p x.k R&&decide ((R.length:Int)=x.m)) with
   | false=>
    have e2:rsC x L R=2:=by unfold rsC mOK;rw[hx,h2,h3];rfl
    ((try simp (maxSteps:=3000000) (dsimp:=false) (disch:=first|omega|simp only[lnx];omega) only[↓ypre,ypost,↓reduceIte,reduceEqDiff,reduceAdd,reduceSub,reduceLeDiff,zz0,ynew,decide_eq_true (show (2:Int)≠0 by decide)]);try simp only[yback])
    exact no 2 e2 (by decide)
   | true=>
    have e2:rsC x L R=cdX x:=by rw[e1];unfold rsC mOK;rw[hx,h2,h3];rfl
    by_cases h0:cdX x=0
    case neg=>
     ((try simp (maxSteps:=3000000) (dsimp:=false) (disch:=first|omega|simp only[lnx];omega) only[↓ypre,ypost,↓reduceIte,reduceEqDiff,reduceAdd,reduceSub,reduceLeDiff,zz0,ynew,decide_eq_true (show cdX x≠0 from h0)]);try simp only[yback])
     exact no _ e2 h0
    have e5:rsC x L R=0:=by rw[e2,h0]
    obtain⟨_,_,n,m,k,rf⟩:=rf_of (b:=b) hv e5
    unfold rsR at hQ
    rw[if_pos e5] at hQ
    have mf:=rf.mf
    have bb:=mf.b
    have nk:=mf.nk
    have lL:=mf.lL
    have lR:=mf.lR
    have hp:=rf.p
    have hh0:=rf.h0
    ((try simp (maxSteps:=3000000) (dsimp:=false) (disch:=first|omega|simp only[lnx];omega) only[↓ypre,ypost,↓reduceIte,reduceEqDiff,reduceAdd,reduceSub,reduceLeDiff,zz0,ynew,decide_eq_false (show ¬ cdX x≠0 from fun y=>y h0),rdn_of hb2]);try simp only[yback])
    refine s_l07Programs (x:=x) (b:=b) (hv.pre p12) hx (by omega) fun nb q1 q2 H3 v1 w1 v2 w2 v3 w3 p3 g i0 i1 i2 i3=>?_
    have o3:Pr3 H3 nb x b v1 w1 v2 w2 v3 w3:=⟨⟨_,g⟩,i1.rd,i2.rd,i3.rd⟩
    have p13:=p12.trans p3
    obtain⟨y0,z0,_,r0,pr0⟩:=o3.at (i:=0) (by omega)
    have x0:ixsV 4 (.slice (some ⟨nb,0,none⟩) 3 4) (.int .i64 0)=some (.pointer (some ⟨nb,0,none⟩)):=ix4 (nb:=nb) (len:=3) (i:=0) (kk:=.i64) (by omega)
    have x1:ixsV 4 (.slice (some ⟨nb,0,none⟩) 3 4) (.int .i64 1)=some (.pointer (some ⟨nb,4,none⟩)):=ix4 (nb:=nb) (len:=3) (i:=1) (kk:=.i64) (by omega)
    have x2:ixsV 4 (.slice (some ⟨nb,0,none⟩) 3 4) (.int .i64 2)=some (.pointer (some ⟨nb,8,none⟩)):=ix4 (nb:=nb) (len:=3) (i:=2) (kk:=.i64) (by omega)
    have r0:H3.rdn nb 0 4=some (prgC (pgX x b 0) y0 z0):=r0
    ((try simp (maxSteps:=3000000) (dsimp:=false) (disch:=first|omega|simp only[lnx];omega) only[↓ypre,ypost,↓reduceIte,reduceEqDiff,reduceAdd,reduceSub,reduceLeDiff,zz0,ynew,x0,r0]);try simp only[yback])
    refine s_l07Joined (hu.pre p13) mf.wL (by omega) (by omega) fun nl fl H4 e4 p4 o4=>?_
    refine⟨p4,?_⟩
    ((try simp (maxSteps:=3000000) (dsimp:=false) (disch:=first|omega|simp only[lnx];omega) only[↓ypre,ypost,↓reduceIte,reduceEqDiff,reduceAdd,reduceSub,reduceLeDiff,zz0,ynew]);try simp only[yback])
    have ea0:Value.agg (prgC (pgX x b 0) y0 z0).toArray=prgV (pgX x b 0) y0 z0:=rfl
    rw[ea0]
    refine s_run (pr0.pre p4) (rf.f 0 (by omega)) o4.ints (by rw[rf.ep 0 (by omega)];exact mf.aL) rf.n0 fun na fa H5 e5' p5 o5=>?_
    refine⟨p5,?_⟩
    have p35:=p4.trans p5
    obtain⟨y1,z1,_,r1,pr1⟩:=(o3.pre p35).at (i:=1) (by omega)
    have r1:AH.rdn H5 nb 4 4=some (prgC (pgX x b 1) y1 z1):=r1
    ((try simp (maxSteps:=3000000) (dsimp:=false) (disch:=first|omega|simp only[lnx];omega) only[↓ypre,ypost,↓reduceIte,reduceEqDiff,reduceAdd,reduceSub,reduceLeDiff,zz0,ynew,x1,r1]);try simp only[yback])
    refine s_l07Joined (hz.pre (p13.trans p35)) mf.wR (by omega) (by omega) fun nr fr H6 e6 p6 o6=>?_
    refine⟨p6,?_⟩
    ((try simp (maxSteps:=3000000) (dsimp:=false) (disch:=first|omega|simp only[lnx];omega) only[↓ypre,ypost,↓reduceIte,reduceEqDiff,reduceAdd,reduceSub,reduceLeDiff,zz0,ynew]);try simp only[yback])
    have ea1:Value.agg (prgC (pgX x b 1) y1 z1).toArray=prgV (pgX x b 1) y1 z1:=rfl
    rw[ea1]
    refine s_run (pr1.pre p6) (rf.f 1 (by omega)) o6.ints (by rw[rf.ep 1 (by omega)];exact mf.aR) rf.n1 fun nb2 fb H7 e7 p7 o7=>?_
    have p57:=p6.trans p7
    have in0:=rf.in0 pr0
    have in1:=rf.in1 pr1
    have l0:=rf.o0
    have l1:=rf.o1
    obtain⟨pin,pal⟩:=prX_in hp in0 in1 l0 l1
    have oa:=o5.pre p57
    have p37:=p35.trans p57
    rw[l0,l1]
    ((try simp (maxSteps:=3000000) (dsimp:=false) (disch:=first|omega|simp only[lnx];omega) only[↓ypre,ypost,↓reduceIte,reduceEqDiff,reduceAdd,reduceSub,reduceLeDiff,zz0,ynew]);try simp only[yback])
    have lz0:LstZ H7 H7 (.slice none 0 2) (gen 0 (prX x b L R)):=.inl ⟨rfl,rfl⟩
    refine WC_loop_inv (fun m f K1=>∃ (j:Nat) (zv:Value),m=x.ps.length-j∧j≤x.ps.length∧f 4=.pointer (some ⟨h.length,0,none⟩)∧f 11=.slice (some ⟨nb,0,none⟩) 3 4∧f 12=sl na x.ps.length∧f 13=sl nb2 x.ps.length∧f 14=zv∧f 15=I64 j∧(H7<+:K1)∧(LstZ H7 K1 zv (gen j (prX x b L R)))) ?_ (x.ps.length-0) _ _ ⟨0,.slice none 0 2,rfl,by omega,(by first|rfl|simp[upd_apply]),(by first|rfl|simp[upd_apply]),(by first|rfl|simp[upd_apply]),(by first|rfl|simp[upd_apply]),(by first|rfl|simp[upd_apply]),(by first|rfl|simp[upd_apply]),List.prefix_refl _,lz0⟩
    rintro m f K1 ⟨j,zv,rfl,hj,f4,f11,f12,f13,f14,f15,pp,lz⟩
    have p3K:=p37.trans pp
    have bK:=pre_get (p3.trans p3K) hb2
    have la:=oa.pre pp
    have lb:=o7.pre pp
    by_cases hlt:(j:Int)<x.ps.length
    ·have hj':j<x.ps.length:=by omega
     have ixa:ixsV 1 (sl na x.ps.length) (I64 j)=some (.pointer (some ⟨na,j,none⟩)):=by rw[Lst.ix (by omega),Int.toNat_natCast]
     have ixb:ixsV 1 (sl nb2 x.ps.length) (I64 j)=some (.pointer (some ⟨nb2,j,none⟩)):=by rw[Lst.ix (by omega),Int.toNat_natCast]
     have rda:=la.rd (j:=j) (by omega)
     have rdb:=lb.rd (j:=j) (by omega)
     obtain⟨⟨m1,m2⟩,m3⟩:=pin j hj'
     have epr:((runP (pgX x b 0) L.flatten).getD j 0*(runP (pgX x b 1) R.flatten).getD j 0).tmod x.p=prX x b L R j:=rfl
     ((try simp (maxSteps:=3000000) (dsimp:=false) (disch:=first|omega|simp only[lnx];omega) only[↓ypre,ypost,↓reduceIte,reduceEqDiff,reduceAdd,reduceSub,reduceLeDiff,zz0,ynew,f4,f11,f12,f13,f14,f15,show lenV (sl na x.ps.length)=some (I64 x.ps.length) from rfl,decide_eq_true hlt,ixa,ixb,rda,rdb,rd1_of bK,wrap64_in,bin_rem (show x.p≠0 by omega),epr]);try simp only[yback])
     refine lz.app pp (by rw[gen_len];omega) fun v8 H8 p8 l8=>?_
     rw[←gen_succ] at l8
     ((try simp (maxSteps:=3000000) (dsimp:=false) (disch:=first|omega|simp only[lnx];omega) only[↓ypre,ypost,↓reduceIte,reduceEqDiff,reduceAdd,reduceSub,reduceLeDiff,zz0,ynew,f4,f11,f12,f13,f14,f15,wrap64_in]);try simp only[yback])
     refine InvQ_go (x.ps.length-(j+1)) (by omega) ⟨(j+1),v8,rfl,by omega,(by first|rfl|exact f4|(simp only[upd_apply];rfl)|(show I64 _=_;congr 1;omega)),(by first|rfl|exact f11|(simp only[upd_apply];rfl)|(show I64 _=_;congr 1;omega)),(by first|rfl|exact f12|(simp only[upd_apply];rfl)|(show I64 _=_;congr 1;omega)),(by first|rfl|exact f13|(simp only[upd_apply];rfl)|(show I64 _=_;congr 1;omega)),(by first|rfl|exact f14|(simp only[upd_apply];rfl)|(show I64 _=_;congr 1;omega)),(by first|rfl|exact f15|(simp only[upd_apply];rfl)|(show I64 _=_;congr 1;omega)),p8,l8⟩
    have ej:j=x.ps.length:=by omega
    rw[ej] at lz
    obtain⟨y2,z2,_,r2,pr2⟩:=(o3.pre p3K).at (i:=2) (by omega)
    have r2:AH.rdn K1 nb 8 4=some (prgC (pgX x b 2) y2 z2):=r2
    ((try simp (maxSteps:=3000000) (dsimp:=false) (disch:=first|omega|simp only[lnx];omega) only[↓ypre,ypost,↓reduceIte,reduceEqDiff,reduceAdd,reduceSub,reduceLeDiff,zz0,ynew,f4,f11,f12,f13,f14,f15,show lenV (sl na x.ps.length)=some (I64 x.ps.length) from rfl,decide_eq_false hlt,x2,r2]);try simp only[yback])
    have ea2:Value.agg (prgC (pgX x b 2) y2 z2).toArray=prgV (pgX x b 2) y2 z2:=rfl
    rw[ea2]
    refine s_run pr2 (rf.f 2 (by omega)) lz.ints (by rw[rf.ep 2 (by omega)];exact pal) (by rw[gen_len];exact rf.n2) fun nc fc H9 e9 p9 o9=>?_
    have b9:=pre_get p9 bK
    have lc:=rf.o2 (gen x.ps.length (prX x b L R))
    have pq:=(p13.trans p3K).trans p9
    generalize hrr:runP (pgX x b 2) (gen x.ps.length (prX x b L R))=rr at *
    ((try simp (maxSteps:=3000000) (dsimp:=false) (disch:=first|omega|simp only[lnx];omega) only[↓ypre,ypost,↓reduceIte,reduceEqDiff,reduceAdd,reduceSub,reduceLeDiff,zz0,ynew,f4,f11,f12,f13,f14,f15]);try simp only[yback])
    generalize hHa:AH.new H9 _=Ha
    obtain⟨hba,pa,na'⟩:=new_facts hHa
    rw[mf.en,mf.ek] at b9
    refine WC_loop_inv (fun m f K2=>∃ (i:Nat) (tb:Nat) (full:Bool) (T:List (Nat×List Int)),m=n-i∧i≤n∧f 4=.pointer (some ⟨h.length,0,none⟩)∧f 16=sl nc rr.length∧f 17=sl tb T.length∧f 18=I64 i∧(TabS H9 K2 tb full T)∧(T.map Prod.snd=(parts rr k n).take i)) ?_ (n-0) _ _ ⟨0,H9.length,true,[],rfl,by omega,(by first|rfl|exact f4|(simp[upd_apply];done)),(by first|rfl|simp[upd_apply]),(by first|rfl|simp[upd_apply]),(by first|rfl|simp[upd_apply]),⟨pa,Nat.le_refl _,hba,by simp,by simp⟩,(by simp)⟩
    rintro m f K2 ⟨i,tb,full,T,rfl,hi,f4,f16,f17,f18,st,hT⟩
    have hLl:T.length=i:=by
     have:=congrArg List.length hT
     rw[List.length_map,List.length_take,parts_len] at this
     omega
    have bK2:=pre_get st.hp b9
    have ov:=(o9.pre st.hp).ints
    have lt:=st.lt
    have k9:=pre_len st.hp
    by_cases hli:(i:Int)<n
    ·have hi':i<n:=by omega
     have hrow:=mul_row (w:=k) hi'
     have eiw:(i:Int)*(k:Int)=((i*k:Nat):Int):=by push_cast;rfl
     obtain⟨v',s1,s2⟩:=ov.slcV (k1:=.i64) (k2:=.i64) (l:=((i*k:Nat):Int)) (u:=((i*k:Nat):Int)+(k:Int)) (by omega)
     rw[Int.toNat_natCast,show (((i*k:Nat):Int)+(k:Int)-((i*k:Nat):Int)).toNat=k by omega] at s2
     have rl:((rr.drop (i*k)).take k).length=k:=by rw[List.length_take,List.length_drop];omega
     ((try simp (maxSteps:=3000000) (dsimp:=false) (disch:=first|omega|simp only[lnx];omega) only[↓ypre,ypost,↓reduceIte,reduceEqDiff,reduceAdd,reduceSub,reduceLeDiff,zz0,ynew,f4,f16,f17,f18,rd1_of bK2,decide_eq_true hli,eiw,wrap64_in,omapF_some,omapF_none,s1]);try simp only[yback])
     refine s_OwnT s2 (by omega) (by omega) fun n' h2 hn' p2' ob=>?_
     ((try simp (maxSteps:=3000000) (dsimp:=false) (disch:=first|omega|simp only[lnx];omega) only[↓ypre,ypost,↓reduceIte,reduceEqDiff,reduceAdd,reduceSub,reduceLeDiff,zz0,ynew,f4,f16,f17,f18,sl_cells,sl_one]);try simp only[yback])
     refine (st.pre p2').app2 ⟨by omega,by omega,fun q hq=>by have:=lt.2 q hq;omega⟩ ob.own (by omega) fun nb' H' st' l' e' own' pre'=>?_
     ((try simp (maxSteps:=3000000) (dsimp:=false) (disch:=first|omega|simp only[lnx];omega) only[↓ypre,ypost,↓reduceIte,reduceEqDiff,reduceAdd,reduceSub,reduceLeDiff,zz0,ynew,f4,f16,f17,f18,wrap64_in]);try simp only[yback])
     refine InvQ_go (n-(i+1)) (by omega) ⟨(i+1),nb',false,(T++[(n',(rr.drop (i*k)).take k)]),rfl,by omega,(by first|rfl|exact f4|(simp only[upd_apply];rfl)|(show I64 _=_;congr 1;omega)),(by first|rfl|exact f16|(simp only[upd_apply];rfl)|(show I64 _=_;congr 1;omega)),(by first|rfl|exact f17|(simp only[upd_apply];rfl)|(show I64 _=_;congr 1;omega)),(by first|rfl|exact f18|(simp only[upd_apply];rfl)|(show I64 _=_;congr 1;omega)),st',?_⟩
     rw[List.map_append,hT,take_next (d:=[]) (by rw[parts_len];exact hi'),parts_get hi']
     rfl
    have ei:i=n:=by omega
    rw[ei,List.take_of_length_le (by rw[parts_len];exact Nat.le_refl _)] at hT
    ((try simp (maxSteps:=3000000) (dsimp:=false) (disch:=first|omega|simp only[lnx];omega) only[↓ypre,ypost,↓reduceIte,reduceEqDiff,reduceAdd,reduceSub,reduceLeDiff,zz0,ynew,f4,f16,f17,f18,rd1_of bK2,decide_eq_false hli]);try simp only[yback])
    have o:=st.own
    have eF:parts rr k n=rsF x b L R:=by
     unfold rsF
     rw[mf.en,mf.ek,Int.toNat_natCast,Int.toNat_natCast,hrr]
    rw[hT,eF] at o
    exact hQ _ _ (pq.trans st.hp) (o.lo (pre_len pq))
theorem rsR_small {h:AH} {v:Value} {x:Sch} {b:Bool} {L R:List (List Int)} (hv:Prods h v x.ps):SmallM (rsR x b L R).1:=by
 unfold rsR
 by_cases hc:rsC x L R=0
 ·rw[if_pos hc]
  obtain⟨_,_,n,m,k,rf⟩:=rf_of (b:=b) hv hc
  have bb:=rf.mf.b
  show SmallM (rsF x b L R)
  have eF:rsF x b L R=parts (runP (pgX x b 2) (gen x.ps.length (prX x b L R))) k n:=by
   unfold rsF
   rw[rf.mf.en,rf.mf.ek,Int.toNat_natCast,Int.toNat_natCast]
  rw[eF]
  refine smallM_of2 (A:=3) (B:=3) (by rw[parts_len];omega) (fun i hi=>?_) (by omega)
  rw[parts_len] at hi
  rw[parts_get hi,List.length_take]
  omega
 ·rw[if_neg hc]
  exact⟨by simp,by simp,by simp[tot]⟩
end Go.Proofs.Ytapafdpnmakekaa.X

set_option linter.unusedVariables false
set_option linter.unusedSimpArgs false
set_option maxRecDepth 20000
set_option maxHeartbeats 4000000
namespace Go.Proofs.Ytapafdpnmakekaa.X
open Go Go.RowKit
theorem dot_congrL {q q' ns:List Int}:∀ {k:Nat},(∀ i,i<k→q.getD i 0=q'.getD i 0)→dot q ns k=dot q' ns k
 | 0,_=>rfl
 | k+1,h=>by
  simp only[dot]
  rw[dot_congrL (k:=k) fun i hi=>h i (by omega),h k (by omega)]
theorem take_gD {q:List Int} {w i:Nat} (hi:i<w):(q.take w).getD i 0=q.getD i 0:=by
 rw[List.getD_eq_getElem?_getD,List.getD_eq_getElem?_getD,List.getElem?_take,if_pos hi]
theorem seg_gD {q:List Int} {i j:Nat} (hj:j<9):(seg q i).getD j 0=q.getD (i*9+j) 0:=by
 unfold seg
 rw[take_gD hj,List.getD_eq_getElem?_getD,List.getD_eq_getElem?_getD,List.getElem?_drop]
section
variable {h:AH} {v:Value} {x:Sch} {b:Bool} {L R:List (List Int)} {n m k:Nat}
theorem prX_val (hv:Prods h v x.ps) (hx:isX x=true) (rf:RF x b L R n m k) {j:Nat} (hj:j<x.ps.length):prX x b L R j=(valI x.p L.flatten R.flatten (x.ps.getD j [])).tmod x.p:=by
 have mf:=rf.mf
 have bb:=mf.b
 have h0:=rf.h0
 have ok0:=fmX_ok hv hx (show 1≤x.ps.length by omega) (i:=0) (by omega)
 have ok1:=fmX_ok hv hx (show 1≤x.ps.length by omega) (i:=1) (by omega)
 obtain⟨e0,e1,_⟩:=fmX_len mf.en mf.ek
 have n0:=rf.n0
 have n1:=rf.n1
 have fl:=flat_len mf.wL
 have fr:=flat_len mf.wR
 rw[mf.lL] at fl
 rw[mf.lR] at fr
 have f0:=mf.fL
 have f1:=mf.fR
 have g0:(fmX x 0).getD j []=(seg (x.ps.getD j []) 0).take (n*m):=by
  show (lsF x 0 (x.n*x.m).toNat).getD j []=_
  rw[lsF_get hj,mf.en,mf.em,←Int.natCast_mul,Int.toNat_natCast]
 have g1:(fmX x 1).getD j []=(seg (x.ps.getD j []) 1).take (m*k):=by
  show (lsF x 1 (x.m*x.k).toNat).getD j []=_
  rw[lsF_get hj,mf.em,mf.ek,←Int.natCast_mul,Int.toNat_natCast]
 have nu0:nuX x 0=(pgX x b 0).n:=((pgX_facts (b:=b) hv hx (show 1≤x.ps.length by omega) (i:=0) (by omega)).2.1).symm
 have nu1:nuX x 1=(pgX x b 1).n:=((pgX_facts (b:=b) hv hx (show 1≤x.ps.length by omega) (i:=1) (by omega)).2.1).symm
 have sl:∀ i,i<3→(seg (x.ps.getD j []) i).length=9:=fun i hi=>((hv.by hj).seg hi).1
 have r0:=runP_pgO (b:=b) ok0 (ns:=L.flatten) (by rw[nu0];exact n0) mf.aL (j:=j) (by omega)
 have r1:=runP_pgO (b:=b) ok1 (ns:=R.flatten) (by rw[nu1];exact n1) mf.aR (j:=j) (by omega)
 rw[g0] at r0
 rw[g1] at r1
 rw[show ((seg (x.ps.getD j []) 0).take (n*m)).length=L.flatten.length by rw[List.length_take,sl 0 (by omega)];omega,dot_congrL (q':=seg (x.ps.getD j []) 0) (fun i hi=>take_gD (by omega))] at r0
 rw[show ((seg (x.ps.getD j []) 1).take (m*k)).length=R.flatten.length by rw[List.length_take,sl 1 (by omega)];omega,dot_congrL (q':=seg (x.ps.getD j []) 1) (fun i hi=>take_gD (by omega))] at r1
 have a0:(runP (pgX x b 0) L.flatten).getD j 0=_:=r0
 have a1:(runP (pgX x b 1) R.flatten).getD j 0=_:=r1
 unfold prX valI
 rw[a0,a1]
theorem rs_mp (hv:Prods h v x.ps) (hx:isX x=true) (rf:RF x b L R n m k):rsF x b L R=mpF x L R:=by
 have mf:=rf.mf
 have bb:=mf.b
 have nk:=mf.nk
 have h0:=rf.h0
 have hp:=rf.p
 have ok2:=fmX_ok hv hx (show 1≤x.ps.length by omega) (i:=2) (by omega)
 obtain⟨_,_,e2⟩:=fmX_len mf.en mf.ek
 unfold rsF mpF
 rw[mf.en,mf.ek,←Int.natCast_mul,Int.toNat_natCast,Int.toNat_natCast,Int.toNat_natCast]
 congr 1
 refine gen_ext (rf.o2 _) fun i hi=>?_
 have sin:=stM_in hp hv.2 hv.1.widL mf.fL mf.fR mf.aL mf.aR (t:=x.ps.length) (Nat.le_refl _)
 have pin:∀ j,j<x.ps.length→0≤prX x b L R j∧prX x b L R j<x.p:=fun j hj=>by
  rw[prX_val hv hx rf hj]
  exact tmod_nn (valI_in hp (hv.by hj) mf.fL mf.fR mf.aL mf.aR).1 (by omega)
 have pal:allIn x.p (gen x.ps.length (prX x b L R))=true:=allIn_iff.2 fun j hj=>by
  rw[gen_len] at hj
  rw[gen_get hj]
  exact pin j hj
 have r2:=runP_pgO (b:=b) ok2 (ns:=gen x.ps.length (prX x b L R)) (by rw[gen_len];rfl) pal (j:=i) (by omega)
 have a2:(runP (pgX x b 2) (gen x.ps.length (prX x b L R))).getD i 0=_:=r2
 rw[a2]
 have gr:(fmX x 2).getD i []=gen x.ps.length fun j=>(x.ps.getD j []).getD (18+i) 0:=by
  show (trL (lsF x 2 (x.n*x.k).toNat) (x.n*x.k).toNat).getD i []=_
  rw[mf.en,mf.ek,←Int.natCast_mul,Int.toNat_natCast,trL_get hi,lsF_len]
  refine gen_congr fun j hj=>?_
  rw[lsF_get hj,take_gD hi,seg_gD (by omega)]
 rw[gr,gen_len]
 have key:∀ t,t≤x.ps.length→x.p∣dot (gen x.ps.length fun j=>(x.ps.getD j []).getD (18+i) 0) (gen x.ps.length (prX x b L R)) t-stM x.p L.flatten R.flatten x.ps t i:=by
  intro t
  induction t with
  | zero=>intro _;exact⟨0,by simp[stM]⟩
  | succ t ih=>
   intro ht
   obtain⟨k1,h1⟩:=ih (by omega)
   simp only[dot,stM]
   rw[gen_get (by omega),gen_get (by omega),prX_val hv hx rf (show t<x.ps.length by omega)]
   obtain⟨k2,h2⟩:=tmod_dvd (valI x.p L.flatten R.flatten (x.ps.getD t [])) x.p
   obtain⟨k3,h3⟩:=tmod_dvd (stM x.p L.flatten R.flatten x.ps t i+(x.ps.getD t []).getD (18+i) 0*valI x.p L.flatten R.flatten (x.ps.getD t [])) x.p
   exact⟨k1-(x.ps.getD t []).getD (18+i) 0*k2+k3,by grind⟩
 have gal:allIn x.p (gen x.ps.length fun j=>(x.ps.getD j []).getD (18+i) 0)=true:=by
  have:=(lsOK_iff.1 ok2).2.2.2
  have:=(isMat_iff.1 this i (by omega)).2
  rw[gr] at this
  exact this
 obtain⟨k1,h1⟩:=key x.ps.length (Nat.le_refl _)
 obtain⟨k2,h2⟩:=tmod_dvd (dot (gen x.ps.length fun j=>(x.ps.getD j []).getD (18+i) 0) (gen x.ps.length (prX x b L R)) x.ps.length) x.p
 exact dvd_eq ⟨k1-k2,by grind⟩ (tmod_nn (dot_nn (show 1≤x.p by omega) gal pal) (by omega)) (sin i (by omega))
end
end Go.Proofs.Ytapafdpnmakekaa.X

set_option linter.unusedVariables false
set_option linter.unusedSimpArgs false
set_option maxRecDepth 20000
set_option maxHeartbeats 4000000
namespace Go.Proofs.Ytapafdpnmakekaa.X
open Go Go.RowKit
open Nat (reduceEqDiff reduceAdd reduceSub reduceLeDiff)
theorem l_like {v w:Value} {ns:List Int} {h:AH} {Q:Value→AH→Prop} (hv:Ints h v ns) (hw:Ints h w ns) (hl:(ns.length:Int)≤1048576)
  (hQ:Q (.bool true) h):WF S 20 [v,w] h Q:=l_likeInts hv hw hl (by rw[decide_eq_true rfl];exact hQ)
theorem rpR_0 {x:Prg} {ns:List Int} (h:(rpR x ns).2=0):isPrg x=true∧rpOK x ns∧(rpR x ns).1=runP x ns:=by
 unfold rpR at h ⊢
 split at h
 ·rename_i h1
  split at h
  ·rename_i h2
   rw[if_pos h1,if_pos h2]
   exact⟨h1,h2,rfl⟩
  ·simp at h
 ·simp at h
theorem rp_in {x:Prg} {ns:List Int} {h:AH} {v w:Value} (f:PrgF x) (hv:PrgR h v w x) (ok:rpOK x ns) {i:Nat} (hi:i<x.out.length):0≤(runP x ns).getD i 0∧(runP x ns).getD i 0<x.p:=
 allIn_iff.1 (runP_in f hv ok.1 ok.2) i (by rw[runP_len];exact hi)
theorem fm_in {x:Prg} {h:AH} {v w:Value} (f:PrgF x) (hv:PrgR h v w x) {i k:Nat} (hi:i<x.out.length) (hk:(k:Int)<x.n):0≤((fmL x).getD i []).getD k 0∧((fmL x).getD i []).getD k 0<x.p:=by
 have hp:=f.p
 have hn:=f.n
 rw[fmL_get hi,gen_get (by omega)]
 unfold fmF
 exact rp_in f hv ⟨unN_in (by omega),by rw[unN_len];omega⟩ hi
theorem rsR_0 {x:Sch} {b:Bool} {A C:List (List Int)} (h:(rsR x b A C).2=0):rsC x A C=0∧(rsR x b A C).1=rsF x b A C:=by
 unfold rsR at h ⊢
 split at h
 ·rename_i h1
  rw[if_pos h1]
  exact⟨h1,rfl⟩
 ·exact absurd h (by assumption)
theorem st_pg {x:Sch} {t:Bool} {i:Nat} (hi:i<(pgR x t).1.N):(stR x t).1.length=(pgR x t).1.N∧(stR x t).1.getD i 0=(((pgR x t).1.xs i).st.length:Int):=by
 unfold pgR stR at *
 split at hi
 ·rename_i h1
  rw[if_pos h1,if_pos h1]
  refine⟨gen_len,?_⟩
  show (gen 3 (stG x t)).getD i 0=_
  rw[gen_get hi]
  rfl
 ·simp at hi
theorem law_ProgramRuns {h:AH} {cv:Value} {code:List (List Int)} (c:Els .u8 1 h cv code) (b:Byt 1 code) (hz:code=[]→∃ t,t≤2∧cv=.slice none 0 t):WF S 12 [cv] h (fun v _=>v=.bool true):=by
 refine WF_fn (fn:=c12) rfl rfl ?_
 dsimp only[c12,oO,oM,oS,oG,oK,oE,oL,oF,oX,oN]
 ((try simp (maxSteps:=3000000) (dsimp:=false) (disch:=first|omega|simp only[lnx];omega) only[↓ypre,ypost,↓reduceIte,reduceEqDiff,reduceAdd,reduceSub,reduceLeDiff,zz0,ynew]);try simp only[yback])
 refine l_big c ?_
 by_cases hbig:(code.length:Int)>4096
 ·((try simp (maxSteps:=3000000) (dsimp:=false) (disch:=first|omega|simp only[lnx];omega) only[↓ypre,ypost,↓reduceIte,reduceEqDiff,reduceAdd,reduceSub,reduceLeDiff,zz0,ynew,decide_eq_true hbig]);try simp only[yback])
 ((try simp (maxSteps:=3000000) (dsimp:=false) (disch:=first|omega|simp only[lnx];omega) only[↓ypre,ypost,↓reduceIte,reduceEqDiff,reduceAdd,reduceSub,reduceLeDiff,zz0,ynew,decide_eq_false hbig]);try simp only[yback])
 have c:Cod h cv code:=⟨c,b,by omega⟩
 refine s_DrawRunProgram c fun x v w ns u H1 p1 hv xb hu hns=>?_
 refine WO_cut (fun f:Fr=>f 0=cv∧f 39=.tuple #[prgV x v w,u]∧True) ⟨(by first|rfl|simp[upd_apply]),(by first|rfl|simp[upd_apply]),trivial⟩ ?_
 rintro f ⟨f0,f39,-⟩
 ((try simp (maxSteps:=3000000) (dsimp:=false) (disch:=first|omega|simp only[lnx];omega) only[↓ypre,ypost,↓reduceIte,reduceEqDiff,reduceAdd,reduceSub,reduceLeDiff,zz0,ynew,f0,f39,prgV,hv.1.one,hv.2.one]);try simp only[yback])
 generalize hH2:AH.new H1 _=H2
 obtain⟨g2,p2,n2⟩:=new_facts hH2
 ((try simp (maxSteps:=3000000) (dsimp:=false) (disch:=first|omega|simp only[lnx];omega) only[↓ypre,ypost,↓reduceIte,reduceEqDiff,reduceAdd,reduceSub,reduceLeDiff,zz0,ynew,f0,f39,rdn_of g2]);try simp only[yback])
 refine i_RunProgram (x:=x) (hv.pre p2) xb.small (hu.pre p2) hns fun v1 H3 p3 o1=>?_
 have hsR:(((rpR x ns).1.length:Nat):Int)≤1048576:=rpR_small x ns
 generalize hR:rpR x ns=R at o1 hsR
 have o1:=o1.ints
 refine WO_cut (fun f:Fr=>f 0=cv∧f 3=.pointer (some ⟨H1.length,0,none⟩)∧f 4=u∧f 45=.tuple #[v1,I64 R.2]∧True) ⟨(by first|rfl|exact f0|simp[upd_apply,f0]),(by first|rfl|simp[upd_apply]),(by first|rfl|simp[upd_apply]),(by first|rfl|simp[upd_apply]),trivial⟩ ?_
 rintro f ⟨f0,f3,f4,f45,-⟩
 have g2:=pre_get p3 g2
 ((try simp (maxSteps:=3000000) (dsimp:=false) (disch:=first|omega|simp only[lnx];omega) only[↓ypre,ypost,↓reduceIte,reduceEqDiff,reduceAdd,reduceSub,reduceLeDiff,zz0,ynew,f0,f3,f4,f45,rdn_of g2]);try simp only[yback])
 refine s_RunProgram (x:=x) (hv.pre (p2.trans p3)) xb.small (hu.pre (p2.trans p3)) hns fun v2 H4 p4 o2=>?_
 rw[hR] at o2 ⊢
 have o2:=o2.ints
 refine WO_cut (fun f:Fr=>f 0=cv∧f 3=.pointer (some ⟨H1.length,0,none⟩)∧f 4=u∧f 5=v1∧f 6=I64 R.2∧f 51=.tuple #[v2,I64 R.2]∧True) ⟨(by first|rfl|exact f0|simp[upd_apply,f0]),(by first|rfl|exact f3|simp[upd_apply,f3]),(by first|rfl|exact f4|simp[upd_apply,f4]),(by first|rfl|simp[upd_apply]),(by first|rfl|simp[upd_apply]),(by first|rfl|simp[upd_apply]),trivial⟩ ?_
 rintro f ⟨f0,f3,f4,f5,f6,f51,-⟩
 ((try simp (maxSteps:=3000000) (dsimp:=false) (disch:=first|omega|simp only[lnx];omega) only[↓ypre,ypost,↓reduceIte,reduceEqDiff,reduceAdd,reduceSub,reduceLeDiff,zz0,ynew,f0,f3,f4,f5,f6,f51,decide_eq_false (show ¬ (R.2)≠(R.2) from fun h=>h rfl)]);try simp only[yback])
 refine l_like (o1.pre p4) o2 hsR ?_
 refine WO_cut (fun f:Fr=>f 0=cv∧f 3=.pointer (some ⟨H1.length,0,none⟩)∧f 4=u∧f 5=v1∧f 6=I64 R.2∧f 57=.bool false∧f 60=.bool true∧True) ⟨(by first|rfl|exact f0|simp[upd_apply,f0]),(by first|rfl|exact f3|simp[upd_apply,f3]),(by first|rfl|exact f4|simp[upd_apply,f4]),(by first|rfl|exact f5|simp[upd_apply,f5]),(by first|rfl|exact f6|simp[upd_apply,f6]),(by first|rfl|simp[upd_apply]),(by first|rfl|simp[upd_apply]),trivial⟩ ?_
 rintro f ⟨f0,f3,f4,f5,f6,f57,f60,-⟩
 refine WO_join2 (Kcv h cv) ?_ ?_
 ·skip
  by_cases z:R.2=0
  case neg=>
   ((try simp (maxSteps:=3000000) (dsimp:=false) (disch:=first|omega|simp only[lnx];omega) only[↓ypre,ypost,↓reduceIte,reduceEqDiff,reduceAdd,reduceSub,reduceLeDiff,zz0,ynew,f0,f3,f4,f5,f6,f57,f60,decide_eq_false z]);try simp only[yback])
   rw[JnQ_n]
   exact⟨f0,((p1.trans p2).trans (p3.trans p4))⟩
  obtain⟨hx,hok,hrun⟩:=rpR_0 (show (rpR x ns).2=0 by rw[hR];exact z)
  rw[hR] at hrun
  have pf:=isPrg_facts hx
  have lr:R.1.length=x.out.length:=by rw[hrun,runP_len]
  have g2:=pre_get p4 g2
  ((try simp (maxSteps:=3000000) (dsimp:=false) (disch:=first|omega|simp only[lnx];omega) only[↓ypre,ypost,↓reduceIte,reduceEqDiff,reduceAdd,reduceSub,reduceLeDiff,zz0,ynew,f0,f3,f4,f5,f6,f57,f60,decide_eq_true z,rdn_of g2]);try simp only[yback])
  refine i_FormsOf (x:=x) (hv.pre (p2.trans (p3.trans p4))) xb.small fun v3 H5 p5 o3=>?_
  have eF:fmR x=(fmL x,0):=if_pos hx
  rw[eF] at o3 ⊢
  have o3:Rows H5 v3 (fmL x):=o3.rows
  have c3:=o3.len
  rw[fmL_len] at c3
  refine WO_cut (fun f:Fr=>f 0=cv∧f 3=.pointer (some ⟨H1.length,0,none⟩)∧f 4=u∧f 5=v1∧f 67=.tuple #[v3,I64 0]∧True) ⟨(by first|rfl|exact f0|simp[upd_apply,f0]),(by first|rfl|exact f3|simp[upd_apply,f3]),(by first|rfl|exact f4|simp[upd_apply,f4]),(by first|rfl|exact f5|simp[upd_apply,f5]),(by first|rfl|simp[upd_apply]),trivial⟩ ?_
  rintro f ⟨f0,f3,f4,f5,f67,-⟩
  have i1:=(o1.pre (p4.trans p5))
  have iu:=(hu.pre ((p2.trans p3).trans (p4.trans p5)))
  have lR:=i1.len
  rw[lr] at lR
  have g2:=pre_get p5 g2
  ((try simp (maxSteps:=3000000) (dsimp:=false) (disch:=first|omega|simp only[lnx];omega) only[↓ypre,ypost,↓reduceIte,reduceEqDiff,reduceAdd,reduceSub,reduceLeDiff,zz0,ynew,f0,f3,f4,f5,f67,decide_eq_false (show ¬ (0:Int)≠(0:Int) from fun h=>h rfl),c3,lR,decide_eq_false (show ¬ (x.out.length)≠(x.out.length) from fun h=>h rfl),decide_eq_false (show ¬ (0:Int)≠0 from fun h=>h rfl),decide_eq_false (show ¬ (x.out.length:Int)≠x.out.length from fun h=>h rfl)]);try simp only[yback])
  have hp:=pf.p
  have hl:=hok.2
  refine WC_loop_inv (fun m f K1=>∃ (i:Nat),m=x.out.length-i∧i≤x.out.length∧f 0=cv∧f 3=.pointer (some ⟨H1.length,0,none⟩)∧f 4=u∧f 5=v1∧f 9=v3∧f 11=I64 i∧(K1=H5)) ?_ (x.out.length-0) _ _ ⟨0,rfl,by omega,(by first|rfl|exact f0|(simp[upd_apply];done)),(by first|rfl|exact f3|(simp[upd_apply];done)),(by first|rfl|exact f4|(simp[upd_apply];done)),(by first|rfl|exact f5|(simp[upd_apply];done)),(by first|rfl|simp[upd_apply]),(by first|rfl|simp[upd_apply]),rfl⟩
  rintro m f K1 ⟨i,rfl,hi,f0,f3,f4,f5,f9,f11,hK⟩
  subst hK
  by_cases hlt:(i:Int)<x.out.length
  ·obtain⟨m3,w3,y3,ix3,rd3,i3⟩:=o3.row (i:=i) (by rw[fmL_len];omega)
   have l3:=i3.len
   have e3:((fmL x).getD i []).length=ns.length:=by rw[fmL_get (by omega),gen_len];omega
   rw[e3] at l3
   ((try simp (maxSteps:=3000000) (dsimp:=false) (disch:=first|omega|simp only[lnx];omega) only[↓ypre,ypost,↓reduceIte,reduceEqDiff,reduceAdd,reduceSub,reduceLeDiff,zz0,ynew,f0,f3,f4,f5,f9,f11,c3,decide_eq_true hlt]);try simp only[yback])
   refine WC_loop_inv (fun m f K2=>∃ (k:Nat),m=ns.length-k∧k≤ns.length∧f 0=cv∧f 3=.pointer (some ⟨H1.length,0,none⟩)∧f 4=u∧f 5=v1∧f 9=v3∧f 11=I64 i∧f 12=I64 (totF x.p ((fmL x).getD i []) ns k)∧f 13=I64 k∧(K2=K1)∧(∀ j,j≤k→0≤totF x.p ((fmL x).getD i []) ns j∧totF x.p ((fmL x).getD i []) ns j<x.p)) ?_ (ns.length-0) _ _ ⟨0,rfl,by omega,(by first|rfl|exact f0|(simp[upd_apply];done)),(by first|rfl|exact f3|(simp[upd_apply];done)),(by first|rfl|exact f4|(simp[upd_apply];done)),(by first|rfl|exact f5|(simp[upd_apply];done)),(by first|rfl|exact f9|(simp[upd_apply];done)),(by first|rfl|exact f11|(simp[upd_apply];done)),(by first|rfl|simp[upd_apply]),(by first|rfl|simp[upd_apply]),rfl,(fun j hj=>by rw[Nat.le_zero.1 hj];show 0≤(0:Int)∧(0:Int)<x.p;omega)⟩
   rintro m f K2 ⟨k,rfl,hk,f0,f3,f4,f5,f9,f11,f12,f13,hK,hb⟩
   subst hK
   by_cases hlk:(k:Int)<ns.length
   ·obtain⟨m1,q1,jx1,jr1⟩:=i3.cell (j:=k) (by omega)
    obtain⟨m2,q2,jx2,jr2⟩:=iu.cell (j:=k) (by omega)
    have b1:=allIn_iff.1 hok.1 k (by omega)
    have b2:=fm_in pf (hv.pre ((p2.trans p3).trans (p4.trans p5))) (i:=i) (k:=k) (by omega)
    have b0:=hb k (Nat.le_refl _)
    have mb:=mul_in (A:=4) (B:=4) (a:=((fmL x).getD i []).getD k 0) (b:=ns.getD k 0) (by omega) (by omega)
    have tn:=tmod_nn (J:=x.p) (a:=totF x.p ((fmL x).getD i []) ns k+((fmL x).getD i []).getD k 0*ns.getD k 0) (by omega) (by omega)
    have hb2:∀ j,j≤k+1→0≤totF x.p ((fmL x).getD i []) ns j∧totF x.p ((fmL x).getD i []) ns j<x.p:=fun j hj=>by
     rcases Nat.lt_or_ge k j with h|h
     ·have:j=k+1:=by omega
      subst this
      exact tn
     ·exact hb j h
    ((try simp (maxSteps:=3000000) (dsimp:=false) (disch:=first|omega|simp only[lnx];omega) only[↓ypre,ypost,↓reduceIte,reduceEqDiff,reduceAdd,reduceSub,reduceLeDiff,zz0,ynew,f0,f3,f4,f5,f9,f11,f12,f13,ix3,rd3,l3,decide_eq_true hlk,iu.len,jx1,jr1,jx2,jr2,rd1_of g2,wrap64_in,bin_rem (show x.p≠0 by omega)]);try simp only[yback])
    refine InvQ_go (ns.length-(k+1)) (by omega) ⟨(k+1),rfl,by omega,(by first|rfl|exact f0|(simp only[upd_apply];rfl)|(show I64 _=_;congr 1;omega)),(by first|rfl|exact f3|(simp only[upd_apply];rfl)|(show I64 _=_;congr 1;omega)),(by first|rfl|exact f4|(simp only[upd_apply];rfl)|(show I64 _=_;congr 1;omega)),(by first|rfl|exact f5|(simp only[upd_apply];rfl)|(show I64 _=_;congr 1;omega)),(by first|rfl|exact f9|(simp only[upd_apply];rfl)|(show I64 _=_;congr 1;omega)),(by first|rfl|exact f11|(simp only[upd_apply];rfl)|(show I64 _=_;congr 1;omega)),(by first|rfl|exact f12|(simp only[upd_apply];rfl)|(show I64 _=_;congr 1;omega)),(by first|rfl|exact f13|(simp only[upd_apply];rfl)|(show I64 _=_;congr 1;omega)),rfl,hb2⟩
   have ek:k=ns.length:=by omega
   subst ek
   have eq:totF x.p ((fmL x).getD i []) ns ns.length=R.1.getD i 0:=by
    rw[hrun]
    exact totF_run hl (by omega) hb (rp_in pf (hv.pre ((p2.trans p3).trans (p4.trans p5))) hok (by omega))
   obtain⟨m4,q4,ix4,rd4⟩:=i1.cell (j:=i) (by omega)
   have d1:=decide_eq_false (show ¬ totF x.p ((fmL x).getD i []) ns ns.length≠R.1.getD i 0 from fun h=>h eq)
   ((try simp (maxSteps:=3000000) (dsimp:=false) (disch:=first|omega|simp only[lnx];omega) only[↓ypre,ypost,↓reduceIte,reduceEqDiff,reduceAdd,reduceSub,reduceLeDiff,zz0,ynew,f0,f3,f4,f5,f9,f11,f12,f13,ix3,rd3,l3,decide_eq_false hlk,ix4,rd4,d1,wrap64_in]);try simp only[yback])
   refine InvQ_go (x.out.length-(i+1)) (by omega) ⟨(i+1),rfl,by omega,(by first|rfl|exact f0|(simp only[upd_apply];rfl)|(show I64 _=_;congr 1;omega)),(by first|rfl|exact f3|(simp only[upd_apply];rfl)|(show I64 _=_;congr 1;omega)),(by first|rfl|exact f4|(simp only[upd_apply];rfl)|(show I64 _=_;congr 1;omega)),(by first|rfl|exact f5|(simp only[upd_apply];rfl)|(show I64 _=_;congr 1;omega)),(by first|rfl|exact f9|(simp only[upd_apply];rfl)|(show I64 _=_;congr 1;omega)),(by first|rfl|exact f11|(simp only[upd_apply];rfl)|(show I64 _=_;congr 1;omega)),rfl⟩
  ((try simp (maxSteps:=3000000) (dsimp:=false) (disch:=first|omega|simp only[lnx];omega) only[↓ypre,ypost,↓reduceIte,reduceEqDiff,reduceAdd,reduceSub,reduceLeDiff,zz0,ynew,f0,f3,f4,f5,f9,f11,c3,decide_eq_false hlt]);try simp only[yback])
  rw[JnQ_n]
  exact⟨f0,((p1.trans p2).trans (p3.trans (p4.trans p5)))⟩
 rintro f HX6 ⟨f0,pX6⟩
 ((try simp (maxSteps:=3000000) (dsimp:=false) (disch:=first|omega|simp only[lnx];omega) only[↓ypre,ypost,↓reduceIte,reduceEqDiff,reduceAdd,reduceSub,reduceLeDiff,zz0,ynew,f0]);try simp only[yback])
 refine s_DrawRunScheme (c.pre pX6) hz (by omega) fun x v A C a b t H7 p7 hv xb dA dC=>?_
 have hv:=hv.now
 have sA:=smallM_of2 (A:=10) (B:=100) dA.len dA.row (by omega)
 have sC:=smallM_of2 (A:=10) (B:=100) dC.len dC.row (by omega)
 have dA:=dA.kn.now
 have dC:=dC.kn.now
 refine WO_cut (fun f:Fr=>f 0=cv∧f 125=.tuple #[schV x v,.bool t,a,b]∧True) ⟨(by first|rfl|exact f0|simp[upd_apply,f0]),(by first|rfl|simp[upd_apply]),trivial⟩ ?_
 rintro f ⟨f0,f125,-⟩
 ((try simp (maxSteps:=3000000) (dsimp:=false) (disch:=first|omega|simp only[lnx];omega) only[↓ypre,ypost,↓reduceIte,reduceEqDiff,reduceAdd,reduceSub,reduceLeDiff,zz0,ynew,f0,f125,schV,hv.one]);try simp only[yback])
 generalize hH8:AH.new H7 _=H8
 obtain⟨g8,p8,n8⟩:=new_facts hH8
 ((try simp (maxSteps:=3000000) (dsimp:=false) (disch:=first|omega|simp only[lnx];omega) only[↓ypre,ypost,↓reduceIte,reduceEqDiff,reduceAdd,reduceSub,reduceLeDiff,zz0,ynew,f0,f125,rdn_of g8]);try simp only[yback])
 refine i_RunScheme (x:=x) (hv.pre p8) xb.l (dA.pre p8) sA (dC.pre p8) sC fun v1 H9 p9 o1=>?_
 have hsR:SmallM (rsR x t A C).1:=rsR_small hv
 generalize hR:rsR x t A C=R at o1 hsR
 have o1:=o1.rows
 refine WO_cut (fun f:Fr=>f 0=cv∧f 14=.pointer (some ⟨H7.length,0,none⟩)∧f 15=.bool t∧f 16=a∧f 17=b∧f 135=.tuple #[v1,I64 R.2]∧True) ⟨(by first|rfl|exact f0|simp[upd_apply,f0]),(by first|rfl|simp[upd_apply]),(by first|rfl|simp[upd_apply]),(by first|rfl|simp[upd_apply]),(by first|rfl|simp[upd_apply]),(by first|rfl|simp[upd_apply]),trivial⟩ ?_
 rintro f ⟨f0,f14,f15,f16,f17,f135,-⟩
 have g8:=pre_get p9 g8
 ((try simp (maxSteps:=3000000) (dsimp:=false) (disch:=first|omega|simp only[lnx];omega) only[↓ypre,ypost,↓reduceIte,reduceEqDiff,reduceAdd,reduceSub,reduceLeDiff,zz0,ynew,f0,f14,f15,f16,f17,f135,rdn_of g8]);try simp only[yback])
 refine s_RunScheme (x:=x) (hv.pre (p8.trans p9)) xb.l (dA.pre (p8.trans p9)) sA (dC.pre (p8.trans p9)) sC fun v2 H10 p10 o2=>?_
 rw[hR] at o2 ⊢
 have o2:=o2.rows
 refine WO_cut (fun f:Fr=>f 0=cv∧f 14=.pointer (some ⟨H7.length,0,none⟩)∧f 16=a∧f 17=b∧f 18=v1∧f 19=I64 R.2∧f 143=.tuple #[v2,I64 R.2]∧True) ⟨(by first|rfl|exact f0|simp[upd_apply,f0]),(by first|rfl|exact f14|simp[upd_apply,f14]),(by first|rfl|exact f16|simp[upd_apply,f16]),(by first|rfl|exact f17|simp[upd_apply,f17]),(by first|rfl|simp[upd_apply]),(by first|rfl|simp[upd_apply]),(by first|rfl|simp[upd_apply]),trivial⟩ ?_
 rintro f ⟨f0,f14,f16,f17,f18,f19,f143,-⟩
 ((try simp (maxSteps:=3000000) (dsimp:=false) (disch:=first|omega|simp only[lnx];omega) only[↓ypre,ypost,↓reduceIte,reduceEqDiff,reduceAdd,reduceSub,reduceLeDiff,zz0,ynew,f0,f14,f16,f17,f18,f19,f143,decide_eq_false (show ¬ (R.2)≠(R.2) from fun h=>h rfl)]);try simp only[yback])
 refine l_rows5 (o1.pre p10) o2 hsR ?_
 refine WO_cut (fun f:Fr=>f 0=cv∧f 14=.pointer (some ⟨H7.length,0,none⟩)∧f 16=a∧f 17=b∧f 18=v1∧f 19=I64 R.2∧f 149=.bool false∧f 152=.bool true∧True) ⟨(by first|rfl|exact f0|simp[upd_apply,f0]),(by first|rfl|exact f14|simp[upd_apply,f14]),(by first|rfl|exact f16|simp[upd_apply,f16]),(by first|rfl|exact f17|simp[upd_apply,f17]),(by first|rfl|exact f18|simp[upd_apply,f18]),(by first|rfl|exact f19|simp[upd_apply,f19]),(by first|rfl|simp[upd_apply]),(by first|rfl|simp[upd_apply]),trivial⟩ ?_
 rintro f ⟨f0,f14,f16,f17,f18,f19,f149,f152,-⟩
 refine WO_join2 (Kcv h cv) ?_ ?_
 ·skip
  by_cases z:R.2=0
  case neg=>
   ((try simp (maxSteps:=3000000) (dsimp:=false) (disch:=first|omega|simp only[lnx];omega) only[↓ypre,ypost,↓reduceIte,reduceEqDiff,reduceAdd,reduceSub,reduceLeDiff,zz0,ynew,f0,f14,f16,f17,f18,f19,f149,f152,decide_eq_false z]);try simp only[yback])
   rw[JnQ_n]
   exact⟨f0,((pX6.trans p7).trans (p8.trans (p9.trans p10)))⟩
  obtain⟨hc,hrun⟩:=rsR_0 (show (rsR x t A C).2=0 by rw[hR];exact z)
  rw[hR] at hrun
  obtain⟨hx,hm,n,m,k,rf⟩:=rf_of (b:=t) (hv.pre (p8.trans (p9.trans p10))) hc
  have eM:mpR x A C=(R.1,0):=by unfold mpR;rw[if_pos hm,hrun,rs_mp (hv.pre (p8.trans (p9.trans p10))) hx rf]
  have g8:=pre_get p10 g8
  ((try simp (maxSteps:=3000000) (dsimp:=false) (disch:=first|omega|simp only[lnx];omega) only[↓ypre,ypost,↓reduceIte,reduceEqDiff,reduceAdd,reduceSub,reduceLeDiff,zz0,ynew,f0,f14,f16,f17,f18,f19,f149,f152,decide_eq_true z,rdn_of g8]);try simp only[yback])
  refine i_MakeProduct (x:=x) (hv.pre (p8.trans (p9.trans p10))) xb.l (dA.pre (p8.trans (p9.trans p10))) sA (dC.pre (p8.trans (p9.trans p10))) sC fun v3 H11 p11 o3=>?_
  rw[eM] at o3 ⊢
  have o3:=o3.rows
  refine WO_cut (fun f:Fr=>f 0=cv∧f 18=v1∧f 161=.tuple #[v3,I64 0]∧True) ⟨(by first|rfl|exact f0|simp[upd_apply,f0]),(by first|rfl|exact f18|simp[upd_apply,f18]),(by first|rfl|simp[upd_apply]),trivial⟩ ?_
  rintro f ⟨f0,f18,f161,-⟩
  ((try simp (maxSteps:=3000000) (dsimp:=false) (disch:=first|omega|simp only[lnx];omega) only[↓ypre,ypost,↓reduceIte,reduceEqDiff,reduceAdd,reduceSub,reduceLeDiff,zz0,ynew,f0,f18,f161,decide_eq_false (show ¬ (0:Int)≠(0:Int) from fun h=>h rfl)]);try simp only[yback])
  refine l_rows5 o3 (o1.pre (p10.trans p11)) hsR ?_
  refine WO_cut (fun f:Fr=>f 0=cv∧f 166=.bool false∧f 169=.bool true∧True) ⟨(by first|rfl|exact f0|simp[upd_apply,f0]),(by first|rfl|simp[upd_apply]),(by first|rfl|simp[upd_apply]),trivial⟩ ?_
  rintro f ⟨f0,f166,f169,-⟩
  ((try simp (maxSteps:=3000000) (dsimp:=false) (disch:=first|omega|simp only[lnx];omega) only[↓ypre,ypost,↓reduceIte,reduceEqDiff,reduceAdd,reduceSub,reduceLeDiff,zz0,ynew,f0,f166,f169]);try simp only[yback])
  rw[JnQ_n]
  exact⟨f0,((pX6.trans (p7.trans p8)).trans (p9.trans (p10.trans p11)))⟩
 rintro f HX12 ⟨f0,pX12⟩
 ((try simp (maxSteps:=3000000) (dsimp:=false) (disch:=first|omega|simp only[lnx];omega) only[↓ypre,ypost,↓reduceIte,reduceEqDiff,reduceAdd,reduceSub,reduceLeDiff,zz0,ynew,f0]);try simp only[yback])
 refine s_DrawProgramsOf (c.pre pX12) fun x v t H13 p13 hv xb=>?_
 refine WO_cut (fun f:Fr=>f 174=.tuple #[schV x v,.bool t]∧True) ⟨(by first|rfl|simp[upd_apply]),trivial⟩ ?_
 rintro f ⟨f174,-⟩
 ((try simp (maxSteps:=3000000) (dsimp:=false) (disch:=first|omega|simp only[lnx];omega) only[↓ypre,ypost,↓reduceIte,reduceEqDiff,reduceAdd,reduceSub,reduceLeDiff,zz0,ynew,f174,schV,hv.one]);try simp only[yback])
 generalize hH14:AH.new H13 _=H14
 obtain⟨g14,p14,n14⟩:=new_facts hH14
 ((try simp (maxSteps:=3000000) (dsimp:=false) (disch:=first|omega|simp only[lnx];omega) only[↓ypre,ypost,↓reduceIte,reduceEqDiff,reduceAdd,reduceSub,reduceLeDiff,zz0,ynew,f174,rdn_of g14]);try simp only[yback])
 refine i_ProgramsOf (x:=x) (hv.pre p14) xb.l fun v1 H15 p15 o1=>?_
 have hsR:SmallG (pgR x t).1:=pgR_small hv
 generalize hR:pgR x t=R at o1 hsR
 have q1:=o1.rd
 have o1:=o1.rd
 refine WO_cut (fun f:Fr=>f 24=.pointer (some ⟨H13.length,0,none⟩)∧f 25=.bool t∧f 180=.tuple #[v1,I64 R.2]∧True) ⟨(by first|rfl|simp[upd_apply]),(by first|rfl|simp[upd_apply]),(by first|rfl|simp[upd_apply]),trivial⟩ ?_
 rintro f ⟨f24,f25,f180,-⟩
 have g14:=pre_get p15 g14
 ((try simp (maxSteps:=3000000) (dsimp:=false) (disch:=first|omega|simp only[lnx];omega) only[↓ypre,ypost,↓reduceIte,reduceEqDiff,reduceAdd,reduceSub,reduceLeDiff,zz0,ynew,f24,f25,f180,rdn_of g14]);try simp only[yback])
 refine s_ProgramsOf (x:=x) (hv.pre (p14.trans p15)) xb.l fun v2 H16 p16 o2=>?_
 rw[hR] at o2 ⊢
 have q2:=o2.rd
 have o2:=o2.rd
 refine WO_cut (fun f:Fr=>f 24=.pointer (some ⟨H13.length,0,none⟩)∧f 25=.bool t∧f 26=v1∧f 27=I64 R.2∧f 186=.tuple #[v2,I64 R.2]∧True) ⟨(by first|rfl|exact f24|simp[upd_apply,f24]),(by first|rfl|exact f25|simp[upd_apply,f25]),(by first|rfl|simp[upd_apply]),(by first|rfl|simp[upd_apply]),(by first|rfl|simp[upd_apply]),trivial⟩ ?_
 rintro f ⟨f24,f25,f26,f27,f186,-⟩
 have g14:=pre_get p16 g14
 ((try simp (maxSteps:=3000000) (dsimp:=false) (disch:=first|omega|simp only[lnx];omega) only[↓ypre,ypost,↓reduceIte,reduceEqDiff,reduceAdd,reduceSub,reduceLeDiff,zz0,ynew,f24,f25,f26,f27,f186,rdn_of g14]);try simp only[yback])
 refine i_StepsOf (x:=x) (hv.pre (p14.trans (p15.trans p16))) xb.l fun v3 H17 p17 o3=>?_
 have hsT:(((stR x t).1.length:Nat):Int)≤1048576:=stR_small x t
 generalize hT:stR x t=T at o3 hsT
 have o3:=o3.ints
 refine WO_cut (fun f:Fr=>f 24=.pointer (some ⟨H13.length,0,none⟩)∧f 25=.bool t∧f 26=v1∧f 27=I64 R.2∧f 28=v2∧f 29=I64 R.2∧f 192=.tuple #[v3,I64 T.2]∧True) ⟨(by first|rfl|exact f24|simp[upd_apply,f24]),(by first|rfl|exact f25|simp[upd_apply,f25]),(by first|rfl|exact f26|simp[upd_apply,f26]),(by first|rfl|exact f27|simp[upd_apply,f27]),(by first|rfl|simp[upd_apply]),(by first|rfl|simp[upd_apply]),(by first|rfl|simp[upd_apply]),trivial⟩ ?_
 rintro f ⟨f24,f25,f26,f27,f28,f29,f192,-⟩
 have g14:=pre_get p17 g14
 ((try simp (maxSteps:=3000000) (dsimp:=false) (disch:=first|omega|simp only[lnx];omega) only[↓ypre,ypost,↓reduceIte,reduceEqDiff,reduceAdd,reduceSub,reduceLeDiff,zz0,ynew,f24,f25,f26,f27,f28,f29,f192,rdn_of g14]);try simp only[yback])
 refine s_StepsOf (x:=x) (hv.pre ((p14.trans p15).trans (p16.trans p17))) xb.l fun v4 H18 p18 o4=>?_
 rw[hT] at o4 ⊢
 have o4:=o4.ints
 refine WO_cut (fun f:Fr=>f 26=v1∧f 27=I64 R.2∧f 28=v2∧f 29=I64 R.2∧f 30=v3∧f 31=I64 T.2∧f 198=.tuple #[v4,I64 T.2]∧True) ⟨(by first|rfl|exact f26|simp[upd_apply,f26]),(by first|rfl|exact f27|simp[upd_apply,f27]),(by first|rfl|exact f28|simp[upd_apply,f28]),(by first|rfl|exact f29|simp[upd_apply,f29]),(by first|rfl|simp[upd_apply]),(by first|rfl|simp[upd_apply]),(by first|rfl|simp[upd_apply]),trivial⟩ ?_
 rintro f ⟨f26,f27,f28,f29,f30,f31,f198,-⟩
 ((try simp (maxSteps:=3000000) (dsimp:=false) (disch:=first|omega|simp only[lnx];omega) only[↓ypre,ypost,↓reduceIte,reduceEqDiff,reduceAdd,reduceSub,reduceLeDiff,zz0,ynew,f26,f27,f28,f29,f30,f31,f198,decide_eq_false (show ¬ (R.2)≠(R.2) from fun h=>h rfl),q1.len,q2.len,decide_eq_false (show ¬ ((R.1.N:Int))≠((R.1.N:Int)) from fun h=>h rfl),decide_eq_false (show ¬ (T.2)≠(T.2) from fun h=>h rfl)]);try simp only[yback])
 refine l_like (o3.pre p18) o4 hsT ?_
 refine WO_cut (fun f:Fr=>f 26=v1∧f 28=v2∧f 30=v3∧f 216=.bool false∧f 219=.bool true∧True) ⟨(by first|rfl|exact f26|simp[upd_apply,f26]),(by first|rfl|exact f28|simp[upd_apply,f28]),(by first|rfl|exact f30|simp[upd_apply,f30]),(by first|rfl|simp[upd_apply]),(by first|rfl|simp[upd_apply]),trivial⟩ ?_
 rintro f ⟨f26,f28,f30,f216,f219,-⟩
 have g1:=(o1.pre (p16.trans (p17.trans p18)))
 have g2:=(o2.pre (p17.trans p18))
 have i3:=(o3.pre p18)
 ((try simp (maxSteps:=3000000) (dsimp:=false) (disch:=first|omega|simp only[lnx];omega) only[↓ypre,ypost,↓reduceIte,reduceEqDiff,reduceAdd,reduceSub,reduceLeDiff,zz0,ynew,f26,f28,f30,f216,f219]);try simp only[yback])
 have hN:=hsR.1
 refine WC_loop_inv (fun m f K3=>∃ (i:Nat),m=R.1.N-i∧i≤R.1.N∧f 26=v1∧f 28=v2∧f 30=v3∧f 34=I64 i∧(H18<+:K3)) ?_ (R.1.N-0) _ _ ⟨0,rfl,by omega,(by first|rfl|exact f26|(simp[upd_apply];done)),(by first|rfl|exact f28|(simp[upd_apply];done)),(by first|rfl|exact f30|(simp[upd_apply];done)),(by first|rfl|simp[upd_apply]),List.prefix_refl _⟩
 rintro m f K3 ⟨i,rfl,hi,f26,f28,f30,f34,pp⟩
 have e1:=g1.pre pp
 have e2:=g2.pre pp
 have e3:=i3.pre pp
 by_cases hlt:(i:Int)<R.1.N
 ·have hi':i<R.1.N:=by omega
  have hlT:T.1.length=R.1.N∧T.1.getD i 0=((R.1.xs i).st.length:Int):=by
   rw[←hT,←hR]
   rw[←hR] at hi'
   exact st_pg hi'
  rcases e1 with⟨_,e⟩|⟨nb,vs,ws,rfl,⟨c1,e,fl,g,p1⟩,r1⟩
  ·omega
  rcases e2 with⟨_,e⟩|⟨nb',vs',ws',rfl,⟨c2,e',fl',g',p1'⟩,r1'⟩
  ·omega
  have hm:=mul_row (w:=4) hi'
  have ix:∀ m,ixsV 4 (.slice (some ⟨m,0,none⟩) R.1.N 4) (.int .i64 (i:Int))=some (.pointer (some ⟨m,i*4,none⟩)):=fun m=>by
   rw[ixsV_some,if_pos (by omega)]
   simp
  have rr:=rdn_of (off:=i*4) (k:=4) g
  rw[if_pos (show i*4+4≤c1.length by rw[p1.len];omega),show (Blk.mk c1 e false fl).c=c1 from rfl,p1.row hi'] at rr
  have rr':=rdn_of (off:=i*4) (k:=4) g'
  rw[if_pos (show i*4+4≤c2.length by rw[p1'.len];omega),show (Blk.mk c2 e' false fl').c=c2 from rfl,p1'.row hi'] at rr'
  ((try simp (maxSteps:=3000000) (dsimp:=false) (disch:=first|omega|simp only[lnx];omega) only[↓ypre,ypost,↓reduceIte,reduceEqDiff,reduceAdd,reduceSub,reduceLeDiff,zz0,ynew,f26,f28,f30,f34,lenV_slice,decide_eq_true hlt,ix,rr,rr']);try simp only[yback])
  refine l_programs5 (x:=R.1.xs i) (r1 i hi') (r1' i hi') (hsR.2 i hi') fun HZ pZ=>?_
  have e3:=e3.pre pZ
  obtain⟨m4,q4,ix4,rd4⟩:=e3.cell (j:=i) (by omega)
  have gZ:=pre_get pZ g
  have rw2:AH.rd1 HZ nb (i*4+2)=some (vs i):=by
   rw[rd1_of gZ]
   exact p1.at4 i hi' 2 (by omega)
  have lv:lenV (vs i)=some (I64 ((R.1.xs i).st.length:Int)):=(r1 i hi').1.len
  ((try simp (maxSteps:=3000000) (dsimp:=false) (disch:=first|omega|simp only[lnx];omega) only[↓ypre,ypost,↓reduceIte,reduceEqDiff,reduceAdd,reduceSub,reduceLeDiff,zz0,ynew,f26,f28,f30,f34,e3.len,hlT.1,decide_eq_false (show ¬ (i:Int)≥R.1.N by omega),ix4,rd4,ix,rw2,lv,decide_eq_false (show ¬ T.1.getD i 0≠((R.1.xs i).st.length:Int) from fun h=>h hlT.2),wrap64_in]);try simp only[yback])
  refine InvQ_go (R.1.N-(i+1)) (by omega) ⟨(i+1),rfl,by omega,(by first|rfl|exact f26|(simp only[upd_apply];rfl)|(show I64 _=_;congr 1;omega)),(by first|rfl|exact f28|(simp only[upd_apply];rfl)|(show I64 _=_;congr 1;omega)),(by first|rfl|exact f30|(simp only[upd_apply];rfl)|(show I64 _=_;congr 1;omega)),(by first|rfl|exact f34|(simp only[upd_apply];rfl)|(show I64 _=_;congr 1;omega)),(pp.trans pZ)⟩
 ((try simp (maxSteps:=3000000) (dsimp:=false) (disch:=first|omega|simp only[lnx];omega) only[↓ypre,ypost,↓reduceIte,reduceEqDiff,reduceAdd,reduceSub,reduceLeDiff,zz0,ynew,f26,f28,f30,f34,e1.len,decide_eq_false hlt]);try simp only[yback])
end Go.Proofs.Ytapafdpnmakekaa.X

set_option linter.unusedVariables false
set_option linter.unusedSimpArgs false
namespace Go.Proofs.Ytapafdpnmakekaa.X
open Go Go.RowKit Go.ChangeShapes Go.WideShapes Go.Deep
structure Adm (P:Program) (W:World) (γ:List G) (h:AH):Prop where
 rel:Rel P W.heap.size γ h W
 ro:∀ n b,h.get n=some b→b.ro=true
theorem Adm.nil (P:Program) (W:World):Adm P W [] [] where
 rel:={
  len:=rfl
  cell:=fun n b g h=>by simp[AH.get] at h
  rw:=fun n b g h=>by simp[AH.get] at h
  ro:=fun n b g h=>by simp[AH.get] at h
  inj:=fun n m bn bm g g' h=>by simp[AH.get] at h
  base:=Nat.le_refl _ }
 ro:=fun n b h=>by simp[AH.get] at h
theorem Adm.new {P:Program} {W:World} {γ:List G} {h:AH} (A:Adm P W γ h) {g:G} {cs:List Value} {e:TypeId} (hb:g.b<W.heap.size)
  (hc:∀ j v,cs[j]?=some v→isOne v=true∧∃ v',W.cell? ⟨g.b,g.o+j,none⟩=some v'∧VR γ v v'):Adm P W (γ++[g]) (h.new ⟨cs,e,true,false⟩):=by
 have hl:=A.rel.len
 have hp:γ<+:γ++[g]:=List.prefix_append _ _
 have old:∀ {n:Nat} {g':G},n<h.length→(γ++[g])[n]?=some g'→γ[n]?=some g':=fun hn hg=>by
  rw[List.getElem?_append_left (by omega)] at hg
  exact hg
 have new:∀ {g':G},(γ++[g])[h.length]?=some g'→g'=g:=fun hg=>by
  rw[←hl] at hg
  simpa using hg.symm
 refine⟨⟨by simp[len_new,hl],?_,?_,?_,?_,Nat.le_refl _⟩,?_⟩
 ·intro n b g' hb' hg' j v hv
  rcases get_new_cases hb' with hb'|⟨rfl,rfl⟩
  ·obtain⟨q1,v',q2,q3⟩:=A.rel.cell n b g' hb' (old (get_lt hb') hg') j v hv
   exact⟨q1,v',q2,q3.mono hp⟩
  ·obtain rfl:=new hg'
   obtain⟨q1,v',q2,q3⟩:=hc j v hv
   exact⟨q1,v',q2,q3.mono hp⟩
 ·intro n b g' hb' hg' hro
  rcases get_new_cases hb' with hb'|⟨rfl,rfl⟩
  ·rw[A.ro n b hb'] at hro
   cases hro
  ·cases hro
 ·intro n b g' hb' hg' hro
  rcases get_new_cases hb' with hb'|⟨rfl,rfl⟩
  ·exact A.rel.ro n b g' hb' (old (get_lt hb') hg') hro
  ·obtain rfl:=new hg'
   exact hb
 ·intro n m bn bm g1 g2 h1 h2 h3 h4 hro
  rcases get_new_cases h1 with hb'|⟨rfl,rfl⟩
  ·rw[A.ro n bn hb'] at hro
   cases hro
  ·cases hro
 ·intro n b hb'
  rcases get_new_cases hb' with hb'|⟨rfl,rfl⟩
  ·exact A.ro n b hb'
  ·rfl
section
variable {H:Type} {enc:TypeId×Value→H} {P:Program} {W:World}
theorem add_off (a:Addr) (ha:a.spot=none) (i:Nat):a.add i=⟨a.block,a.off+i,none⟩:=by
 unfold Addr.add
 split
 ·rename_i h0
  subst h0
  obtain⟨b,o,s⟩:=a
  simp at ha
  subst ha
  rfl
 ·rfl
theorem adm_ints {γ:List G} {h:AH} (A:Adm P W γ h) {t e:TypeId} {n:Nat} {cs:List Value} {x:DataW H×List MemPlace} (ht:P.underlying t=some (.slice e)) (he:P.underlying e=some (.int .i64))
  (hc:P.cellsOf e=1) (hx:DataW.trod enc P W 0 (fun _=>true) true n t cs=some x) :
  ∃ v' v ns γ' h',cs=[v']∧γ<+:γ'∧h<+:h'∧Adm P W γ' h'∧VR γ' v v'∧Ints h' v ns∧ns.length≤maxLen:=by
 rcases open_slice1 ht hc hx with⟨rfl,_⟩|⟨a,len,cap,m,n',V,D,Pl,rfl,hb,hl,hm,hmm,_,hcell⟩
 ·exact⟨_,.slice none 0 0,[],γ,h,rfl,List.prefix_refl _,List.prefix_refl _,A,.nils,.inl ⟨rfl,0,by omega,rfl⟩,Nat.zero_le _⟩
 ·by_cases h0:len=0
  ·subst h0
   exact⟨_,.slice none 0 1,[],γ,h,rfl,List.prefix_refl _,List.prefix_refl _,A,.emp _ _,.inl ⟨rfl,1,by omega,rfl⟩,Nat.zero_le _⟩
  ·have hcell:∀ i,i<cap→W.cell? (a.add i)=some (V i)∧DataW.trod enc P W 0 (fun _=>true) true n' e [V i]=some (D i,Pl i):=fun i hi=>hcell i (by rw[show m=cap from hmm];exact hi)
   have hz:=(hcell 0 (by omega)).1
   have hsp:a.spot=none:=by
    simp only[Addr.add,if_true] at hz
    unfold World.cell? at hz
    split at hz
    ·split at hz
     ·cases hz
     ·rename_i hs
      simpa using hs
    ·cases hz
   have hbl:a.block<W.heap.size:=by
    have:=World.block_lt_of_cell? W _ hz
    simpa [Addr.add] using this
   have hV:∀ i,i<len→∃ k,V i=.int .i64 k:=fun i hi=>by
    obtain⟨k,hk,_⟩:=DataW.trod_int he (hcell i (by omega)).2
    exact⟨k,by simpa using hk⟩
   let ns:List Int:=(List.range len).map fun i=>match V i with
    | .int _ k=>k
    | _=>0
   have hns:ns.length=len:=by simp[ns]
   have hget:∀ i,i<len→ns.getD i 0=(match V i with
    | .int _ k=>k
    | _=>0):=fun i hi=>by simp[ns,List.getD_eq_getElem?_getD,List.getElem?_map,List.getElem?_range hi]
   refine⟨_,.slice (some ⟨h.length,0,none⟩) ns.length 1,ns,γ++[⟨a.block,a.off,cap⟩],h.new ⟨ns.map (Value.int .i64),e,true,false⟩,rfl,List.prefix_append _ _,pre_new (List.prefix_refl _),?_,?_,
    Ints.own get_new_same rfl,by rw[hns];omega⟩
   ·refine A.new hbl fun j v hv=>?_
    rw[List.getElem?_map] at hv
    obtain⟨k,hk,rfl⟩:=Option.map_eq_some_iff.1 hv
    have hj:j<len:=by rw[←hns];exact (List.getElem?_eq_some_iff.1 hk).1
    obtain⟨k',hk'⟩:=hV j hj
    have hg:=hget j hj
    rw[List.getD_eq_getElem?_getD,hk,hk'] at hg
    simp only[Option.getD_some] at hg
    subst hg
    refine⟨rfl,_,?_,.int _ _⟩
    have:=(hcell j (by omega)).1
    rw[add_off a hsp,hk'] at this
    exact this
   ·have:=VR.slc (γ:=γ++[⟨a.block,a.off,cap⟩]) h.length 0 ns.length 1 ⟨a.block,a.off,cap⟩ (by rw[←A.rel.len];simp) (by omega) (by simp only;omega)
    have e1:(some a:Option Addr)=some ⟨a.block,a.off+0,none⟩:=by
     obtain⟨b,o,s⟩:=a
     simp at hsp
     subst hsp
     rfl
    rw[e1]
    have e2:(cap-0) / 1=cap:=by simp
    rw[←hns,show (Value.slice (some ⟨a.block,a.off+0,none⟩) ns.length cap)=Value.slice (some ⟨a.block,a.off+0,none⟩) ns.length ((cap-0) / 1) by rw[e2]]
    exact this
theorem trod_field {t:TypeId} {fs:Array Field} {n:Nat} {cs:List Value} {x:DataW H×List MemPlace} (hs:P.underlying t=some (.struct fs)) (hx:DataW.trod enc P W 0 (fun _=>true) true n t cs=some x)
  {i:Nat} {f:Field} (hf:fs[i]?=some f):∃ m y,DataW.trod enc P W 0 (fun _=>true) true m f.type ((cs.drop f.offset).take (P.cellsOf f.type))=some y:=by
 obtain⟨xs,m,_,_,_,hl,hall⟩:=DataW.trod_struct hs hx
 have hi:i<xs.length:=by
  rw[hl]
  exact (Array.getElem?_eq_some_iff.1 hf).1
 exact⟨m,xs[i],by rw[hall i f hf,List.getElem?_eq_getElem hi]⟩
theorem trod_cells {t:TypeId} {fs:Array Field} {n:Nat} {cs:List Value} {x:DataW H×List MemPlace} (hs:P.underlying t=some (.struct fs)) (hx:DataW.trod enc P W 0 (fun _=>true) true n t cs=some x):cs.length=P.cellsOf t:=by
 obtain⟨xs,m,_,_,hl,_,_⟩:=DataW.trod_struct hs hx
 exact hl
theorem trod_field_int {t:TypeId} {fs:Array Field} {n:Nat} {cs:List Value} {x:DataW H×List MemPlace} (hs:P.underlying t=some (.struct fs)) (hx:DataW.trod enc P W 0 (fun _=>true) true n t cs=some x)
  {i:Nat} {f:Field} (hf:fs[i]?=some f) (ht:P.underlying f.type=some (.int .i64)):∃ k,(cs.drop f.offset).take (P.cellsOf f.type)=[I64 k]∧(Lit.int .i64 k).wf=true:=by
 obtain⟨m,y,hy⟩:=trod_field hs hx hf
 obtain⟨k,h1,_,h2⟩:=DataW.trod_int ht hy
 exact⟨k,h1,h2⟩
theorem agg_of_cells {v:Value} {l:List Value} (h:v.cells.toList=l) (h2:2≤l.length):v=.agg l.toArray:=by
 cases v with
 | agg cs=>
  simp only[Value.cells] at h
  rw[←h]
 | _=>
  simp only[Value.cells] at h
  rw[←h] at h2
  simp at h2
theorem adm_ints4 {γ:List G} {h:AH} (A:Adm P W γ h) {t e:TypeId} {f0 f1 f2 f3 f4:Field} {v:Value} {d:DataW H} {ps:List MemPlace} (hs:P.underlying t=some (.struct #[f0,f1,f2,f3,f4]))
  (hct:P.cellsOf t=5) (ho:f0.offset=0∧f1.offset=1∧f2.offset=2∧f3.offset=3∧f4.offset=4)
  (hi:P.underlying f0.type=some (.int .i64)∧P.underlying f1.type=some (.int .i64)∧P.underlying f2.type=some (.int .i64)∧P.underlying f3.type=some (.int .i64))
  (hc:P.cellsOf f0.type=1∧P.cellsOf f1.type=1∧P.cellsOf f2.type=1∧P.cellsOf f3.type=1∧P.cellsOf f4.type=1)
  (ht:P.underlying f4.type=some (.slice e)) (he:P.underlying e=some (.int .i64)) (hce:P.cellsOf e=1) (hx:DataW.Trod enc P W 0 (fun _=>true) true t v d ps) :
  ∃ a b c d ns v' γ' h',γ<+:γ'∧h<+:h'∧Adm P W γ' h'∧VR γ' (.agg #[I64 a,I64 b,I64 c,I64 d,v']) v∧Ints h' v' ns∧ns.length≤maxLen:=by
 obtain⟨n,hx⟩:=hx
 have hl:=trod_cells hs hx
 rw[hct] at hl
 obtain⟨a,ha,_⟩:=trod_field_int hs hx (i:=0) (f:=f0) rfl hi.1
 obtain⟨b,hb,_⟩:=trod_field_int hs hx (i:=1) (f:=f1) rfl hi.2.1
 obtain⟨c,hcc,_⟩:=trod_field_int hs hx (i:=2) (f:=f2) rfl hi.2.2.1
 obtain⟨d,hd,_⟩:=trod_field_int hs hx (i:=3) (f:=f3) rfl hi.2.2.2
 obtain⟨m,y,hy⟩:=trod_field hs hx (i:=4) (f:=f4) rfl
 obtain⟨v',u,ns,γ',h',e1,q1,q2,q3,q4,q5,q6⟩:=adm_ints A ht he hce hy
 generalize hcs:v.cells.toList=cs at *
 rw[ho.1,hc.1] at ha
 rw[ho.2.1,hc.2.1] at hb
 rw[ho.2.2.1,hc.2.2.1] at hcc
 rw[ho.2.2.2.1,hc.2.2.2.1] at hd
 rw[ho.2.2.2.2,hc.2.2.2.2] at e1
 obtain⟨c0,c1,c2,c3,c4,rfl⟩:∃ c0 c1 c2 c3 c4,cs=[c0,c1,c2,c3,c4]:=by
  match cs,hl with
  | [c0,c1,c2,c3,c4],_=>exact⟨_,_,_,_,_,rfl⟩
 simp at ha hb hcc hd e1
 subst ha hb hcc hd e1
 refine⟨a,b,c,d,ns,u,γ',h',q1,q2,q3,?_,q5,q6⟩
 rw[agg_of_cells hcs (by simp)]
 exact VR.aggL (VRL.cons (.int _ _) (VRL.cons (.int _ _) (VRL.cons (.int _ _) (VRL.cons (.int _ _) (VRL.cons q4 (VRL.nil _))))))
def tyInt (P:Program) (t:TypeId):Bool:=match P.underlying t with
 | some (.int .i64)=>true
 | _=>false
def tySlice (P:Program) (t e:TypeId):Bool:=match P.underlying t with
 | some (.slice e')=>e'==e
 | _=>false
theorem tyInt_eq {t:TypeId} (h:tyInt P t=true):P.underlying t=some (.int .i64):=by
 unfold tyInt at h
 split at h
 ·assumption
 ·cases h
theorem tySlice_eq {t e:TypeId} (h:tySlice P t e=true):P.underlying t=some (.slice e):=by
 unfold tySlice at h
 split at h
 ·rename_i e' he
  have:e'=e:=by simpa using h
  rw[he,this]
 ·cases h
def isInts4 (P:Program) (t e:TypeId):Bool:=match P.underlying t with
 | some (.struct fs)=>match fs.toList with
  | [f0,f1,f2,f3,f4]=>P.cellsOf t==5&&f0.offset==0&&f1.offset==1&&f2.offset==2&&f3.offset==3&&f4.offset==4 &&
    [f0,f1,f2,f3].all (fun f=>tyInt P f.type&&P.cellsOf f.type==1)&&P.cellsOf f4.type==1&&tySlice P f4.type e &&
    tyInt P e&&P.cellsOf e==1
  | _=>false
 | _=>false
theorem adm_tensor {γ:List G} {h:AH} (A:Adm P W γ h) {t:TypeId} (e:TypeId) (hk:isInts4 P t e=true) {v:Value} {d:DataW H} {ps:List MemPlace} (hx:DataW.Trod enc P W 0 (fun _=>true) true t v d ps) :
  ∃ a b c d ns v' γ' h',γ<+:γ'∧h<+:h'∧Adm P W γ' h'∧VR γ' (.agg #[I64 a,I64 b,I64 c,I64 d,v']) v∧Ints h' v' ns∧ns.length≤maxLen:=by
 unfold isInts4 at hk
 split at hk
 ·rename_i fs hs
  split at hk
  ·rename_i f0 f1 f2 f3 f4 hf
   have hfs:fs=#[f0,f1,f2,f3,f4]:=by
    rw[←hf]
   subst hfs
   simp only[List.all_cons,List.all_nil,Bool.and_true,Bool.and_eq_true,beq_iff_eq] at hk
   obtain⟨⟨⟨⟨⟨⟨⟨⟨⟨⟨k0,k1⟩,k2⟩,k3⟩,k4⟩,k5⟩,⟨i0,c0⟩,⟨i1,c1⟩,⟨i2,c2⟩,⟨i3,c3⟩⟩,c4⟩,s4⟩,ie⟩,ce⟩:=hk
   exact adm_ints4 A hs k0 ⟨k1,k2,k3,k4,k5⟩ ⟨tyInt_eq i0,tyInt_eq i1,tyInt_eq i2,tyInt_eq i3⟩ ⟨c0,c1,c2,c3,c4⟩ (tySlice_eq s4) (tyInt_eq ie) ce hx
  ·cases hk
 ·cases hk
theorem stays_all (hl:laidOutB P=true) {W W':World} (bel:Below W.heap.size W W'):∀ {ts:List TypeId} {vs:List Value} {ds:List (DataW H)} {ps:List MemPlace},
  (∀ t∈ts,P.readableRec t=true∧t<P.types.size)→DataW.TrodAll enc P W 0 (fun _=>true) true ts vs ds ps→DataW.TrodAll enc P W' 0 (fun b=>decide (b<W.heap.size)) true ts vs ds ps
 | [],[],[],_,_,h=>h
 | _::_,_::_,_::_,_,ht,⟨p,q,h1,h2,e⟩=>by
  have hlt:∀ r∈p,r.block<W.heap.size:=by
   have hall:DataW.TrodAll enc P W 0 (fun _=>true) true [_] [_] [_] p:=trodAll_mk1 h1
   exact hall.lt
  refine⟨p,q,Go.WideElems.Trod_stays hl (ht _ (List.mem_cons.2 (.inl rfl))).1 (ht _ (List.mem_cons.2 (.inl rfl))).2 h1 (fun r hr=>bel.same (hlt r hr)) (fun r hr=>by simpa using hlt r hr),?_,e⟩
  exact stays_all hl bel (fun t ht'=>ht t (List.mem_cons.2 (.inr ht'))) h2
theorem calls_of_WF {S:XS} (hm:P.follows .mixedOrders=true) (hE:ESound P S.E) (hT:TSound P S.T) {g:FuncId} {args args':List Value} {γ:List G} {h:AH} {W:World} {Q:Value→AH→Prop}
  (A:Adm P W γ h) (hv:VRL γ args args') (hw:WF S g args h Q) :
  Calls P g args'.toArray W (fun e W'=>∃ v v' γ' h',e=.returned v'∧VR γ' v v'∧Q v h'∧Below W.heap.size W W'):=by
 obtain⟨k,v,h',h1,h2⟩:=hw
 have:=(xcall_sound hm hE hT k g args h v h' h1).2 W.heap.size γ W args' A.rel hv
 refine this.mono fun e W' ⟨γ',v',q1,q2,q3⟩=>⟨v,v',γ',h',q1,q2,h2,?_⟩
 refine⟨q3.os,q3.tape,q3.output,q3.size,fun b hb=>q3.frame b hb fun ⟨n,blk,g,o1,o2,o3,o4⟩=>?_⟩
 rw[A.ro n blk o1] at o3
 cases o3
end
section
variable {H:Type} {enc:TypeId×Value→H} {P:Program} {W:World}
theorem cells_of_slice {t e:TypeId} {v:Value} {r:Reach} {base:Nat} (ht:P.underlying t=some (.slice e)) (hval:Value.okWide P W r base t v):v.cells.toList=[v]:=by
 cases v with
 | agg cs=>simp[Value.okWide,ht,Cell.okWide,Cell.ok] at hval
 | _=>rfl
end
end Go.Proofs.Ytapafdpnmakekaa.X
